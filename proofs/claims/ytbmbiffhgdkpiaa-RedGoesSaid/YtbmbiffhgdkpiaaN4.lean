/- The walks of the methods of an arena that is not there. No condition. -/
import Derived.Test.YtbmbiffhgdkpiaaN3
namespace Go.Proofs.Ytbmbiffhgdkpiaa
open Go.RowKit

theorem fld0 (a b c d e f : Value) (W : World) : (Instr.field 90 (.agg #[a, b, c, d, e, f]) 0).run Try.prog W = .ok a W := by rfl
theorem fld1 (a b c d e f : Value) (W : World) : (Instr.field 90 (.agg #[a, b, c, d, e, f]) 1).run Try.prog W = .ok b W := by rfl
theorem fld2 (a b c d e f : Value) (W : World) : (Instr.field 90 (.agg #[a, b, c, d, e, f]) 2).run Try.prog W = .ok c W := by rfl
theorem fld3 (a b c d e f : Value) (W : World) : (Instr.field 90 (.agg #[a, b, c, d, e, f]) 3).run Try.prog W = .ok d W := by rfl
theorem fld4 (a b c d e f : Value) (W : World) : (Instr.field 90 (.agg #[a, b, c, d, e, f]) 4).run Try.prog W = .ok e W := by rfl
theorem fld5 (a b c d e f : Value) (W : World) : (Instr.field 90 (.agg #[a, b, c, d, e, f]) 5).run Try.prog W = .ok f W := by rfl
set_option maxRecDepth 100000 in
theorem of53_nil (n : Int) (w : World) : Calls Try.prog 53 #[.pointer none, .int .i64 n] w fun e w' => e = .returned (.agg #[.int .i64 0, .int .i64 0, .int .i64 0, .bool false, .slice none 0 0, .slice none 0 0]) ∧ Below w.heap.size w w' := by
  by_cases h : n < 0
  · have t0 : decide (n < 0) = true := by simpa using h
    clear h
    go_enter Try.func53, Try.ntmps53
    go_wp2_with (go_at_call 17; refine (len17_nil _).mono ?_; rintro e w1 ⟨rfl, rfl⟩)
    exact bodyPost_ret (v := .agg #[.int .i64 0, .int .i64 0, .int .i64 0, .bool false, .slice none 0 0, .slice none 0 0]) (results_cell_row rfl _ _ w.heap.size 90 _ (0, 0) _ rfl (heap_alloc_new w _) Try.underlying90 rfl (by kernel_rfl)) rfl ⟨rfl, (Below.refl _ _).alloc (Nat.le_refl _) _⟩
  · have t0 : decide (n < 0) = false := by simpa using h
    have t1 : decide (0 ≤ n) = true := by simp; omega
    clear h
    go_enter Try.func53, Try.ntmps53
    go_wp2_with (go_at_call 17; refine (len17_nil _).mono ?_; rintro e w1 ⟨rfl, rfl⟩)
    exact bodyPost_ret (v := .agg #[.int .i64 0, .int .i64 0, .int .i64 0, .bool false, .slice none 0 0, .slice none 0 0]) (results_cell_row rfl _ _ w.heap.size 90 _ (0, 0) _ rfl (heap_alloc_new w _) Try.underlying90 rfl (by kernel_rfl)) rfl ⟨rfl, (Below.refl _ _).alloc (Nat.le_refl _) _⟩
set_option maxRecDepth 100000 in
theorem kind23_nil (n : Int) (w : World) : Calls Try.prog 23 #[.pointer none, .int .i64 n] w fun e w' => e = .returned (.int .i64 0) ∧ Below w.heap.size w w' := by
  have q0 := fld0
  have q1 := fld1
  have q2 := fld2
  have q3 := fld3
  go_enter Try.func23, Try.ntmps23
  go_wp2_with (go_at_call 53; refine (of53_nil n _).mono ?_; rintro e w1 ⟨rfl, hb1⟩)
  go_ret
  exact ⟨rfl, hb1⟩
set_option maxRecDepth 100000 in
theorem width18_nil (n : Int) (w : World) : Calls Try.prog 18 #[.pointer none, .int .i64 n] w fun e w' => e = .returned (.int .i64 0) ∧ Below w.heap.size w w' := by
  have q0 := fld0
  have q1 := fld1
  have q2 := fld2
  have q3 := fld3
  go_enter Try.func18, Try.ntmps18
  go_wp2_with (go_at_call 53; refine (of53_nil n _).mono ?_; rintro e w1 ⟨rfl, hb1⟩)
  go_ret
  exact ⟨rfl, hb1⟩
set_option maxRecDepth 100000 in
theorem count30_nil (n : Int) (w : World) : Calls Try.prog 30 #[.pointer none, .int .i64 n] w fun e w' => e = .returned (.int .i64 0) ∧ Below w.heap.size w w' := by
  have q0 := fld0
  have q1 := fld1
  have q2 := fld2
  have q3 := fld3
  go_enter Try.func30, Try.ntmps30
  go_wp2_with (go_at_call 53; refine (of53_nil n _).mono ?_; rintro e w1 ⟨rfl, hb1⟩)
  go_ret
  exact ⟨rfl, hb1⟩
set_option maxRecDepth 100000 in
theorem leafy29_nil (n : Int) (w : World) : Calls Try.prog 29 #[.pointer none, .int .i64 n] w fun e w' => e = .returned (.bool false) ∧ Below w.heap.size w w' := by
  have q0 := fld0
  have q1 := fld1
  have q2 := fld2
  have q3 := fld3
  go_enter Try.func29, Try.ntmps29
  go_wp2_with (go_at_call 53; refine (of53_nil n _).mono ?_; rintro e w1 ⟨rfl, hb1⟩)
  go_ret
  exact ⟨rfl, hb1⟩
set_option maxRecDepth 100000 in
theorem bytes27_nil (n : Int) (w : World) : Calls Try.prog 27 #[.pointer none, .int .i64 n] w fun e w' => ∃ A c, e = .returned (.slice A 0 c) ∧ Below w.heap.size w w' := by
  have C := fun W => clone57 none 0 0 [] W Rd.nil_ (by omega)
  unfold OwnSaid at C
  have q4 := fld4
  have q5 := fld5
  go_enter Try.func27, Try.ntmps27
  go_wp2_with (first | (go_at_call 53; refine (of53_nil n _).mono ?_; rintro e w1 ⟨rfl, hb1⟩) | (go_at_call 57; refine (C _).mono ?_; rintro e w2 ⟨A, c, rfl, _, hb2⟩))
  go_ret
  exact ⟨A, c, rfl, hb1.trans (hb2.mono hb1.size)⟩
set_option maxRecDepth 100000 in
theorem kids28_nil (n : Int) (w : World) : Calls Try.prog 28 #[.pointer none, .int .i64 n] w fun e w' => ∃ A c, e = .returned (.slice A 0 c) ∧ Below w.heap.size w w' := by
  have C := fun W => clone55 none 0 0 [] W Rd.nil_ (by omega)
  unfold OwnSaid at C
  have q4 := fld4
  have q5 := fld5
  go_enter Try.func28, Try.ntmps28
  go_wp2_with (first | (go_at_call 53; refine (of53_nil n _).mono ?_; rintro e w1 ⟨rfl, hb1⟩) | (go_at_call 55; refine (C _).mono ?_; rintro e w2 ⟨A, c, rfl, _, hb2⟩))
  go_ret
  exact ⟨A, c, rfl, hb1.trans (hb2.mono hb1.size)⟩
set_option maxRecDepth 100000 in
theorem print19_nil (n : Int) (w : World) : Calls Try.prog 19 #[.pointer none, .int .i64 n] w fun e w' => e = .returned (.slice none 0 0) ∧ w = w' := by
  by_cases h : n < 0
  · have t0 : decide (n < 0) = true := by simpa using h
    clear h
    go_enter Try.func19, Try.ntmps19
    go_wp2_with (go_at_call 17; refine (len17_nil _).mono ?_; rintro e w1 ⟨rfl, rfl⟩)
    go_ret
    exact ⟨rfl, rfl⟩
  · have t0 : decide (n < 0) = false := by simpa using h
    have t1 : decide (0 ≤ n) = true := by simp; omega
    clear h
    go_enter Try.func19, Try.ntmps19
    go_wp2_with (go_at_call 17; refine (len17_nil _).mono ?_; rintro e w1 ⟨rfl, rfl⟩)
    go_ret
    exact ⟨rfl, rfl⟩
set_option maxRecDepth 100000 in
theorem way54_nil (n : Int) (A : Option Addr) (m c : Nat) (w : World) : Calls Try.prog 54 #[.pointer none, .int .i64 n, .slice A m c] w fun e w' => e = .returned (.tuple #[.slice none 0 0, .bool false]) ∧ w = w' := by
  by_cases h : n < 0
  · have t0 : decide (n < 0) = true := by simpa using h
    clear h
    go_enter Try.func54, Try.ntmps54
    go_wp2_with (go_at_call 17; refine (len17_nil _).mono ?_; rintro e w1 ⟨rfl, rfl⟩)
    go_ret2
    exact ⟨rfl, rfl⟩
  · have t0 : decide (n < 0) = false := by simpa using h
    have t1 : decide (0 ≤ n) = true := by simp; omega
    clear h
    go_enter Try.func54, Try.ntmps54
    go_wp2_with (go_at_call 17; refine (len17_nil _).mono ?_; rintro e w1 ⟨rfl, rfl⟩)
    go_ret2
    exact ⟨rfl, rfl⟩
set_option maxRecDepth 100000 in
theorem at20_nil (n : Int) (A : Option Addr) (m c : Nat) (w : World) : Calls Try.prog 20 #[.pointer none, .int .i64 n, .slice A m c] w fun e w' => e = .returned (.tuple #[.int .i64 0, .bool false]) ∧ w = w' := by
  go_enter Try.func20, Try.ntmps20
  go_wp2_with (go_at_call 54; refine (way54_nil _ _ _ _ _).mono ?_; rintro e w1 ⟨rfl, rfl⟩)
  go_ret2
  exact ⟨rfl, rfl⟩
set_option maxRecDepth 100000 in
theorem replace22_nil (n m : Int) (A : Option Addr) (l c : Nat) (w : World) : Calls Try.prog 22 #[.pointer none, .int .i64 n, .int .i64 m, .slice A l c] w fun e w' => e = .returned (.tuple #[.int .i64 0, .int .i64 2]) ∧ w = w' := by
  go_enter Try.func22, Try.ntmps22
  go_wp2_with fail
  go_ret2
  exact ⟨rfl, rfl⟩
set_option maxRecDepth 100000 in
theorem branch25_nil (k : Int) (A : Option Addr) (l c : Nat) (w : World) : Calls Try.prog 25 #[.pointer none, .int .i64 k, .slice A l c] w fun e w' => e = .returned (.tuple #[.int .i64 0, .int .i64 2]) ∧ w = w' := by
  go_enter Try.func25, Try.ntmps25
  go_wp2_with fail
  go_ret2
  exact ⟨rfl, rfl⟩
end Go.Proofs.Ytbmbiffhgdkpiaa
