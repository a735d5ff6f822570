/- Cursors: the walks of chapter 11's example and of the law RedNil. No condition. -/
import Derived.Test.YtbmbiffhgdkpiaaR7
namespace Go.Proofs.Ytbmbiffhgdkpiaa
open Go.RowKit

theorem walk47_nil (n f k : Int) (u : Option Addr) (most : Int) (w : World) : Calls Try.prog 47 #[.agg (cc none n f k u), .int .i64 most] w fun e w' => e = .returned (.slice none 0 0) ∧ Below w.heap.size w w' := by
  go_enter Try.func47, Try.ntmps47
  go_wp2_with fail
  go_ret
  exact ⟨rfl, (Below.refl _ _).alloc (Nat.le_refl _) _⟩
/-- The example's nodes. -/
def rxB : List GN := exA ++ [⟨1, 1, 1, true, [99], []⟩]
def rxC : List GN := gbr rxB 2 [0, 1]
theorem rxB_ok : OkN rxB := exA_ok.lf 1 [99]
theorem rxC_ok : OkN rxC := rxB_ok.br 2 (by intro j hj; rcases j with _ | _ | j <;> simp [gz, rxB, exA] at hj ⊢) (by simp)
theorem rx26 {w3 : World} {B ga : Nat} (a3 : Arena w3 B ga exA) (hB : B ≤ w3.heap.size) : Calls Try.prog 26 #[.pointer (some ⟨ga, 0, none⟩), .int .i64 1, .slice (some ⟨w3.heap.size, 0, none⟩) 1 1] (w3.alloc (.cells #[.int .u8 99] 5 (1, 2))) fun e w' => e = .returned (.int .i64 1) ∧ Arena w' B ga rxB ∧ Below B (w3.alloc (.cells #[.int .u8 99] 5 (1, 2))) w' := by
  refine (leaf26 (N := exA) (a3.below ((Below.refl _ w3).alloc (Nat.le_refl _) _)) 1 _ 1 1 [99] (Rd.litM w3 [.int .u8 99] _ 1 rfl (by omega)) (by decide) (by omega) (by simp; omega)).mono ?_
  rintro e w4 ⟨rfl, a4, k4, b4⟩
  exact ⟨rfl, a4, b4⟩
theorem rx25 {w2 : World} {B ga : Nat} (a2 : Arena w2 B ga rxB) (hB : B ≤ w2.heap.size) : Calls Try.prog 25 #[.pointer (some ⟨ga, 0, none⟩), .int .i64 2, .slice (some ⟨w2.heap.size, 0, none⟩) 2 2] (w2.alloc (.cells #[.int .i64 0, .int .i64 1] 3)) fun e w' => e = .returned (.tuple #[.int .i64 2, .int .i64 0]) ∧ Arena w' B ga rxC ∧ Below B (w2.alloc (.cells #[.int .i64 0, .int .i64 1] 3)) w' := by
  refine (branch25 (a2.below ((Below.refl _ w2).alloc (Nat.le_refl _) _)) 2 _ 2 2 [0, 1] (Rd.lit w2 [.int .i64 0, .int .i64 1] 3 2 1 rfl (by omega)) (by decide) (by omega) (by simp; omega) (by decide) rxB_ok.cnt).mono ?_
  rintro e w3 ⟨⟨rfl, _, a3⟩ | ⟨_, hk, _⟩, k3, b3⟩
  · exact ⟨rfl, a3, b3⟩
  · exact absurd (by intro j hj; rcases j with _ | _ | j <;> simp [gz, rxB, exA] at hj ⊢) hk
theorem rx32 {W : World} {B ga : Nat} (a : Arena W B ga rxC) : Calls Try.prog 32 #[.pointer (some ⟨ga, 0, none⟩), .int .i64 2] W fun e w' => e = .returned (.tuple #[.agg (cc (some ⟨ga, 0, none⟩) 2 0 0 none), .int .i64 0]) ∧ Below W.heap.size W w' := by
  refine (root32 a 2).mono ?_
  rintro e w' ⟨h, hb⟩
  rw [if_pos (by decide)] at h
  exact ⟨h, hb⟩
theorem rx40 {W : World} {B ga : Nat} (a : Arena W B ga rxC) : Calls Try.prog 40 #[.agg (cc (some ⟨ga, 0, none⟩) 2 0 0 none), .int .i64 1] W fun e w' => ∃ b, e = .returned (.tuple #[.agg (cc (some ⟨ga, 0, none⟩) 1 2 1 (some ⟨b, 0, none⟩)), .bool true]) ∧ Below W.heap.size W w' := by
  refine (down40 (N := rxC) a rxC_ok 2 (by decide) 0 0 none 1 (by omega) (by omega) (by decide)).mono ?_
  rintro e w' ⟨h, hb⟩
  rw [if_pos (by decide)] at h
  obtain ⟨b, rfl, _, _⟩ := h
  exact ⟨b, rfl, hb⟩
theorem rx34 {W : World} {B ga : Nat} (a : Arena W B ga rxC) : Calls Try.prog 34 #[.agg (cc (some ⟨ga, 0, none⟩) 2 0 0 none), .int .i64 1] W fun e w' => ∃ f k u, e = .returned (.tuple #[.agg (cc (some ⟨ga, 0, none⟩) 0 f k u), .bool true]) ∧ Below W.heap.size W w' := by
  refine (seek34 (N := rxC) a rxC_ok (by decide) 2 (by decide) [] 2 0 0 none ⟨rfl, rfl, rfl, rfl⟩ 1).mono ?_
  rintro e w' ⟨h, hb⟩
  rw [if_pos (by decide)] at h
  obtain ⟨n', f', k', u', rfl, hc⟩ := h
  have e1 : (seekP rxC 2 0 1).reverse ++ [] = [(0 : Int)] := by decide
  rw [e1] at hc
  have hg := (hc.ok rxC_ok (by decide)).2.2.2.2
  have h0 := (hc.ok rxC_ok (by decide)).1
  have e2 : gatL rxC 2 [(0 : Int)].reverse = some 0 := by decide
  rw [e2] at hg
  have : n' = 0 := by injection hg with hg; omega
  subst this
  exact ⟨f', k', u', rfl, hb⟩
theorem rx46 {W : World} {B ga : Nat} (a : Arena W B ga rxC) (u : Option Addr) : Calls Try.prog 46 #[.agg (cc (some ⟨ga, 0, none⟩) 1 2 1 u)] W fun e w' => e = .returned (.agg #[.int .i64 2, .int .i64 3]) ∧ Below W.heap.size W w' :=
  span46 (some ⟨ga, 0, none⟩) 1 2 1 u W 1 (fun W' hW => (width18_at (k := 1) (a.below hW) (by decide)).mono fun e w' ⟨he, hb⟩ => ⟨he, hb⟩) (by omega) (by omega) (by omega) (by omega)
theorem cells5 {W : World} {b : Nat} {a : Option Addr} {n f k : Int} {u : Option Addr} (h : W.heap[b]? = some (.cells (cc a n f k u) 59 (0, 0))) :
    W.cell? ⟨b, 0, none⟩ = some (.pointer a) ∧ W.cell? ⟨b, 1, none⟩ = some (.int .i64 n) ∧ W.cell? ⟨b, 2, none⟩ = some (.int .i64 f) ∧ W.cell? ⟨b, 3, none⟩ = some (.int .i64 k) ∧ W.cell? ⟨b, 4, none⟩ = some (.pointer u) :=
  ⟨cell_of_row W b 0 _ _ _ h, cell_of_row W b 1 _ _ _ h, cell_of_row W b 2 _ _ _ h, cell_of_row W b 3 _ _ _ h, cell_of_row W b 4 _ _ _ h⟩
theorem cells5' {W : World} {b : Nat} {a : Option Addr} {n f k : Int} {u : Option Addr} (h : W.heap[b]? = some (.cells (cc a n f k u) 59 (0, 0))) (o : Obj) :
    (W.alloc o).heap[b]? = some (.cells (cc a n f k u) 59 (0, 0)) := (heap_alloc_old W o (Array.getElem?_eq_some_iff.1 h).1).trans h
set_option maxRecDepth 100000 in
set_option maxHeartbeats 4000000 in
theorem awake33 (w : World) : Calls Try.prog 33 #[] w fun e w' => e = .returned (.bool true) ∧ Below w.heap.size w w' := by
  have q26 := fun (w : World) (C : Array Value) (n c : Nat) => Lib.run_convert_bytes_const (P := Try.prog) w 26 5 C n c Try.underlying26 Try.underlying5
  go_enter Try.func33, Try.ntmps33
  go_wp2_with (first
    | (go_at_call 12; refine (new12 _).mono ?_; rintro e w1 ⟨rfl, a1, b1⟩; have s1 := b1.size; have B1 := Lib.hid b1; clear b1)
    | (go_at_call 26; refine (leaf26 (a1.below ((Below.refl _ w1).alloc (Nat.le_refl _) _)) 1 _ 2 2 [97, 98] (Rd.litM w1 [.int .u8 97, .int .u8 98] _ 2 rfl (by omega)) (by simp) (by omega) (by simp; omega)).mono ?_; rintro e w2 ⟨rfl, a2, k2, b2⟩; have B2 := Lib.hid ((B1.out.alloc s1 _).trans b2); have s2 := B2.out.size; clear a1 b2)
    | (go_at_call 26; refine (rx26 (a2 : Arena w2 _ _ exA) s2).mono ?_; rintro e w3 ⟨rfl, a3, b3⟩; have B3 := Lib.hid ((B2.out.alloc s2 _).trans b3); have s3 := B3.out.size; clear a2 b3)
    | (go_at_call 25; refine (rx25 a3 s3).mono ?_; rintro e w4 ⟨rfl, a4, b4⟩; have B4 := Lib.hid ((B3.out.alloc s3 _).trans b4); have s4 := B4.out.size; clear a3 b4)
    | (go_at_call 32; refine (rx32 a4).mono ?_; rintro e w5 ⟨rfl, b5⟩; have hal5 := fun o => (Below.refl w5.heap.size w5).alloc (Nat.le_refl _) o; have a5 := fun o => (a4.below b5).below (hal5 o); have B5 := Lib.hid (fun o => B4.out.trans ((b5.trans ((hal5 o).mono b5.size)).mono s4)); have S5 := Lib.hid (fun o => (B5.out o).size); have HN5 := Lib.hid (fun o => heap_alloc_new w5 o); clear a4 b5 hal5)
    | (go_at_call 40; refine (rx40 (a5 _)).mono ?_; rintro e w6 ⟨bd, rfl, b6⟩; have h6 := (b6.block w5.heap.size (by simp)).trans (HN5.out _); have B6 := Lib.hid ((B5.out _).trans (b6.mono (S5.out _))); have s6 := B6.out.size; have hal6 := fun o => (Below.refl w6.heap.size w6).alloc (Nat.le_refl _) o; have a6 := fun o => ((a5 _).below b6).below (hal6 o); have d0 := fun o => (cells5 (cells5' h6 o)).1; have d1 := fun o => (cells5 (cells5' h6 o)).2.1; have d2 := fun o => (cells5 (cells5' h6 o)).2.2.1; have d3 := fun o => (cells5 (cells5' h6 o)).2.2.2.1; have d4 := fun o => (cells5 (cells5' h6 o)).2.2.2.2; have HN6 := Lib.hid (fun o => heap_alloc_new w6 o); clear a5 b6 h6)
    | (go_at_call 34; refine (rx34 (a6 _)).mono ?_; rintro e w7 ⟨f7, k7, u7, rfl, b7⟩; have h7 := (b7.block w6.heap.size (by simp)).trans (HN6.out _); have B7 := Lib.hid (B6.out.trans (((hal6 _).trans (b7.mono (hal6 _).size)).mono s6)); have s7 := B7.out.size; have hal7 := fun o => (Below.refl w7.heap.size w7).alloc (Nat.le_refl _) o; have a7 := fun o => ((a6 _).below b7).below (hal7 o); have e0 := fun o => (cells5 (cells5' h7 o)).1; have e1 := fun o => (cells5 (cells5' h7 o)).2.1; have e2 := fun o => (cells5 (cells5' h7 o)).2.2.1; have e3 := fun o => (cells5 (cells5' h7 o)).2.2.2.1; have e4 := fun o => (cells5 (cells5' h7 o)).2.2.2.2; have HN7 := Lib.hid (fun o => heap_alloc_new w7 o); clear a6 b7 h7 hal6 d0 d1 d2 d3 d4)
    | (go_at_call 46; refine (rx46 (a7 _) _).mono ?_; rintro e w8 ⟨rfl, b8⟩; have h8 := (b8.block w7.heap.size (by simp)).trans (HN7.out _); have B8 := Lib.hid (B7.out.trans (((hal7 _).trans (b8.mono (hal7 _).size)).mono s7)); have s8 := B8.out.size; have f0 := (cells5 h8).1; have f1 := (cells5 h8).2.1; have f2 := (cells5 h8).2.2.1; have f3 := (cells5 h8).2.2.2.1; have f4 := (cells5 h8).2.2.2.2; clear a7 b8 h8 hal7 e0 e1 e2 e3 e4)
    | (go_at_call 35; refine (node35 _ _ _ _ _ _).mono ?_; rintro e w9 ⟨rfl, b9⟩; have B9 := Lib.hid (B8.out.trans (b9.mono s8)); clear b9))
  go_ret
  exact ⟨rfl, B9.out⟩
theorem zfirst {w W' : World} {o : Obj} (b : Below (w.alloc o).heap.size (w.alloc o) W') : Below w.heap.size w W' ∧ W'.heap[w.heap.size]? = some o :=
  ⟨((Below.refl w.heap.size w).alloc (Nat.le_refl _) o).trans (b.mono (by simp)), (b.block w.heap.size (by simp)).trans (heap_alloc_new w o)⟩
theorem zstep {w W W' : World} {g : Nat} {o z : Obj} (B0 : Below w.heap.size w W) (h : W.heap[g]? = some z) (b : Below (W.alloc o).heap.size (W.alloc o) W') : Below w.heap.size w W' ∧ W'.heap[g]? = some z := by
  have hg := (Array.getElem?_eq_some_iff.1 h).1
  have hal := (Below.refl W.heap.size W).alloc (Nat.le_refl _) o
  exact ⟨B0.trans ((hal.trans (b.mono hal.size)).mono B0.size), (b.block g (Nat.lt_of_lt_of_le hg hal.size)).trans ((heap_alloc_old W o hg).trans h)⟩
theorem zstep' {w W W' : World} {g : Nat} {z : Obj} (B0 : Below w.heap.size w W) (h : W.heap[g]? = some z) (b : Below W.heap.size W W') : Below w.heap.size w W' ∧ W'.heap[g]? = some z :=
  ⟨B0.trans (b.mono B0.size), (b.block g (Array.getElem?_eq_some_iff.1 h).1).trans h⟩
set_option maxRecDepth 100000 in
set_option maxHeartbeats 8000000 in
theorem walk8 (k : Int) (w : World) : Calls Try.prog 8 #[.int .i64 k] w fun e w' => e = .returned (.bool true) ∧ Below w.heap.size w w' := by
  go_enter Try.func8, Try.ntmps8
  go_wp2_with (first
    | (go_at_call 40; refine (down40_nil 0 0 0 none k _).mono ?_; rintro e w1 ⟨rfl, b1⟩; obtain ⟨bb1, h1⟩ := zfirst b1; have B1 := Lib.hid bb1; have d1_0 := fun o => (cells5 (cells5' h1 o)).1; have d1_1 := fun o => (cells5 (cells5' h1 o)).2.1; have d1_2 := fun o => (cells5 (cells5' h1 o)).2.2.1; have d1_3 := fun o => (cells5 (cells5' h1 o)).2.2.2.1; have d1_4 := fun o => (cells5 (cells5' h1 o)).2.2.2.2; clear b1 bb1)
    | (go_at_call 41; refine (up41_root none 0 0 0 _).mono ?_; rintro e w2 ⟨rfl, b2⟩; obtain ⟨bb2, h2⟩ := zstep B1.out h1 b2; have B2 := Lib.hid bb2; have d2_0 := fun o => (cells5 (cells5' h2 o)).1; have d2_1 := fun o => (cells5 (cells5' h2 o)).2.1; have d2_2 := fun o => (cells5 (cells5' h2 o)).2.2.1; have d2_3 := fun o => (cells5 (cells5' h2 o)).2.2.2.1; have d2_4 := fun o => (cells5 (cells5' h2 o)).2.2.2.2; clear b2 bb2; clear h1 d1_0 d1_1 d1_2 d1_3 d1_4)
    | (go_at_call 42; refine (next42_root none 0 0 0 _).mono ?_; rintro e w3 ⟨rfl, b3⟩; obtain ⟨bb3, h3⟩ := zstep B2.out h2 b3; have B3 := Lib.hid bb3; have d3_0 := fun o => (cells5 (cells5' h3 o)).1; have d3_1 := fun o => (cells5 (cells5' h3 o)).2.1; have d3_2 := fun o => (cells5 (cells5' h3 o)).2.2.1; have d3_3 := fun o => (cells5 (cells5' h3 o)).2.2.2.1; have d3_4 := fun o => (cells5 (cells5' h3 o)).2.2.2.2; clear b3 bb3; clear h2 d2_0 d2_1 d2_2 d2_3 d2_4)
    | (go_at_call 43; refine (prev43_root none 0 0 0 _).mono ?_; rintro e w4 ⟨rfl, b4⟩; obtain ⟨bb4, h4⟩ := zstep B3.out h3 b4; have B4 := Lib.hid bb4; have d4_0 := fun o => (cells5 (cells5' h4 o)).1; have d4_1 := fun o => (cells5 (cells5' h4 o)).2.1; have d4_2 := fun o => (cells5 (cells5' h4 o)).2.2.1; have d4_3 := fun o => (cells5 (cells5' h4 o)).2.2.2.1; have d4_4 := fun o => (cells5 (cells5' h4 o)).2.2.2.2; clear b4 bb4; clear h3 d3_0 d3_1 d3_2 d3_3 d3_4)
    | (go_at_call 34; refine (seek34_nil 0 0 none k _).mono ?_; rintro e w5 ⟨rfl, b5⟩; obtain ⟨bb5, h5⟩ := zstep B4.out h4 b5; have B5 := Lib.hid bb5; have d5_0 := fun o => (cells5 (cells5' h5 o)).1; have d5_1 := fun o => (cells5 (cells5' h5 o)).2.1; have d5_2 := fun o => (cells5 (cells5' h5 o)).2.2.1; have d5_3 := fun o => (cells5 (cells5' h5 o)).2.2.2.1; have d5_4 := fun o => (cells5 (cells5' h5 o)).2.2.2.2; clear b5 bb5; clear h4 d4_0 d4_1 d4_2 d4_3 d4_4)
    | (go_at_call 44; refine (to44_nil 0 0 0 none none 0 0 _).mono ?_; rintro e w6 ⟨rfl, b6⟩; obtain ⟨bb6, h6⟩ := zstep B5.out h5 b6; have B6 := Lib.hid bb6; have d6_0 := fun o => (cells5 (cells5' h6 o)).1; have d6_1 := fun o => (cells5 (cells5' h6 o)).2.1; have d6_2 := fun o => (cells5 (cells5' h6 o)).2.2.1; have d6_3 := fun o => (cells5 (cells5' h6 o)).2.2.2.1; have d6_4 := fun o => (cells5 (cells5' h6 o)).2.2.2.2; clear b6 bb6; clear h5 d5_0 d5_1 d5_2 d5_3 d5_4)
    | (go_at_call 32; refine (root32_nil k _).mono ?_; rintro e w7 ⟨rfl, b7⟩; obtain ⟨bb7, h7⟩ := zstep B6.out h6 b7; have B7 := Lib.hid bb7; have d7_0 := fun o => (cells5 (cells5' h7 o)).1; have d7_1 := fun o => (cells5 (cells5' h7 o)).2.1; have d7_2 := fun o => (cells5 (cells5' h7 o)).2.2.1; have d7_3 := fun o => (cells5 (cells5' h7 o)).2.2.2.1; have d7_4 := fun o => (cells5 (cells5' h7 o)).2.2.2.2; clear b7 bb7; clear h6 d6_0 d6_1 d6_2 d6_3 d6_4)
    | (go_at_call 35; refine (node35 none 0 0 0 none _).mono ?_; rintro e w8 ⟨rfl, b8⟩; obtain ⟨bb8, h8⟩ := zstep B7.out h7 b8; have B8 := Lib.hid bb8; have d8_0 := (cells5 h8).1; have d8_1 := (cells5 h8).2.1; have d8_2 := (cells5 h8).2.2.1; have d8_3 := (cells5 h8).2.2.2.1; have d8_4 := (cells5 h8).2.2.2.2; clear b8 bb8; clear h7 d7_0 d7_1 d7_2 d7_3 d7_4)
    | (go_at_call 36; refine (kind36 none 0 0 0 none _ 0 (fun W _ => kind23_nil 0 W)).mono ?_; rintro e w9 ⟨rfl, b9⟩; obtain ⟨bb9, h9⟩ := zstep' B8.out h8 b9; have B9 := Lib.hid bb9; have d9_0 := (cells5 h9).1; have d9_1 := (cells5 h9).2.1; have d9_2 := (cells5 h9).2.2.1; have d9_3 := (cells5 h9).2.2.2.1; have d9_4 := (cells5 h9).2.2.2.2; clear b9 bb9; clear h8 d8_0 d8_1 d8_2 d8_3 d8_4)
    | (go_at_call 37; refine (path37 (X := fun _ => True) (ga := 0) (N := []) (root := 0) (Q := []) (a := none) (n := 0) (f := 0) (k := 0) (u := none) ⟨rfl, rfl, rfl, rfl⟩ (by simp)).mono ?_; rintro e w10 ⟨A10, c10, rfl, -, b10⟩; obtain ⟨bb10, h10⟩ := zstep' B9.out h9 b10; have B10 := Lib.hid bb10; have d10_0 := (cells5 h10).1; have d10_1 := (cells5 h10).2.1; have d10_2 := (cells5 h10).2.2.1; have d10_3 := (cells5 h10).2.2.2.1; have d10_4 := (cells5 h10).2.2.2.2; clear b10 bb10; clear h9 d9_0 d9_1 d9_2 d9_3 d9_4)
    | (go_at_call 45; refine (text45 none 0 0 0 none _ 0 [] (fun W _ => (print19_nil 0 W).mono fun e w' ⟨he, hw⟩ => ⟨none, 0, he, World.ownsRow_nil _ _ _ _, by rw [← hw]; exact Below.refl _ _⟩)).mono ?_; rintro e w11 ⟨A11, c11, rfl, -, b11⟩; obtain ⟨bb11, h11⟩ := zstep' B10.out h10 b11; have B11 := Lib.hid bb11; have d11_0 := (cells5 h11).1; have d11_1 := (cells5 h11).2.1; have d11_2 := (cells5 h11).2.2.1; have d11_3 := (cells5 h11).2.2.2.1; have d11_4 := (cells5 h11).2.2.2.2; clear b11 bb11; clear h10 d10_0 d10_1 d10_2 d10_3 d10_4)
    | (go_at_call 46; refine (span46 none 0 0 0 none _ 0 (fun W _ => width18_nil 0 W) (by omega) (by omega) (by omega) (by omega)).mono ?_; rintro e w12 ⟨rfl, b12⟩; obtain ⟨bb12, h12⟩ := zstep' B11.out h11 b12; have B12 := Lib.hid bb12; have d12_0 := (cells5 h12).1; have d12_1 := (cells5 h12).2.1; have d12_2 := (cells5 h12).2.2.1; have d12_3 := (cells5 h12).2.2.2.1; have d12_4 := (cells5 h12).2.2.2.2; clear b12 bb12; clear h11 d11_0 d11_1 d11_2 d11_3 d11_4)
    | (go_at_call 47; refine (walk47_nil 0 0 0 none k _).mono ?_; rintro e w13 ⟨rfl, b13⟩; obtain ⟨bb13, h13⟩ := zstep' B12.out h12 b13; have B13 := Lib.hid bb13; have d13_0 := (cells5 h13).1; have d13_1 := (cells5 h13).2.1; have d13_2 := (cells5 h13).2.2.1; have d13_3 := (cells5 h13).2.2.2.1; have d13_4 := (cells5 h13).2.2.2.2; clear b13 bb13; clear h12 d12_0 d12_1 d12_2 d12_3 d12_4)
    | (go_at_call 33; refine (awake33 _).mono ?_; rintro e w14 ⟨rfl, b14⟩; have B14 := Lib.hid (B13.out.trans (b14.mono B13.out.size)); clear b14))
  go_ret
  exact ⟨rfl, B14.out⟩
end Go.Proofs.Ytbmbiffhgdkpiaa
