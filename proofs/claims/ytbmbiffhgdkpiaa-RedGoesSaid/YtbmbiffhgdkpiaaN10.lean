/- The walks of an arena's Print, way, At, where there is no such node. No condition. -/
import Derived.Test.YtbmbiffhgdkpiaaN9
namespace Go.Proofs.Ytbmbiffhgdkpiaa
open Go.RowKit

set_option maxRecDepth 100000 in
set_option maxHeartbeats 1000000 in
theorem print19_out {w : World} {B ga : Nat} {N : List GN} (h : Arena w B ga N) (n : Int) (hn : ¬ (0 ≤ n ∧ n < N.length)) : Calls Try.prog 19 #[.pointer (some ⟨ga, 0, none⟩), .int .i64 n] w fun e w' => e = .returned (.slice none 0 0) ∧ w = w' := by
  have C := len17 h
  clear h
  have hcase : decide (n < 0) = true ∨ (decide (n < 0) = false ∧ decide ((N.length : Int) ≤ n) = true) := by simp; omega
  clear hn
  rcases hcase with t0 | ⟨t0, t1⟩
  all_goals
    go_enter Try.func19, Try.ntmps19
    go_wp2_with (go_at_call 17; refine C.mono ?_; rintro e w1 ⟨rfl, rfl⟩; clear C)
    go_ret
    exact ⟨rfl, rfl⟩
set_option maxRecDepth 100000 in
set_option maxHeartbeats 1000000 in
theorem way54_out {w : World} {B ga : Nat} {N : List GN} (h : Arena w B ga N) (n : Int) (hn : ¬ (0 ≤ n ∧ n < N.length)) (A : Option Addr) (m c : Nat) : Calls Try.prog 54 #[.pointer (some ⟨ga, 0, none⟩), .int .i64 n, .slice A m c] w fun e w' => e = .returned (.tuple #[.slice none 0 0, .bool false]) ∧ w = w' := by
  have C := len17 h
  clear h
  have hcase : decide (n < 0) = true ∨ (decide (n < 0) = false ∧ decide ((N.length : Int) ≤ n) = true) := by simp; omega
  clear hn
  rcases hcase with t0 | ⟨t0, t1⟩
  all_goals
    go_enter Try.func54, Try.ntmps54
    go_wp2_with (go_at_call 17; refine C.mono ?_; rintro e w1 ⟨rfl, rfl⟩; clear C)
    go_ret2
    exact ⟨rfl, rfl⟩
theorem at20_out {w : World} {B ga : Nat} {N : List GN} (h : Arena w B ga N) (n : Int) (hn : ¬ (0 ≤ n ∧ n < N.length)) (A : Option Addr) (m c : Nat) : Calls Try.prog 20 #[.pointer (some ⟨ga, 0, none⟩), .int .i64 n, .slice A m c] w fun e w' => e = .returned (.tuple #[.int .i64 0, .bool false]) ∧ Below w.heap.size w w' := by
  have C := way54_out h n hn A m c
  clear h hn
  go_enter Try.func20, Try.ntmps20
  go_wp2_with (go_at_call 54; refine C.mono ?_; rintro e w1 ⟨rfl, rfl⟩; clear C)
  go_ret2
  exact ⟨rfl, Below.refl _ _⟩
/-- Replace, where the path leads nowhere. -/
theorem replace22_noway {w : World} {ga : Nat} (root wth : Int) (A : Option Addr) (m c : Nat)
    (C : Calls Try.prog 54 #[.pointer (some ⟨ga, 0, none⟩), .int .i64 root, .slice A m c] w fun e w' => e = .returned (.tuple #[.slice none 0 0, .bool false]) ∧ Below w.heap.size w w') :
    Calls Try.prog 22 #[.pointer (some ⟨ga, 0, none⟩), .int .i64 root, .int .i64 wth, .slice A m c] w fun e w' => e = .returned (.tuple #[.int .i64 0, .int .i64 6]) ∧ Below w.heap.size w w' := by
  go_enter Try.func22, Try.ntmps22
  go_wp2_with (go_at_call 54; refine C.mono ?_; rintro e w1 ⟨rfl, hb⟩; clear C)
  go_ret2
  exact ⟨rfl, hb⟩
set_option maxRecDepth 100000 in
set_option maxHeartbeats 1000000 in
/-- Replace, where there is no such node to put there. -/
theorem replace22_nowith {w : World} {B ga : Nat} {N : List GN} (h : Arena w B ga N) (root wth : Int) (hw : ¬ (0 ≤ wth ∧ wth < N.length)) (A A' : Option Addr) (m c m' c' : Nat)
    (C : Calls Try.prog 54 #[.pointer (some ⟨ga, 0, none⟩), .int .i64 root, .slice A m c] w fun e w' => e = .returned (.tuple #[.slice A' m' c', .bool true]) ∧ Below w.heap.size w w') :
    Calls Try.prog 22 #[.pointer (some ⟨ga, 0, none⟩), .int .i64 root, .int .i64 wth, .slice A m c] w fun e w' => e = .returned (.tuple #[.int .i64 0, .int .i64 6]) ∧ Below w.heap.size w w' := by
  have hcase : decide (wth < 0) = true ∨ (decide (wth < 0) = false ∧ decide ((N.length : Int) ≤ wth) = true) := by simp; omega
  clear hw
  rcases hcase with t0 | ⟨t0, t1⟩
  all_goals
    go_enter Try.func22, Try.ntmps22
    go_wp2_with (go_at_call 54; refine C.mono ?_; rintro e w1 ⟨rfl, hb⟩; clear C; obtain ⟨A9, c9, e9⟩ := (h.below hb).head; clear h)
    go_ret2
    exact ⟨rfl, hb⟩
end Go.Proofs.Ytbmbiffhgdkpiaa
