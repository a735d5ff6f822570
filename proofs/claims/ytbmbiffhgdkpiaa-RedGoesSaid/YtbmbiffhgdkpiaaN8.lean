/- The walk of an arena's At. No condition. -/
import Derived.Test.YtbmbiffhgdkpiaaN7
namespace Go.Proofs.Ytbmbiffhgdkpiaa
open Go.RowKit

theorem at20_some {w : World} {ga root m c : Nat} {N : List GN} {A : Option Addr} {P : List Int} {r : Nat} (hr : gat N root P m = some r) (hm : m ≤ 4096)
    (C : Calls Try.prog 54 #[.pointer (some ⟨ga, 0, none⟩), .int .i64 root, .slice A m c] w fun e w' => ∃ A' c', e = .returned (.tuple #[.slice A' (m + 1) c', .bool true]) ∧ w'.ownsRow w.heap.size 3 1 (.slice A' (m + 1) c') (m + 1) (ints .i64 (gways N root P m)) ∧ Below w.heap.size w w') :
    Calls Try.prog 20 #[.pointer (some ⟨ga, 0, none⟩), .int .i64 root, .slice A m c] w fun e w' => e = .returned (.tuple #[.int .i64 r, .bool true]) ∧ Below w.heap.size w w' := by
  have t0 : IntKind.i64.wrap ((m : Int) + 1 - 1) = (m : Int) := by rw [show (m : Int) + 1 - 1 = m by omega]; exact IntWalk.i64_in _ (by omega)
  have hg := gways_get N root P m m (Nat.le_refl _)
  rw [hr] at hg
  have HG := Lib.hid hg
  clear hg hr
  go_enter Try.func20, Try.ntmps20
  go_wp2_with (go_at_call 54; refine C.mono ?_; rintro e w1 ⟨A', c', rfl, ho, hb⟩; clear C; obtain ⟨b, off, rfl, _, hc⟩ := (Rd.of_own ho).int_form (by omega); have x0 := hc m (by omega); rw [HG.out] at x0; clear hc ho)
  go_ret2
  exact ⟨rfl, hb⟩
theorem at20_none {w : World} {ga root m c : Nat} {A : Option Addr}
    (C : Calls Try.prog 54 #[.pointer (some ⟨ga, 0, none⟩), .int .i64 root, .slice A m c] w fun e w' => e = .returned (.tuple #[.slice none 0 0, .bool false]) ∧ Below w.heap.size w w') :
    Calls Try.prog 20 #[.pointer (some ⟨ga, 0, none⟩), .int .i64 root, .slice A m c] w fun e w' => e = .returned (.tuple #[.int .i64 0, .bool false]) ∧ Below w.heap.size w w' := by
  go_enter Try.func20, Try.ntmps20
  go_wp2_with (go_at_call 54; refine C.mono ?_; rintro e w1 ⟨rfl, hb⟩; clear C)
  go_ret2
  exact ⟨rfl, hb⟩
theorem at20 {w : World} {B ga : Nat} {N : List GN} (h : Arena w B ga N) (hN : GoodN N) (root : Nat) (hroot : root < N.length) (A : Option Addr) (m c : Nat) (P : List Int) (hP : Rd w w.heap.size 1 A m c (ints .i64 P)) (hm : m ≤ 4096) :
    Calls Try.prog 20 #[.pointer (some ⟨ga, 0, none⟩), .int .i64 root, .slice A m c] w fun e w' =>
      ((∃ r : Nat, e = .returned (.tuple #[.int .i64 r, .bool true]) ∧ gat N root P m = some r) ∨ (e = .returned (.tuple #[.int .i64 0, .bool false]) ∧ gat N root P m = none)) ∧ Below w.heap.size w w' := by
  have C := way54 h hN root hroot A m c P hP hm
  cases hr : gat N root P m with
  | none =>
    refine (at20_none (C.mono ?_)).mono ?_
    · rintro e w' ⟨⟨A', c', _, ⟨r, h'⟩, _⟩ | ⟨rfl, _⟩, hb⟩
      · rw [hr] at h'; cases h'
      · exact ⟨rfl, hb⟩
    · rintro e w' ⟨rfl, hb⟩
      exact ⟨.inr ⟨rfl, rfl⟩, hb⟩
  | some r =>
    refine (at20_some hr hm (C.mono ?_)).mono ?_
    · rintro e w' ⟨⟨A', c', rfl, _, ho⟩ | ⟨_, h'⟩, hb⟩
      · exact ⟨A', c', rfl, ho, hb⟩
      · rw [hr] at h'; cases h'
    · rintro e w' ⟨rfl, hb⟩
      exact ⟨.inl ⟨r, rfl, rfl⟩, hb⟩
end Go.Proofs.Ytbmbiffhgdkpiaa
