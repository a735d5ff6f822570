/- The walk of few. No condition. -/
import Derived.Test.YtbmbiffhgdkpiaaN17
import Derived.Test.YtbmbiffhgdkpiaaN18
namespace Go.Proofs.Ytbmbiffhgdkpiaa
open Go.RowKit

/-- Numbers that are not too many. -/
def FewSaid (w : World) (e : Ending) (w' : World) : Prop := ∃ (A : Option Addr) (c : Nat) (ks : List Int), e = .returned (.slice A ks.length c) ∧ ks.length ≤ 5 ∧ w'.ownsRow w.heap.size 3 1 (.slice A ks.length c) ks.length (ints .i64 ks) ∧ Below w.heap.size w w'
set_option maxRecDepth 100000 in
set_option maxHeartbeats 4000000 in
theorem few16 (A : Option Addr) (n c : Nat) (l : List Int) (back : Bool) (z : Int) (w : World) (h : Rd w w.heap.size 1 A n c (ints .i64 l)) :
    Calls Try.prog 16 #[.slice A n c, .bool back, .int .i64 z] w (FewSaid w) := by
  unfold FewSaid
  cases back
  all_goals
    go_enter Try.func16, Try.ntmps16
    go_wp2_with fail
    go_loopw [7, 12] (fun v i wr => ∃ (k : Nat) (ks : List Int), k ≤ n ∧ k ≤ 5 ∧ i = .int .i64 k ∧ ks.length = k ∧ wr.ownsRow w.heap.size 3 1 v ks.length (ints .i64 ks) ∧ Below w.heap.size w wr)
      (fun _ i _ => n - (intOf i).toNat)
    case atStart => exact ⟨0, [], Nat.zero_le _, by omega, rfl, rfl, World.ownsRow_nil _ _ _ _, Below.refl _ _⟩
    case round =>
      obtain ⟨k, ks, hk, hk5, rfl, hl, hown, hb⟩ := hrel
      have HL := Lib.hid hl
      have hkl : ks.length ≤ 5 := by omega
      clear hl
      have hsz := hb.size
      by_cases hlt : k < n
      · obtain ⟨b, off, rfl, hbb, hc⟩ := (h.below hb).int_form (by omega)
        have x0 := hc k hlt
        clear hc
        by_cases h5 : k < 5
        · go_wp2_with (at_builtin; refine wpList_push st27 rfl _ _ rfl _ rfl hown [.int .i64 _] _ rfl rfl rfl (by simp [Value.oneCell']) (by omega) (by omega) hb hsz ?_; intro v1 w1 hown1 hb1 _; clear hown)
          go_roundw
          case rel => exact ⟨k + 1, _, by omega, by omega, by go_num, by rw [List.length_append, HL.out]; rfl, own_as hown1 (by rw [List.length_append]; rfl) (ints_snoc _ _ _).symm, hb1⟩
          case measure => simp [intOf]; omega
        · go_wp2_with fail
          go_ret
          obtain ⟨A', c', rfl, ho⟩ := own_form hown
          exact ⟨A', c', ks, rfl, hkl, ho, hb⟩
      · go_wp2_with fail
        go_ret
        obtain ⟨A', c', rfl, ho⟩ := own_form hown
        exact ⟨A', c', ks, rfl, hkl, ho, hb⟩
end Go.Proofs.Ytbmbiffhgdkpiaa
