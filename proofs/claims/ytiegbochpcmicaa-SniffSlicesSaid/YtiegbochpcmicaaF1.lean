/- The walks of slices.Clone, of a text's 'in' and of its Slice. No condition. -/
import Derived.Test.YtiegbochpcmicaaE5
import Derived.Test.YtiegbochpcmicaaA6
import Derived.Lib.SliceRun
namespace Go.Proofs.Ytiegbochpcmicaa
open Go.RowKit

theorem Rd.none_ {w : World} {B sz n c : Nat} {xs : List Value} (h : Rd w B sz none n c xs) : n = 0 := by
  rcases Nat.eq_zero_or_pos n with h0 | h0
  · exact h0
  · obtain ⟨b, off, e, _⟩ := h.at_ h0
    cases e
/-- Bytes that a callee hands back. -/
def PBytesSaid (n : Nat) (zs : List Int) (w : World) (e : Ending) (w' : World) : Prop := ∃ A c, e = .returned (.slice A n c) ∧ Rd w' w'.heap.size 1 A n c (ints .u8 zs) ∧ Below w.heap.size w w'

set_option maxHeartbeats 1000000 in
theorem clone69 (A : Option Addr) (n c : Nat) (zs : List Int) (w : World) (h : Rd w w.heap.size 1 A n c (ints .u8 zs)) (hn : n ≤ 4096) :
    Calls Try.prog 69 #[.slice A n c] w (PBytesSaid n zs w) := by
  unfold PBytesSaid
  have q := fun (w : World) (a : Option Addr) (n c n' c' : Nat) => Lib.run_eql_slice_nil (P := Try.prog) w 22 5 a n c n' c' Try.underlying22
  rcases A with _ | ad
  · obtain rfl := h.none_
    have hz : zs = [] := List.eq_nil_of_length_eq_zero h.int_len
    have HZ := Lib.hid hz
    clear h hz
    go_enter Try.func69, Try.ntmps69
    go_wp2_with fail
    go_ret
    exact ⟨none, 0, rfl, by rw [HZ.out]; exact Rd.nil_, Below.refl _ _⟩
  · go_enter Try.func69, Try.ntmps69
    go_wp2_with (at_builtin; go_loud (refine wpList_pushes st22 rfl _ _ rfl _ rfl (own_empty w 5 1 w.heap.size (Nat.le_refl _)) rfl (h.alloc (Nat.le_refl _) _) (ints_cells _ _) (by omega) (by omega) ((Below.refl _ w).alloc (Nat.le_refl _) _) (by simp) ?_); intro v1 w1 hown1 hb1 _; obtain ⟨A1, c1, rfl, hown1⟩ := own_form hown1; simp only [Nat.zero_add, List.nil_append] at hown1)
    go_ret
    exact ⟨A1, c1, by simp, .of_own hown1, hb1⟩
end Go.Proofs.Ytiegbochpcmicaa
