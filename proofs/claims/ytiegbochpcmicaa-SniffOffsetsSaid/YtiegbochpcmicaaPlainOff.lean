/- Where runes' bytes begin, in plain words. No condition. -/
import Derived.Test.YtiegbochpcmicaaPlainPE
namespace Go.Proofs.Ytiegbochpcmicaa
open Go.RowKit

theorem pEnc_append (kind : Int) (a b : List Int) : pEnc kind (a ++ b) = pEnc kind a ++ pEnc kind b := by
  unfold pEnc
  split
  · simp [encs]
  · split
    · simp [wencs]
    · split
      · simp [wencs]
      · simp
/-- Where the k-th rune begins. -/
def pOff (kind : Int) (l : List Int) (k : Nat) : Nat := (pEnc kind (l.take k)).length
theorem take_snoc (l : List Int) (k : Nat) (h : k < l.length) : l.take (k + 1) = l.take k ++ [gz l k] := by
  rw [List.take_succ_eq_append_getElem h]
  simp [gz, List.getD_eq_getElem?_getD, List.getElem?_eq_getElem h]
theorem pOff_zero (kind : Int) (l : List Int) : pOff kind l 0 = 0 := by
  have := pEnc_len kind (l.take 0)
  unfold pOff
  simp at this ⊢
  exact this
theorem pOff_succ (kind : Int) (l : List Int) (k : Nat) (h : k < l.length) : pOff kind l (k + 1) = pOff kind l k + (pEnc kind [gz l k]).length := by
  unfold pOff
  rw [take_snoc l k h, pEnc_append, List.length_append]
theorem pOff_le (kind : Int) (l : List Int) (k : Nat) : pOff kind l k ≤ 4 * l.length := by
  have := pEnc_len kind (l.take k)
  have h2 : (l.take k).length ≤ l.length := by rw [List.length_take]; omega
  unfold pOff
  omega
/-- All the places up to the k-th one. -/
def pOffs (kind : Int) (l : List Int) (k : Nat) : List Int := (List.range (k + 1)).map fun i => (pOff kind l i : Int)
theorem pOffs_zero (kind : Int) (l : List Int) : pOffs kind l 0 = [0] := by simp [pOffs, pOff_zero]
theorem pOffs_succ (kind : Int) (l : List Int) (k : Nat) : pOffs kind l (k + 1) = pOffs kind l k ++ [(pOff kind l (k + 1) : Int)] := by
  unfold pOffs
  rw [List.range_succ, List.map_append]
  rfl
theorem pOffs_get (kind : Int) (l : List Int) (k i : Nat) (h : i ≤ k) : gz (pOffs kind l k) i = pOff kind l i := by
  have hi : i < (pOffs kind l k).length := by simp [pOffs]; omega
  unfold gz
  rw [List.getD_eq_getElem?_getD, List.getElem?_eq_getElem hi]
  simp [pOffs]
theorem pOffs_len (kind : Int) (l : List Int) (k : Nat) : (pOffs kind l k).length = k + 1 := by simp [pOffs]
end Go.Proofs.Ytiegbochpcmicaa
