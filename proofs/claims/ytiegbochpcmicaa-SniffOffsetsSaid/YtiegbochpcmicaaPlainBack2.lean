/- Plain facts: which runes of a list have bytes, counted from the front. No condition. -/
import Derived.Test.YtiegbochpcmicaaPlainBack
namespace Go.Proofs.Ytiegbochpcmicaa
open Go.RowKit

/-- How many of the first j runes have bytes. -/
def vn (l : List Int) (j : Nat) : Nat := (vals (l.take j)).length
theorem vn_le (l : List Int) (j : Nat) : vn l j ≤ j := by
  unfold vn vals
  have h1 := List.length_filter_le (fun r => decide (wd r ≠ 0)) (l.take j)
  rw [List.length_take] at h1
  omega
theorem vals_take (l : List Int) (j : Nat) (h : j < l.length) : vals (l.take (j + 1)) = vals (l.take j) ++ (if wd (gz l j) = 0 then [] else [gz l j]) := by
  have e : l[j] = gz l j := by simp [gz, h]
  rw [List.take_succ_eq_append_getElem h, vals, vals, List.filter_append, e]
  by_cases hw : wd (gz l j) = 0 <;> simp [hw]
theorem vn_skip (l : List Int) (j : Nat) (h : j < l.length) (hw : wd (gz l j) = 0) : vn l (j + 1) = vn l j := by
  unfold vn; rw [vals_take l j h, if_pos hw, List.append_nil]
theorem vn_next (l : List Int) (j : Nat) (h : j < l.length) (hw : wd (gz l j) ≠ 0) : vn l (j + 1) = vn l j + 1 ∧ vn l j < (vals l).length ∧ gz (vals l) (vn l j) = gz l j := by
  have h1 : vn l (j + 1) = vn l j + 1 := by unfold vn; rw [vals_take l j h, if_neg hw]; simp
  have hsplit : vals l = vals (l.take (j + 1)) ++ vals (l.drop (j + 1)) := by
    unfold vals; rw [← List.filter_append, List.take_append_drop]
  refine ⟨h1, ?_, ?_⟩
  · rw [hsplit, List.length_append]; unfold vn at h1 ⊢; omega
  · rw [hsplit, vals_take l j h, if_neg hw]
    simp [gz, vn]
theorem vn_all (l : List Int) : vn l l.length = (vals l).length := by unfold vn; rw [List.take_length]
end Go.Proofs.Ytiegbochpcmicaa
