/- Plain facts on bytes each two of which are turned round. No condition. -/
import Derived.Test.YtiegbochpcmicaaPlain
namespace Go.Proofs.Ytiegbochpcmicaa

/-- The byte at a place, each two turned round. -/
def tz (zs : List Int) (j : Nat) : Int := if j % 2 = 0 then (if j + 1 < zs.length then gz zs (j + 1) else gz zs j) else gz zs (j - 1)
/-- The first i places turned. -/
def tw (zs : List Int) (i : Nat) : List Int := (List.range zs.length).map fun j => if j < i then tz zs j else gz zs j

theorem tw_len (zs : List Int) (i : Nat) : (tw zs i).length = zs.length := by simp [tw]
theorem tw_get? (zs : List Int) (i j : Nat) (hj : j < zs.length) : (tw zs i)[j]? = some (if j < i then tz zs j else gz zs j) := by
  simp [tw, List.getElem?_map, List.getElem?_range hj]
theorem gz_tw (zs : List Int) (i j : Nat) (hj : j < zs.length) : gz (tw zs i) j = if j < i then tz zs j else gz zs j := by
  rw [gz, List.getD_eq_getElem?_getD, tw_get? zs i j hj]; rfl
theorem gz_get? (zs : List Int) (j : Nat) (hj : j < zs.length) : zs[j]? = some (gz zs j) := by
  rw [gz, List.getD_eq_getElem?_getD, List.getElem?_eq_getElem hj]; rfl
theorem tw_zero (zs : List Int) : tw zs 0 = zs := by
  apply List.ext_getElem?
  intro j
  rcases Nat.lt_or_ge j zs.length with hj | hj
  · rw [tw_get? zs 0 j hj, if_neg (by omega), gz_get? zs j hj]
  · rw [List.getElem?_eq_none (by rw [tw_len]; exact hj), List.getElem?_eq_none hj]
theorem tw_step (zs : List Int) (i : Nat) (he : i % 2 = 0) (hi : i + 1 < zs.length) : ((tw zs i).set i (gz zs (i + 1))).set (i + 1) (gz zs i) = tw zs (i + 2) := by
  apply List.ext_getElem?
  intro j
  rcases Nat.lt_or_ge j zs.length with hj | hj
  · rw [tw_get? zs (i + 2) j hj, List.getElem?_set, List.getElem?_set]
    by_cases h1 : j = i + 1
    · subst h1
      rw [if_pos rfl, if_pos (by simp [tw_len]; omega), if_pos (by omega)]
      unfold tz
      rw [if_neg (by omega)]; rfl
    · rw [if_neg (by omega)]
      by_cases h2 : j = i
      · subst h2
        rw [if_pos rfl, if_pos (by rw [tw_len]; omega), if_pos (by omega)]
        unfold tz
        rw [if_pos he, if_pos hi]
      · rw [if_neg (by omega), tw_get? zs i j hj]
        by_cases h3 : j < i
        · rw [if_pos h3, if_pos (by omega)]
        · rw [if_neg h3, if_neg (by omega)]
  · rw [List.getElem?_eq_none (by simp [tw_len]; exact hj), List.getElem?_eq_none (by rw [tw_len]; exact hj)]
theorem tw_end (zs : List Int) (i : Nat) (he : i % 2 = 0) (hi : zs.length ≤ i + 1) : tw zs i = tw zs zs.length := by
  apply List.ext_getElem?
  intro j
  rcases Nat.lt_or_ge j zs.length with hj | hj
  · rw [tw_get? zs i j hj, tw_get? zs zs.length j hj, if_pos hj]
    by_cases h : j < i
    · rw [if_pos h]
    · rw [if_neg h]
      unfold tz
      rw [if_pos (by omega), if_neg (by omega)]
  · rw [List.getElem?_eq_none (by rw [tw_len]; exact hj), List.getElem?_eq_none (by rw [tw_len]; exact hj)]
theorem unit_turned (zs : List Int) (big : Bool) (p : Nat) (he : p % 2 = 0) (hp : p + 1 < zs.length) :
    unitOf (!big) (gz (tw zs zs.length) p) (gz (tw zs zs.length) (p + 1)) = unitOf big (gz zs p) (gz zs (p + 1)) := by
  rw [gz_tw _ _ _ (by omega), gz_tw _ _ _ hp, if_pos (by omega), if_pos hp]
  unfold tz
  rw [if_pos he, if_pos hp, if_neg (by omega)]
  cases big <;> simp [unitOf]
theorem wStep_turned (zs : List Int) (big : Bool) (p : Nat) (he : p % 2 = 0) (hp : p < zs.length) : wStep (tw zs zs.length) (!big) p = wStep zs big p := by
  unfold wStep
  rw [tw_len]
  by_cases h1 : p + 1 = zs.length
  · rw [if_pos h1, if_pos h1]
  · rw [if_neg h1, if_neg h1, unit_turned zs big p he (by omega)]
    by_cases h4 : zs.length < p + 4
    · by_cases hA : unitOf big (gz zs p) (gz zs (p + 1)) < 55296 ∨ 57343 < unitOf big (gz zs p) (gz zs (p + 1))
      · rw [if_pos hA, if_pos hA]
      · rw [if_neg hA, if_neg hA, if_pos (.inr h4), if_pos (.inr h4)]
    · rw [show p + 3 = p + 2 + 1 by omega, unit_turned zs big (p + 2) (by omega) (by omega)]
theorem wStep_even (zs : List Int) (big : Bool) (p : Nat) (he : p % 2 = 0) : (p + (wStep zs big p).2) % 2 = 0 ∨ p + (wStep zs big p).2 = zs.length := by
  unfold wStep
  repeat' split
  all_goals simp only []; omega
theorem go_turned (zs : List Int) (big : Bool) (k : Nat) : runGo (wStep (tw zs zs.length) (!big)) zs.length k = runGo (wStep zs big) zs.length k ∧ ((runGo (wStep zs big) zs.length k).2 % 2 = 0 ∨ (runGo (wStep zs big) zs.length k).2 = zs.length) := by
  induction k with
  | zero => exact ⟨rfl, .inl rfl⟩
  | succ k ih =>
    obtain ⟨ih1, ih2⟩ := ih
    by_cases h : (runGo (wStep zs big) zs.length k).2 < zs.length
    · have he : (runGo (wStep zs big) zs.length k).2 % 2 = 0 := by omega
      rw [runGo_succ h, runGo_succ (by rw [ih1]; exact h), ih1, wStep_turned zs big _ he h]
      exact ⟨rfl, wStep_even zs big _ he⟩
    · rw [runGo_stay (by rw [ih1]; omega), runGo_stay (by omega)]
      exact ⟨ih1, ih2⟩
theorem items_turned (zs : List Int) (big : Bool) : wItems (tw zs zs.length) (!big) = wItems zs big := by
  unfold wItems runItems
  rw [tw_len, (go_turned zs big zs.length).1]
theorem Bytes8.tw {zs : List Int} (h : Bytes8 zs) (i : Nat) : Bytes8 (tw zs i) := by
  intro z hz
  simp only [Go.Proofs.Ytiegbochpcmicaa.tw, List.mem_map, List.mem_range] at hz
  obtain ⟨j, _, rfl⟩ := hz
  split
  · unfold tz
    repeat' split
    all_goals exact h.at_ _
  · exact h.at_ _
theorem ints_set (k : IntKind) (zs : List Int) (j : Nat) (z : Int) : (ints k zs).set j (.int k z) = ints k (zs.set j z) := by
  simp [ints, List.map_set]
end Go.Proofs.Ytiegbochpcmicaa
