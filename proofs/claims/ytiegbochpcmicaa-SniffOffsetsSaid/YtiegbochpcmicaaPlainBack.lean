/- Plain facts: runes to bytes and back. No condition. -/
import Derived.Test.YtiegbochpcmicaaPlainFirst
namespace Go.Proofs.Ytiegbochpcmicaa
open Go.RowKit

theorem sStep_enc {r : Int} (rest : List Int) (h : wd r ≠ 0) : sStep (enc r ++ rest) 0 = (r, wd r) := by
  have hp := wd_pos h
  have hl := enc_len r
  by_cases c1 : r < 128
  · have hw : wd r = 1 := by unfold wd; rw [if_neg (by omega), if_pos c1]
    have he := (enc_at1 (v := r) (a := r)).2 ⟨by omega, c1, rfl⟩
    rw [he, hw]
    unfold sStep
    rw [dec_one (by simp [gz]; omega)]
    simp [gz]
  · by_cases c2 : r < 2048
    · have hw : wd r = 2 := by unfold wd; rw [if_neg (by omega), if_neg c1, if_pos c2]
      have he := (enc_at2 (v := r)).2 ⟨by omega, c2, rfl, rfl⟩
      rw [he, hw]
      unfold sStep
      rw [dec_two (by simp [gz]; omega)]
      simp [gz]; omega
    · by_cases c3 : r < 65536
      · have hw : wd r = 3 := by unfold wd; rw [if_neg (by omega), if_neg c1, if_neg c2, if_pos c3]
        have he := (enc_at3 (v := r)).2 ⟨by omega, c3, by omega, rfl, rfl, rfl⟩
        rw [he, hw]
        unfold sStep
        rw [dec_three (by simp [gz]; omega)]
        simp [gz]; omega
      · have hw : wd r = 4 := by unfold wd; rw [if_neg (by omega), if_neg c1, if_neg c2, if_neg c3]
        have he := (enc_at4 (v := r)).2 ⟨by omega, by omega, rfl, rfl, rfl, rfl⟩
        rw [he, hw]
        unfold sStep
        rw [dec_four (by simp [gz]; omega)]
        simp [gz]; omega

/-- Those runes that have bytes. -/
def vals (l : List Int) : List Int := l.filter fun r => decide (wd r ≠ 0)
theorem encs_vals (l : List Int) : encs (vals l) = encs l := by
  induction l with
  | nil => rfl
  | cons a t ih =>
    by_cases h : wd a = 0
    · have : vals (a :: t) = vals t := by simp [vals, h]
      rw [this, ih]
      simp [encs, enc_zero h]
    · have : vals (a :: t) = a :: vals t := by simp [vals, h]
      rw [this]
      simp only [encs, List.flatMap_cons] at ih ⊢
      rw [ih]
theorem vals_ok (l : List Int) : ∀ r ∈ vals l, wd r ≠ 0 := by
  intro r hr
  simpa [vals] using (List.mem_filter.1 hr).2
theorem encs_drop (l : List Int) (k : Nat) : (encs l).drop (wds l k) = encs (l.drop k) := by
  have : encs l = encs (l.take k) ++ encs (l.drop k) := by
    rw [encs, encs, encs, ← List.flatMap_append, List.take_append_drop]
  rw [this, wds, List.drop_left]
theorem sStep_drop' (zs : List Int) (p : Nat) : sStep (zs.drop p) 0 = sStep zs p := by
  have g : ∀ j, gz (zs.drop p) j = gz zs (p + j) := fun j => by simp [gz]
  unfold sStep
  rw [g, g, g, g, List.length_drop]
  simp
/-- The pieces of runes' bytes, one behind the other. -/
theorem go_encs (l : List Int) (hl : ∀ r ∈ l, wd r ≠ 0) (k : Nat) (hk : k ≤ l.length) :
    sGo (encs l) k = ((List.range k).map fun i => (gz l i, wds l i, wd (gz l i)), wds l k) := by
  induction k with
  | zero => rfl
  | succ k ih =>
    have ih := ih (by omega)
    have hm : gz l k ∈ l := by
      have : gz l k = l[k] := by simp [gz, show k < l.length by omega]
      rw [this]; exact List.getElem_mem _
    have hpos := hl _ hm
    have hst : sStep (encs l) (wds l k) = (gz l k, wd (gz l k)) := by
      rw [← sStep_drop', encs_drop, List.drop_eq_getElem_cons (show k < l.length by omega)]
      simp only [encs, List.flatMap_cons]
      have : l[k] = gz l k := by simp [gz, show k < l.length by omega]
      rw [this]
      exact sStep_enc _ hpos
    have hlt : wds l k < (encs l).length := by
      have h1 := wds_succ l k (by omega)
      have h2 : wds l (k + 1) ≤ (encs l).length := by
        have : encs l = encs (l.take (k + 1)) ++ encs (l.drop (k + 1)) := by
          rw [encs, encs, encs, ← List.flatMap_append, List.take_append_drop]
        rw [this, List.length_append]; unfold wds; omega
      omega
    show runGo (sStep (encs l)) (encs l).length (k + 1) = _
    have ih' : runGo (sStep (encs l)) (encs l).length k = ((List.range k).map fun i => (gz l i, wds l i, wd (gz l i)), wds l k) := ih
    rw [runGo_succ (by rw [ih']; exact hlt), ih', hst, List.range_succ, List.map_append, wds_succ l k (by omega)]
    rfl
theorem items_encs (l : List Int) (hl : ∀ r ∈ l, wd r ≠ 0) : sItems (encs l) = (List.range l.length).map fun i => (gz l i, wds l i, wd (gz l i)) := by
  have h := go_encs l hl l.length (Nat.le_refl _)
  have := runGo_all (sStep_good (encs_bytes l)) (k := l.length) (by
    rw [show runGo (sStep (encs l)) (encs l).length l.length = sGo (encs l) l.length from rfl, h]
    unfold wds; rw [List.take_length]; exact Nat.le_refl _)
  rw [show runGo (sStep (encs l)) (encs l).length l.length = sGo (encs l) l.length from rfl, h] at this
  exact this.symm
theorem back_len (l : List Int) : (sItems (encs l)).length = (vals l).length := by
  rw [← encs_vals, items_encs _ (vals_ok l)]; simp
theorem back_get (l : List Int) (k : Nat) (hk : k < (sItems (encs l)).length) : (sItems (encs l))[k].1 = gz (vals l) k := by
  have h := items_encs _ (vals_ok l)
  rw [encs_vals] at h
  simp only [h, List.getElem_map, List.getElem_range]

/-- A piece's bytes are its rune's. -/
theorem enc_step {zs : List Int} (hz : Bytes8 zs) {p : Nat} (hp : p < zs.length) {r : Int} {m : Nat} (h : sStep zs p = (r, m)) (hr : r ≠ -1) : enc r = (zs.drop p).take m := by
  rw [← sStep_drop'] at h
  have hz' := hz.drop p
  have hl : 1 ≤ (zs.drop p).length := by simp; omega
  generalize zs.drop p = ys at h hz' hl
  have b0 := hz'.at_ 0
  unfold sStep at h
  simp only [Nat.sub_zero, Nat.zero_add] at h
  unfold dec at h
  split at h
  · injection h with h1 h2
    subst h1; subst h2
    rw [take_one hl, enc_at1]; omega
  · split at h
    · injection h with h1 h2
      subst h1; subst h2
      rw [take_two (by omega), enc_at2]; omega
    · split at h
      · injection h with h1 h2
        subst h1; subst h2
        rw [take_three (by omega), enc_at3]; omega
      · split at h
        · injection h with h1 h2
          subst h1; subst h2
          rw [take_four (by omega), enc_at4]; omega
        · injection h with h1 h2
          exact absurd h1.symm hr
/-- The first k pieces' runes' bytes: the bytes up to there, if all are runes; fewer than these, else. -/
theorem encs_go {zs : List Int} (hz : Bytes8 zs) (k : Nat) :
    ((sGo zs k).1.all (fun x => decide (x.1 ≠ -1)) = true → encs ((sGo zs k).1.map (·.1)) = zs.take (sGo zs k).2) ∧
    ((sGo zs k).1.all (fun x => decide (x.1 ≠ -1)) = false → (encs ((sGo zs k).1.map (·.1))).length < (sGo zs k).2) ∧ (encs ((sGo zs k).1.map (·.1))).length ≤ (sGo zs k).2 := by
  induction k with
  | zero => exact ⟨fun _ => rfl, fun h => by simp [runGo] at h, Nat.le_refl _⟩
  | succ k ih =>
    obtain ⟨i1, i2, i3⟩ := ih
    by_cases hlt : (runGo (sStep zs) zs.length k).2 < zs.length
    · have hs := runGo_succ hlt
      have hg := sStep_good hz _ hlt
      obtain ⟨_, f2, f3, _, _⟩ := sStep_facts hz hlt
      have hE := fun hr => enc_step hz hlt (r := (sStep zs (runGo (sStep zs) zs.length k).2).1) (m := (sStep zs (runGo (sStep zs) zs.length k).2).2) rfl hr
      simp only [sGo] at i1 i2 i3 ⊢
      rw [hs]
      generalize runGo (sStep zs) zs.length k = g at *
      obtain ⟨acc, p⟩ := g
      simp only at *
      generalize sStep zs p = st at *
      obtain ⟨r, m⟩ := st
      simp only at *
      have hl := enc_len r
      have e1 : encs ((acc ++ [(r, p, m)]).map (·.1)) = encs (acc.map (·.1)) ++ enc r := by simp [encs]
      rw [e1, List.all_append, List.length_append]
      by_cases hr : r = -1
      · have hm := f2 hr
        have hw : wd r = 0 := by subst hr; rfl
        refine ⟨fun h => ?_, fun _ => by omega, by omega⟩
        simp [hr] at h
      · have hw := f3 hr
        refine ⟨fun h => ?_, fun h => ?_, by omega⟩
        · rw [i1 (by simp only [Bool.and_eq_true] at h; exact h.1), hE hr, List.take_add]
        · have : acc.all (fun x => decide (x.1 ≠ -1)) = false := by simpa [hr] using h
          have := i2 this
          omega
    · simp only [sGo] at i1 i2 i3 ⊢
      rw [runGo_stay (by omega)]
      exact ⟨i1, i2, i3⟩
theorem encs_items {zs : List Int} (hz : Bytes8 zs) : decide (encs ((sItems zs).map (·.1)) = zs) = (sItems zs).all (fun x => decide (x.1 ≠ -1)) := by
  obtain ⟨h1, h2, _⟩ := encs_go hz zs.length
  have he : (sGo zs zs.length).2 = zs.length := runGo_end (sStep_good hz)
  have hi : (sGo zs zs.length).1 = sItems zs := rfl
  rw [he, hi] at h1 h2
  cases hb : (sItems zs).all (fun x => decide (x.1 ≠ -1)) with
  | true => rw [decide_eq_true_eq, h1 hb, List.take_length]
  | false =>
    rw [decide_eq_false_iff_not]
    intro h
    have := h2 hb
    rw [h] at this
    omega
end Go.Proofs.Ytiegbochpcmicaa
