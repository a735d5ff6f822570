/- Plain facts: runes to units of sixteen bits and back. No condition. -/
import Derived.Test.YtiegbochpcmicaaC2
import Derived.Test.YtiegbochpcmicaaPlainBack2
namespace Go.Proofs.Ytiegbochpcmicaa
open Go.RowKit

theorem wd_pos3 {r : Int} (h : wd r ≠ 0) : 0 ≤ r ∧ r ≤ 1114111 ∧ (r < 55296 ∨ 57343 < r) := wd_pos h
theorem ub_at (big : Bool) (u : Int) (rest : List Int) : unitOf big (gz (ub big u ++ rest) 0) (gz (ub big u ++ rest) 1) = u ∧ ∀ j, gz (ub big u ++ rest) (j + 2) = gz rest j := by
  cases big <;> refine ⟨?_, fun j => ?_⟩ <;> simp [ub, gz, unitOf] <;> omega
theorem wStep_wenc (big : Bool) {r : Int} (rest : List Int) (h : wd r ≠ 0) : wStep (wenc big r ++ rest) big 0 = (r, ww r) := by
  obtain ⟨p0, p1, p2⟩ := wd_pos3 h
  by_cases h1 : r < 65536
  · have he : wenc big r = ub big r := by unfold wenc; rw [if_neg h, if_pos h1]
    have hw : ww r = 2 := by unfold ww; rw [if_neg h, if_pos h1]
    obtain ⟨e1, _⟩ := ub_at big r rest
    rw [he, hw]
    unfold wStep
    rw [if_neg (by rw [List.length_append, ub_len]; omega), Nat.zero_add, e1, if_pos (by omega)]
  · have he : wenc big r = ub big (55296 + (r - 65536) / 1024) ++ ub big (56320 + (r - 65536) % 1024) := by unfold wenc; rw [if_neg h, if_neg h1]
    have hw : ww r = 4 := by unfold ww; rw [if_neg h, if_neg h1]
    rw [he, hw, List.append_assoc]
    obtain ⟨e1, e2⟩ := ub_at big (55296 + (r - 65536) / 1024) (ub big (56320 + (r - 65536) % 1024) ++ rest)
    obtain ⟨e3, _⟩ := ub_at big (56320 + (r - 65536) % 1024) rest
    have hlen : (ub big (55296 + (r - 65536) / 1024) ++ (ub big (56320 + (r - 65536) % 1024) ++ rest)).length = rest.length + 4 := by
      rw [List.length_append, List.length_append, ub_len, ub_len]; omega
    have e4 := e2 0
    have e5 := e2 1
    unfold wStep
    rw [hlen, if_neg (by omega), show 0 + 1 = 1 from rfl, e1, if_neg (by omega), if_neg (by omega), show 0 + 2 = 0 + 2 from rfl, e4, show 0 + 3 = 1 + 2 from rfl, e5, e3, if_neg (by omega)]
    simp only [Prod.mk.injEq, and_true]
    omega
theorem wencs_vals (big : Bool) (l : List Int) : wencs big (vals l) = wencs big l := by
  induction l with
  | nil => rfl
  | cons a t ih =>
    by_cases h : wd a = 0
    · have : vals (a :: t) = vals t := by simp [vals, h]
      rw [this, ih]
      have hz : wenc big a = [] := by unfold wenc; rw [if_pos h]
      simp [wencs, hz]
    · have : vals (a :: t) = a :: vals t := by simp [vals, h]
      rw [this]
      simp only [wencs, List.flatMap_cons] at ih ⊢
      rw [ih]
theorem wencs_split (big : Bool) (l : List Int) (k : Nat) : wencs big l = wencs big (l.take k) ++ wencs big (l.drop k) := by
  rw [wencs, wencs, wencs, ← List.flatMap_append, List.take_append_drop]
theorem wencs_drop (big : Bool) (l : List Int) (k : Nat) : (wencs big l).drop (wws big l k) = wencs big (l.drop k) := by
  rw [wencs_split big l k, wws, List.drop_left]
theorem wStep_drop (zs : List Int) (big : Bool) (p : Nat) (hp : p < zs.length) : wStep (zs.drop p) big 0 = wStep zs big p := by
  have g : ∀ j, gz (zs.drop p) j = gz zs (p + j) := fun j => by simp [gz]
  have c1 : (0 + 1 = zs.length - p) ↔ (p + 1 = zs.length) := by omega
  have c2 : (zs.length - p < 0 + 4) ↔ (zs.length < p + 4) := by omega
  unfold wStep
  simp only [g, List.length_drop, c1, c2, Nat.zero_add, Nat.add_zero]
/-- The pieces of runes' units, one behind the other. -/
theorem go_wencs (big : Bool) (l : List Int) (hl : ∀ r ∈ l, wd r ≠ 0) (k : Nat) (hk : k ≤ l.length) :
    wGo (wencs big l) big k = ((List.range k).map fun i => (gz l i, wws big l i, ww (gz l i)), wws big l k) := by
  induction k with
  | zero => rfl
  | succ k ih =>
    have ih := ih (by omega)
    have hm : gz l k ∈ l := by
      have : gz l k = l[k] := by simp [gz, show k < l.length by omega]
      rw [this]; exact List.getElem_mem _
    have hpos := hl _ hm
    have hwp : 0 < ww (gz l k) := by
      unfold ww; rw [if_neg hpos]; split <;> omega
    have hlt : wws big l k < (wencs big l).length := by
      have h1 := wws_succ big l k (by omega)
      have h2 : wws big l (k + 1) ≤ (wencs big l).length := by
        rw [wencs_split big l (k + 1), List.length_append]; unfold wws; omega
      omega
    have hst : wStep (wencs big l) big (wws big l k) = (gz l k, ww (gz l k)) := by
      rw [← wStep_drop _ _ _ hlt, wencs_drop, List.drop_eq_getElem_cons (show k < l.length by omega)]
      simp only [wencs, List.flatMap_cons]
      have : l[k] = gz l k := by simp [gz, show k < l.length by omega]
      rw [this]
      exact wStep_wenc big _ hpos
    have ih' : runGo (wStep (wencs big l) big) (wencs big l).length k = ((List.range k).map fun i => (gz l i, wws big l i, ww (gz l i)), wws big l k) := ih
    show runGo (wStep (wencs big l) big) (wencs big l).length (k + 1) = _
    rw [runGo_succ (by rw [ih']; exact hlt), ih', hst, List.range_succ, List.map_append, wws_succ big l k (by omega)]
    rfl
theorem items_wencs (big : Bool) (l : List Int) (hl : ∀ r ∈ l, wd r ≠ 0) : wItems (wencs big l) big = (List.range l.length).map fun i => (gz l i, wws big l i, ww (gz l i)) := by
  have h := go_wencs big l hl l.length (Nat.le_refl _)
  have := runGo_all (wStep_good (wencs big l) big) (k := l.length) (by
    rw [show runGo (wStep (wencs big l) big) (wencs big l).length l.length = wGo (wencs big l) big l.length from rfl, h]
    unfold wws; rw [List.take_length]; exact Nat.le_refl _)
  rw [show runGo (wStep (wencs big l) big) (wencs big l).length l.length = wGo (wencs big l) big l.length from rfl, h] at this
  exact this.symm
theorem wback_len (big : Bool) (l : List Int) : (wItems (wencs big l) big).length = (vals l).length := by
  rw [← wencs_vals, items_wencs big _ (vals_ok l)]; simp
theorem wback_get (big : Bool) (l : List Int) (k : Nat) (hk : k < (wItems (wencs big l) big).length) : (wItems (wencs big l) big)[k].1 = gz (vals l) k ∧ (wItems (wencs big l) big)[k].2.2 = ww (gz (vals l) k) := by
  have h := items_wencs big _ (vals_ok l)
  rw [wencs_vals] at h
  simp only [h, List.getElem_map, List.getElem_range, and_self]
theorem wencs_bytes (big : Bool) (l : List Int) : Bytes8 (wencs big l) := by
  intro z hz
  simp only [wencs, List.mem_flatMap] at hz
  obtain ⟨r, _, hz⟩ := hz
  have hu : ∀ u : Int, 0 ≤ u → u ≤ 65535 → ∀ z ∈ ub big u, 0 ≤ z ∧ z ≤ 255 := by
    intro u h0 h1 z hz
    cases big <;> simp [ub] at hz <;> omega
  rcases ww_cases r with ⟨_, he⟩ | ⟨_, h0, h1, he⟩ | ⟨_, h0, h1, he⟩
  · rw [he] at hz; simp at hz
  · rw [he] at hz; exact hu r h0 (by omega) z hz
  · rw [he, List.mem_append] at hz
    rcases hz with hz | hz
    · exact hu _ (by omega) (by omega) z hz
    · exact hu _ (by omega) (by omega) z hz
end Go.Proofs.Ytiegbochpcmicaa
