/- Plain facts, no program in sight: pieces that lie one behind the other ('runGo'), the units of sixteen bits ('wStep'). No condition. -/
import Derived.Test.YtiegbochpcmicaaMem
namespace Go.Proofs.Ytiegbochpcmicaa

/-- A piece: its rune, where it begins, how many bytes it has. -/
abbrev It := Int × Nat × Nat

/-- Pieces as cells. -/
def flat (l : List It) : List Value := l.flatMap fun x => [.int .i32 x.1, .int .i64 x.2.1, .int .i64 x.2.2]
theorem flat_nil : flat [] = [] := rfl
theorem flat_append (l m : List It) : flat (l ++ m) = flat l ++ flat m := by simp [flat]
theorem flat_one (r : Int) (o n : Nat) : flat [(r, o, n)] = [.int .i32 r, .int .i64 o, .int .i64 n] := rfl
theorem flat_len (l : List It) : (flat l).length = l.length * 3 := by
  induction l with
  | nil => rfl
  | cons a t ih => simp [flat] at ih ⊢; omega
theorem flat_get (l : List It) (i : Nat) (hi : i < l.length) : (flat l)[i * 3]? = some (.int .i32 (l[i].1)) ∧ (flat l)[i * 3 + 1]? = some (.int .i64 (l[i].2.1)) ∧ (flat l)[i * 3 + 2]? = some (.int .i64 (l[i].2.2)) := by
  induction l generalizing i with
  | nil => simp at hi
  | cons a t ih =>
    have hf : flat (a :: t) = .int .i32 a.1 :: .int .i64 a.2.1 :: .int .i64 a.2.2 :: flat t := rfl
    cases i with
    | zero => simp [hf]
    | succ i =>
      have := ih i (by simpa using hi)
      rw [hf, show (i + 1) * 3 = i * 3 + 1 + 1 + 1 by omega, show i * 3 + 1 + 1 + 1 + 1 = (i * 3 + 1) + 1 + 1 + 1 by omega, show i * 3 + 1 + 1 + 1 + 2 = (i * 3 + 2) + 1 + 1 + 1 by omega]
      simpa only [List.getElem?_cons_succ, List.getElem_cons_succ] using this

/-- After k rounds: the pieces so far, and where one stands. -/
def runGo (step : Nat → Int × Nat) (n : Nat) : Nat → List It × Nat
  | 0 => ([], 0)
  | k + 1 => if (runGo step n k).2 < n then ((runGo step n k).1 ++ [((step (runGo step n k).2).1, (runGo step n k).2, (step (runGo step n k).2).2)], (runGo step n k).2 + (step (runGo step n k).2).2) else runGo step n k

def runItems (step : Nat → Int × Nat) (n : Nat) : List It := (runGo step n n).1

/-- Each step goes on, and not beyond the end. -/
def Good (step : Nat → Int × Nat) (n : Nat) : Prop := ∀ p, p < n → 1 ≤ (step p).2 ∧ p + (step p).2 ≤ n

section
variable {step : Nat → Int × Nat} {n : Nat}
theorem runGo_succ {k : Nat} (h : (runGo step n k).2 < n) : runGo step n (k + 1) = ((runGo step n k).1 ++ [((step (runGo step n k).2).1, (runGo step n k).2, (step (runGo step n k).2).2)], (runGo step n k).2 + (step (runGo step n k).2).2) := by
  rw [runGo, if_pos h]
theorem runGo_stay {k : Nat} (h : n ≤ (runGo step n k).2) : runGo step n (k + 1) = runGo step n k := by
  rw [runGo, if_neg (by omega)]
theorem runGo_le (hg : Good step n) (k : Nat) : (runGo step n k).2 ≤ n := by
  induction k with
  | zero => simp [runGo]
  | succ k ih =>
    by_cases h : (runGo step n k).2 < n
    · rw [runGo_succ h]; exact (hg _ h).2
    · rw [runGo_stay (by omega)]; exact ih
theorem runGo_len_le (hg : Good step n) (k : Nat) : (runGo step n k).1.length ≤ (runGo step n k).2 := by
  induction k with
  | zero => simp [runGo]
  | succ k ih =>
    by_cases h : (runGo step n k).2 < n
    · rw [runGo_succ h]; have := (hg _ h).1; simp; omega
    · rw [runGo_stay (by omega)]; exact ih
theorem runGo_stop {k m : Nat} (h : n ≤ (runGo step n k).2) (hm : k ≤ m) : runGo step n m = runGo step n k := by
  induction m with
  | zero => have : k = 0 := by omega
            subst this; rfl
  | succ m ih =>
    by_cases he : k = m + 1
    · subst he; rfl
    · have := ih (by omega)
      rw [runGo_stay (by rw [this]; exact h), this]
theorem runGo_far (hg : Good step n) (k : Nat) : k ≤ (runGo step n k).2 ∨ n ≤ (runGo step n k).2 := by
  induction k with
  | zero => simp
  | succ k ih =>
    by_cases h : (runGo step n k).2 < n
    · rw [runGo_succ h]; have := (hg _ h).1; simp only; omega
    · rw [runGo_stay (by omega)]; omega
theorem runGo_end (hg : Good step n) : (runGo step n n).2 = n := by
  have := runGo_far hg n; have := runGo_le hg n; omega
theorem runGo_all (hg : Good step n) {k : Nat} (h : n ≤ (runGo step n k).2) : (runGo step n k).1 = runItems step n := by
  have he := runGo_end hg
  rcases Nat.le_total k n with hk | hk
  · rw [runItems, runGo_stop h hk]
  · rw [runItems, runGo_stop (by omega) hk]
theorem runItems_len_le (hg : Good step n) : (runItems step n).length ≤ n := by
  have := runGo_len_le hg n; rw [runGo_end hg] at this; exact this
theorem runGo_prefix {k m : Nat} (hm : k ≤ m) : ∃ t, (runGo step n m).1 = (runGo step n k).1 ++ t := by
  induction m with
  | zero => have : k = 0 := by omega
            subst this; exact ⟨[], by simp⟩
  | succ m ih =>
    by_cases he : k = m + 1
    · subst he; exact ⟨[], by simp⟩
    · obtain ⟨t, ht⟩ := ih (by omega)
      by_cases h : (runGo step n m).2 < n
      · rw [runGo_succ h]; exact ⟨t ++ [((step (runGo step n m).2).1, (runGo step n m).2, (step (runGo step n m).2).2)], by simp [ht]⟩
      · rw [runGo_stay (by omega)]; exact ⟨t, ht⟩
theorem runGo_len {k : Nat} (h : (runGo step n k).2 < n) : (runGo step n k).1.length = k := by
  induction k with
  | zero => rfl
  | succ k ih =>
    by_cases h' : (runGo step n k).2 < n
    · rw [runGo_succ h']; simp [ih h']
    · rw [runGo_stay (by omega)] at h; omega
theorem runGo_len_gt {k : Nat} (h : k < (runGo step n n).1.length) : (runGo step n k).2 < n := by
  by_cases h' : (runGo step n k).2 < n
  · exact h'
  · exfalso
    have key : ∀ m, (runGo step n m).1.length ≤ m := by
      intro m
      induction m with
      | zero => simp [runGo]
      | succ m ih =>
        by_cases hh : (runGo step n m).2 < n
        · rw [runGo_succ hh]; simp; omega
        · rw [runGo_stay (by omega)]; omega
    have h1 := key n
    rw [runGo_stop (k := k) (by omega) (by omega)] at h
    have := key k
    omega
/-- The i-th piece, and where the next one begins. -/
theorem runItems_get (i : Nat) (hi : i < (runItems step n).length) :
    (runGo step n i).2 < n ∧ (runItems step n)[i] = ((step (runGo step n i).2).1, (runGo step n i).2, (step (runGo step n i).2).2) ∧ (runGo step n (i + 1)).2 = (runGo step n i).2 + (step (runGo step n i).2).2 := by
  have h := runGo_len_gt (step := step) (n := n) hi
  refine ⟨h, ?_, by rw [runGo_succ h]⟩
  have hin : i + 1 ≤ n := by
    have key : ∀ m, (runGo step n m).1.length ≤ m := by
      intro m
      induction m with
      | zero => simp [runGo]
      | succ m ih =>
        by_cases hh : (runGo step n m).2 < n
        · rw [runGo_succ hh]; simp; omega
        · rw [runGo_stay (by omega)]; omega
    have := key n; unfold runItems at hi; omega
  obtain ⟨t, ht⟩ := runGo_prefix (step := step) (n := n) hin
  rw [runGo_succ h] at ht
  have hl := runGo_len h
  have : (runItems step n)[i]? = some ((step (runGo step n i).2).1, (runGo step n i).2, (step (runGo step n i).2).2) := by
    rw [runItems, ht]
    simp [hl]
  rw [List.getElem?_eq_getElem hi] at this
  exact Option.some.inj this
theorem runItems_last (hg : Good step n) : (runGo step n (runItems step n).length).2 = n := by
  by_cases h : (runGo step n (runItems step n).length).2 < n
  · exfalso
    have hl := runGo_len h
    have hs := runGo_succ h
    have hle := runItems_len_le hg
    by_cases he : (runItems step n).length = n
    · rw [he] at h; have := runGo_end hg; omega
    · obtain ⟨t, ht⟩ := runGo_prefix (step := step) (n := n) (show (runItems step n).length + 1 ≤ n by omega)
      have h1 : (runGo step n n).1.length = (runItems step n).length := rfl
      rw [ht, hs] at h1
      simp [hl] at h1
  · have := runGo_le hg (runItems step n).length; omega
end

/-- A unit's number. -/
def unitOf (big : Bool) (a b : Int) : Int := if big then 256 * a + b else 256 * b + a
theorem unitOf_bd {big : Bool} {a b : Int} (ha : 0 ≤ a ∧ a ≤ 255) (hb : 0 ≤ b ∧ b ≤ 255) : 0 ≤ unitOf big a b ∧ unitOf big a b ≤ 65535 := by
  unfold unitOf; split <;> omega

def Bytes8 (zs : List Int) : Prop := ∀ z ∈ zs, 0 ≤ z ∧ z ≤ 255
theorem Bytes8.at_ {zs : List Int} (h : Bytes8 zs) (j : Nat) : 0 ≤ gz zs j ∧ gz zs j ≤ 255 := by
  rw [gz, List.getD_eq_getElem?_getD]
  rcases Nat.lt_or_ge j zs.length with hj | hj
  · rw [List.getElem?_eq_getElem hj]; exact h _ (List.getElem_mem hj)
  · rw [List.getElem?_eq_none hj]; simp
theorem Bytes8.take {zs : List Int} (h : Bytes8 zs) (k : Nat) : Bytes8 (zs.take k) := fun z hz => h z (List.mem_of_mem_take hz)
theorem Bytes8.drop {zs : List Int} (h : Bytes8 zs) (k : Nat) : Bytes8 (zs.drop k) := fun z hz => h z (List.mem_of_mem_drop hz)

/-- The piece of units at a place. -/
def wStep (zs : List Int) (big : Bool) (p : Nat) : Int × Nat :=
  if p + 1 = zs.length then (-1, 1)
  else if unitOf big (gz zs p) (gz zs (p + 1)) < 55296 ∨ 57343 < unitOf big (gz zs p) (gz zs (p + 1)) then (unitOf big (gz zs p) (gz zs (p + 1)), 2)
  else if 56319 < unitOf big (gz zs p) (gz zs (p + 1)) ∨ zs.length < p + 4 then (-1, 2)
  else if unitOf big (gz zs (p + 2)) (gz zs (p + 3)) < 56320 ∨ 57343 < unitOf big (gz zs (p + 2)) (gz zs (p + 3)) then (-1, 2)
  else (65536 + 1024 * (unitOf big (gz zs p) (gz zs (p + 1)) - 55296) + (unitOf big (gz zs (p + 2)) (gz zs (p + 3)) - 56320), 4)
theorem wStep_good (zs : List Int) (big : Bool) : Good (wStep zs big) zs.length := by
  intro p hp
  unfold wStep
  repeat' split
  all_goals simp only []; omega
abbrev wGo (zs : List Int) (big : Bool) (k : Nat) := runGo (wStep zs big) zs.length k
def wItems (zs : List Int) (big : Bool) : List It := runItems (wStep zs big) zs.length

theorem flat_cells (l : List It) : ∀ u ∈ flat l, u.oneCell' = true := by
  intro u hu
  simp only [flat, List.mem_flatMap] at hu
  obtain ⟨x, _, hx⟩ := hu
  simp at hx
  rcases hx with rfl | rfl | rfl <;> rfl
theorem flat_snoc (acc : List It) (x : It) : flat acc ++ flat [x] = flat (acc ++ [x]) := (flat_append _ _).symm

open Go.RowKit in
/-- A slice of pieces with an element: where it lies, and each piece's three cells. -/
theorem Rd.it_form {w : World} {B n c : Nat} {A : Option Addr} {l : List It} (h : Rd w B 3 A n c (flat l)) (hn : 0 < n) :
    ∃ b off, A = some ⟨b, off, none⟩ ∧ b < B ∧ ∀ i (hi : i < l.length), w.cell? ⟨b, off + i * 3, none⟩ = some (.int .i32 l[i].1) ∧ w.cell? ⟨b, off + i * 3 + 1, none⟩ = some (.int .i64 l[i].2.1) ∧ w.cell? ⟨b, off + i * 3 + 2, none⟩ = some (.int .i64 l[i].2.2) := by
  obtain ⟨b, off, e, hb, hc⟩ := h.at_ hn
  refine ⟨b, off, e, hb, fun i hi => ?_⟩
  obtain ⟨h0, h1, h2⟩ := flat_get l i hi
  exact ⟨hc _ _ h0, by rw [Nat.add_assoc]; exact hc _ _ h1, by rw [Nat.add_assoc]; exact hc _ _ h2⟩
theorem Rd.it_len {w : World} {B n c : Nat} {A : Option Addr} {l : List It} (h : Rd w B 3 A n c (flat l)) : l.length = n := by
  have := h.len; rw [flat_len] at this; omega

theorem Bytes8.of_wf {zs : List Int} (h : ∀ n ∈ zs, (Lit.int .u8 n).wf = true) : Bytes8 zs := by
  intro z hz
  have := h z hz
  simp [Lit.wf] at this
  have h1 : IntKind.u8.min = 0 := rfl
  have h2 : IntKind.u8.max = 255 := rfl
  omega
/-- Runes as int32 holds them. -/
def Runes (zs : List Int) : Prop := ∀ z ∈ zs, -2147483648 ≤ z ∧ z ≤ 2147483647
theorem Runes.of_wf {zs : List Int} (h : ∀ n ∈ zs, (Lit.int .i32 n).wf = true) : Runes zs := by
  intro z hz
  have := h z hz
  simp [Lit.wf] at this
  have h1 : IntKind.i32.min = -2147483648 := rfl
  have h2 : IntKind.i32.max = 2147483647 := rfl
  omega
theorem Runes.at_ {zs : List Int} (h : Runes zs) (j : Nat) : -2147483648 ≤ gz zs j ∧ gz zs j ≤ 2147483647 := by
  rw [gz, List.getD_eq_getElem?_getD]
  rcases Nat.lt_or_ge j zs.length with hj | hj
  · rw [List.getElem?_eq_getElem hj]; exact h _ (List.getElem_mem hj)
  · rw [List.getElem?_eq_none hj]; simp
theorem Runes.take {zs : List Int} (h : Runes zs) (k : Nat) : Runes (zs.take k) := fun z hz => h z (List.mem_of_mem_take hz)
end Go.Proofs.Ytiegbochpcmicaa
