/- What a decoded text is, in plain words. No condition. -/
import Derived.Test.YtiegbochpcmicaaD4
import Derived.Test.YtiegbochpcmicaaB3
namespace Go.Proofs.Ytiegbochpcmicaa
open Go.RowKit

/-- How many bytes say so. -/
def dBom (zs : List Int) : Nat := (pKind zs).2.toNat
/-- The pieces behind the mark. -/
def dItems (zs : List Int) : List It := pItems (pKind zs).1 (zs.drop (dBom zs))
/-- The runes of pieces. -/
def runesOf (l : List It) : List Int := l.map (·.1)
/-- The places of pieces, behind a mark of b bytes. -/
def offsOf (b : Nat) (l : List It) : List Int := l.map fun x => ((x.2.1 + b : Nat) : Int)
def decR (zs : List Int) : List Int := runesOf (dItems zs)
def decOff (zs : List Int) : List Int := offsOf (dBom zs) (dItems zs) ++ [(zs.length : Int)]

theorem beg_len {zs sl : List Int} (h : beg zs sl = true) : sl.length ≤ zs.length := by
  unfold beg at h
  rw [decide_eq_true_iff] at h
  have := congrArg List.length h
  rw [List.length_take] at this
  omega
theorem pKind_bd (zs : List Int) : 0 ≤ (pKind zs).1 ∧ (pKind zs).1 ≤ 2 ∧ 0 ≤ (pKind zs).2 ∧ (pKind zs).2 ≤ 3 ∧ (pKind zs).2 ≤ zs.length := by
  unfold pKind
  repeat' split
  all_goals (try (have hb := beg_len (by assumption))); simp at *; try omega
theorem dBom_eq (zs : List Int) : (pKind zs).2 = (dBom zs : Int) := by have := pKind_bd zs; unfold dBom; omega
theorem dBom_le (zs : List Int) : dBom zs ≤ zs.length ∧ dBom zs ≤ 3 := by have := pKind_bd zs; have := dBom_eq zs; omega

theorem pItems_le (kind : Int) {zs : List Int} (hz : Bytes8 zs) : (pItems kind zs).length ≤ zs.length := by
  unfold pItems
  split
  · exact sItems_le hz
  · split
    · exact runItems_len_le (wStep_good zs true)
    · split
      · exact runItems_len_le (wStep_good zs false)
      · simp
theorem dItems_le {zs : List Int} (hz : Bytes8 zs) : (dItems zs).length ≤ zs.length := by
  have := pItems_le (pKind zs).1 (hz.drop (dBom zs))
  rw [List.length_drop] at this
  unfold dItems
  omega
/-- Pieces lie one behind the other: G k is where the k-th one begins. -/
theorem pItems_chain (kind : Int) (hk : 0 ≤ kind ∧ kind ≤ 2) {zs : List Int} (hz : Bytes8 zs) : ∃ G : Nat → Nat, G 0 = 0 ∧ G (pItems kind zs).length = zs.length ∧
    ∀ k (h : k < (pItems kind zs).length), (pItems kind zs)[k].2.1 = G k ∧ G k + (pItems kind zs)[k].2.2 = G (k + 1) ∧ 1 ≤ (pItems kind zs)[k].2.2 ∧ G (k + 1) ≤ zs.length := by
  have key : ∀ step : Nat → Int × Nat, Good step zs.length → ∃ G : Nat → Nat, G 0 = 0 ∧ G (runItems step zs.length).length = zs.length ∧
    ∀ k (h : k < (runItems step zs.length).length), (runItems step zs.length)[k].2.1 = G k ∧ G k + (runItems step zs.length)[k].2.2 = G (k + 1) ∧ 1 ≤ (runItems step zs.length)[k].2.2 ∧ G (k + 1) ≤ zs.length := by
    intro step hg
    refine ⟨fun k => (runGo step zs.length k).2, rfl, runItems_last hg, fun k h => ?_⟩
    obtain ⟨h1, h2, h3⟩ := runItems_get (step := step) (n := zs.length) k h
    have hgd := hg _ h1
    rw [h2]
    exact ⟨rfl, h3.symm, hgd.1, Nat.le_trans (Nat.le_of_eq h3) hgd.2⟩
  rcases (show kind = 0 ∨ kind = 1 ∨ kind = 2 by omega) with rfl | rfl | rfl
  · exact key _ (sStep_good hz)
  · exact key _ (wStep_good zs true)
  · exact key _ (wStep_good zs false)
theorem pItems_at (kind : Int) (hk : 0 ≤ kind ∧ kind ≤ 2) {zs : List Int} (hz : Bytes8 zs) (k : Nat) (h : k < (pItems kind zs).length) : (pItems kind zs)[k].2.1 ≤ zs.length := by
  obtain ⟨G, _, _, hG⟩ := pItems_chain kind hk hz
  obtain ⟨h1, h2, h3, h4⟩ := hG k h
  omega
theorem runesOf_snoc (l : List It) (k : Nat) (h : k < l.length) : runesOf (l.take (k + 1)) = runesOf (l.take k) ++ [l[k].1] := by
  unfold runesOf
  rw [List.take_succ_eq_append_getElem h, List.map_append]; rfl
theorem offsOf_snoc (b : Nat) (l : List It) (k : Nat) (h : k < l.length) : offsOf b (l.take (k + 1)) = offsOf b (l.take k) ++ [((l[k].2.1 + b : Nat) : Int)] := by
  unfold offsOf
  rw [List.take_succ_eq_append_getElem h, List.map_append]; rfl
theorem decR_len (zs : List Int) : (decR zs).length = (dItems zs).length := by simp [decR, runesOf]
theorem decOff_len (zs : List Int) : (decOff zs).length = (dItems zs).length + 1 := by simp [decOff, offsOf]
end Go.Proofs.Ytiegbochpcmicaa
