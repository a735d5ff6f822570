/- Runes' bytes of a kind and back, in plain words. No condition. -/
import Derived.Test.YtiegbochpcmicaaD2
import Derived.Test.YtiegbochpcmicaaPlainBack2
import Derived.Test.YtiegbochpcmicaaPlainWB
import Derived.Test.YtiegbochpcmicaaPlainDec
namespace Go.Proofs.Ytiegbochpcmicaa
open Go.RowKit

theorem pEnc_len (kind : Int) (l : List Int) : (pEnc kind l).length ≤ 4 * l.length := by
  unfold pEnc
  split
  · exact encs_len_le l
  · split
    · exact wencs_len_le true l
    · split
      · exact wencs_len_le false l
      · simp
theorem pEnc_bytes (kind : Int) (l : List Int) : Bytes8 (pEnc kind l) := by
  unfold pEnc
  split
  · exact encs_bytes l
  · split
    · exact wencs_bytes true l
    · split
      · exact wencs_bytes false l
      · intro z hz; cases hz
theorem gz_ext {a b : List Int} (hl : a.length = b.length) (h : ∀ k, k < a.length → gz a k = gz b k) : a = b := by
  refine List.ext_getElem hl fun k h1 h2 => ?_
  have := h k h1
  simpa [gz, List.getD_eq_getElem?_getD, List.getElem?_eq_getElem h1, List.getElem?_eq_getElem h2] using this
theorem runesOf_gz (L : List It) (k : Nat) (h : k < L.length) : gz (runesOf L) k = L[k].1 := by
  simp [runesOf, gz, List.getD_eq_getElem?_getD, List.getElem?_eq_getElem h]
theorem back_runes (kind : Int) (hk : 0 ≤ kind ∧ kind ≤ 2) (l : List Int) : runesOf (pItems kind (pEnc kind l)) = vals l := by
  rcases (show kind = 0 ∨ kind = 1 ∨ kind = 2 by omega) with rfl | rfl | rfl
  · show runesOf (sItems (encs l)) = vals l
    refine gz_ext (by rw [runesOf, List.length_map]; exact back_len l) fun k hk => ?_
    have h : k < (sItems (encs l)).length := by rw [runesOf, List.length_map] at hk; exact hk
    rw [runesOf_gz _ k h]
    exact back_get l k h
  · show runesOf (wItems (wencs true l) true) = vals l
    refine gz_ext (by rw [runesOf, List.length_map]; exact wback_len true l) fun k hk => ?_
    have h : k < (wItems (wencs true l) true).length := by rw [runesOf, List.length_map] at hk; exact hk
    rw [runesOf_gz _ k h]
    exact (wback_get true l k h).1
  · show runesOf (wItems (wencs false l) false) = vals l
    refine gz_ext (by rw [runesOf, List.length_map]; exact wback_len false l) fun k hk => ?_
    have h : k < (wItems (wencs false l) false).length := by rw [runesOf, List.length_map] at hk; exact hk
    rw [runesOf_gz _ k h]
    exact (wback_get false l k h).1
/-- Of a text without a mark, of a kind: its runes. -/
theorem dec_back {kind : Int} (hk : 0 ≤ kind ∧ kind ≤ 2) {l : List Int} (h1 : (pKind (pEnc kind l)).1 = kind) (h2 : dBom (pEnc kind l) = 0) : runesOf (dItems (pEnc kind l)) = vals l := by
  unfold dItems
  rw [h1, h2, List.drop_zero]
  exact back_runes kind hk l
end Go.Proofs.Ytiegbochpcmicaa
