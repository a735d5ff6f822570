/- Plain facts: runes as bytes of UTF-8, against the model's own encoding. No condition. -/
import Derived.Test.YtiegbochpcmicaaB4
import Derived.Lib.AppendStr
namespace Go.Proofs.Ytiegbochpcmicaa
open Go.RowKit

theorem strCells_nums {zs : List Int} (h : Bytes8 zs) : Lib.strCells (strOfNums zs) = ints .u8 zs := by
  unfold Lib.strCells strOfNums ints
  simp only [List.map_map]
  apply List.map_congr_left
  intro z hz
  have := h z hz
  simp only [Function.comp, UInt8.toNat_ofNat']
  congr 1
  omega
theorem encode_nums {r : Int} (h : wd r ≠ 0) : Utf8.encode r = strOfNums (enc r) := by
  obtain ⟨h0, h1, h2⟩ := wd_pos h
  have hv : Utf8.valid r = true := by
    rw [validRune_eq]; simp [validRune]; omega
  unfold enc Utf8.encode strOfNums
  rw [if_neg h]
  simp only [hv, if_true]
  by_cases c1 : r < 128
  · rw [if_pos c1, if_pos (by omega)]; rfl
  · rw [if_neg c1, if_neg (by omega)]
    by_cases c2 : r < 2048
    · rw [if_pos c2, if_pos (by omega)]
      simp only [List.map_cons, List.map_nil]
      rw [show (192 + r / 64).toNat = 192 + r.toNat / 64 by omega, show (128 + r % 64).toNat = 128 + r.toNat % 64 by omega]
    · rw [if_neg c2, if_neg (by omega)]
      by_cases c3 : r < 65536
      · rw [if_pos c3, if_pos (by omega)]
        simp only [List.map_cons, List.map_nil]
        rw [show (224 + r / 4096).toNat = 224 + r.toNat / 4096 by omega, show (128 + r / 64 % 64).toNat = 128 + r.toNat / 64 % 64 by omega, show (128 + r % 64).toNat = 128 + r.toNat % 64 by omega]
      · rw [if_neg c3, if_neg (by omega)]
        simp only [List.map_cons, List.map_nil]
        rw [show (240 + r / 262144).toNat = 240 + r.toNat / 262144 by omega, show (128 + r / 4096 % 64).toNat = 128 + r.toNat / 4096 % 64 by omega, show (128 + r / 64 % 64).toNat = 128 + r.toNat / 64 % 64 by omega, show (128 + r % 64).toNat = 128 + r.toNat % 64 by omega]
theorem enc_zero {r : Int} (h : wd r = 0) : enc r = [] := by unfold enc; rw [if_pos h]
theorem wd_le (r : Int) : wd r ≤ 4 := by unfold wd; repeat' split
                                         all_goals omega

/-- Runes' bytes. -/
def encs (l : List Int) : List Int := l.flatMap enc
theorem encs_snoc (l : List Int) (k : Nat) (h : k < l.length) : encs (l.take (k + 1)) = encs (l.take k) ++ enc (gz l k) := by
  rw [List.take_succ_eq_append_getElem h, encs, encs, List.flatMap_append]
  simp [gz, h]
theorem encs_len_le (l : List Int) : (encs l).length ≤ 4 * l.length := by
  induction l with
  | nil => simp [encs]
  | cons a t ih =>
    have := enc_len a
    have := wd_le a
    simp only [encs, List.flatMap_cons, List.length_append, List.length_cons] at ih ⊢
    omega
theorem encs_bytes (l : List Int) : Bytes8 (encs l) := by
  intro z hz
  simp only [encs, List.mem_flatMap] at hz
  obtain ⟨r, _, hz⟩ := hz
  exact enc_bytes r z hz
/-- How many bytes the first k runes have. -/
def wds (l : List Int) (k : Nat) : Nat := (encs (l.take k)).length
theorem wds_succ (l : List Int) (k : Nat) (h : k < l.length) : wds l (k + 1) = wds l k + wd (gz l k) := by
  unfold wds; rw [encs_snoc l k h, List.length_append, enc_len]
theorem wds_le (l : List Int) (k : Nat) : wds l k ≤ 4 * k := by
  have := encs_len_le (l.take k)
  rw [List.length_take] at this
  unfold wds; omega
end Go.Proofs.Ytiegbochpcmicaa
