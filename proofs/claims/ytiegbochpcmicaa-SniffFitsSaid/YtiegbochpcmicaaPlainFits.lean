/- Names without great letters, in plain words. No condition. -/
import Derived.Test.YtiegbochpcmicaaPlain
namespace Go.Proofs.Ytiegbochpcmicaa
open Go.RowKit

/-- A byte without a great letter. -/
def low (c : Int) : Int := if 65 ≤ c ∧ c ≤ 90 then c + 32 else c
def lows (zs : List Int) : List Int := zs.map low
/-- Is a byte a name's byte, or that byte's great letter? -/
def same1 (c t : Int) : Bool := decide (c = t) || (decide (97 ≤ t ∧ t ≤ 122) && decide (c = t - 32))
def samesTo (zs ts : List Int) (k : Nat) : Bool := (List.range k).all fun i => same1 (gz zs i) (gz ts i)
def sames (zs ts : List Int) : Bool := decide (zs.length = ts.length) && samesTo zs ts zs.length

theorem samesTo_succ (zs ts : List Int) (k : Nat) : samesTo zs ts (k + 1) = (samesTo zs ts k && same1 (gz zs k) (gz ts k)) := by
  unfold samesTo
  rw [List.range_succ, List.all_append]
  simp
theorem samesTo_le {zs ts : List Int} {k m : Nat} (h : samesTo zs ts m = true) (hk : k ≤ m) : samesTo zs ts k = true := by
  unfold samesTo at *
  rw [List.all_eq_true] at *
  intro x hx
  exact h x (by rw [List.mem_range] at *; omega)
theorem same1_low {c t : Int} (ht : t < 65 ∨ 90 < t) : same1 c t = decide (low c = t) := by
  unfold same1 low
  rw [Bool.eq_iff_iff]
  simp only [Bool.or_eq_true, Bool.and_eq_true, decide_eq_true_eq]
  split <;> omega
theorem low_bd {c : Int} (h : 0 ≤ c ∧ c ≤ 255) : 0 ≤ low c ∧ low c ≤ 255 := by unfold low; split <;> omega
theorem gz_eq {zs : List Int} {j : Nat} (h : j < zs.length) : gz zs j = zs[j] := by simp [gz, List.getD_eq_getElem?_getD, List.getElem?_eq_getElem h]
theorem sames_lows {zs ts : List Int} (hts : ∀ t ∈ ts, t < 65 ∨ 90 < t) : decide (lows zs = ts) = sames zs ts := by
  rw [Bool.eq_iff_iff]
  unfold sames samesTo lows
  simp only [Bool.and_eq_true, decide_eq_true_eq, List.all_eq_true, List.mem_range]
  constructor
  · rintro rfl
    refine ⟨by simp, fun i hi => ?_⟩
    have h2 : low zs[i] = gz (List.map low zs) i := by rw [gz_eq (by simpa using hi)]; simp
    rw [gz_eq hi, ← h2, same1_low]
    · simp
    · exact hts _ (by rw [h2, gz_eq (by simpa using hi)]; exact List.getElem_mem _)
  · rintro ⟨hl, h⟩
    refine List.ext_getElem (by simpa using hl) fun i h1 h2 => ?_
    have hi : i < zs.length := by simpa using h1
    have := h i hi
    rw [gz_eq hi, gz_eq h2, same1_low (hts _ (List.getElem_mem _)), decide_eq_true_eq] at this
    simpa using this
theorem lows_bytes {zs : List Int} (hz : Bytes8 zs) : Bytes8 (lows zs) := by
  intro z h
  unfold lows at h
  rw [List.mem_map] at h
  obtain ⟨c, hc, rfl⟩ := h
  exact low_bd (hz c hc)

/-- May bytes of a kind say that they are of a name? -/
def pFits (kind : Int) (zs : List Int) : Bool :=
  if kind = 0 then sames zs [117, 116, 102, 45, 56] else if kind = 1 ∨ kind = 2 then sames zs [117, 116, 102, 45, 49, 54] else false

/-- The bytes of a string. -/
def numsOf_ (s : ByteArray) : List Int := s.data.toList.map fun x => (x.toNat : Int)
theorem str_nums_ (s : ByteArray) : strOfNums (numsOf_ s) = s := by
  unfold strOfNums numsOf_
  have : (s.data.toList.map fun x => ((x.toNat : Nat) : Int)).map (fun n => UInt8.ofNat n.toNat) = s.data.toList := by
    rw [List.map_map]
    conv => rhs; rw [← List.map_id s.data.toList]
    refine List.map_congr_left fun x _ => ?_
    simp
  rw [this]
theorem nums_bytes_ (s : ByteArray) : Bytes8 (numsOf_ s) := by
  intro z h
  unfold numsOf_ at h
  rw [List.mem_map] at h
  obtain ⟨x, _, rfl⟩ := h
  have := x.toNat_lt
  omega
theorem nums_len_ (s : ByteArray) : (numsOf_ s).length = s.size := by unfold numsOf_; rw [List.length_map]; rfl
end Go.Proofs.Ytiegbochpcmicaa
