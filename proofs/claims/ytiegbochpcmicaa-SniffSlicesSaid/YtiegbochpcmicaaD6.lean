/- Plain facts on bytes that begin so. No condition. -/
import Derived.Test.YtiegbochpcmicaaD5
namespace Go.Proofs.Ytiegbochpcmicaa
open Go.RowKit

theorem strOfNums_extract (zs : List Int) (k : Nat) : (strOfNums zs).extract 0 k = strOfNums (zs.take k) := by
  apply ByteArray.ext
  simp [strOfNums, ByteArray.data_extract, List.map_take]
theorem has_beg {zs sl : List Int} (hz : Bytes8 zs) (hs : Bytes8 sl) (k : Nat) (hk : sl.length ≤ k) :
    (decide ((strOfNums sl).size ≤ (strOfNums (zs.take k)).size) && (((strOfNums (zs.take k)).extract 0 (strOfNums sl).size).toList == (strOfNums sl).toList)) = beg zs sl := by
  rw [strOfNums_extract, strOfNums_size, strOfNums_size, str_beq ((hz.take _).take _) hs, List.take_take, Nat.min_eq_left hk, List.length_take]
  unfold beg
  by_cases h : zs.take sl.length = sl
  · have := congrArg List.length h
    rw [List.length_take] at this
    simp [h]; omega
  · simp [h]
end Go.Proofs.Ytiegbochpcmicaa
