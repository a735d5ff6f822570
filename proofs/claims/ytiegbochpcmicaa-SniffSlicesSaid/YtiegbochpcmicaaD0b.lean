/- HasPrefix at a document's first four bytes. No condition. -/
import Derived.Test.YtiegbochpcmicaaD0
namespace Go.Proofs.Ytiegbochpcmicaa
open Go.RowKit

theorem beg65 {zs sl : List Int} {s p : ByteArray} (hz : Bytes8 zs) (hs : Bytes8 sl) (hS : strOfNums (zs.take 4) = s) (hP : p = strOfNums sl) (hk : sl.length ≤ 4) (w : World) :
    Calls Try.prog 65 #[.string s, .string p] w fun e w' => e = .returned (.bool (beg zs sl)) ∧ w = w' := by
  have C := has65 s p w
  rw [← hS, hP, has_beg hz hs 4 hk] at C
  rw [← hS, hP]
  exact C
end Go.Proofs.Ytiegbochpcmicaa
