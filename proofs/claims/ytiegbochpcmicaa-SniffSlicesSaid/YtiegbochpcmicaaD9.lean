/- The walk of sniff.Kind, joined. No condition. -/
import Derived.Test.YtiegbochpcmicaaD8
namespace Go.Proofs.Ytiegbochpcmicaa
open Go.RowKit

theorem kind44 (A : Option Addr) (n c : Nat) (zs : List Int) (w : World) (h : Rd w w.heap.size 1 A n c (ints .u8 zs)) (hz : Bytes8 zs) :
    Calls Try.prog 44 #[.slice A n c] w fun e w' => e = .returned (.tuple #[.int .i64 (pKind zs).1, .int .i64 (pKind zs).2]) ∧ Below w.heap.size w w' := by
  by_cases h4 : n ≤ 4
  · exact kind44_short A n c zs w h hz (by omega)
  · exact kind44_long A n c zs w h hz (by omega)
end Go.Proofs.Ytiegbochpcmicaa
