/- The evaluator's run of rename.Prefix at alive()'s argument. No condition. -/
import Derived.Test.YtibakihcicfeoaaGreatZb
namespace Go.Proofs.YtibakihcicfeoaaGreat.Ev
/-- Bytes in block 0. -/
def hpOf (l : List Nat) : Hp := (Hp.mk .nil 0).new (.cells (l.map byteV))
def sameBytes (h : Hp) (i o n : Nat) (l : List Nat) : Bool := match rdAt h i o n with
  | some cs => (match bytesV cs with
    | some m => eqS m l
    | none => false)
  | none => false
def inP : List Nat := [60, 112, 58, 97, 32, 120, 109, 108, 110, 115, 58, 112, 61, 39, 117, 39, 47, 62]
def outP : List Nat := [60, 113, 58, 97, 32, 120, 109, 108, 110, 115, 58, 113, 61, 39, 117, 39, 47, 62]
def preB (l : List Nat) : RA → Bool
  | .ok (.tup [.sl 1 i o n, _, .int 3 (.ofNat 0)]) h => sameBytes h i o n l
  | _ => false
noncomputable def preR : RA := evF Gx dfrG 100 27 [.sl 1 0 0 18, .nils, .str [112], .str [113], .int 3 0] (hpOf inP)
theorem pre_ok : preB outP preR = true := by decide +kernel
end Go.Proofs.YtibakihcicfeoaaGreat.Ev
