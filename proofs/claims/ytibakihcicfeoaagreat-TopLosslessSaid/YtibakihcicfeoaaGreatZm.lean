/- The evaluator's run of format.Format at alive()'s argument. No condition. -/
import Derived.Test.YtibakihcicfeoaaGreatZl
namespace Go.Proofs.YtibakihcicfeoaaGreat.Ev
def inF : List Nat := [60, 97, 62, 60, 98, 47, 62, 60, 47, 97, 62]
def outF : List Nat := [60, 97, 62, 10, 32, 32, 60, 98, 47, 62, 10, 60, 47, 97, 62, 10]
def cfg : AV := .agg [.int 3 2, .int 3 80, .int 3 0, .int 3 0, .int 3 0, .bool false, .bool false]
def fmtB (l : List Nat) : RA → Bool
  | .ok (.tup [.sl 1 i o n, .int 3 (.ofNat 0)]) h => sameBytes h i o n l
  | _ => false
noncomputable def fmtR : RA := evF Gx dfrG 100 25 [cfg, .sl 1 0 0 11, .int 3 0] (hpOf inF)
theorem fmt_ok : fmtB outF fmtR = true := by decide +kernel
end Go.Proofs.YtibakihcicfeoaaGreat.Ev
