/- One fact on bits, asked of the kernel at all numbers below 65536. No condition. -/
import Derived.WalkKit
namespace Go.Proofs.Ytiegbochpcmicaa
theorem low_bits : ∀ a b : Fin 256, (bits BinOp.andNot IntKind.i32 ((256 * a.val + b.val : Nat) : Int) 1023 == 56320) = decide (56320 ≤ 256 * a.val + b.val ∧ 256 * a.val + b.val ≤ 57343) := by decide +kernel
end Go.Proofs.Ytiegbochpcmicaa
