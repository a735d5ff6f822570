/- Check$1 (62), deferred, does nothing as long as nobody panics. No condition. -/
import Derived.Test.YtibakihcicfeoaaGreatZg
import Derived.Test.YtibakihcicfeoaaGreatProg
import Derived.Shelf.Abstract
import Derived.Recover
import Derived.Tactics
namespace Go.Proofs.YtibakihcicfeoaaGreat.Ev
theorem idle62 (c : Value) (w : World) : CallsD Tryz.prog 62 #[c] .returning w fun e u' w' => (∃ v, e = .returned v) ∧ u' = .returning ∧ w' = w := by
  refine callsD_of_wpS Tryz.func62 rfl fun c₀ cs hu => ?_
  apply wpS_seq
  apply wpS_region
  simp [wpOpsS, go_sem, recoverD, hu, Tryz.ntmps62, Exit.thenS]
  apply wpS_seq
  apply wpS_seq
  apply wpS_region
  simp [wpOpsS, go_sem, Exit.thenS]
  refine wpS_cond (t := true) (by simp [Act.eval, Array.replicate]) ?_
  simp only [if_true]
  refine wpS_of_wp (wp_ret ?_)
  cases c₀
  simp_all [bodyPostS, results, Tryz.results62, Exit.thenS]
theorem dfrOk : DfrG Tryz.prog dfrG := fun g hg c => by
  have : g = 62 := beqT hg
  subst this
  exact ⟨.func 62, #[c], 62, #[c], rfl, fun w => by simp [invoke, enters_of Tryz.func62 (by kernel_rfl) rfl], fun w => idle62 c w⟩
end Go.Proofs.YtibakihcicfeoaaGreat.Ev
