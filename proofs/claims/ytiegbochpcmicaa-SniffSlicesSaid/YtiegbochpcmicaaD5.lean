/- The walks of strings.HasPrefix as sniff.Kind calls it. No condition. -/
import Derived.Test.YtiegbochpcmicaaD4
import Derived.Lib.Strings
namespace Go.Proofs.Ytiegbochpcmicaa
open Go.RowKit

theorem has75 (s p : ByteArray) (w : World) :
    Calls Try.prog 75 #[.string s, .string p] w fun e w' => e = .returned (.bool (decide (p.size ≤ s.size) && ((s.extract 0 p.size).toList == p.toList))) ∧ w = w' := by
  by_cases h : p.size ≤ s.size
  · have t0 : decide (p.size ≤ s.size) = true := by simpa using h
    have t1 : (p.size : Int) ≤ (s.size : Int) := by omega
    rw [t0, Bool.true_and]
    generalize hb : ((s.extract 0 p.size).toList == p.toList) = vb
    go_enter Try.func75, Try.ntmps75
    go_wp2_with fail
    go_ret
    exact ⟨rfl, rfl⟩
  · have t0 : decide (p.size ≤ s.size) = false := by simpa using h
    rw [t0, Bool.false_and]
    go_enter Try.func75, Try.ntmps75
    go_wp2_with fail
    go_ret
    exact ⟨rfl, rfl⟩
theorem has65 (s p : ByteArray) (w : World) :
    Calls Try.prog 65 #[.string s, .string p] w fun e w' => e = .returned (.bool (decide (p.size ≤ s.size) && ((s.extract 0 p.size).toList == p.toList))) ∧ w = w' := by
  have C := has75 s p w
  generalize (decide (p.size ≤ s.size) && ((s.extract 0 p.size).toList == p.toList)) = vb at *
  go_enter Try.func65, Try.ntmps65
  go_wp2_with (go_at_call 75; refine C.mono ?_; rintro e w1 ⟨rfl, rfl⟩)
  go_ret
  exact ⟨rfl, rfl⟩
end Go.Proofs.Ytiegbochpcmicaa
