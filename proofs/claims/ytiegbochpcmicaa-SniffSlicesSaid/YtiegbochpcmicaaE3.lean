/- The walk of layer 3's example. No condition. -/
import Derived.Test.YtiegbochpcmicaaE2
import Derived.Laws.Cover4
namespace Go.Proofs.Ytiegbochpcmicaa
open Go.RowKit

theorem awake3_kind : pKind [255, 254, 65, 0] = (2, 2) ∧ dBom [255, 254, 65, 0] = 2 ∧ dItems [255, 254, 65, 0] = [(65, 0, 2)] := by decide +kernel
theorem str_A {w : World} {b o c : Nat} (h : w.cell? ⟨b, o, none⟩ = some (.int .i32 65)) : (convert 37 9 (.slice (some ⟨b, o, none⟩) 1 c)).run Try.prog w = .ok (.string ⟨#[65]⟩) w := by
  have := run_convert_runes w 37 9 21 ⟨b, o, none⟩ 1 c [65] (by simp) Try.underlying37 Try.underlying21 Try.underlying9 (by
    intro j hj
    obtain rfl : j = 0 := by simpa using hj
    rw [add_none]
    exact h)
  rw [this]
  rfl
set_option maxHeartbeats 1000000 in
theorem awake45 (w : World) : Calls Try.prog 45 #[] w fun e w' => e = .returned (.bool true) ∧ Below w.heap.size w w' := by
  have C := decode42 (some ⟨w.heap.size, 0, none⟩) 4 4 [255, 254, 65, 0] _ (Rd.lit w (ints .u8 [255, 254, 65, 0]) 5 4 1 rfl (by omega)) (by intro z hz; simp at hz; omega) (by omega)
  rw [awake3_kind.1, awake3_kind.2.1, awake3_kind.2.2] at C
  go_enter Try.func45, Try.ntmps45
  go_wp2_with (go_at_call 42; refine C.mono ?_; rintro e w1 ⟨A1, c1, A2, c2, rfl, hr, ho, hb⟩; clear C; obtain ⟨b1, o1, rfl, hl1, hc1⟩ := hr.int_form (by simp); obtain ⟨b2, o2, rfl, hl2, hc2⟩ := ho.int_form (by simp); have q0 : w1.cell? ⟨b1, o1, none⟩ = some (.int .i32 65) := hc1 0 (by simp); have q1 : w1.cell? ⟨b2, o2, none⟩ = some (.int .i64 2) := hc2 0 (by simp); have q2 : w1.cell? ⟨b2, o2 + 1, none⟩ = some (.int .i64 4) := hc2 1 (by simp); have e0 := fun o => str_A (c := c1) (cell_old w1 b1 o1 o _ q0); clear hr ho hc1 hc2)
  go_ret
  exact ⟨rfl, (((Below.refl _ _).alloc (Nat.le_refl _) _).trans (hb.mono (by simp))).alloc (by have := hb.size; simp at this; omega) _⟩
end Go.Proofs.Ytiegbochpcmicaa
