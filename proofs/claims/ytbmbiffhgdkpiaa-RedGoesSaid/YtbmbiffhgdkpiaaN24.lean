/- The walk of the law GreenPlays. No condition. -/
import Derived.Test.YtbmbiffhgdkpiaaN23
namespace Go.Proofs.Ytbmbiffhgdkpiaa
open Go.RowKit

theorem Both.below {w w' : World} {B ga : Nat} {v : Value} {N : List GN} (h : Both w B ga v N) (hb : Below w.heap.size w w') : Both w' B ga v N :=
  ⟨Nat.le_trans h.lo hb.size, h.arena.below hb, h.doc.below hb, h.ok, h.wd⟩
theorem Both.form {w : World} {B ga : Nat} {v : Value} {N : List GN} (h : Both w B ga v N) : ∃ A c, v = .slice A N.length c ∧ Both w B ga (.slice A N.length c) N := by
  obtain ⟨A, c, rfl, hd⟩ := h.doc.form
  exact ⟨A, c, rfl, h.lo, h.arena, hd, h.ok, h.wd⟩
theorem both_new {w w1 : World} (a1 : Arena w1 w.heap.size w.heap.size []) (b1 : Below w.heap.size w w1) : Both w1 w.heap.size w.heap.size (.slice none 0 0) [] :=
  ⟨b1.size, a1, DocN.nil _, OkN.nil, fun i h => absurd h (by simp)⟩
set_option maxRecDepth 100000 in
set_option maxHeartbeats 4000000 in
theorem walk3 (A : Option Addr) (n c : Nat) (w : World) (h : OpsIn w w.heap.size A n) : Calls Try.prog 3 #[.slice A n c] w fun e w' => e = .returned (.bool true) ∧ Below w.heap.size w w' := by
  have hmax := h.max
  unfold maxLen at hmax
  go_enter Try.func3, Try.ntmps3
  go_wp2_with (go_at_call 12; refine (new12 _).mono ?_; rintro e w1 ⟨rfl, a1, b1⟩)
  have B0 := both_new a1 b1
  clear a1
  go_loopw [4, 12] (fun v i wr => ∃ (k : Nat) (N : List GN), k ≤ n ∧ k ≤ 25 ∧ i = .int .i64 k ∧ N.length ≤ 5 * k ∧ Both wr w.heap.size w.heap.size v N ∧ Below w.heap.size w wr)
    (fun _ i _ => n - (intOf i).toNat)
  case atStart => exact ⟨0, [], Nat.zero_le _, by omega, rfl, by simp, B0, b1⟩
  case round =>
    obtain ⟨k, N, hk, hk25, rfl, hN, hB, hb⟩ := hrel
    obtain ⟨A4, c4, rfl, hB⟩ := hB.form
    have sr := hb.size
    by_cases hlt : k < n
    · by_cases h25 : k < 25
      · obtain ⟨b, off, rfl, hbb, hi⟩ := (h.below hb).at_ (by omega)
        obtain ⟨o0, o1, o4, o5, AB, nB, cB, AK, nK, cK, AP, nP, cP, back, q0, q1, q2, q3, q4, q5, q6, q7, hop⟩ := hi k hlt
        clear hi
        have hal : ∀ o, Below wr.heap.size wr (wr.alloc o) := fun o => (Below.refl _ _).alloc (Nat.le_refl _) o
        have C13 := fun o => step13 (hB.below (hal o)) (by omega) o0 o1 o4 o5 AB nB cB AK nK cK AP nP cP back ⟨hop.b.imp fun _ h => h.alloc sr o, hop.k.imp fun _ h => h.alloc sr o, hop.p.imp fun _ h => h.alloc sr o⟩
        have HB := Lib.hid hB
        have HAL := Lib.hid hal
        clear hB hal hop
        unfold StepSaid at C13
        go_wp2_with (go_at_call 13; refine (C13 _).mono ?_; rintro e w2 ⟨v2, N2, rfl, hB2, hl1, hl2, hk2, hb2⟩; clear C13)
        go_roundw
        case rel => exact ⟨k + 1, N2, by omega, by omega, by go_num, by omega, hB2, hb.trans (((HAL.out _).mono sr).trans hb2)⟩
        case measure => simp [intOf]; omega
      · obtain ⟨b, off, rfl, hbb, hi⟩ := (h.below hb).at_ (by omega)
        obtain ⟨o0, o1, o4, o5, AB, nB, cB, AK, nK, cK, AP, nP, cP, back, q0, q1, q2, q3, q4, q5, q6, q7, -⟩ := hi k hlt
        clear hi
        have C14 := fun o => same14 (hB.below ((Below.refl wr.heap.size wr).alloc (Nat.le_refl _) o)) (by omega)
        have HAL := Lib.hid (fun o => (Below.refl wr.heap.size wr).alloc (Nat.le_refl _) o)
        go_wp2_with (first | (go_at_call 14; refine (C14 _).mono ?_; rintro e w2 ⟨rfl, b2⟩; clear C14) | (go_at_call 15; refine (awake15 _).mono ?_; rintro e w3 ⟨rfl, b3⟩))
        go_ret
        have b2' := (HAL.out _).trans (b2.mono (HAL.out _).size)
        exact ⟨rfl, hb.trans ((b2'.mono sr).trans (b3.mono (Nat.le_trans sr b2'.size)))⟩
    · have C14 := same14 hB (by omega)
      go_wp2_with (first | (go_at_call 14; refine C14.mono ?_; rintro e w2 ⟨rfl, b2⟩; clear C14) | (go_at_call 15; refine (awake15 _).mono ?_; rintro e w3 ⟨rfl, b3⟩))
      go_ret
      exact ⟨rfl, hb.trans ((b2.mono sr).trans (b3.mono (Nat.le_trans sr b2.size)))⟩
end Go.Proofs.Ytbmbiffhgdkpiaa
