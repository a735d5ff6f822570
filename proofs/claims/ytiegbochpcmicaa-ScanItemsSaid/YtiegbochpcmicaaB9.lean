/- The walk of the law ScanItems. No condition. -/
import Derived.Test.YtiegbochpcmicaaB8
namespace Go.Proofs.Ytiegbochpcmicaa
open Go.RowKit

set_option maxRecDepth 100000 in
set_option maxHeartbeats 4000000 in
theorem walk6 (A : Option Addr) (n c : Nat) (zs : List Int) (w : World) (h : Rd w w.heap.size 1 A n c (ints .u8 zs)) (hz : Bytes8 zs) :
    Calls Try.prog 6 #[.slice A n c] w fun e w' => e = .returned (.bool true) ∧ Below w.heap.size w w' := by
  have hz2 := hz.take 200
  have hm : min n 200 ≤ 200 := Nat.min_le_right _ _
  have C20 := short24 A n c w _ _ h
  have h2' := short_facts h
  generalize min n 200 = m at h2' hm C20
  generalize zs.take 200 = ys at h2' hz2
  clear h hz
  have HL := Lib.hid h2'.int_len
  have C25 := items25 A m c ys w h2' hz2 (by omega)
  have C28 := fun W hW => items28 A m c ys W hW hz2 (by omega)
  have C29 := fun W hW => valid29 A m c ys W hW hz2 (by omega)
  have hlm : (sItems ys).length ≤ 200 := by have h1 := sItems_le hz2; have h3 := HL.out; omega
  clear hz2
  generalize hLL : sItems ys = L at C25 C28 C29 hlm
  clear hLL
  go_enter Try.func6, Try.ntmps6
  go_wp2_with (first | (go_at_call 24; refine C20.mono ?_; rintro e w' ⟨⟨rfl, _⟩, rfl⟩; clear C20) | (go_at_call 25; refine C25.mono ?_; rintro e w1 ⟨A1, c1, rfl, hr1, hb1⟩; clear C25; have h3 := h2'.on hb1) | (go_at_call 28; refine (C28 _ h3).mono ?_; rintro e w2 ⟨A2, c2, rfl, hr2, hb2⟩; clear C28; have h4 := h3.on hb2; have hr3 := hr1.on hb2; have hb0 := hb1.trans (hb2.mono hb1.size); clear h3 hr1 hb1 hb2))
  clear h2'
  go_loopw [5, 21] (fun v i wr => ∃ k : Nat, k ≤ L.length ∧ i = .int .i64 k ∧ v = .bool (okTo L k) ∧ Below w2.heap.size w2 wr)
    (fun _ i _ => L.length - (intOf i).toNat)
  case atStart => exact ⟨0, Nat.zero_le _, rfl, rfl, Below.refl _ _⟩
  case round =>
    obtain ⟨k, hk, rfl, rfl, hb⟩ := hrel
    have hsz := hb.size
    by_cases hlt : k < L.length
    · obtain ⟨b1, o1, rfl, hbb1, hc1⟩ := (hr3.below hb).it_form (by omega)
      obtain ⟨b2, o2, rfl, hbb2, hc2⟩ := (hr2.below hb).it_form (by omega)
      obtain ⟨x0, x1, x2⟩ := hc1 k hlt
      obtain ⟨y0, y1, y2⟩ := hc2 k hlt
      have HO := okTo_succ L k hlt
      generalize L[k] = it at x0 x1 x2 y0 y1 y2 HO
      obtain ⟨r, p, N⟩ := it
      simp only at x0 x1 x2 y0 y1 y2 HO
      have HY := Lib.hid (And.intro hc1 hc2)
      clear hc1 hc2
      have q0 := fun X => cell_old wr b1 (o1 + k * 3) X _ x0
      have q1 := fun X => cell_old wr b1 (o1 + k * 3 + 1) X _ x1
      have q2 := fun X => cell_old wr b1 (o1 + k * 3 + 2) X _ x2
      generalize okTo L k = vb at HO ⊢
      by_cases hr : r = -1
      · have t1 : (r != -1) = false := by simpa using hr
        have HP := Lib.hid (show okTo L (k + 1) = false by rw [HO, decide_eq_false (by simpa using hr), Bool.and_false])
        clear HO hr
        cases vb
        all_goals
          go_wp2_with fail
          go_quiet (fail)
          go_wp2_with fail
          go_roundw
          case rel => exact ⟨k + 1, by omega, by go_num, by rw [HP.out], Below.drewN_ (hb.alloc hsz _) _⟩
          case measure => simp [intOf]; omega
      · have t1 : (r != -1) = true := by simpa using hr
        have HP := Lib.hid (show okTo L (k + 1) = vb by rw [HO, decide_eq_true hr, Bool.and_true])
        clear HO hr
        cases vb
        all_goals
          go_wp2_with fail
          go_quiet (fail)
          go_wp2_with fail
          go_roundw
          case rel => exact ⟨k + 1, by omega, by go_num, by rw [HP.out], Below.drewN_ (hb.alloc hsz _) _⟩
          case measure => simp [intOf]; omega
    · obtain rfl : k = L.length := by omega
      have C29' := C29 _ (h4.on hb)
      generalize okTo L L.length = vb at C29' ⊢
      cases vb
      all_goals
        go_wp2_with (first | (go_at_call 29; refine C29'.mono ?_; rintro e w3 ⟨rfl, hb3⟩) | (go_at_call 27; refine (awake27 _).mono ?_; rintro e w4 ⟨rfl, hb4⟩))
        go_ret
        exact ⟨rfl, hb0.trans ((hb.trans ((hb3.trans (hb4.mono hb3.size)).mono hb.size)).mono hb0.size)⟩
end Go.Proofs.Ytiegbochpcmicaa
