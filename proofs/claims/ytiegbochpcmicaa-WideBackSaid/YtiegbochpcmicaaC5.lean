/- The walk of the law WideBack. No condition. -/
import Derived.Test.YtiegbochpcmicaaC3
import Derived.Test.YtiegbochpcmicaaA5
import Derived.Test.YtiegbochpcmicaaPlainWB
import Derived.BigQuiet
namespace Go.Proofs.Ytiegbochpcmicaa
open Go.RowKit

set_option maxRecDepth 100000 in
set_option maxHeartbeats 4000000 in
theorem walk11 (A : Option Addr) (n c : Nat) (zl : List Int) (big : Bool) (w : World) (h : Rd w w.heap.size 1 A n c (ints .i32 zl)) :
    Calls Try.prog 11 #[.slice A n c, .bool big] w fun e w' => e = .returned (.bool true) ∧ Below w.heap.size w w' := by
  have hm : min n 60 ≤ 60 := Nat.min_le_right _ _
  have C36 := few36 A n c w _ _ h
  have h2' := few_facts h
  generalize min n 60 = m at h2' hm C36
  generalize zl.take 60 = l at h2'
  clear h
  have HL := Lib.hid h2'.int_len
  have C39 := bytes39 big A m c l w h2' (by omega)
  have hel : (wencs big l).length ≤ 4 * m := by have := wencs_len_le big l; rw [h2'.int_len] at this; exact this
  have C21 := fun W A' c' hW => items21 A' (wencs big l).length c' (wencs big l) big W hW (wencs_bytes big l) (by omega)
  have HBL := Lib.hid (wback_len big l)
  have HBG := Lib.hid (wback_get big l)
  have hbl : (wItems (wencs big l) big).length ≤ 60 := by
    rw [wback_len, ← vn_all, h2'.int_len]
    have := vn_le l m
    omega
  generalize wItems (wencs big l) big = I at C21 HBL HBG hbl
  go_enter Try.func11, Try.ntmps11
  go_wp2_with (first | (go_at_call 36; refine C36.mono ?_; rintro e w' ⟨rfl, rfl⟩; clear C36) | (go_at_call 39; refine C39.mono ?_; rintro e w1 ⟨A1, c1, rfl, ho1, hb1⟩; clear C39) | (go_at_call 21; refine (C21 _ _ _ (Rd.of_own ho1)).mono ?_; rintro e w2 ⟨A2, c2, rfl, hr2, hb3⟩; clear C21))
  have hb0 := hb1.trans (hb3.mono hb1.size)
  have hl2 := h2'.on hb0
  clear ho1 hb1 hb3 h2'
  go_loopw [6, 18] (fun k j wr => ∃ i : Nat, i ≤ m ∧ j = .int .i64 i ∧ k = .int .i64 (vn l i : Nat) ∧ ∃ a : Nat, wr = w2.drewN a)
    (fun _ j _ => m - (intOf j).toNat)
  case atStart => exact ⟨0, Nat.zero_le _, rfl, rfl, 0, rfl⟩
  case round =>
    obtain ⟨i, hi, rfl, rfl, a, rfl⟩ := hrel
    by_cases hlt : i < m
    · obtain ⟨b, off, rfl, hbb, hc⟩ := (hl2.drewN a).int_form (by omega)
      have x0 := hc i hlt
      have CW := fun W => width37 (gz l i) W
      have hvn := vn_le l i
      clear hc
      by_cases hw : wd (gz l i) = 0
      · have HV := Lib.hid (vn_skip l i (by rw [HL.out]; exact hlt) hw)
        rw [show ww (gz l i) = 0 by unfold ww; rw [if_pos hw]] at CW
        clear hw
        go_wp2_with (go_at_call 37; refine (CW _).mono ?_; rintro e w1 ⟨rfl, rfl⟩)
        go_roundw
        case rel => exact ⟨i + 1, by omega, by go_num, by rw [HV.out], a, rfl⟩
        case measure => simp [intOf]; omega
      · obtain ⟨v1, v2, v3⟩ := vn_next l i (by rw [HL.out]; exact hlt) hw
        have HV := Lib.hid v1
        have hwp : 0 < ww (gz l i) := by unfold ww; rw [if_neg hw]; split <;> omega
        have hvi : vn l i < I.length := by rw [HBL.out]; exact v2
        obtain ⟨g1, g2⟩ := HBG.out (vn l i) hvi
        rw [v3] at g1 g2
        obtain ⟨b2, o2, rfl, hbb2, hc2⟩ := hr2.it_form (by omega)
        obtain ⟨y0, _, y2⟩ := hc2 (vn l i) hvi
        rw [g1] at y0
        rw [g2] at y2
        have HC2 := Lib.hid hc2
        clear v1 v2 v3 hw g1 g2 hc2
        have hwl := ww_le (gz l i)
        generalize ww (gz l i) = N at *
        have t1 : ((N : Nat) : Int) ≠ 0 := by omega
        have t2 : (((N : Nat) : Int) == 0) = false := by simpa using t1
        generalize vn l i = q at *
        have t3 : decide (I.length ≤ q) = false := by simp; omega
        go_wp2_with (go_at_call 37; refine (CW _).mono ?_; rintro e w1 ⟨rfl, rfl⟩)
        go_quiet ((go_at_call 37; first | exact quiet_add_left (CW _) | exact quiet_left (CW _)))
        go_wp2_with fail
        go_roundw
        case rel => exact ⟨i + 1, by omega, by go_num, by rw [HV.out]; go_num, _, rfl⟩
        case measure => simp [intOf]; omega
    · obtain rfl : i = m := by omega
      have hvl : vn l i = I.length := by rw [HBL.out, ← HL.out]; exact vn_all l
      rw [hvl]
      clear hvl HBG HBL hr2 hel
      go_wp2_with (go_at_call 23; refine (awake23 _).mono ?_; rintro e w3 ⟨rfl, hb3⟩)
      go_ret
      exact ⟨rfl, hb0.trans ((Below.drewN_ (Below.refl _ _) a).trans (hb3.mono (Nat.le_refl _)) |>.mono hb0.size)⟩
end Go.Proofs.Ytiegbochpcmicaa
