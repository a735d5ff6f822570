/- The walk of the law ScanBytes. No condition. -/
import Derived.Test.YtiegbochpcmicaaB3
import Derived.Test.YtiegbochpcmicaaB5
import Derived.Deep.RegionWith
namespace Go.Proofs.Ytiegbochpcmicaa
open Go.RowKit

set_option maxHeartbeats 2000000 in
theorem walk7 (A : Option Addr) (n c : Nat) (zs : List Int) (w : World) (h : Rd w w.heap.size 1 A n c (ints .i32 zs)) :
    Calls Try.prog 7 #[.slice A n c] w fun e w' => e = .returned (.bool true) ∧ Below w.heap.size w w' := by
  have hm : min n 60 ≤ 60 := Nat.min_le_right _ _
  have C30 := few30 A n c w _ _ h
  have h2' := few_facts h
  generalize min n 60 = m at h2' hm C30
  generalize zs.take 60 = l at h2'
  clear h
  have HL := Lib.hid h2'.int_len
  have C32 := bytes32 A m c l w h2' (by omega)
  have hel : (encs l).length ≤ 4 * m := by have := encs_len_le l; rw [h2'.int_len] at this; exact this
  have HT := Lib.hid (show wds l m = (encs l).length by unfold wds; rw [List.take_of_length_le (by rw [h2'.int_len]; exact Nat.le_refl _)])
  go_enter Try.func7, Try.ntmps7
  go_wp2_with (go_at_call 30; refine C30.mono ?_; rintro e w' ⟨rfl, rfl⟩; clear C30)
  go_loopw [3, 11] (fun t i wr => ∃ k : Nat, k ≤ m ∧ i = .int .i64 k ∧ t = .int .i64 (wds l k : Nat) ∧ wr = w)
    (fun _ i _ => m - (intOf i).toNat)
  case atStart => exact ⟨0, Nat.zero_le _, rfl, rfl, rfl⟩
  case round =>
    obtain ⟨k, hk, rfl, rfl, rfl⟩ := hrel
    by_cases hlt : k < m
    · obtain ⟨b, off, rfl, hbb, hc⟩ := h2'.int_form (by omega)
      have x0 := hc k hlt
      have h4 := wd_le (gz l k)
      have hwk := wds_le l k
      have HS := Lib.hid (wds_succ l k (by rw [HL.out]; exact hlt))
      clear hc
      go_wp2_with (first | (go_at_call 26; refine (width26 _ _).mono ?_; rintro e w1 ⟨rfl, rfl⟩) | (go_at_call 31; refine (width31 _ _).mono ?_; rintro e w1 ⟨rfl, rfl⟩))
      go_roundw
      case rel => exact ⟨k + 1, by omega, by go_num, by rw [HS.out]; go_num, by first | trivial | rfl⟩
      case measure => simp [intOf]; omega
    · obtain rfl : k = m := by omega
      rw [HT.out]
      go_wp2_with (go_at_call 32; refine C32.mono ?_; rintro e w1 ⟨A6, c6, rfl, ho6, hb6⟩; clear C32)
      have hr6 := Rd.of_own ho6
      have e6 := run_str' hr6.drew
      have hl1 := (h2'.on hb6).drew
      go_region_with (first | (go_at_call 33; refine (bytes33 _ _ _ _ _ hl1 (by omega)).mono ?_; rintro e w2 ⟨A7, c7, rfl, ho7, hb7⟩; have e7 := run_str' (Rd.of_own ho7); have e6b := run_str' (hr6.drew.below hb7)) | (go_at_call 27; refine (awake27 _).mono ?_; rintro e w3 ⟨rfl, hb8⟩))
      all_goals
        go_wp2_with fail
        go_ret
        exact ⟨rfl, hb6.trans (((Below.refl _ _).drew.trans (hb7.trans (hb8.mono hb7.size))).mono hb6.size)⟩
end Go.Proofs.Ytiegbochpcmicaa
