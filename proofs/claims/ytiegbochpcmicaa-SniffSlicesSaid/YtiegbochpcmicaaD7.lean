/- The walk of sniff.Kind. No condition. -/
import Derived.Test.YtiegbochpcmicaaD0b
namespace Go.Proofs.Ytiegbochpcmicaa
open Go.RowKit

set_option maxRecDepth 20000 in
set_option maxHeartbeats 4000000 in
theorem kind44_short (A : Option Addr) (n c : Nat) (zs : List Int) (w : World) (h : Rd w w.heap.size 1 A n c (ints .u8 zs)) (hz : Bytes8 zs) (h4 : (n : Int) ≤ 4) :
    Calls Try.prog 44 #[.slice A n c] w fun e w' => e = .returned (.tuple #[.int .i64 (pKind zs).1, .int .i64 (pKind zs).2]) ∧ Below w.heap.size w w' := by
  have hlen := h.int_len
  have hcap := h.cap
  have hmax := h.max
  unfold maxLen at hmax
  have e0 := fun o => run_str' (h.alloc (Nat.le_refl _) o)
  have ht : zs = zs.take 4 := (List.take_of_length_le (by omega)).symm
  rw [show strOfNums zs = strOfNums (zs.take 4) by rw [← ht]] at e0
  generalize hsg : strOfNums (zs.take 4) = s at e0
  have C0 := fun W => beg65 (sl := [254, 255]) (p := ⟨#[254, 255]⟩) hz (by intro z hz; simp at hz; omega) hsg rfl (by decide) W
  have C1 := fun W => beg65 (sl := [255, 254]) (p := ⟨#[255, 254]⟩) hz (by intro z hz; simp at hz; omega) hsg rfl (by decide) W
  have C2 := fun W => beg65 (sl := [239, 187, 191]) (p := ⟨#[239, 187, 191]⟩) hz (by intro z hz; simp at hz; omega) hsg rfl (by decide) W
  have C3 := fun W => beg65 (sl := [0, 60, 0, 63]) (p := ⟨#[0, 60, 0, 63]⟩) hz (by intro z hz; simp at hz; omega) hsg rfl (by decide) W
  have C4 := fun W => beg65 (sl := [60, 0, 63, 0]) (p := ⟨#[60, 0, 63, 0]⟩) hz (by intro z hz; simp at hz; omega) hsg rfl (by decide) W
  have HP := Lib.hid (rfl : pKind zs = pKind zs)
  clear h ht hsg
  go_enter Try.func44, Try.ntmps44
  go_wp2_with fail
  go_loopw [21] (fun i wr => ∃ k : Nat, k ≤ 5 ∧ i = .int .i64 k ∧ Below w.heap.size w wr ∧ (0 < k → beg zs [254, 255] = false) ∧ (1 < k → beg zs [255, 254] = false) ∧ (2 < k → beg zs [239, 187, 191] = false) ∧ (3 < k → beg zs [0, 60, 0, 63] = false) ∧ (4 < k → beg zs [60, 0, 63, 0] = false))
    (fun i _ => 5 - (intOf i).toNat)
  case atStart => exact ⟨0, by omega, rfl, (Below.refl _ _).alloc (Nat.le_refl _) _, by omega, by omega, by omega, by omega, by omega⟩
  case round =>
    obtain ⟨k, hk, rfl, hb, r0, r1, r2, r3, r4⟩ := hrel
    have hsz := hb.size
    rcases (show k = 0 ∨ k = 1 ∨ k = 2 ∨ k = 3 ∨ k = 4 ∨ k = 5 by omega) with rfl | rfl | rfl | rfl | rfl | rfl
    · have I0 := sign_at0
      by_cases hh : beg zs [254, 255] = true
      · rw [hh] at C0
        go_wp2_with (go_at_call 65; refine (C0 _).mono ?_; rintro e w1 ⟨rfl, rfl⟩)
        go_quiet (fail)
        go_wp2_with fail
        go_ret2
        exact ⟨by unfold pKind; simp [hh], Below.drewN_ (hb.alloc hsz _) _⟩
      · have hf : beg zs [254, 255] = false := by simpa using hh
        rw [hf] at C0
        go_wp2_with (go_at_call 65; refine (C0 _).mono ?_; rintro e w1 ⟨rfl, rfl⟩)
        go_roundw
        case rel => exact ⟨1, by omega, by go_num, hb.alloc hsz _, by simp_all, by simp_all, by simp_all, by simp_all, by simp_all⟩
        case measure => simp [intOf]
    · have I1 := sign_at1
      by_cases hh : beg zs [255, 254] = true
      · rw [hh] at C1
        go_wp2_with (go_at_call 65; refine (C1 _).mono ?_; rintro e w1 ⟨rfl, rfl⟩)
        go_quiet (fail)
        go_wp2_with fail
        go_ret2
        exact ⟨by unfold pKind; simp [hh, r0], Below.drewN_ (hb.alloc hsz _) _⟩
      · have hf : beg zs [255, 254] = false := by simpa using hh
        rw [hf] at C1
        go_wp2_with (go_at_call 65; refine (C1 _).mono ?_; rintro e w1 ⟨rfl, rfl⟩)
        go_roundw
        case rel => exact ⟨2, by omega, by go_num, hb.alloc hsz _, by simp_all, by simp_all, by simp_all, by simp_all, by simp_all⟩
        case measure => simp [intOf]
    · have I2 := sign_at2
      by_cases hh : beg zs [239, 187, 191] = true
      · rw [hh] at C2
        go_wp2_with (go_at_call 65; refine (C2 _).mono ?_; rintro e w1 ⟨rfl, rfl⟩)
        go_quiet (fail)
        go_wp2_with fail
        go_ret2
        exact ⟨by unfold pKind; simp [hh, r0, r1], Below.drewN_ (hb.alloc hsz _) _⟩
      · have hf : beg zs [239, 187, 191] = false := by simpa using hh
        rw [hf] at C2
        go_wp2_with (go_at_call 65; refine (C2 _).mono ?_; rintro e w1 ⟨rfl, rfl⟩)
        go_roundw
        case rel => exact ⟨3, by omega, by go_num, hb.alloc hsz _, by simp_all, by simp_all, by simp_all, by simp_all, by simp_all⟩
        case measure => simp [intOf]
    · have I3 := sign_at3
      by_cases hh : beg zs [0, 60, 0, 63] = true
      · rw [hh] at C3
        go_wp2_with (go_at_call 65; refine (C3 _).mono ?_; rintro e w1 ⟨rfl, rfl⟩)
        go_quiet (fail)
        go_wp2_with fail
        go_ret2
        exact ⟨by unfold pKind; simp [hh, r0, r1, r2], Below.drewN_ (hb.alloc hsz _) _⟩
      · have hf : beg zs [0, 60, 0, 63] = false := by simpa using hh
        rw [hf] at C3
        go_wp2_with (go_at_call 65; refine (C3 _).mono ?_; rintro e w1 ⟨rfl, rfl⟩)
        go_roundw
        case rel => exact ⟨4, by omega, by go_num, hb.alloc hsz _, by simp_all, by simp_all, by simp_all, by simp_all, by simp_all⟩
        case measure => simp [intOf]
    · have I4 := sign_at4
      by_cases hh : beg zs [60, 0, 63, 0] = true
      · rw [hh] at C4
        go_wp2_with (go_at_call 65; refine (C4 _).mono ?_; rintro e w1 ⟨rfl, rfl⟩)
        go_quiet (fail)
        go_wp2_with fail
        go_ret2
        exact ⟨by unfold pKind; simp [hh, r0, r1, r2, r3], Below.drewN_ (hb.alloc hsz _) _⟩
      · have hf : beg zs [60, 0, 63, 0] = false := by simpa using hh
        rw [hf] at C4
        go_wp2_with (go_at_call 65; refine (C4 _).mono ?_; rintro e w1 ⟨rfl, rfl⟩)
        go_roundw
        case rel => exact ⟨5, by omega, by go_num, hb.alloc hsz _, by simp_all, by simp_all, by simp_all, by simp_all, by simp_all⟩
        case measure => simp [intOf]
    · go_wp2_with fail
      go_ret2
      exact ⟨by unfold pKind; simp_all, hb⟩
end Go.Proofs.Ytiegbochpcmicaa

