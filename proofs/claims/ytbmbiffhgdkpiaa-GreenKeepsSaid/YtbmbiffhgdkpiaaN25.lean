/- The walk of the law GreenWidth. No condition. -/
import Derived.Test.YtbmbiffhgdkpiaaN24
namespace Go.Proofs.Ytbmbiffhgdkpiaa
open Go.RowKit

set_option maxRecDepth 100000 in
set_option maxHeartbeats 8000000 in
theorem walk4 (A : Option Addr) (n c : Nat) (z : Int) (AP : Option Addr) (nP cP : Nat) (zP : List Int) (w : World) (h : OpsIn w w.heap.size A n) (hP : Rd w w.heap.size 1 AP nP cP (ints .i64 zP)) :
    Calls Try.prog 4 #[.slice A n c, .int .i64 z, .slice AP nP cP] w fun e w' => e = .returned (.bool true) ∧ Below w.heap.size w w' := by
  have hmax := h.max
  unfold maxLen at hmax
  go_enter Try.func4, Try.ntmps4
  go_wp2_with (go_at_call 12; refine (new12 _).mono ?_; rintro e w1 ⟨rfl, a1, b1⟩)
  have B0 := both_new a1 b1
  clear a1
  go_loopw [8, 18] (fun v i wr => ∃ (k : Nat) (N : List GN), k ≤ n ∧ i = .int .i64 k ∧ N.length ≤ 5 * k ∧ N.length ≤ 100 ∧ Both wr w.heap.size w.heap.size v N ∧ Below w.heap.size w wr)
    (fun _ i _ => n - (intOf i).toNat)
  case atStart => exact ⟨0, [], Nat.zero_le _, rfl, by simp, by simp, B0, b1⟩
  case round =>
    obtain ⟨k, N, hk, rfl, hN, hN1, hB, hb⟩ := hrel
    obtain ⟨A4, c4, rfl, hB⟩ := hB.form
    have sr := hb.size
    by_cases hlt : k < n
    · obtain ⟨b, off, rfl, hbb, hi⟩ := (h.below hb).at_ (by omega)
      obtain ⟨o0, o1, o4, o5, AB, nB, cB, AK, nK, cK, AP', nP', cP', back, q0, q1, q2, q3, q4, q5, q6, q7, hop⟩ := hi k hlt
      clear hi
      have hal : ∀ o, Below wr.heap.size wr (wr.alloc o) := fun o => (Below.refl _ _).alloc (Nat.le_refl _) o
      by_cases h20 : k < 20
      · have C13 := fun o => step13 (hB.below (hal o)) (by omega) o0 o1 o4 o5 AB nB cB AK nK cK AP' nP' cP' back ⟨hop.b.imp fun _ h => h.alloc sr o, hop.k.imp fun _ h => h.alloc sr o, hop.p.imp fun _ h => h.alloc sr o⟩
        have HB := Lib.hid hB
        have HAL := Lib.hid hal
        clear hB hal hop
        unfold StepSaid at C13
        go_wp2_with (go_at_call 13; refine (C13 _).mono ?_; rintro e w2 ⟨v2, N2, rfl, hB2, hl1, hl2, hk2, hb2⟩; clear C13)
        go_roundw
        case rel => exact ⟨k + 1, N2, by omega, by go_num, by omega, by omega, hB2, hb.trans (((HAL.out _).mono sr).trans hb2)⟩
        case measure => simp [intOf]; omega
      · have HB := Lib.hid (fun o => hB.below (hal o))
        have HAL := Lib.hid hal
        clear hB hal hop
        go_wp2_with fail
        go_roundw
        case rel => exact ⟨k + 1, N, by omega, by go_num, by omega, by omega, HB.out _, hb.trans ((HAL.out _).mono sr)⟩
        case measure => simp [intOf]; omega
    · have C16 := few16 AP nP cP zP false 0 wr ((hP.below hb).more sr)
      unfold FewSaid at C16
      clear hP
      go_wp2_with (go_at_call 16; refine C16.mono ?_; rintro e w2 ⟨A2, c2, ps, rfl, hps, ho2, hb2⟩; clear C16; have hB2 := hB.below hb2; clear hB)
      have hbw2 := hb.trans (hb2.mono sr)
      have s2 := hbw2.size
      obtain ⟨-, ha2, hd2, hN2, hwd2⟩ := hB2
      have HN2 := Lib.hid hN2
      have HWD2 := Lib.hid hwd2
      clear hN2 hwd2 hb2
      go_loopw [11] (fun i w3 => ∃ j : Nat, j ≤ N.length ∧ i = .int .i64 j ∧ Below w2.heap.size w2 w3)
        (fun i _ => N.length - (intOf i).toNat)
      case atStart => exact ⟨0, Nat.zero_le _, rfl, Below.refl _ _⟩
      case round =>
        obtain ⟨j, hj, rfl, hb3⟩ := hrel
        have ha3 := ha2.below hb3
        have s3 := hb3.size
        have C17 := len17 ha3
        by_cases hlj : j < N.length
        · have hw := HN2.out.wide j hlj
          have hw2 := HWD2.out j hlj
          have HW := Lib.hid hw
          have C18 := width18_at ha3 hlj
          have C19 := fun W (hb : Below wr.heap.size wr W) => print19_at (ha3.below hb) hlj HN2.out (by omega)
          unfold OwnSaid at C19
          clear hw
          go_wp2_with (first | (go_at_call 17; refine C17.mono ?_; rintro e w4 ⟨rfl, rfl⟩; clear C17) | (go_at_call 18; refine C18.mono ?_; rintro e w5 ⟨rfl, hb5⟩; clear C18) | (go_at_call 19; refine (C19 _ hb5).mono ?_; rintro e w6 ⟨A6, c6, rfl, -, hb6⟩; clear C19; have hw := HW.out))
          go_roundw
          case rel => exact ⟨j + 1, by omega, by go_num, hb3.trans ((hb5.mono s3).trans (hb6.mono (Nat.le_trans s3 hb5.size)))⟩
          case measure => simp [intOf]; omega
        · obtain rfl : j = N.length := by omega
          have hP3 := Rd.of_own (own_below ho2 hb3)
          have hd3 := hd2.below hb3
          have C20 : Calls Try.prog 20 #[.pointer (some ⟨w.heap.size, 0, none⟩), .int .i64 z, .slice A2 ps.length c2] wr fun e w' => e = .returned (.tuple #[.int .i64 ((gatR N z ps).getD 0 : Nat), .bool (gatR N z ps).isSome]) ∧ Below wr.heap.size wr w' := at20_any ha3 HN2.out.good z A2 ps.length c2 ps hP3 (by omega)
          have C21 := fun w4 (hb : Below wr.heap.size wr w4) => at21 (hd3.below hb) HN2.out.good z A2 ps.length c2 ps (hP3.on hb) (by omega)
          have hbw3 := hbw2.trans (hb3.mono s2)
          have s3' := hbw3.size
          clear hP3 hd3 hd2 ha2 ho2
          cases hq : gatR N z ps with
          | none =>
            rw [hq] at C20
            rw [atZ_none hq] at C21
            clear hq
            go_wp2_with (first | (go_at_call 17; refine C17.mono ?_; rintro e w4 ⟨rfl, rfl⟩; clear C17) | (go_at_call 20; refine C20.mono ?_; rintro e w5 ⟨rfl, hb5⟩; clear C20) | (go_at_call 21; refine (C21 _ hb5).mono ?_; rintro e w6 ⟨rfl, rfl⟩; clear C21) | (go_at_call 15; refine (awake15 _).mono ?_; rintro e w7 ⟨rfl, hb7⟩))
            go_ret
            exact ⟨rfl, hbw3.trans ((hb5.mono s3').trans (hb7.mono (Nat.le_trans s3' hb5.size)))⟩
          | some r =>
            rw [hq] at C20
            rw [atZ_some hq] at C21
            clear hq
            go_wp2_with (first | (go_at_call 17; refine C17.mono ?_; rintro e w4 ⟨rfl, rfl⟩; clear C17) | (go_at_call 20; refine C20.mono ?_; rintro e w5 ⟨rfl, hb5⟩; clear C20) | (go_at_call 21; refine (C21 _ hb5).mono ?_; rintro e w6 ⟨rfl, rfl⟩; clear C21) | (go_at_call 15; refine (awake15 _).mono ?_; rintro e w7 ⟨rfl, hb7⟩))
            go_ret
            exact ⟨rfl, hbw3.trans ((hb5.mono s3').trans (hb7.mono (Nat.le_trans s3' hb5.size)))⟩
end Go.Proofs.Ytbmbiffhgdkpiaa
