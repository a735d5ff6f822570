/- The walks of layer 1's example and of the law ScanWhole. No condition. -/
import Derived.Test.YtiegbochpcmicaaB2
namespace Go.Proofs.Ytiegbochpcmicaa
open Go.RowKit

theorem awake1_items : sItems [195, 169, 255] = [(233, 0, 2), (-1, 2, 1)] := by decide +kernel
set_option maxHeartbeats 1000000 in
theorem awake27 (w : World) : Calls Try.prog 27 #[] w fun e w' => e = .returned (.bool true) ∧ Below w.heap.size w w' := by
  have C := items25 (some ⟨w.heap.size, 0, none⟩) 3 3 [195, 169, 255] _ (Rd.lit w (ints .u8 [195, 169, 255]) 5 3 1 rfl (by omega)) (by intro z hz; simp at hz; omega) (by omega)
  rw [awake1_items] at C
  go_enter Try.func27, Try.ntmps27
  go_wp2_with (go_at_call 25; refine C.mono ?_; rintro e w1 ⟨A', c', rfl, hr, hb⟩; obtain ⟨b, off, rfl, hbb, hc⟩ := hr.it_form (by simp); have x00 : w1.cell? ⟨b, off, none⟩ = some (.int .i32 233) := (hc 0 (by simp)).1; have x01 : w1.cell? ⟨b, off + 1, none⟩ = some (.int .i64 0) := (hc 0 (by simp)).2.1; have x02 : w1.cell? ⟨b, off + 2, none⟩ = some (.int .i64 2) := (hc 0 (by simp)).2.2; have x10 : w1.cell? ⟨b, off + 3, none⟩ = some (.int .i32 (-1)) := (hc 1 (by simp)).1; have x11 : w1.cell? ⟨b, off + 3 + 1, none⟩ = some (.int .i64 2) := (hc 1 (by simp)).2.1; have x12 : w1.cell? ⟨b, off + 3 + 2, none⟩ = some (.int .i64 1) := (hc 1 (by simp)).2.2; clear hc hr)
  go_ret
  exact ⟨rfl, ((Below.refl _ _).alloc (Nat.le_refl _) _).trans (hb.mono (by simp))⟩

theorem sItems_get {ys : List Int} (hz : Bytes8 ys) : ∀ k (_ : k < (sItems ys).length), ∃ (r : Int) (p N : Nat), (sItems ys)[k]? = some (r, p, N) ∧ (sGo ys k).2 = p ∧ (sGo ys (k + 1)).2 = p + N ∧ 1 ≤ N ∧ N ≤ 4 ∧ p + N ≤ ys.length ∧ (r = -1 → N = 1) ∧ (r ≠ -1 → wd r = N) ∧ sStep ys p = (r, N) ∧ -1 ≤ r ∧ r ≤ 1114111 := by
  intro k hk
  obtain ⟨h1, h2, h3⟩ := runItems_get (step := sStep ys) (n := ys.length) k hk
  have hg := sStep_good hz _ h1
  obtain ⟨f1, f2, f3, f4, f5⟩ := sStep_facts hz h1
  exact ⟨_, _, _, by rw [List.getElem?_eq_getElem hk]; exact congrArg some h2, rfl, h3, hg.1, f1, hg.2, f2, f3, rfl, f4, f5⟩
theorem sItems_last {ys : List Int} (hz : Bytes8 ys) : (sGo ys (sItems ys).length).2 = ys.length := runItems_last (sStep_good hz)
theorem sItems_le {ys : List Int} (hz : Bytes8 ys) : (sItems ys).length ≤ ys.length := runItems_len_le (sStep_good hz)

/-- What the laws' 'short' leaves: at most 200 bytes. -/
theorem short_facts {A : Option Addr} {n c : Nat} {zs : List Int} {w : World} (h : Rd w w.heap.size 1 A n c (ints .u8 zs)) : Rd w w.heap.size 1 A (min n 200) c (ints .u8 (zs.take 200)) := by
  have := (h.take (k := min n 200) (Nat.min_le_left _ _))
  rw [← List.map_take, Nat.mul_one] at this
  rw [ints, show zs.take 200 = zs.take (min n 200) by rw [List.take_eq_take_iff, h.int_len]; omega]
  exact this

set_option maxRecDepth 100000 in
set_option maxHeartbeats 4000000 in
theorem walk5 (A : Option Addr) (n c : Nat) (zs : List Int) (w : World) (h : Rd w w.heap.size 1 A n c (ints .u8 zs)) (hz : Bytes8 zs) :
    Calls Try.prog 5 #[.slice A n c] w fun e w' => e = .returned (.bool true) ∧ Below w.heap.size w w' := by
  have hz2 := hz.take 200
  have hm : min n 200 ≤ 200 := Nat.min_le_right _ _
  have C20 := short24 A n c w _ _ h
  have h2' := short_facts h
  generalize min n 200 = m at h2' hm C20
  generalize zs.take 200 = ys at h2' hz2
  clear h hz
  have HL := Lib.hid h2'.int_len
  have C25 := items25 A m c ys w h2' hz2 (by omega)
  have hlm : (sItems ys).length ≤ 200 := by have h1 := sItems_le hz2; have h3 := HL.out; omega
  have HG := Lib.hid (sItems_get hz2)
  have HE := Lib.hid (sItems_last hz2)
  clear h2' hz2
  generalize hLL : sItems ys = L at C25 hlm HG HE
  clear hLL
  go_enter Try.func5, Try.ntmps5
  go_wp2_with (first | (go_at_call 24; refine C20.mono ?_; rintro e w' ⟨⟨rfl, _⟩, rfl⟩; clear C20) | (go_at_call 25; refine C25.mono ?_; rintro e w2 ⟨A1, c1, rfl, hr1, hb1⟩; clear C25))
  go_loopw [3, 11] (fun at_ i wr => ∃ k : Nat, k ≤ L.length ∧ i = .int .i64 k ∧ at_ = .int .i64 ((sGo ys k).2 : Nat) ∧ Below w2.heap.size w2 wr)
    (fun _ i _ => L.length - (intOf i).toNat)
  case atStart => exact ⟨0, Nat.zero_le _, rfl, rfl, Below.refl _ _⟩
  case round =>
    obtain ⟨k, hk, rfl, rfl, hb⟩ := hrel
    have hsz := hb.size
    by_cases hlt : k < L.length
    · obtain ⟨r, p, N, hg, hp, hnx, hN, hN4, hpn, hr0, hr2, _, _, _⟩ := HG.out k hlt
      rw [hp]
      obtain ⟨b1, o1, rfl, hbb1, hc1⟩ := (hr1.below hb).it_form (by omega)
      obtain ⟨x0, x1, x2⟩ := hc1 k hlt
      rw [List.getElem?_eq_getElem hlt] at hg
      rw [Option.some.inj hg] at x0 x1 x2
      simp only at x0 x1 x2
      have HX := Lib.hid hnx
      have HY := Lib.hid hc1
      clear hg hp hnx hc1
      have hpm : p + N ≤ 200 := by rw [HL.out] at hpn; omega
      have t1 : decide ((N : Int) < 1) = false := by simp; omega
      have t2 : decide (4 < (N : Int)) = false := by simp; omega
      by_cases hr : r = -1
      · subst hr
        obtain rfl := hr0 rfl
        clear hr2 hr0
        go_wp2_with fail
        go_quiet (fail)
        go_wp2_with fail
        go_roundw
        case rel => exact ⟨k + 1, by omega, by go_num, by rw [HX.out]; go_num, Below.drewN_ (hb.alloc hsz _) _⟩
        case measure => simp [intOf]; omega
      · have CW := fun W => width26 r W
        rw [hr2 hr] at CW
        have t3 : (r == -1) = false := by simpa using hr
        have t4 : (r != -1) = true := by simpa using hr
        clear hr hr2 hr0
        go_wp2_with fail
        go_quiet ((go_at_call 26; first | exact quiet_add_left (CW _) | exact quiet_left (CW _)))
        go_wp2_with fail
        go_roundw
        case rel => exact ⟨k + 1, by omega, by go_num, by rw [HX.out]; go_num, Below.drewN_ (hb.alloc hsz _) _⟩
        case measure => simp [intOf]; omega
    · obtain rfl : k = L.length := by omega
      have t2 : (((sGo ys L.length).2 : Nat) : Int) = (m : Int) := by rw [HE.out, HL.out]
      go_wp2_with (go_at_call 27; refine (awake27 _).mono ?_; rintro e w3 ⟨rfl, hb3⟩)
      go_ret
      exact ⟨rfl, hb1.trans ((hb.trans (hb3.mono hb.size)).mono hb1.size)⟩
end Go.Proofs.Ytiegbochpcmicaa
