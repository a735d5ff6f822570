/- The walk of the law SniffPieces. No condition. -/
import Derived.Test.YtiegbochpcmicaaE3
namespace Go.Proofs.Ytiegbochpcmicaa
open Go.RowKit

theorem short41' {A : Option Addr} {n c : Nat} {zs : List Int} {w : World} (h : Rd w w.heap.size 1 A n c (ints .u8 zs)) :
    Calls Try.prog 41 #[.slice A n c] w fun e w' => e = .returned (.slice A (min n 200) c) ∧ w = w' := (short41 A n c w _ _ h).mono fun _ _ h => ⟨h.1.1, h.2⟩

set_option maxRecDepth 100000 in
set_option maxHeartbeats 4000000 in
theorem walk13_good (kind : Int) (A : Option Addr) (n c : Nat) (zs : List Int) (w : World) (h : Rd w w.heap.size 1 A n c (ints .u8 zs)) (hz : Bytes8 zs) (hk : 0 ≤ kind ∧ kind ≤ 2) :
    Calls Try.prog 13 #[.int .i64 kind, .slice A n c] w fun e w' => e = .returned (.bool true) ∧ Below w.heap.size w w' := by
  have hz2 := hz.take 200
  have hm : min n 200 ≤ 200 := Nat.min_le_right _ _
  have C41 := short41' h
  have h2' := short_facts h
  generalize min n 200 = m at h2' hm C41
  generalize zs.take 200 = ys at h2' hz2
  clear h hz
  have C46 := pieces46 kind A m c ys w h2' hz2 (by omega)
  have C47 := fun W hW => items47 kind A m c ys W hW hz2 (by omega) hk
  have hlm : (pItems kind ys).length ≤ 200 := by have h1 := pItems_le kind hz2; have h3 := h2'.int_len; omega
  clear hz2
  generalize pItems kind ys = L at C46 C47 hlm
  have t0 : decide (kind < 0) = false := by simp; omega
  have t1 : decide (2 < kind) = false := by simp; omega
  clear hk
  go_enter Try.func13, Try.ntmps13
  go_wp2_with (first | (go_at_call 41; refine C41.mono ?_; rintro e w' ⟨rfl, rfl⟩; clear C41) | (go_at_call 46; refine C46.mono ?_; rintro e w1 ⟨A1, c1, rfl, hr1, hb1⟩; clear C46; have h3 := h2'.on hb1) | (go_at_call 47; refine (C47 _ h3).mono ?_; rintro e w2 ⟨A2, c2, rfl, hr2, hb2⟩; clear C47; have hr3 := hr1.on hb2; have hb0 := hb1.trans (hb2.mono hb1.size); clear h3 hr1 hb1 hb2))
  clear h2'
  go_loopw [36] (fun i wr => ∃ k : Nat, k ≤ L.length ∧ i = .int .i64 k ∧ Below w2.heap.size w2 wr)
    (fun i _ => L.length - (intOf i).toNat)
  case atStart => exact ⟨0, Nat.zero_le _, rfl, Below.refl _ _⟩
  case round =>
    obtain ⟨k, hk, rfl, hb⟩ := hrel
    have hsz := hb.size
    by_cases hlt : k < L.length
    · obtain ⟨b1, o1, rfl, hbb1, hc1⟩ := (hr3.below hb).it_form (by omega)
      obtain ⟨b2, o2, rfl, hbb2, hc2⟩ := (hr2.below hb).it_form (by omega)
      obtain ⟨x0, x1, x2⟩ := hc1 k hlt
      obtain ⟨y0, y1, y2⟩ := hc2 k hlt
      generalize L[k] = it at x0 x1 x2 y0 y1 y2
      obtain ⟨r, p, N⟩ := it
      simp only at x0 x1 x2 y0 y1 y2
      have HY := Lib.hid (And.intro hc1 hc2)
      clear hc1 hc2
      have q0 := fun X => cell_old wr b1 (o1 + k * 3) X _ x0
      have q1 := fun X => cell_old wr b1 (o1 + k * 3 + 1) X _ x1
      have q2 := fun X => cell_old wr b1 (o1 + k * 3 + 2) X _ x2
      go_wp2_with fail
      go_quiet (fail)
      go_wp2_with fail
      go_roundw
      case rel => exact ⟨k + 1, by omega, by go_num, Below.drewN_ (hb.alloc hsz _) _⟩
      case measure => simp [intOf]; omega
    · obtain rfl : k = L.length := by omega
      go_wp2_with (go_at_call 45; refine (awake45 _).mono ?_; rintro e w3 ⟨rfl, hb3⟩)
      go_ret
      exact ⟨rfl, hb0.trans ((hb.trans (hb3.mono hb.size)).mono hb0.size)⟩

set_option maxHeartbeats 1000000 in
theorem walk13_bad (kind : Int) (A : Option Addr) (n c : Nat) (zs : List Int) (w : World) (h : Rd w w.heap.size 1 A n c (ints .u8 zs)) (hz : Bytes8 zs) (hk : kind < 0 ∨ 2 < kind) :
    Calls Try.prog 13 #[.int .i64 kind, .slice A n c] w fun e w' => e = .returned (.bool true) ∧ Below w.heap.size w w' := by
  have hz2 := hz.take 200
  have hm : min n 200 ≤ 200 := Nat.min_le_right _ _
  have C41 := short41' h
  have h2' := short_facts h
  generalize min n 200 = m at h2' hm C41
  generalize zs.take 200 = ys at h2' hz2
  clear h hz
  have C46 := pieces46 kind A m c ys w h2' hz2 (by omega)
  rw [show pItems kind ys = [] by unfold pItems; rw [if_neg (by omega), if_neg (by omega), if_neg (by omega)]] at C46
  clear hz2 h2'
  rcases hk with hk | hk
  · have t0 : decide (kind < 0) = true := by simpa using hk
    go_enter Try.func13, Try.ntmps13
    go_wp2_with (first | (go_at_call 41; refine C41.mono ?_; rintro e w' ⟨rfl, rfl⟩; clear C41) | (go_at_call 46; refine C46.mono ?_; rintro e w1 ⟨A1, c1, rfl, hr1, hb1⟩; clear C46) | (go_at_call 45; refine (awake45 _).mono ?_; rintro e w3 ⟨rfl, hb3⟩))
    go_ret
    exact ⟨rfl, hb1.trans (hb3.mono hb1.size)⟩
  · have t0 : decide (kind < 0) = false := by simp; omega
    have t1 : decide (2 < kind) = true := by simpa using hk
    go_enter Try.func13, Try.ntmps13
    go_wp2_with (first | (go_at_call 41; refine C41.mono ?_; rintro e w' ⟨rfl, rfl⟩; clear C41) | (go_at_call 46; refine C46.mono ?_; rintro e w1 ⟨A1, c1, rfl, hr1, hb1⟩; clear C46) | (go_at_call 45; refine (awake45 _).mono ?_; rintro e w3 ⟨rfl, hb3⟩))
    go_ret
    exact ⟨rfl, hb1.trans (hb3.mono hb1.size)⟩

theorem walk13 (kind : Int) (A : Option Addr) (n c : Nat) (zs : List Int) (w : World) (h : Rd w w.heap.size 1 A n c (ints .u8 zs)) (hz : Bytes8 zs) :
    Calls Try.prog 13 #[.int .i64 kind, .slice A n c] w fun e w' => e = .returned (.bool true) ∧ Below w.heap.size w w' := by
  by_cases hk : 0 ≤ kind ∧ kind ≤ 2
  · exact walk13_good kind A n c zs w h hz hk
  · exact walk13_bad kind A n c zs w h hz (by omega)
end Go.Proofs.Ytiegbochpcmicaa
