import Derived.Test.YtiegbochpcmicaaA2
import Derived.Test.YtiegbochpcmicaaA3
import Derived.Test.YtiegbochpcmicaaA4
namespace Go.Proofs.Ytiegbochpcmicaa
open Go.RowKit

theorem items21 (A : Option Addr) (n c : Nat) (zs : List Int) (big : Bool) (w : World) (h : Rd w w.heap.size 1 A n c (ints .u8 zs)) (hz : Bytes8 zs) (hn : n ≤ 4096) :
    Calls Try.prog 21 #[.slice A n c, .bool big] w fun e w' => ∃ A' c', e = .returned (.slice A' (wItems zs big).length c') ∧ Rd w' w'.heap.size 3 A' (wItems zs big).length c' (flat (wItems zs big)) ∧ Below w.heap.size w w' := by
  have key : Calls Try.prog 21 #[.slice A n c, .bool big] w fun e w' => ∃ v, e = .returned v ∧ w'.ownsRow w.heap.size 30 3 v (wItems zs big).length (flat (wItems zs big)) ∧ Below w.heap.size w w' := by
    cases big
    · exact items21_false A n c zs w h hz hn
    · exact items21_true A n c zs w h hz hn
  refine key.mono ?_
  rintro e w' ⟨v, rfl, hown, hb⟩
  obtain ⟨A', c', rfl, ho⟩ := own_form hown
  exact ⟨A', c', rfl, .of_own ho, hb⟩
theorem items22r (A : Option Addr) (n c : Nat) (zs : List Int) (big : Bool) (w : World) (h : Rd w w.heap.size 1 A n c (ints .u8 zs)) (hz : Bytes8 zs) (hn : n ≤ 4096) :
    Calls Try.prog 22 #[.slice A n c, .bool big] w fun e w' => ∃ A' c', e = .returned (.slice A' (wItems zs big).length c') ∧ Rd w' w'.heap.size 3 A' (wItems zs big).length c' (flat (wItems zs big)) ∧ Below w.heap.size w w' := by
  refine (items22 A n c zs big w h hz hn).mono ?_
  rintro e w' ⟨v, rfl, hown, hb⟩
  obtain ⟨A', c', rfl, ho⟩ := own_form hown
  exact ⟨A', c', rfl, .of_own ho, hb⟩

theorem awake_items : wItems [0, 65, 216, 0, 0] true = [(65, 0, 2), (-1, 2, 2), (-1, 4, 1)] := by decide +kernel

set_option maxHeartbeats 1000000 in
theorem awake23 (w : World) : Calls Try.prog 23 #[] w fun e w' => e = .returned (.bool true) ∧ Below w.heap.size w w' := by
  have C := items21 (some ⟨w.heap.size, 0, none⟩) 5 5 [0, 65, 216, 0, 0] true _ (Rd.lit w (ints .u8 [0, 65, 216, 0, 0]) 5 5 1 rfl (by omega)) (by intro z hz; simp at hz; omega) (by omega)
  rw [awake_items] at C
  go_enter Try.func23, Try.ntmps23
  go_wp2_with (go_at_call 21; refine C.mono ?_; rintro e w1 ⟨A', c', rfl, hr, hb⟩; obtain ⟨b, off, rfl, hbb, hc⟩ := hr.it_form (by simp); have x00 : w1.cell? ⟨b, off, none⟩ = some (.int .i32 65) := (hc 0 (by simp)).1; have x01 : w1.cell? ⟨b, off + 1, none⟩ = some (.int .i64 0) := (hc 0 (by simp)).2.1; have x02 : w1.cell? ⟨b, off + 2, none⟩ = some (.int .i64 2) := (hc 0 (by simp)).2.2; have x10 : w1.cell? ⟨b, off + 3, none⟩ = some (.int .i32 (-1)) := (hc 1 (by simp)).1; have x11 : w1.cell? ⟨b, off + 3 + 1, none⟩ = some (.int .i64 2) := (hc 1 (by simp)).2.1; have x12 : w1.cell? ⟨b, off + 3 + 2, none⟩ = some (.int .i64 2) := (hc 1 (by simp)).2.2; have x20 : w1.cell? ⟨b, off + 6, none⟩ = some (.int .i32 (-1)) := (hc 2 (by simp)).1; have x21 : w1.cell? ⟨b, off + 6 + 1, none⟩ = some (.int .i64 4) := (hc 2 (by simp)).2.1; have x22 : w1.cell? ⟨b, off + 6 + 2, none⟩ = some (.int .i64 1) := (hc 2 (by simp)).2.2; clear hc hr)
  go_ret
  exact ⟨rfl, ((Below.refl _ _).alloc (Nat.le_refl _) _).trans (hb.mono (by simp))⟩

theorem wItems_get (ys : List Int) (big : Bool) : ∀ k (hk : k < (wItems ys big).length), ∃ (r : Int) (p N : Nat), (wItems ys big)[k] = (r, p, N) ∧ (wGo ys big k).2 = p ∧ (wGo ys big (k + 1)).2 = p + N ∧ 1 ≤ N ∧ p + N ≤ ys.length := by
  intro k hk
  obtain ⟨h1, h2, h3⟩ := runItems_get (step := wStep ys big) (n := ys.length) k hk
  have hg := wStep_good ys big _ h1
  exact ⟨_, _, _, h2, rfl, h3, hg.1, hg.2⟩
theorem wItems_last (ys : List Int) (big : Bool) : (wGo ys big (wItems ys big).length).2 = ys.length := runItems_last (wStep_good ys big)

set_option maxRecDepth 100000 in
set_option maxHeartbeats 4000000 in
/-- The law's walk. -/
theorem walk3 (A : Option Addr) (n c : Nat) (zs : List Int) (big : Bool) (w : World) (h : Rd w w.heap.size 1 A n c (ints .u8 zs)) (hz : Bytes8 zs) :
    Calls Try.prog 3 #[.slice A n c, .bool big] w fun e w' => e = .returned (.bool true) ∧ Below w.heap.size w w' := by
  go_enter Try.func3, Try.ntmps3
  go_wp2_with (go_at_call 20; refine (short20 A n c _ _ _ h).mono ?_; rintro e w' ⟨⟨rfl, h2⟩, rfl⟩)
  have hz2 := hz.take 200
  have h2' : Rd w w.heap.size 1 A (min n 200) c (ints .u8 (zs.take 200)) := by rw [ints, List.map_take]; exact h2
  have hm : min n 200 ≤ 200 := Nat.min_le_right _ _
  generalize min n 200 = m at h2' hm ⊢
  generalize zs.take 200 = ys at h2' hz2
  clear h2 h hz
  go_wp2_with (go_at_call 21; refine (items21 A m c ys big _ h2' hz2 (by omega)).mono ?_; rintro e w1 ⟨A1, c1, rfl, hr1, hb1⟩)
  go_wp2_with (go_at_call 22; refine (items22r A m c ys big _ (h2'.on hb1) hz2 (by omega)).mono ?_; rintro e w2 ⟨A2, c2, rfl, hr2, hb2⟩)
  have hr1 := hr1.on hb2
  have hb0 := hb1.trans (hb2.mono hb1.size)
  have HL := Lib.hid h2'.int_len
  have hlm : (wItems ys big).length ≤ m := by have := runItems_len_le (wStep_good ys big); have h3 := h2'.int_len; unfold wItems; omega
  have HG := Lib.hid (wItems_get ys big)
  have HE := Lib.hid (wItems_last ys big)
  clear h2' hz2 hb1 hb2
  generalize hLL : wItems ys big = L at hr1 hr2 hlm HG HE ⊢
  clear hLL
  go_loopw [7, 25] (fun at_ i wr => ∃ k : Nat, k ≤ L.length ∧ i = .int .i64 k ∧ at_ = .int .i64 ((wGo ys big k).2 : Nat) ∧ Below w2.heap.size w2 wr)
    (fun _ i _ => L.length - (intOf i).toNat)
  case atStart => exact ⟨0, Nat.zero_le _, rfl, rfl, Below.refl _ _⟩
  case round =>
    obtain ⟨k, hk, rfl, rfl, hb⟩ := hrel
    by_cases hlt : k < L.length
    · obtain ⟨r, p, N, hg, hp, hnx, hN, hpn⟩ := HG.out k hlt
      rw [hp]
      obtain ⟨b1, o1, rfl, hbb1, hc1⟩ := (hr1.below hb).it_form (by omega)
      obtain ⟨b2, o2, rfl, hbb2, hc2⟩ := (hr2.below hb).it_form (by omega)
      obtain ⟨x0, x1, x2⟩ := hc1 k hlt
      obtain ⟨y0, y1, y2⟩ := hc2 k hlt
      rw [hg] at x0 x1 x2 y0 y1 y2
      simp only at x0 x1 x2 y0 y1 y2
      have HX := Lib.hid hnx
      have HY := Lib.hid (And.intro hc1 hc2)
      clear hg hp hnx hc1 hc2
      have hsz := hb.size
      have hpm : p + N ≤ 200 := by rw [HL.out] at hpn; omega
      have t1 : decide ((N : Int) < 1) = false := by simp; omega
      go_wp2_with fail
      have q0 := fun X => cell_old wr b1 (o1 + k * 3) X _ x0
      have q1 := fun X => cell_old wr b1 (o1 + k * 3 + 1) X _ x1
      have q2 := fun X => cell_old wr b1 (o1 + k * 3 + 2) X _ x2
      go_quiet (fail)
      go_wp2_with fail
      go_roundw
      case rel => exact ⟨k + 1, by omega, by go_num, by rw [HX.out]; go_num, Below.drewN_ (hb.alloc hsz _) _⟩
      case measure => simp [intOf]; omega
    · obtain rfl : k = L.length := by omega
      have t2 : (((wGo ys big L.length).2 : Nat) : Int) = (m : Int) := by rw [HE.out, HL.out]
      go_wp2_with (go_at_call 23; refine (awake23 _).mono ?_; rintro e w3 ⟨rfl, hb3⟩)
      go_ret
      exact ⟨rfl, hb0.trans ((hb.trans (hb3.mono hb.size)).mono hb0.size)⟩
end Go.Proofs.Ytiegbochpcmicaa
