/- The walk of an arena's Replace, where there are both. No condition. -/
import Derived.Test.YtbmbiffhgdkpiaaN10
import Derived.Test.YtbmbiffhgdkpiaaPlainRep
import Derived.Laws.OwnMore
namespace Go.Proofs.Ytbmbiffhgdkpiaa
open Go.RowKit

theorem Kept9.drew {a b : World} (h : Kept9 a b) : Kept9 a b.drew := ⟨h.os, h.tape, h.output, h.size, h.blk⟩
theorem Arena.drew {w : World} {B ga : Nat} {N : List GN} (h : Arena w B ga N) : Arena w.drew B ga N := ⟨h.lo, h.ex⟩
theorem own_head {w : World} {B : Nat} {e : TypeId} {sz n c : Nat} {A : Option Addr} {xs : List Value} (h : w.ownsRow B e sz (.slice A n c) n xs) (hn : 0 < n) : ∃ g, A = some ⟨g, 0, none⟩ := by
  rcases h.2 with ⟨_, h0⟩ | ⟨g, cap, cur, hv, _⟩
  · omega
  · injection hv with h1 _ _
    exact ⟨g, h1⟩
theorem ints_set (k : IntKind) (l : List Int) (j : Nat) (z : Int) : (ints k l).set j (.int k z) = ints k (l.set j z) := by simp [ints, List.map_set]

set_option maxRecDepth 100000 in
set_option maxHeartbeats 8000000 in
theorem replace22_in {w : World} {B ga : Nat} {N : List GN} (h : Arena w B ga N) (S : Nat → List GN × Nat) (wy : Nat → Nat) (root wth m : Nat) (P : List Int) (hS : ∀ k, k < m → RepStep N S wy P k) (hS0 : S m = (N, wth)) (hwth : wth < N.length)
    (A : Option Addr) (c : Nat) (hP : w.ownsRow 0 3 1 (.slice A m c) m (ints .i64 P)) (hm : m ≤ 64) (hB : B ≤ w.heap.size)
    (C54 : Calls Try.prog 54 #[.pointer (some ⟨ga, 0, none⟩), .int .i64 root, .slice A m c] w fun e w' => ∃ A' c', e = .returned (.tuple #[.slice A' (m + 1) c', .bool true]) ∧ w'.ownsRow w.heap.size 3 1 (.slice A' (m + 1) c') (m + 1) (ints .i64 ((List.range (m + 1)).map fun j => (wy j : Int))) ∧ Below w.heap.size w w') :
    Calls Try.prog 22 #[.pointer (some ⟨ga, 0, none⟩), .int .i64 root, .int .i64 wth, .slice A m c] w fun e w' => e = .returned (.tuple #[.int .i64 (S 0).2, .int .i64 0]) ∧ Arena w' B ga (S 0).1 ∧ Kept9 w w' ∧ Below B w w' := by
  have HSS := Lib.hid hS
  have HS0 := Lib.hid hS0
  have HPL := Lib.hid (by have := hP.1; simpa using this : P.length = m)
  have t0 : decide ((N.length : Int) ≤ (wth : Int)) = false := by simp; omega
  have t1 : decide ((wth : Int) < 0) = false := by simp
  have t2 : decide (N.length ≤ wth) = false := by simp; omega
  clear hS hS0
  go_enter Try.func22, Try.ntmps22
  go_wp2_with (go_at_call 54; refine C54.mono ?_; rintro e w1 ⟨A', c', rfl, ho1, hb1⟩; clear C54; have h1 := h.below hb1; obtain ⟨A9, c9, e9⟩ := h1.head)
  have hk1 := Kept9.of_below hb1
  have hB1 := hb1.mono hB
  have hP1 := hk1.own hP (by decide) (by decide)
  have hs1 := hb1.size
  clear e9 h hP hb1
  go_loopw [2, 13] (fun wt d wr => ∃ k : Nat, k ≤ m ∧ d = .int .i64 ((k : Int) - 1) ∧ wt = .int .i64 (S k).2 ∧ Arena wr B ga (S k).1 ∧ Kept9 w1 wr ∧ Below B w1 wr)
    (fun _ d _ => (intOf d + 1).toNat)
  case atStart => exact ⟨m, Nat.le_refl _, rfl, by rw [HS0.out], by rw [HS0.out]; exact h1, Kept9.refl _, Below.refl _ _⟩
  case round =>
    obtain ⟨k, hk, rfl, rfl, ha, hk9, hbB⟩ := hrel
    by_cases hq : k = 0
    · subst hq
      go_wp2_with fail
      go_ret2
      exact ⟨rfl, ha, hk1.trans hk9, hB1.trans hbB⟩
    · obtain ⟨q, rfl⟩ : ∃ q, k = q + 1 := ⟨k - 1, by omega⟩
      rw [show ((q + 1 : Nat) : Int) - 1 = (q : Int) by omega]
      have st := HSS.out q (by omega)
      obtain ⟨p, hp⟩ := Int.eq_ofNat_of_zero_le st.p0
      have hp1 := st.p1
      have hlt := st.lt
      have hfew := st.few
      have hbBs := hbB.size
      have HE := Lib.hid st.eq
      have HST := Lib.hid st
      rw [hp] at hp1
      clear st
      obtain ⟨b1, f1, rfl, _, hc1⟩ := (Rd.of_own (hk9.own ho1 (by decide) (by decide))).int_form (by omega)
      have x1 := hc1 q (by omega)
      rw [gz_eq (by simp; omega)] at x1
      simp only [List.getElem_map, List.getElem_range] at x1
      have hPr := hk9.own hP1 (by decide) (by decide)
      obtain ⟨b2, f2, rfl, _, hc2⟩ := (Rd.of_own hPr).int_form (by omega)
      have x2 := hc2 q (by omega)
      rw [hp] at x2
      clear hc1 hc2
      have hP2 := Lib.hid hPr
      have hW2 := Lib.hid (hk9.own ho1 (by decide) (by decide))
      obtain ⟨g, cg, bv, kv, hs, hn⟩ := ha.node
      have e1 := hs (by omega)
      obtain ⟨n0, _, _, _, _, n5, _, o6⟩ := hn (wy q) hlt
      obtain ⟨A6, c6, hv6, ho6⟩ := own_form o6
      rw [hv6] at n5
      rw [HE.out] at n5 ho6 n0
      have hr6 := Rd.of_own ho6
      have C55 := clone55 A6 (gn N (wy q)).kids.length c6 (gn N (wy q)).kids wr.drew hr6.drew (by omega)
      unfold OwnSaid at C55
      clear hs hn o6 hv6 ho6 hr6 hPr
      have j1 : (q : Int) < (m : Int) + 1 := by omega
      have j2 : q < m + 1 := by omega
      have j3 : (q : Int) < (m : Int) := by omega
      have j4 : (wy q : Int) < ((S (q + 1)).1.length : Int) := by omega
      go_wp2_with fail
      refine region_tail 11 (by kernel_rfl) (by kernel_rfl) ?_
      intro W HW
      have d0 : W.cell? ⟨ga, 0, none⟩ = some (.slice (some ⟨g, 0, none⟩) (S (q + 1)).1.length cg) := by rw [HW.out]; exact e1
      have d1 : W.cell? ⟨b1, f1 + q, none⟩ = some (.int .i64 (wy q : Nat)) := by rw [HW.out]; exact x1
      have d2 : W.cell? ⟨g, wy q * 6 + 5, none⟩ = some (.slice A6 (gn N (wy q)).kids.length c6) := by rw [HW.out]; exact n5
      simp only [List.take_succ_cons, List.take_zero, List.drop_succ_cons, List.drop_zero]
      repeat (first | (refine wpStill_step (fun K hK => ?_); go_simp; refine hK _ ?_; clear hK K))
      refine wpStill_nil ?_
      rw [HW.out]
      clear HW d0 d1 d2
      have hw2 : Hid (gz P q = (p : Int)) := Lib.hid hp
      clear hp
      go_wp2_with (go_at_call 55; refine C55.mono ?_; rintro e w5 ⟨A7, c7, rfl, ho7, hb7⟩; clear C55; obtain ⟨g7, rfl⟩ := own_head ho7 (by omega); have f7 := ho7.frozenAt p; have z7 := (ho7.cellAt p (by omega)).trans (ints_get .i64 (gn N (wy q)).kids p (by omega)); have x3 := (hb7.cell (p := ⟨b2, f2 + q, none⟩) (World.block_lt_of_cell? _ _ x2)).trans x2; have hp7 := hp1)
      have hg7 := (ho7.lt g7 rfl).1
      have ho8 := (ho7.stored p (.int .i64 (S (q + 1)).2)).1
      rw [ints_set] at ho8
      have hb8 : Below wr.drew.heap.size wr.drew (w5.setCell ⟨g7, p, none⟩ (.int .i64 (S (q + 1)).2)) := hb7.setCell hg7 _
      clear f7 z7 x3
      generalize w5.setCell ⟨g7, p, none⟩ (.int .i64 (S (q + 1)).2) = w6 at *
      have e1' := (hb8.cell (p := ⟨ga, 0, none⟩) (World.block_lt_of_cell? _ _ e1)).trans e1
      have x1' := (hb8.cell (p := ⟨b1, f1 + q, none⟩) (World.block_lt_of_cell? _ _ x1)).trans x1
      have n0' := (hb8.cell (p := ⟨g, wy q * 6, none⟩) (World.block_lt_of_cell? _ _ n0)).trans n0
      have a6 := ha.drew.below hb8
      have k6 := Kept9.of_below hb8
      have hs6 := hb8.size
      have hs6' : wr.heap.size ≤ w6.heap.size := hs6
      have C25 := branch25 a6.drew (gn N (wy q)).kind (some ⟨g7, 0, none⟩) (gn N (wy q)).kids.length c7 ((gn N (wy q)).kids.set p (S (q + 1)).2) ((Rd.of_own ho8).drew) HST.out.len hfew (by show B ≤ w6.heap.size; omega) (by have := HST.out.bw; rw [hw2.out] at this; exact this) HST.out.cnt
      have C25 := C25.mono (R' := fun e w' => e = .returned (.tuple #[.int .i64 (S (q + 1)).1.length, .int .i64 0]) ∧ Arena w' B ga ((S (q + 1)).1 ++ [⟨(gn N (wy q)).kind, bW (S (q + 1)).1 ((gn N (wy q)).kids.set p (S (q + 1)).2) (gn N (wy q)).kids.length, bC (S (q + 1)).1 ((gn N (wy q)).kids.set p (S (q + 1)).2) (gn N (wy q)).kids.length, false, [], (gn N (wy q)).kids.set p (S (q + 1)).2⟩]) ∧ Kept9 w6.drew w' ∧ Below B w6.drew w') (by
        rintro e w7 ⟨⟨rfl, _, ha7⟩ | ⟨rfl, hk7, _⟩, k7, b7⟩
        · exact ⟨rfl, ha7, k7, b7⟩
        · exact absurd (by have := HST.out.ok; rw [hw2.out] at this; exact this) hk7)
      clear e1 x1 x2 n0 n5 hb7 ho7 ha
      go_wp2_with fail
      have e2 : w6.drew.cell? ⟨ga, 0, none⟩ = some (.slice (some ⟨g, 0, none⟩) (S (q + 1)).1.length cg) := e1'
      have x2 : w6.drew.cell? ⟨b1, f1 + q, none⟩ = some (.int .i64 (wy q : Nat)) := x1'
      have n2 : w6.drew.cell? ⟨g, wy q * 6, none⟩ = some (.int .i64 (gn N (wy q)).kind) := n0'
      clear e1' x1' n0'
      go_region_with ((go_at_call 25; refine C25.mono ?_; rintro e w7 ⟨rfl, ha7, k7, b7⟩; clear C25))
      all_goals
        go_wp2_with fail
        go_roundw
        case rel => exact ⟨q, by omega, rfl, by rw [HST.out.e2], by rw [HST.out.e1, hw2.out]; exact ha7, (hk9.trans ⟨k6.os, k6.tape, k6.output, k6.size, k6.blk⟩).trans ⟨k7.os, k7.tape, k7.output, k7.size, k7.blk⟩, (hbB.trans ⟨(hb8.mono (show B ≤ wr.heap.size by omega)).os, hb8.tape, hb8.output, hb8.size, (hb8.mono (show B ≤ wr.heap.size by omega)).block⟩).trans ⟨b7.os, b7.tape, b7.output, b7.size, b7.block⟩⟩
        case measure => simp [intOf]
end Go.Proofs.Ytbmbiffhgdkpiaa
