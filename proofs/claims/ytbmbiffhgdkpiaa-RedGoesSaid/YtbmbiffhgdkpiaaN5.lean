/- The walk of an arena's Branch. No condition. -/
import Derived.Test.YtbmbiffhgdkpiaaN4
namespace Go.Proofs.Ytbmbiffhgdkpiaa
open Go.RowKit

/-- The width and the count of a branch's first k kids. -/
def bW (N : List GN) (ks : List Int) : Nat → Nat
  | 0 => 0
  | k + 1 => bW N ks k + (gn N (gz ks k).toNat).w
def bC (N : List GN) (ks : List Int) : Nat → Nat
  | 0 => 1
  | k + 1 => min (bC N ks k + (gn N (gz ks k).toNat).cnt) 2147483647
/-- Are the first k kids nodes? -/
def kidsOk (N : List GN) (ks : List Int) (k : Nat) : Prop := ∀ j, j < k → 0 ≤ gz ks j ∧ gz ks j < N.length
theorem kidsOk_succ {N : List GN} {ks : List Int} {k : Nat} (h : kidsOk N ks k) (hk : 0 ≤ gz ks k ∧ gz ks k < N.length) : kidsOk N ks (k + 1) := fun j hj => by
  rcases Nat.lt_or_ge j k with h' | h'
  · exact h j h'
  · obtain rfl : j = k := by omega
    exact hk
theorem bW_mono (N : List GN) (ks : List Int) {k m : Nat} (h : k ≤ m) : bW N ks k ≤ bW N ks m := by
  induction m with
  | zero => rw [show k = 0 by omega]; exact Nat.le_refl _
  | succ m ih =>
    rcases Nat.lt_or_ge k (m + 1) with h' | h'
    · exact Nat.le_trans (ih (by omega)) (Nat.le_add_right _ _)
    · rw [show k = m + 1 by omega]; exact Nat.le_refl _
theorem bC_bd (N : List GN) (ks : List Int) (k : Nat) : bC N ks k ≤ 2147483647 := by
  cases k with
  | zero => simp [bC]
  | succ k => simp only [bC]; omega

set_option maxRecDepth 100000 in
set_option maxHeartbeats 4000000 in
theorem branch25 {w : World} {B ga : Nat} {N : List GN} (h : Arena w B ga N) (kind : Int) (A : Option Addr) (n c : Nat) (ks : List Int) (hr : Rd w w.heap.size 1 A n c (ints .i64 ks)) (hn : N.length ≤ 65536) (hks : n ≤ 64) (hB : B ≤ w.heap.size) (hW : bW N ks n ≤ 2147483647) (hC : ∀ i, i < N.length → (gn N i).cnt ≤ 2147483647) :
    Calls Try.prog 25 #[.pointer (some ⟨ga, 0, none⟩), .int .i64 kind, .slice A n c] w fun e w' =>
      ((e = .returned (.tuple #[.int .i64 N.length, .int .i64 0]) ∧ kidsOk N ks n ∧ Arena w' B ga (N ++ [⟨kind, bW N ks n, bC N ks n, false, [], ks⟩])) ∨ (e = .returned (.tuple #[.int .i64 0, .int .i64 6]) ∧ ¬ kidsOk N ks n ∧ Arena w' B ga N)) ∧ Kept9 w w' ∧ Below B w w' := by
  have HL := Lib.hid hr.int_len
  have C55 := clone55 A n c ks w hr (by omega)
  have HC := Lib.hid hC
  unfold OwnSaid at C55
  clear hC
  go_enter Try.func25, Try.ntmps25
  go_wp2_with (go_at_call 55; refine C55.mono ?_; rintro e w1 ⟨A1, c1, rfl, ho1, hb1⟩; clear C55; have h1 := h.below hb1; have hr1 := hr.on hb1)
  obtain ⟨g, cg, bv, kv, hs, hnode⟩ := h1.node
  have HS := Lib.hid hs
  have HN := Lib.hid hnode
  have hga := h1.lt
  clear hs hnode
  go_loopw [9, 20] (fun long i wr => ∃ k : Nat, k ≤ n ∧ i = .int .i64 k ∧ long = .bool false ∧ Hid (kidsOk N ks k) ∧ Below w1.heap.size w1 wr ∧ Hid (wr.heap[w1.heap.size]? = some (.cells #[.int .i64 kind, .int .i64 (bW N ks k : Nat), .int .i64 (bC N ks k : Nat), .bool false, .slice none 0 0, .slice A1 n c1] 90 (0, 0))))
    (fun _ i _ => n - (intOf i).toNat)
  case atStart => exact ⟨0, Nat.zero_le _, rfl, rfl, Lib.hid (fun j hj => absurd hj (by omega)), (Below.refl _ _).alloc (Nat.le_refl _) _, Lib.hid (heap_alloc_new w1 _)⟩
  case round =>
    obtain ⟨k, hk, rfl, rfl, HK, hb, HX⟩ := hrel
    have hsz := hb.size
    by_cases hlt : k < n
    · obtain ⟨b, off, rfl, hbb, hc⟩ := (hr1.below hb).int_form (by omega)
      have x0 := hc k hlt
      clear hc
      obtain ⟨A9, c9, e0⟩ := (h1.below hb).head
      by_cases hv : 0 ≤ gz ks k ∧ gz ks k < N.length
      · have HKS := Lib.hid (kidsOk_succ HK.out hv)
        obtain ⟨i, hi⟩ := Int.eq_ofNat_of_zero_le hv.1
        have hiN : i < N.length := by omega
        have HW1 := Lib.hid (show bW N ks (k + 1) = bW N ks k + (gn N i).w by simp only [bW, hi]; rfl)
        have HC1 := Lib.hid (show bC N ks (k + 1) = min (bC N ks k + (gn N i).cnt) 2147483647 by simp only [bC, hi]; rfl)
        have hwm := bW_mono N ks (show k + 1 ≤ n by omega)
        rw [HW1.out] at hwm
        have hcb := bC_bd N ks k
        have hci := HC.out i hiN
        obtain ⟨_, n1, n2, _, _, _, _, _⟩ := HN.out i hiN
        have hgl := World.block_lt_of_cell? _ _ n1
        have e1 := (hb.cell (p := ⟨ga, 0, none⟩) hga).trans (HS.out (by omega))
        have m1 := (hb.cell (p := ⟨g, i * 6 + 1, none⟩) hgl).trans n1
        have m2 := (hb.cell (p := ⟨g, i * 6 + 2, none⟩) hgl).trans n2
        rw [hi] at x0
        have y1 : wr.cell? ⟨w1.heap.size, 1, none⟩ = some (.int .i64 (bW N ks k : Nat)) := cell_of_row wr _ 1 _ _ _ HX.out
        have y2 : wr.cell? ⟨w1.heap.size, 2, none⟩ = some (.int .i64 (bC N ks k : Nat)) := cell_of_row wr _ 2 _ _ _ HX.out
        have f1 := fun j => frozen_of_row wr w1.heap.size j _ _ HX.out
        clear n1 n2 e0 hi hv
        generalize (gn N i).w = wi at *
        generalize (gn N i).cnt = ci at *
        generalize bW N ks k = Wk at *
        generalize bC N ks k = Ck at *
        have u1 : IntKind.i64.wrap ((Ck : Int) + (ci : Int)) = (Ck : Int) + (ci : Int) := IntWalk.i64_in _ (by omega)
        have t0 : decide ((N.length : Int) ≤ (i : Int)) = false := by simp; omega
        go_wp2_with fail
        refine region_tail 11 (by kernel_rfl) (by kernel_rfl) ?_
        intro W HW
        have d0 : W.cell? ⟨w1.heap.size, 2, none⟩ = some (.int .i64 (Ck : Nat)) := by rw [HW.out]; exact y2
        have d1 : W.cell? ⟨ga, 0, none⟩ = some (.slice (some ⟨g, 0, none⟩) N.length cg) := by rw [HW.out]; exact e1
        have d2 : W.cell? ⟨g, i * 6 + 2, none⟩ = some (.int .i64 (ci : Nat)) := by rw [HW.out]; exact m2
        simp only [List.take_succ_cons, List.take_zero, List.drop_succ_cons, List.drop_zero]
        repeat (first | (refine wpStill_step (fun K hK => ?_); go_simp; refine hK _ ?_; clear hK K))
        refine wpStill_nil ?_
        rw [HW.out]
        clear HW d0 d1 d2
        go_wp2_with fail
        · rename_i hmn
          have HX2 := Lib.hid (heap_setCell_same wr w1.heap.size 2 _ _ (.int .i64 2147483647) HX.out)
          have gne : g ≠ w1.heap.size := by omega
          have gane : ga ≠ w1.heap.size := by omega
          have hbW := (hb.setCell (p := ⟨w1.heap.size, 2, none⟩) (Nat.le_refl _) (.int .i64 2147483647)).drew
          have e3 : (wr.setCell ⟨w1.heap.size, 2, none⟩ (.int .i64 2147483647)).drew.cell? ⟨ga, 0, none⟩ = some (.slice (some ⟨g, 0, none⟩) N.length cg) := (World.cell?_setCell_other wr _ _ _ (fun e => gane (by injection e with e1; exact e1.symm))).trans e1
          have m3 : (wr.setCell ⟨w1.heap.size, 2, none⟩ (.int .i64 2147483647)).drew.cell? ⟨g, i * 6 + 1, none⟩ = some (.int .i64 (wi : Nat)) := (World.cell?_setCell_other wr _ _ _ (fun e => gne (by injection e with e1; exact e1.symm))).trans m1
          generalize hW2 : (wr.setCell ⟨w1.heap.size, 2, none⟩ (.int .i64 2147483647)).drew = W2 at *
          have HX3 : Hid (W2.heap[w1.heap.size]? = some (.cells #[.int .i64 kind, .int .i64 (Wk : Nat), .int .i64 2147483647, .bool false, .slice none 0 0, .slice A1 n c1] 90 (0, 0))) := Lib.hid (by rw [← hW2]; exact HX2.out)
          have y3 : W2.cell? ⟨w1.heap.size, 1, none⟩ = some (.int .i64 (Wk : Nat)) := cell_of_row W2 _ 1 _ _ _ HX3.out
          have f3 := fun j => frozen_of_row W2 w1.heap.size j _ _ HX3.out
          clear HX2 hW2
          have u2 : IntKind.i64.wrap (2147483647 - (Wk : Int)) = 2147483647 - (Wk : Int) := IntWalk.i64_in _ (by omega)
          have u3 : decide (2147483647 - (Wk : Int) < (wi : Int)) = false := by simp; omega
          have u4 : IntKind.i64.wrap ((Wk : Int) + (wi : Int)) = (Wk : Int) + (wi : Int) := IntWalk.i64_in _ (by omega)
          go_quiet (fail)
          go_wp2_with fail
          refine region_tail 11 (by kernel_rfl) (by kernel_rfl) ?_
          intro W HW
          have d0 : W.cell? ⟨w1.heap.size, 1, none⟩ = some (.int .i64 (Wk : Nat)) := by rw [HW.out]; exact y3
          have d1 : W.cell? ⟨ga, 0, none⟩ = some (.slice (some ⟨g, 0, none⟩) N.length cg) := by rw [HW.out]; exact e3
          have d2 : W.cell? ⟨g, i * 6 + 1, none⟩ = some (.int .i64 (wi : Nat)) := by rw [HW.out]; exact m3
          simp only [List.take_succ_cons, List.take_zero, List.drop_succ_cons, List.drop_zero]
          repeat (first | (refine wpStill_step (fun K hK => ?_); go_simp; refine hK _ ?_; clear hK K))
          refine wpStill_nil ?_
          rw [HW.out]
          clear HW d0 d1 d2
          go_wp2_with fail
          go_roundw
          case rel => exact ⟨k + 1, by omega, by go_num, rfl, HKS, Below.drewN_ (hbW.setCell (p := ⟨w1.heap.size, 1, none⟩) (Nat.le_refl _) _) _, Lib.hid (by
            rw [HW1.out, HC1.out, Int.natCast_add, show min (Ck + ci) 2147483647 = 2147483647 by omega]
            exact heap_setCell_same W2 w1.heap.size 1 _ _ _ HX3.out)⟩
          case measure => simp [intOf]; omega
        · rename_i hmn
          have HX2 := Lib.hid (heap_setCell_same wr w1.heap.size 2 _ _ (.int .i64 ((Ck : Int) + (ci : Int))) HX.out)
          have gne : g ≠ w1.heap.size := by omega
          have gane : ga ≠ w1.heap.size := by omega
          have hbW := (hb.setCell (p := ⟨w1.heap.size, 2, none⟩) (Nat.le_refl _) (.int .i64 ((Ck : Int) + (ci : Int)))).drew
          have e3 : (wr.setCell ⟨w1.heap.size, 2, none⟩ (.int .i64 ((Ck : Int) + (ci : Int)))).drew.cell? ⟨ga, 0, none⟩ = some (.slice (some ⟨g, 0, none⟩) N.length cg) := (World.cell?_setCell_other wr _ _ _ (fun e => gane (by injection e with e1; exact e1.symm))).trans e1
          have m3 : (wr.setCell ⟨w1.heap.size, 2, none⟩ (.int .i64 ((Ck : Int) + (ci : Int)))).drew.cell? ⟨g, i * 6 + 1, none⟩ = some (.int .i64 (wi : Nat)) := (World.cell?_setCell_other wr _ _ _ (fun e => gne (by injection e with e1; exact e1.symm))).trans m1
          generalize hW2 : (wr.setCell ⟨w1.heap.size, 2, none⟩ (.int .i64 ((Ck : Int) + (ci : Int)))).drew = W2 at *
          have HX3 : Hid (W2.heap[w1.heap.size]? = some (.cells #[.int .i64 kind, .int .i64 (Wk : Nat), .int .i64 ((Ck : Int) + (ci : Int)), .bool false, .slice none 0 0, .slice A1 n c1] 90 (0, 0))) := Lib.hid (by rw [← hW2]; exact HX2.out)
          have y3 : W2.cell? ⟨w1.heap.size, 1, none⟩ = some (.int .i64 (Wk : Nat)) := cell_of_row W2 _ 1 _ _ _ HX3.out
          have f3 := fun j => frozen_of_row W2 w1.heap.size j _ _ HX3.out
          clear HX2 hW2
          have u2 : IntKind.i64.wrap (2147483647 - (Wk : Int)) = 2147483647 - (Wk : Int) := IntWalk.i64_in _ (by omega)
          have u3 : decide (2147483647 - (Wk : Int) < (wi : Int)) = false := by simp; omega
          have u4 : IntKind.i64.wrap ((Wk : Int) + (wi : Int)) = (Wk : Int) + (wi : Int) := IntWalk.i64_in _ (by omega)
          go_quiet (fail)
          go_wp2_with fail
          refine region_tail 11 (by kernel_rfl) (by kernel_rfl) ?_
          intro W HW
          have d0 : W.cell? ⟨w1.heap.size, 1, none⟩ = some (.int .i64 (Wk : Nat)) := by rw [HW.out]; exact y3
          have d1 : W.cell? ⟨ga, 0, none⟩ = some (.slice (some ⟨g, 0, none⟩) N.length cg) := by rw [HW.out]; exact e3
          have d2 : W.cell? ⟨g, i * 6 + 1, none⟩ = some (.int .i64 (wi : Nat)) := by rw [HW.out]; exact m3
          simp only [List.take_succ_cons, List.take_zero, List.drop_succ_cons, List.drop_zero]
          repeat (first | (refine wpStill_step (fun K hK => ?_); go_simp; refine hK _ ?_; clear hK K))
          refine wpStill_nil ?_
          rw [HW.out]
          clear HW d0 d1 d2
          go_wp2_with fail
          go_roundw
          case rel => exact ⟨k + 1, by omega, by go_num, rfl, HKS, Below.drewN_ (hbW.setCell (p := ⟨w1.heap.size, 1, none⟩) (Nat.le_refl _) _) _, Lib.hid (by
            rw [HW1.out, HC1.out, Int.natCast_add, show ((min (Ck + ci) 2147483647 : Nat) : Int) = (Ck : Int) + (ci : Int) by omega]
            exact heap_setCell_same W2 w1.heap.size 1 _ _ _ HX3.out)⟩
          case measure => simp [intOf]; omega
      · have HN := Lib.hid (show ¬ kidsOk N ks n from fun hall => hv (hall k hlt))
        have hcase : decide (gz ks k < 0) = true ∨ (decide (gz ks k < 0) = false ∧ decide ((N.length : Int) ≤ gz ks k) = true) := by simp; omega
        have ha9 := Lib.hid (h1.below hb)
        clear hv
        generalize gz ks k = z at x0 hcase
        rcases hcase with t0 | ⟨t0, t1⟩
        all_goals
          go_wp2_with fail
          go_ret2
          exact ⟨.inr ⟨rfl, HN.out, ha9.out⟩, Kept9.of_below (hb1.trans (hb.mono hb1.size)), (hb1.trans (hb.mono hb1.size)).mono hB⟩
    · obtain rfl : k = n := by omega
      have ha := h1.below hb
      have hq : ∀ j u, (#[Value.int .i64 kind, .int .i64 (bW N ks k : Nat), .int .i64 (bC N ks k : Nat), .bool false, .slice none 0 0, .slice A1 k c1] : Array Value)[j]? = some u → wr.cell? ⟨w1.heap.size, j, none⟩ = some u := fun j u hu => (cell_of_row wr _ j _ _ _ HX.out).trans hu
      have q0 := hq 0 _ rfl
      have q1 := hq 1 _ rfl
      have q2 := hq 2 _ rfl
      have q3 := hq 3 _ rfl
      have q4 := hq 4 _ rfl
      have q5 := hq 5 _ rfl
      clear hq
      have C56 := add56 ha ⟨kind, bW N ks k, bC N ks k, false, [], ks⟩ none A1 0 0 k c1 (World.ownsRow_nil _ _ _ _) (by rw [HL.out]; exact own_mono (own_below ho1 hb) hB) hn (by have := hb1.size; omega)
      have hkb := Kept9.of_below (hb1.trans (hb.mono hb1.size))
      have hbB := (hb1.trans (hb.mono hb1.size)).mono hB
      clear ha ho1
      go_wp2_with (go_at_call 56; refine C56.mono ?_; rintro e w5 ⟨rfl, ha5, hk5, hb5⟩; clear C56)
      go_ret2
      exact ⟨.inl ⟨rfl, HK.out, ha5⟩, hkb.trans hk5, hbB.trans hb5⟩
end Go.Proofs.Ytbmbiffhgdkpiaa
