/- The walk of the document's Branch. No condition. -/
import Derived.Test.YtbmbiffhgdkpiaaN15
import Derived.Deep.RegionLaw
namespace Go.Proofs.Ytbmbiffhgdkpiaa
open Go.RowKit

/-- What the first k kids print. -/
def prT (N : List GN) (ks : List Int) (k : Nat) : List Int := (ks.take k).flatMap (pr N)
theorem prT_succ (N : List GN) (ks : List Int) (k : Nat) (h : k < ks.length) : prT N ks (k + 1) = prT N ks k ++ pr N (gz ks k) := by
  unfold prT
  rw [List.take_succ_eq_append_getElem h, List.flatMap_append, gz_eq h]
  simp
theorem prT_le (N : List GN) (ks : List Int) (k : Nat) : (prT N ks k).length ≤ (ks.flatMap (pr N)).length := by
  have h : ks.flatMap (pr N) = prT N ks k ++ (ks.drop k).flatMap (pr N) := by
    unfold prT
    rw [← List.flatMap_append, List.take_append_drop]
  rw [h, List.length_append]
  omega
theorem prT_bd {N : List GN} (hp : ∀ i : Nat, i < N.length → (pr N i).length ≤ 8192) {ks : List Int} : ∀ k, k ≤ ks.length → kidsOk N ks k → (prT N ks k).length ≤ k * 8192 := by
  intro k
  induction k with
  | zero => intro _ _; simp [prT]
  | succ k ih =>
    intro hk ho
    rw [prT_succ N ks k (by omega), List.length_append]
    have h1 := ih (by omega) (fun j hj => ho j (by omega))
    have h2 := ho k (by omega)
    have h3 := hp (gz ks k).toNat (by omega)
    rw [show (((gz ks k).toNat : Nat) : Int) = gz ks k by omega] at h3
    omega
theorem step_append_run {P : Program} {ops : Array Oper} {o : Oper} {a : Act} {W : World} {K : Act → World → Prop} {Q : Exit → Act → World → Prop} {E : Prop} (hg : o.guard = none) (t ty : TypeId) (s x : Operand)
    (ho : o.op = .call { callee := .builtin .append, args := #[s, x], argTypes := #[t, t] } ∧ o.type = ty) (v xv : Value) (hs : a.eval s = v) (hx : a.eval x = xv) (v' : Value) (w' : World) (hrun : (Builtin.append_ #[t, t] ty #[v, xv]).run P W = .ok v' w') (h : K (a.put o.dst v') w') :
    if Region.wanted o (yielded ops a.tmps) = true then o.wp P a W K Q else E := by
  rw [if_pos (by simp [Region.wanted, hg])]
  exact wp_append t ty s x ho v xv hs hx v' w' hrun h
theorem run_pushesG {P : Program} {t e : TypeId} {sz bytes : Nat} (T : ST P t e sz bytes) (ty : TypeId) {B : Nat} {W : World} (v : Value) {n : Nat} {xs : List Value} (hown : W.ownsRow B e sz v n xs)
    {B' m c : Nat} {A : Option Addr} {ys : List Value} (hr : Rd W B' sz A m c ys) (h1 : ∀ u ∈ ys, u.oneCell' = true) (hn : n + m ≤ 1048576) (hby : bytes ≤ 1048576) (hB : B ≤ W.heap.size) :
    ∃ v' w', (Builtin.append_ #[t, t] ty #[v, .slice A m c]).run P W = .ok v' w' ∧ w'.ownsRow B e sz v' (n + m) (xs ++ ys) ∧ W.grownBy w' v.ownBlock := by
  obtain ⟨i, z, hi, hz0, hz1, hz2, hz3⟩ := T.ex
  have hbyt : (n + m) * bytes ≤ 140737488355328 := by
    have : (n + m) * bytes ≤ 1048576 * 1048576 := Nat.mul_le_mul hn hby
    omega
  by_cases hm : m = 0
  · subst hm
    have hy : ys = [] := List.eq_nil_of_length_eq_zero (by simpa using hr.len)
    subst hy
    rcases A with _ | ad
    · refine ⟨v, W, ?_, by simpa using hown, World.grownBy.refl W _⟩
      rcases hown.2 with ⟨rfl, rfl⟩ | ⟨g, cap, cur, rfl, _, _, hnc, _⟩
      · simp [Builtin.append_, run_underlying T.ht, sizeOf, typeInfo, hi, Builtin.lenOf, Builtin.firstCells]
      · simp [Builtin.append_, run_underlying T.ht, sizeOf, typeInfo, hi, Builtin.lenOf, Builtin.firstCells, hnc, storeCells]
    · obtain ⟨v', w', hr', h2, h3, _⟩ := run_append_own (P := P) W B t ty e i z sz bytes T.ht hi hz0 hz1 hz2 hz3 T.pos v n xs hown ad 0 c [] (by simp) (by simp) (by simp) (by unfold maxLen; omega) hbyt hB
      exact ⟨v', w', hr', h2, h3⟩
  · obtain ⟨b, off, rfl, hbb, hc⟩ := hr.at_ (by omega)
    obtain ⟨v', w', hr', h2, h3, _⟩ := run_append_own (P := P) W B t ty e i z sz bytes T.ht hi hz0 hz1 hz2 hz3 T.pos v n xs hown ⟨b, off, none⟩ m c ys hr.len (fun j u hu => by rw [add_none]; exact hc j u hu) h1 (by unfold maxLen; omega) hbyt hB
    exact ⟨v', w', hr', h2, h3⟩
/-- What the document's Branch hands back. -/
def BrSaid (N : List GN) (kind : Int) (ks : List Int) (A : Option Addr) (n c : Nat) (w : World) (e : Ending) (w' : World) : Prop :=
  ((∃ A' c', e = .returned (.tuple #[.slice A' (N.length + 1) c', .int .i64 0]) ∧ kidsOk N ks ks.length ∧ DocN w' (.slice A' (N.length + 1) c') (gbr N kind ks)) ∨ (e = .returned (.tuple #[.slice A n c, .int .i64 6]) ∧ ¬ kidsOk N ks ks.length)) ∧ Below w.heap.size w w'

/-- The two appends at the end of the document's Branch: the first. -/
theorem br_one {w V : World} {A : Option Addr} {c L : Nat} {N : List GN} {bv kv : Nat → Value} {v0 vb k : Value} (hbV : Below w.heap.size w V) (hL : w.heap.size ≤ L) (hLV : L ≤ V.heap.size) (hv0 : V.ownsRow L 47 5 v0 0 []) (hrow : Rd w w.heap.size 5 A N.length c (drows N bv kv)) (hone : ∀ u ∈ drows N bv kv, u.oneCell' = true) (hn : N.length ≤ 65536)
    {m1 m2 : Nat} {l1 l2 : List Value} (h5 : V.ownsRow w.heap.size 5 1 vb m1 l1) (h3 : V.ownsRow w.heap.size 3 1 k m2 l2) :
    ∃ v1 V1, (Builtin.append_ #[25, 25] 25 #[v0, .slice A N.length c]).run Try.prog V = .ok v1 V1 ∧ V1.ownsRow L 47 5 v1 N.length (drows N bv kv) ∧ Below w.heap.size w V1 ∧ Below L V V1 ∧ V1.ownsRow w.heap.size 5 1 vb m1 l1 ∧ V1.ownsRow w.heap.size 3 1 k m2 l2 ∧ V.grownBy V1 v0.ownBlock := by
  obtain ⟨v1, V1, hrun, ho, hg⟩ := run_pushesG (P := Try.prog) st25 25 v0 hv0 (hrow.below hbV) hone (by omega) (by omega) hLV
  have hb : Below L V V1 := (Below.refl L V).grown hg hLV fun q hq => (hv0.lt q hq).1
  exact ⟨v1, V1, hrun, own_as ho (by simp) (by simp), hbV.trans (hb.mono hL), hb, h5.kept hg (own_apart hv0 h5 (by decide)), h3.kept hg (own_apart hv0 h3 (by decide)), hg⟩
/-- The second. -/
theorem br_two {w V : World} {L g m : Nat} {N : List GN} (hN : GoodN N) (kind : Int) {ks : List Int} (hk : kidsOk N ks ks.length) (hm : ks.length = m) {bv kv : Nat → Value} {v1 vb k : Value} (hbV : Below w.heap.size w V) (hL : w.heap.size ≤ L) (hLV : L ≤ V.heap.size) (hv1 : V.ownsRow L 47 5 v1 N.length (drows N bv kv)) (hn : N.length ≤ 65536)
    (hi : ∀ i, i < N.length → w.ownsRow 0 5 1 (bv i) (pr N i).length (ints .u8 (pr N i)) ∧ w.ownsRow 0 3 1 (kv i) (gn N i).kids.length (ints .i64 (gn N i).kids))
    (h5 : V.ownsRow w.heap.size 5 1 vb (prT N ks m).length (ints .u8 (prT N ks m))) (h3 : V.ownsRow w.heap.size 3 1 k m (ints .i64 ks)) (hx : ∀ j u, (dcells ⟨kind, 0, bC N ks m, false, [], []⟩ vb k)[j]? = some u → V.cell? ⟨g, j, none⟩ = some u) :
    ∃ A3 c3 V3, (Builtin.append_ #[25, 25] 25 #[v1, .slice (some ⟨g, 0, none⟩) 1 1]).run Try.prog V = .ok (.slice A3 (N.length + 1) c3) V3 ∧ DocN V3 (.slice A3 (N.length + 1) c3) (gbr N kind ks) ∧ Below w.heap.size w V3 ∧ Below L V V3 := by
  subst hm
  have hgV := World.block_lt_of_cell? V _ (hx 0 _ rfl)
  obtain ⟨v3, V3, hrun, ho, hg⟩ := run_pushesG (P := Try.prog) st25 25 v1 hv1 (B' := V.heap.size) (A := some ⟨g, 0, none⟩) (m := 1) (c := 1) (ys := dcells ⟨kind, 0, bC N ks ks.length, false, [], []⟩ vb k) ⟨rfl, Nat.le_refl _, by unfold maxLen; omega, fun _ => ⟨g, 0, rfl, hgV, fun j u hu => by rw [Nat.zero_add]; exact hx j u hu⟩⟩ (dcells_one (own_one h5) (own_one h3)) (by omega) (by omega) hLV
  obtain ⟨A3, c3, rfl, ho⟩ := own_form ho
  have hput := doc_put (x := ⟨kind, bW N ks ks.length, bC N ks ks.length, false, [], ks⟩) hN (fun z hz => kidsOk_mem hk hz) hi hbV (own_mono hv1 hL) h5 (by simp [prT]) h3 hg (own_mono ho hL)
  exact ⟨A3, c3, V3, hrun, hput.1, hput.2, (Below.refl L V).grown hg hLV fun q hq => (hv1.lt q hq).1⟩
set_option maxRecDepth 100000 in
set_option maxHeartbeats 8000000 in
theorem branch51 {w : World} {A : Option Addr} {n c : Nat} {N : List GN} (h : DocN w (.slice A n c) N) (hN : GoodN N) (kind : Int) (A2 : Option Addr) (m c2 : Nat) (ks : List Int) (hr : Rd w w.heap.size 1 A2 m c2 (ints .i64 ks)) (hn : N.length ≤ 65536) (hm : m ≤ 64)
    (hC : ∀ i, i < N.length → (gn N i).cnt ≤ 2147483647) (hp : ∀ i : Nat, i < N.length → (pr N i).length ≤ 8192) :
    Calls Try.prog 51 #[.slice A n c, .int .i64 kind, .slice A2 m c2] w (BrSaid N kind ks A n c w) := by
  unfold BrSaid
  have HL := Lib.hid hr.int_len
  have HC := Lib.hid hC
  have HG := Lib.hid hN
  have HP := Lib.hid hp
  have hH := h
  obtain ⟨rfl, g, bv, kv, hA, hnode⟩ := h.node
  have HA := Lib.hid hA
  have HN := Lib.hid hnode
  have HD := Lib.hid hH
  clear hC hN hA hnode hH h hp
  go_enter Try.func51, Try.ntmps51
  go_wp2_with (at_builtin; refine wpList_pushesG st27 rfl _ _ rfl _ rfl (own_empty w 3 1 w.heap.size (Nat.le_refl _)) rfl (hr.alloc (Nat.le_refl _) _) (ints_cells _ _) (by omega) (by omega) (by simp) ?_; intro v1 w1 hown1 hg1; obtain ⟨A1, c1, rfl, hown1⟩ := own_form hown1; simp only [Nat.zero_add, List.nil_append] at hown1; have hb1 := ((Below.refl w.heap.size w).alloc (Nat.le_refl _) _).grown hg1 (by simp) (fun k hk => ((own_empty w 3 1 w.heap.size (Nat.le_refl _)).lt k hk).1); clear hg1)
  have hs1 := hb1.size
  have hr1 := hr.on hb1
  go_loopw [18] (fun i wr => ∃ (k : Nat) (vb : Value), k ≤ m ∧ i = .int .i64 k ∧ Hid (kidsOk N ks k) ∧ Below w1.heap.size w1 wr ∧ Hid (wr.heap[w1.heap.size]? = some (.cells #[.int .i64 kind, .bool false, vb, .slice A1 m c1, .int .i64 (bC N ks k : Nat)] 47 (0, 0))) ∧ wr.ownsRow (w1.heap.size + 1) 5 1 vb (prT N ks k).length (ints .u8 (prT N ks k)))
    (fun i _ => m - (intOf i).toNat)
  case atStart => exact ⟨0, .slice none 0 0, Nat.zero_le _, rfl, Lib.hid (fun j hj => absurd hj (by omega)), (Below.refl _ _).alloc (Nat.le_refl _) _, Lib.hid (heap_alloc_new w1 _), World.ownsRow_nil _ _ _ _⟩
  case round =>
    obtain ⟨k, vb, hk, rfl, HK, hb, HX, hown⟩ := hrel
    have hsz := hb.size
    have hgx := World.block_lt_of_cell? wr ⟨w1.heap.size, 0, none⟩ (cell_of_row wr _ 0 _ _ _ HX.out)
    by_cases hlt : k < m
    · obtain ⟨b, off, rfl, hbb, hc⟩ := (hr1.below hb).int_form (by omega)
      have x0 := hc k hlt
      clear hc
      by_cases hv : 0 ≤ gz ks k ∧ gz ks k < N.length
      · have HKS := Lib.hid (kidsOk_succ HK.out hv)
        obtain ⟨i, hi⟩ := Int.eq_ofNat_of_zero_le hv.1
        have hiN : i < N.length := by omega
        have HC1 := Lib.hid (show bC N ks (k + 1) = min (bC N ks k + (gn N i).cnt) 2147483647 by simp only [bC, hi]; rfl)
        have HT1 := Lib.hid (show prT N ks (k + 1) = prT N ks k ++ pr N (i : Nat) by rw [prT_succ N ks k (by rw [HL.out]; exact hlt), hi])
        have hcb := bC_bd N ks k
        have hci := HC.out i hiN
        have hpi := HP.out i hiN
        obtain rfl := HA.out (by omega)
        obtain ⟨_, _, n2, _, n4, o5, _⟩ := HN.out i hiN
        obtain ⟨A5, c5, hv5, ho5⟩ := own_form o5
        rw [hv5] at n2
        have hgl := World.block_lt_of_cell? _ _ n2
        have C24 := has24 (some ⟨g, 0, none⟩) N.length c (gz ks k) wr
        rw [show decide (0 ≤ gz ks k ∧ gz ks k < N.length) = true by simpa using hv, hi] at C24
        have hbw := (hb1.trans (hb.mono hs1))
        have m2 := (hbw.cell (p := ⟨g, i * 5 + 2, none⟩) hgl).trans n2
        have m4 := (hbw.cell (p := ⟨g, i * 5 + 4, none⟩) hgl).trans n4
        have hr5 := (Rd.of_own ho5).below hbw
        rw [hi] at x0
        have y2 : wr.cell? ⟨w1.heap.size, 2, none⟩ = some vb := cell_of_row wr _ 2 _ _ _ HX.out
        have HN4 := Lib.hid n4
        clear n2 n4 o5 hv5 ho5 hi hv
        go_wp2_with (go_at_call 24; refine C24.mono ?_; rintro e w9 ⟨rfl, rfl⟩; clear C24)
        have hpl := prT_bd HP.out k (by rw [HL.out]; omega) HK.out
        obtain ⟨v5, w5, hrun, ho5, hg5⟩ := run_pushesG (P := Try.prog) (W := wr.drew) st26 26 vb hown.drew hr5.drew (ints_cells _ _) (by omega) (by omega) (by show w1.heap.size + 1 ≤ wr.heap.size; omega)
        have hX5 := (hg5.block w1.heap.size hgx (own_not hown HX.out (by decide))).trans (show wr.drew.heap[w1.heap.size]? = _ from HX.out)
        have hb5 := (hb.drew).grown hg5 (show w1.heap.size ≤ wr.heap.size from hsz) (fun q hq => by have := (hown.lt q hq).1; omega)
        have y5 := cell_of_row w5 _ 2 _ _ _ hX5
        have f5 := frozen_of_row w5 w1.heap.size 2 _ _ hX5
        have n5 := own_form ho5
        have HX5 := Lib.hid hX5
        clear hX5 hg5 hown
        obtain ⟨Av5, cv5, rfl, ho5⟩ := n5
        have HR := Lib.hid hrun
        clear hrun
        go_region_law (refine step_append_run rfl 26 26 _ _ ⟨rfl, rfl⟩ _ _ rfl rfl _ _ HR.out ?_)
        all_goals
          have HX6 := Lib.hid (heap_setCell_same w5 w1.heap.size 2 _ _ (.slice Av5 ((prT N ks k).length + (pr N (i : Nat)).length) cv5) HX5.out)
          have hb6 := hb5.setCell (p := ⟨w1.heap.size, 2, none⟩) (Nat.le_refl _) (.slice Av5 ((prT N ks k).length + (pr N (i : Nat)).length) cv5)
          have ho6 := ownsRow_setCell_other ho5 (a := ⟨w1.heap.size, 2, none⟩) (fun e => own_not ho5 HX5.out (by decide) e.symm) (.slice Av5 ((prT N ks k).length + (pr N (i : Nat)).length) cv5)
          clear y5 f5 ho5 hb5 HX5 HR m2 m4 y2
          generalize w5.setCell ⟨w1.heap.size, 2, none⟩ (.slice Av5 ((prT N ks k).length + (pr N (i : Nat)).length) cv5) = w6 at *
          have hX6 := HX6.out
          have y4 := cell_of_row w6 _ 4 _ _ _ hX6
          have f4 := frozen_of_row w6 w1.heap.size 4 _ _ hX6
          have m4 := ((hb1.trans (hb6.mono hs1)).cell (p := ⟨g, i * 5 + 4, none⟩) hgl).trans HN4.out
          clear hX6
          replace y4 : w6.cell? ⟨w1.heap.size, 4, none⟩ = some (.int .i64 (bC N ks k : Nat)) := y4
          generalize (gn N i).cnt = ci at *
          generalize bC N ks k = Ck at *
          have u1 : IntKind.i64.wrap ((Ck : Int) + (ci : Int)) = (Ck : Int) + (ci : Int) := IntWalk.i64_in _ (by omega)
          go_wp2_with fail
          refine region_tail 9 (by kernel_rfl) (by kernel_rfl) ?_
          intro W HW
          have d0 : W.cell? ⟨w1.heap.size, 4, none⟩ = some (.int .i64 (Ck : Nat)) := by rw [HW.out]; exact y4
          have d1 : W.cell? ⟨g, i * 5 + 4, none⟩ = some (.int .i64 (ci : Nat)) := by rw [HW.out]; exact m4
          simp only [List.take_succ_cons, List.take_zero, List.drop_succ_cons, List.drop_zero]
          repeat (first | (refine wpStill_step (fun K hK => ?_); go_simp; refine hK _ ?_; clear hK K))
          refine wpStill_nil ?_
          rw [HW.out]
          clear HW d0 d1
          by_cases hbig : (2147483647 : Int) < (Ck : Int) + (ci : Int)
          · have hX7 := heap_setCell_same w6 w1.heap.size 4 _ _ (.int .i64 ((Ck : Int) + (ci : Int))) HX6.out
            have ho7 := ownsRow_setCell_other ho6 (a := ⟨w1.heap.size, 4, none⟩) (fun e => own_not ho6 HX6.out (by decide) e.symm) (.int .i64 ((Ck : Int) + (ci : Int)))
            have HX8 := Lib.hid (heap_setCell_same _ w1.heap.size 4 _ _ (.int .i64 2147483647) hX7)
            have HO8 := Lib.hid (ownsRow_setCell_other ho7 (a := ⟨w1.heap.size, 4, none⟩) (fun e => own_not ho7 hX7 (by decide) e.symm) (.int .i64 2147483647))
            have HB8 := Lib.hid ((hb6.setCell (p := ⟨w1.heap.size, 4, none⟩) (Nat.le_refl _) (.int .i64 ((Ck : Int) + (ci : Int)))).setCell (p := ⟨w1.heap.size, 4, none⟩) (Nat.le_refl _) (.int .i64 2147483647))
            clear hX7 ho7
            go_wp2_with fail
            refine ⟨⟨k + 1, _, by omega, by go_num, HKS, HB8.out.drew, Lib.hid ?_, own_as HO8.out (by rw [HT1.out, List.length_append]) (by rw [HT1.out]; simp [ints])⟩, by simp [intOf]; omega⟩
            rw [HC1.out, show min (Ck + ci) 2147483647 = 2147483647 by omega]
            exact HX8.out
          · have HX7 := Lib.hid (heap_setCell_same w6 w1.heap.size 4 _ _ (.int .i64 ((Ck : Int) + (ci : Int))) HX6.out)
            have HO7 := Lib.hid (ownsRow_setCell_other ho6 (a := ⟨w1.heap.size, 4, none⟩) (fun e => own_not ho6 HX6.out (by decide) e.symm) (.int .i64 ((Ck : Int) + (ci : Int))))
            have HB7 := Lib.hid (hb6.setCell (p := ⟨w1.heap.size, 4, none⟩) (Nat.le_refl _) (.int .i64 ((Ck : Int) + (ci : Int))))
            go_wp2_with fail
            refine ⟨⟨k + 1, _, by omega, by go_num, HKS, HB7.out.drew, Lib.hid ?_, own_as HO7.out (by rw [HT1.out, List.length_append]) (by rw [HT1.out]; simp [ints])⟩, by simp [intOf]; omega⟩
            rw [HC1.out, show ((min (Ck + ci) 2147483647 : Nat) : Int) = (Ck : Int) + (ci : Int) by omega]
            exact HX7.out
      · have HN := Lib.hid (show ¬ kidsOk N ks ks.length from fun hall => hv (hall k (by rw [HL.out]; exact hlt)))
        have C24 := has24 A N.length c (gz ks k) wr
        rw [show decide (0 ≤ gz ks k ∧ gz ks k < N.length) = false by simpa using hv] at C24
        clear hv
        go_wp2_with (go_at_call 24; refine C24.mono ?_; rintro e w9 ⟨rfl, rfl⟩; clear C24)
        go_ret2
        exact ⟨.inr ⟨rfl, HN.out⟩, hb1.trans (hb.mono hs1)⟩
    · obtain rfl : k = m := by omega
      have hpl := prT_bd HP.out k (by rw [HL.out]; omega) HK.out
      go_wp2_with fail
      have hbwr := hb1.trans (hb.mono hs1)
      obtain ⟨bv', kv', ho47, hi47⟩ := HD.out
      have hone := drows_one (N := N) (bv := bv') (kv := kv') (fun i hl => ⟨own_one (hi47 i hl).1, own_one (hi47 i hl).2⟩)
      have hrow := Rd.of_own ho47
      have q0 := cell_of_row wr _ 0 _ _ _ HX.out
      have q1 := cell_of_row wr _ 1 _ _ _ HX.out
      have q2 := cell_of_row wr _ 2 _ _ _ HX.out
      have q3 := cell_of_row wr _ 3 _ _ _ HX.out
      have q4 := cell_of_row wr _ 4 _ _ _ HX.out
      simp only [List.getElem?_toArray, List.getElem?_cons_zero, List.getElem?_cons_succ] at q0 q1 q2 q3 q4
      have h5r : wr.ownsRow w.heap.size 5 1 vb _ _ := own_mono hown (by omega)
      have h3r : wr.ownsRow w.heap.size 3 1 (.slice A1 k c1) _ _ := own_below hown1 hb
      have HKK : kidsOk N ks ks.length := by rw [HL.out]; exact HK.out
      have HR := Lib.hid hrow
      have HI47 := Lib.hid hi47
      clear hrow hi47 hown hown1 ho47 HX
      -- the three orders of the two new slices and the first append
      obtain ⟨va, Va, ra2, oa, ba, la, a5, a3, _⟩ := br_one (w := w) (V := (wr.alloc (.cells #[] 47)).drew) (L := wr.heap.size) (vb := vb) (k := .slice A1 k c1) ((hbwr.alloc (by omega) _).drew) (by omega) (by simp) (own_empty wr 47 5 wr.heap.size (Nat.le_refl _)).drew HR.out hone hn (h5r.alloc _).drew (h3r.alloc _).drew
      have sa := la.size
      have na := own_form oa
      obtain ⟨A7, c7, rfl, oa⟩ := na
      obtain ⟨A8, c8, Wa, ra5, da, xa, ya⟩ := br_two (w := w) (V := Va.alloc (.cells #[.int .i64 kind, .bool false, vb, .slice A1 k c1, .int .i64 (bC N ks k : Nat)] 47)) (L := wr.heap.size) (g := Va.heap.size) HG.out kind HKK HL.out (ba.alloc (by simp at sa; omega) _) (by omega) (by simp at sa ⊢; omega) (oa.alloc _) hn HI47.out (a5.alloc _) (a3.alloc _) (fun j u hu => (cell_in Va _ j _ _ rfl).trans (by simpa [dcells] using hu))
      obtain ⟨vb2, Vb, rb2, ob, bb, lb, b5, b3, gb⟩ := br_one (w := w) (V := ((wr.alloc (.cells #[] 47)).alloc (.cells #[.int .i64 kind, .bool false, vb, .slice A1 k c1, .int .i64 (bC N ks k : Nat)] 47)).drew) (L := wr.heap.size) (vb := vb) (k := .slice A1 k c1) (((hbwr.alloc (by omega) _).alloc (by simp; omega) _).drew) (by omega) (by simp; omega) ((own_empty wr 47 5 wr.heap.size (Nat.le_refl _)).alloc _).drew HR.out hone hn ((h5r.alloc _).alloc _).drew ((h3r.alloc _).alloc _).drew
      have sb := lb.size
      have nb := own_form ob
      obtain ⟨A9, c9, rfl, ob⟩ := nb
      obtain ⟨A10, c10, Wb, rb5, db, xb, yb⟩ := br_two (w := w) (V := Vb) (L := wr.heap.size) (g := wr.heap.size + 1) HG.out kind HKK HL.out bb (by omega) (by simp at sb ⊢; omega) ob hn HI47.out b5 b3 (fun j u hu => gb.cell ((cell_in (wr.alloc (.cells #[] 47)) _ j _ _ (by simp)).trans (by simpa [dcells] using hu)) (by simp [Value.ownBlock]))
      obtain ⟨vc, Vc, rc2, oc, bc, lc, c5, c3, gc⟩ := br_one (w := w) (V := ((wr.alloc (.cells #[.int .i64 kind, .bool false, vb, .slice A1 k c1, .int .i64 (bC N ks k : Nat)] 47)).alloc (.cells #[] 47)).drew) (L := wr.heap.size) (vb := vb) (k := .slice A1 k c1) (v0 := .slice (some ⟨wr.heap.size + 1, 0, none⟩) 0 0) (((hbwr.alloc (by omega) _).alloc (by simp; omega) _).drew) (by omega) (by simp; omega) (by have := (own_mono (own_empty (wr.alloc (.cells #[.int .i64 kind, .bool false, vb, .slice A1 k c1, .int .i64 (bC N ks k : Nat)] 47)) 47 5 _ (Nat.le_refl _)) (B' := wr.heap.size) (by simp)).drew; simpa using this) HR.out hone hn ((h5r.alloc _).alloc _).drew ((h3r.alloc _).alloc _).drew
      have sc := lc.size
      have nc := own_form oc
      obtain ⟨A11, c11, rfl, oc⟩ := nc
      obtain ⟨A12, c12, Wc, rc5, dc, xc, yc⟩ := br_two (w := w) (V := Vc) (L := wr.heap.size) (g := wr.heap.size) HG.out kind HKK HL.out bc (by omega) (by simp at sc ⊢; omega) oc hn HI47.out c5 c3 (fun j u hu => gc.cell (cell_old _ _ _ _ _ ((cell_in wr _ j _ _ rfl).trans (by simpa [dcells] using hu))) (by simp [Value.ownBlock]))
      have HDa := Lib.hid (And.intro da xa)
      have HDb := Lib.hid (And.intro db xb)
      have HDc := Lib.hid (And.intro dc xc)
      have HRa2 := Lib.hid ra2
      have HRa5 := Lib.hid ra5
      have HRb2 := Lib.hid rb2
      have HRb5 := Lib.hid rb5
      have HRc2 := Lib.hid rc2
      have HRc5 := Lib.hid rc5
      clear da xa db xb dc xc ra2 ra5 rb2 rb5 rc2 rc5 gb gc
      refine wp_region_held_drew (S := fun W => Below wr.heap.size wr W) (by kernel_rfl) (Below.refl _ _).drew (fun hHeld => ?_)
      change wpAnyH _ _ _ _ _ 8 #[false, false, false, false, false, false, false, false] _ _
      refine wpAnyH_take (i := 1) (oi := _) (v := ?_) rfl (by kernel_rfl) (by kernel_rfl) (by kernel_rfl) (fun _ _ _ h => h) (Or.inl ⟨by rfl, ?_⟩) hHeld ?_
      rotate_left
      · intro w9 hSw; go_simp; (try with_reducible rfl)
      simp only [List.getElem_toArray, List.getElem_cons_zero, List.getElem_cons_succ, Act.put, List.setIfInBounds_toArray, List.set_cons_zero, List.set_cons_succ]
      refine wpAnyH_take (i := 3) (oi := _) (v := ?_) rfl (by kernel_rfl) (by kernel_rfl) (by kernel_rfl) (fun _ _ _ h => h) (Or.inl ⟨by rfl, ?_⟩) hHeld ?_
      rotate_left
      · intro w9 hSw; have s0 := (hSw.cell (p := ⟨w1.heap.size, 0, none⟩) hgx).trans q0; have s1 := (hSw.cell (p := ⟨w1.heap.size, 1, none⟩) hgx).trans q1; have s2 := (hSw.cell (p := ⟨w1.heap.size, 2, none⟩) hgx).trans q2; have s3 := (hSw.cell (p := ⟨w1.heap.size, 3, none⟩) hgx).trans q3; have s4 := (hSw.cell (p := ⟨w1.heap.size, 4, none⟩) hgx).trans q4; go_simp; (try with_reducible rfl)
      simp only [List.getElem_toArray, List.getElem_cons_zero, List.getElem_cons_succ, Act.put, List.setIfInBounds_toArray, List.set_cons_zero, List.set_cons_succ]
      refine wpAnyH_ready (rs := [0, 4]) (by kernel_rfl) (by simp) ?_
      refine AllReadyH.cons (o := _) rfl (fun K hK => ?_) (AllReadyH.cons (o := _) rfl (fun K hK => ?_) AllReadyH.nil)
      · go_simp
        refine hK.out _ _ (((Below.refl wr.heap.size wr).alloc (Nat.le_refl _) _).drew) (fun _ => ?_)
        clear hK
        refine wpAnyH_ready (rs := [2, 4]) (by kernel_rfl) (by simp) ?_
        refine AllReadyH.cons (o := _) rfl (fun K hK => ?_) (AllReadyH.cons (o := _) rfl (fun K hK => ?_) AllReadyH.nil)
        · refine wp_append 25 25 _ _ ⟨rfl, rfl⟩ _ _ rfl rfl _ _ HRa2.out ?_
          refine hK.out _ _ (((Below.refl wr.heap.size wr).alloc (Nat.le_refl _) _).drew.trans la) (fun _ => ?_)
          clear hK
          refine wpAnyH_ready (rs := [4]) (by kernel_rfl) (by simp) ?_
          refine AllReadyH.cons (o := _) rfl (fun K hK => ?_) AllReadyH.nil
          go_simp
          refine hK.out _ _ ((((Below.refl wr.heap.size wr).alloc (Nat.le_refl _) _).drew.trans la).alloc (by simp at sa; omega) _) (fun _ => ?_)
          clear hK
          refine wpAnyH_ready (rs := [5]) (by kernel_rfl) (by simp) ?_
          refine AllReadyH.cons (o := _) rfl (fun K hK => ?_) AllReadyH.nil
          refine wp_append 25 25 _ _ ⟨rfl, rfl⟩ _ _ rfl rfl _ _ HRa5.out ?_
          refine hK.out _ _ (((((Below.refl wr.heap.size wr).alloc (Nat.le_refl _) _).drew.trans la).alloc (by simp at sa; omega) _).trans ya) (fun hHeld2 => ?_)
          clear hK
          simp only [List.getElem_toArray, List.getElem_cons_zero, List.getElem_cons_succ, Act.put, List.setIfInBounds_toArray, List.set_cons_zero, List.set_cons_succ]
          refine wpAnyH_take (i := 6) (oi := _) (v := ?_) rfl (by kernel_rfl) (by kernel_rfl) (by kernel_rfl) (fun _ _ _ h => h) (Or.inl ⟨by rfl, ?_⟩) hHeld2 ?_
          rotate_left
          · intro w9 hSw; go_simp; (try with_reducible rfl)
          simp only [List.getElem_toArray, List.getElem_cons_zero, List.getElem_cons_succ, Act.put, List.setIfInBounds_toArray, List.set_cons_zero, List.set_cons_succ]
          refine wpAnyH_take (i := 7) (oi := _) (v := ?_) rfl (by kernel_rfl) (by kernel_rfl) (by kernel_rfl) (fun _ _ _ h => h) (Or.inl ⟨by rfl, ?_⟩) hHeld2 ?_
          rotate_left
          · intro w9 hSw; go_simp; (try with_reducible rfl)
          simp only [List.getElem_toArray, List.getElem_cons_zero, List.getElem_cons_succ, Act.put, List.setIfInBounds_toArray, List.set_cons_zero, List.set_cons_succ]
          refine wpAnyH_done (by kernel_rfl) ?_ _
          go_wp2_with fail
          go_ret2
          exact ⟨.inl ⟨A8, c8, rfl, HKK, HDa.out.1⟩, HDa.out.2⟩
        · go_simp
          refine hK.out _ _ ((((Below.refl wr.heap.size wr).alloc (Nat.le_refl _) _).alloc (by simp) _).drew) (fun _ => ?_)
          clear hK
          refine wpAnyH_ready (rs := [2]) (by kernel_rfl) (by simp) ?_
          refine AllReadyH.cons (o := _) rfl (fun K hK => ?_) AllReadyH.nil
          refine wp_append 25 25 _ _ ⟨rfl, rfl⟩ _ _ rfl rfl _ _ HRb2.out ?_
          refine hK.out _ _ ((((Below.refl wr.heap.size wr).alloc (Nat.le_refl _) _).alloc (by simp) _).drew.trans lb) (fun _ => ?_)
          clear hK
          refine wpAnyH_ready (rs := [5]) (by kernel_rfl) (by simp) ?_
          refine AllReadyH.cons (o := _) rfl (fun K hK => ?_) AllReadyH.nil
          refine wp_append 25 25 _ _ ⟨rfl, rfl⟩ _ _ rfl rfl _ _ HRb5.out ?_
          refine hK.out _ _ (((((Below.refl wr.heap.size wr).alloc (Nat.le_refl _) _).alloc (by simp) _).drew.trans lb).trans yb) (fun hHeld2 => ?_)
          clear hK
          simp only [List.getElem_toArray, List.getElem_cons_zero, List.getElem_cons_succ, Act.put, List.setIfInBounds_toArray, List.set_cons_zero, List.set_cons_succ]
          refine wpAnyH_take (i := 6) (oi := _) (v := ?_) rfl (by kernel_rfl) (by kernel_rfl) (by kernel_rfl) (fun _ _ _ h => h) (Or.inl ⟨by rfl, ?_⟩) hHeld2 ?_
          rotate_left
          · intro w9 hSw; go_simp; (try with_reducible rfl)
          simp only [List.getElem_toArray, List.getElem_cons_zero, List.getElem_cons_succ, Act.put, List.setIfInBounds_toArray, List.set_cons_zero, List.set_cons_succ]
          refine wpAnyH_take (i := 7) (oi := _) (v := ?_) rfl (by kernel_rfl) (by kernel_rfl) (by kernel_rfl) (fun _ _ _ h => h) (Or.inl ⟨by rfl, ?_⟩) hHeld2 ?_
          rotate_left
          · intro w9 hSw; go_simp; (try with_reducible rfl)
          simp only [List.getElem_toArray, List.getElem_cons_zero, List.getElem_cons_succ, Act.put, List.setIfInBounds_toArray, List.set_cons_zero, List.set_cons_succ]
          refine wpAnyH_done (by kernel_rfl) ?_ _
          go_wp2_with fail
          go_ret2
          exact ⟨.inl ⟨A10, c10, rfl, HKK, HDb.out.1⟩, HDb.out.2⟩
      · go_simp
        refine hK.out _ _ (((Below.refl wr.heap.size wr).alloc (Nat.le_refl _) _).drew) (fun _ => ?_)
        clear hK
        refine wpAnyH_ready (rs := [0]) (by kernel_rfl) (by simp) ?_
        refine AllReadyH.cons (o := _) rfl (fun K hK => ?_) AllReadyH.nil
        go_simp
        refine hK.out _ _ ((((Below.refl wr.heap.size wr).alloc (Nat.le_refl _) _).alloc (by simp) _).drew) (fun _ => ?_)
        clear hK
        refine wpAnyH_ready (rs := [2]) (by kernel_rfl) (by simp) ?_
        refine AllReadyH.cons (o := _) rfl (fun K hK => ?_) AllReadyH.nil
        refine wp_append 25 25 _ _ ⟨rfl, rfl⟩ _ _ rfl rfl _ _ HRc2.out ?_
        refine hK.out _ _ ((((Below.refl wr.heap.size wr).alloc (Nat.le_refl _) _).alloc (by simp) _).drew.trans lc) (fun _ => ?_)
        clear hK
        refine wpAnyH_ready (rs := [5]) (by kernel_rfl) (by simp) ?_
        refine AllReadyH.cons (o := _) rfl (fun K hK => ?_) AllReadyH.nil
        refine wp_append 25 25 _ _ ⟨rfl, rfl⟩ _ _ rfl rfl _ _ HRc5.out ?_
        refine hK.out _ _ (((((Below.refl wr.heap.size wr).alloc (Nat.le_refl _) _).alloc (by simp) _).drew.trans lc).trans yc) (fun hHeld2 => ?_)
        clear hK
        simp only [List.getElem_toArray, List.getElem_cons_zero, List.getElem_cons_succ, Act.put, List.setIfInBounds_toArray, List.set_cons_zero, List.set_cons_succ]
        refine wpAnyH_take (i := 6) (oi := _) (v := ?_) rfl (by kernel_rfl) (by kernel_rfl) (by kernel_rfl) (fun _ _ _ h => h) (Or.inl ⟨by rfl, ?_⟩) hHeld2 ?_
        rotate_left
        · intro w9 hSw; go_simp; (try with_reducible rfl)
        simp only [List.getElem_toArray, List.getElem_cons_zero, List.getElem_cons_succ, Act.put, List.setIfInBounds_toArray, List.set_cons_zero, List.set_cons_succ]
        refine wpAnyH_take (i := 7) (oi := _) (v := ?_) rfl (by kernel_rfl) (by kernel_rfl) (by kernel_rfl) (fun _ _ _ h => h) (Or.inl ⟨by rfl, ?_⟩) hHeld2 ?_
        rotate_left
        · intro w9 hSw; go_simp; (try with_reducible rfl)
        simp only [List.getElem_toArray, List.getElem_cons_zero, List.getElem_cons_succ, Act.put, List.setIfInBounds_toArray, List.set_cons_zero, List.set_cons_succ]
        refine wpAnyH_done (by kernel_rfl) ?_ _
        go_wp2_with fail
        go_ret2
        exact ⟨.inl ⟨A12, c12, rfl, HKK, HDc.out.1⟩, HDc.out.2⟩
end Go.Proofs.Ytbmbiffhgdkpiaa
