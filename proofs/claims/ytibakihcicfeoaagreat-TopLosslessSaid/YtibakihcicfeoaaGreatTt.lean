/- The walk of a maker's wrong. No condition. -/
import Derived.Test.YtibakihcicfeoaaGreatTs
import Derived.Deep.RegionLaw
namespace Go.Proofs.YtibakihcicfeoaaGreat
open Go.RowKit

theorem step_append_run {P : Program} {ops : Array Oper} {o : Oper} {a : Act} {W : World} {K : Act → World → Prop} {Q : Exit → Act → World → Prop} {E : Prop} (hg : o.guard = none) (t ty : TypeId) (s x : Operand)
    (ho : o.op = .call { callee := .builtin .append, args := #[s, x], argTypes := #[t, t] } ∧ o.type = ty) (v xv : Value) (hs : a.eval s = v) (hx : a.eval x = xv) (v' : Value) (w' : World) (hrun : (Builtin.append_ #[t, t] ty #[v, xv]).run P W = .ok v' w') (h : K (a.put o.dst v') w') :
    if Region.wanted o (yielded ops a.tmps) = true then o.wp P a W K Q else E := by
  rw [if_pos (by simp [Region.wanted, hg])]
  exact wp_append t ty s x ho v xv hs hx v' w' hrun h
theorem st29 : ST Tryz.prog 29 191 3 24 := ST.mk' (z := .agg #[.int .i64 0, .int .i64 0, .int .i64 0]) Tryz.underlying29 (by kernel_rfl) rfl (by decide)
set_option maxRecDepth 100000 in
set_option maxHeartbeats 8000000 in
theorem wrong54 {p : PC} {w : World} {N : List GN} {S : List SE} {nd : Nat} (h : MS p w N S nd) (code : Int) (i j : Nat) (hi : i ≤ p.nR) (hj : j ≤ p.nR) (hnd : nd ≤ 65536) :
    Calls Tryz.prog 54 #[.pointer (some ⟨p.gm, 0, none⟩), .int .i64 code, .int .i64 (i : Nat), .int .i64 (j : Nat)] w fun e w' => e = .returned (.tuple #[]) ∧ MS p w' N S (nd + 1) ∧ Kp p w w' := by
  obtain ⟨SV, DV, ds, hm, ht, -, hd⟩ := h.ex
  obtain ⟨AD, cD, rfl, hd⟩ := own_form hd
  have y1 : w.cell? ⟨p.gm, 1, none⟩ = some (.pointer (some ⟨p.gt, 0, none⟩)) := cell_of_row w p.gm 1 _ _ _ hm
  have z3 : w.cell? ⟨p.gt, 3, none⟩ = some (.slice p.AO (p.nR + 1) p.cO) := cell_of_row w p.gt 3 _ _ _ ht
  have z6 : w.cell? ⟨p.gt, 6, none⟩ = some (.slice AD nd cD) := cell_of_row w p.gt 6 _ _ _ ht
  obtain ⟨bo, oo, hAO, hbo, hco⟩ := h.mb.O.int_form (by omega)
  rw [hAO] at z3
  have x1 := hco i (by omega)
  have x2 := hco j (by omega)
  clear hco hAO
  generalize gz p.os i = zi at *
  generalize gz p.os j = zj at *
  obtain ⟨v5, w5, hrun, ho5, hg5⟩ := run_pushG (P := Tryz.prog) (W0 := w.drew) st29 29 _ hd.drew [.int .i64 zi, .int .i64 zj, .int .i64 code] w.heap.size rfl rfl (by intro u hu; simp at hu; rcases hu with rfl | rfl | rfl <;> rfl) (by omega) (by omega) h.mb.lo.2.2
  have hg5' : w.grownBy w5 (Value.slice AD nd cD).ownBlock := ⟨hg5.os, hg5.tape, hg5.output, hg5.size, hg5.block⟩
  obtain ⟨A9, c9, rfl, ho5⟩ := own_form ho5
  obtain ⟨ms, bl, ht5⟩ := h.diag ht hg5' ho5
  have MS5 := Lib.hid ms
  have BL5 := Lib.hid bl
  have y6 : w5.cell? ⟨p.gt, 6, none⟩ = some (.slice AD nd cD) := cell_of_row w5 p.gt 6 _ _ _ ht5
  have f6 := frozen_of_row w5 p.gt 6 _ _ ht5
  have HR := Lib.hid hrun
  have g1 : w5.cell? ⟨p.gm, 1, none⟩ = some (.pointer (some ⟨p.gt, 0, none⟩)) := by
    have hne : some p.gm ≠ (Value.slice AD nd cD).ownBlock := own_not hd hm (by decide)
    exact hg5'.cell y1 hne
  have a1 := cell_old w p.gm 1 (.cells #[.int .i64 zi, .int .i64 zj, .int .i64 code] 191) _ y1
  have hbg : bo < p.gt := Nat.lt_of_lt_of_le hbo h.mb.lo.2.1
  have hgmt : p.gm ≠ p.gt := fun e => by
    rw [e] at hm; rw [hm] at ht
    injection ht with ht; injection ht with _ ht _
    exact absurd ht (by decide)
  have hb5 : ∀ (q : Nat) (u : Value), w.cell? ⟨bo, q, none⟩ = some u → w5.cell? ⟨bo, q, none⟩ = some u := fun q u hc => hg5'.cell hc (fun e => by have := (hd.lt bo e.symm).1; omega)
  have g2 := hb5 _ _ x1
  have g3 := hb5 _ _ x2
  have a3 := cell_old w bo (oo + i) (.cells #[.int .i64 zi, .int .i64 zj, .int .i64 code] 191) _ x1
  have a4 := cell_old w bo (oo + j) (.cells #[.int .i64 zi, .int .i64 zj, .int .i64 code] 191) _ x2
  have SF := Lib.hid (show (w5.setCell ⟨p.gt, 6, none⟩ (.slice A9 (nd + 1) c9)).cell? ⟨p.gm, 1, none⟩ = some (.pointer (some ⟨p.gt, 0, none⟩)) ∧ (w5.setCell ⟨p.gt, 6, none⟩ (.slice A9 (nd + 1) c9)).cell? ⟨bo, oo + i, none⟩ = some (.int .i64 zi) ∧ (w5.setCell ⟨p.gt, 6, none⟩ (.slice A9 (nd + 1) c9)).cell? ⟨bo, oo + j, none⟩ = some (.int .i64 zj) from
    ⟨(World.cell?_setCell_other w5 _ _ _ (fun e => by injection e with e _ _; exact hgmt e.symm)).trans g1, (World.cell?_setCell_other w5 _ _ _ (fun e => by injection e with e _ _; omega)).trans g2, (World.cell?_setCell_other w5 _ _ _ (fun e => by injection e with e _ _; omega)).trans g3⟩)
  clear hb5
  have a2 := cell_old w p.gt 6 (.cells #[.int .i64 zi, .int .i64 zj, .int .i64 code] 191) _ z6
  have i1 : (i : Int) < (p.nR : Int) + 1 := by omega
  have i2 : i < p.nR + 1 := by omega
  have j1 : (j : Int) < (p.nR : Int) + 1 := by omega
  have j2 : j < p.nR + 1 := by omega
  clear ms bl ho5 hg5 hg5' hrun hd hm ht h ht5
  go_enter Tryz.func54, Tryz.ntmps54
  go_wp2_with fail
  refine wp_region_held_drew (S := fun W => W.cell? ⟨p.gm, 1, none⟩ = some (.pointer (some ⟨p.gt, 0, none⟩)) ∧ W.cell? ⟨bo, oo + i, none⟩ = some (.int .i64 zi) ∧ W.cell? ⟨bo, oo + j, none⟩ = some (.int .i64 zj)) (by kernel_rfl) ⟨y1, x1, x2⟩ (fun hHeld => ?_)
  change wpAnyH _ _ _ _ _ 27 #[false, false, false, false, false, false, false, false, false, false, false, false, false, false, false, false, false, false, false, false, false, false, false, false, false, false, false] _ _
  refine wpAnyH_take (i := 0) (oi := _) (v := ?_) rfl (by kernel_rfl) (by kernel_rfl) (by kernel_rfl) (fun _ _ _ h => h) (Or.inl ⟨by rfl, ?_⟩) hHeld ?_
  rotate_left
  · intro w9 hSw; go_simp; (try with_reducible rfl)
  simp only [List.getElem_toArray, List.getElem_cons_zero, Act.put, List.setIfInBounds_toArray, List.set_cons_zero, List.set_cons_succ]
  refine wpAnyH_take (i := 1) (oi := _) (v := ?_) rfl (by kernel_rfl) (by kernel_rfl) (by kernel_rfl) (fun _ _ _ h => h) (Or.inl ⟨by rfl, ?_⟩) hHeld ?_
  rotate_left
  · intro w9 hSw; go_simp; (try with_reducible rfl)
  simp only [List.getElem_toArray, List.getElem_cons_zero, List.getElem_cons_succ, Act.put, List.setIfInBounds_toArray, List.set_cons_zero, List.set_cons_succ]
  refine wpAnyH_take (i := 2) (oi := _) (v := ?_) rfl (by kernel_rfl) (by kernel_rfl) (by kernel_rfl) (fun _ _ _ h => h) (Or.inl ⟨by rfl, ?_⟩) hHeld ?_
  rotate_left
  · intro w9 hSw; go_simp; (try with_reducible rfl)
  simp only [List.getElem_toArray, List.getElem_cons_zero, List.getElem_cons_succ, Act.put, List.setIfInBounds_toArray, List.set_cons_zero, List.set_cons_succ]
  refine wpAnyH_take (i := 3) (oi := _) (v := ?_) rfl (by kernel_rfl) (by kernel_rfl) (by kernel_rfl) (fun _ _ _ h => h) (Or.inl ⟨by rfl, ?_⟩) hHeld ?_
  rotate_left
  · intro w9 hSw; obtain ⟨t1, t2, t3⟩ := hSw; go_simp; (try with_reducible rfl)
  simp only [List.getElem_toArray, List.getElem_cons_zero, List.getElem_cons_succ, Act.put, List.setIfInBounds_toArray, List.set_cons_zero, List.set_cons_succ]
  refine wpAnyH_take (i := 4) (oi := _) (v := ?_) rfl (by kernel_rfl) (by kernel_rfl) (by kernel_rfl) (fun _ _ _ h => h) (Or.inl ⟨by rfl, ?_⟩) hHeld ?_
  rotate_left
  · intro w9 hSw; go_simp; (try with_reducible rfl)
  simp only [List.getElem_toArray, List.getElem_cons_zero, List.getElem_cons_succ, Act.put, List.setIfInBounds_toArray, List.set_cons_zero, List.set_cons_succ]
  refine wpAnyH_take (i := 5) (oi := _) (v := ?_) rfl (by kernel_rfl) (by kernel_rfl) (by kernel_rfl) (fun _ _ _ h => h) (Or.inl ⟨by rfl, ?_⟩) hHeld ?_
  rotate_left
  · intro w9 hSw; go_simp; (try with_reducible rfl)
  simp only [List.getElem_toArray, List.getElem_cons_zero, List.getElem_cons_succ, Act.put, List.setIfInBounds_toArray, List.set_cons_zero, List.set_cons_succ]
  refine wpAnyH_take (i := 6) (oi := _) (v := ?_) rfl (by kernel_rfl) (by kernel_rfl) (by kernel_rfl) (fun _ _ _ h => h) (Or.inl ⟨by rfl, ?_⟩) hHeld ?_
  rotate_left
  · intro w9 hSw; go_simp; (try with_reducible rfl)
  simp only [List.getElem_toArray, List.getElem_cons_zero, List.getElem_cons_succ, Act.put, List.setIfInBounds_toArray, List.set_cons_zero, List.set_cons_succ]
  refine wpAnyH_take (i := 7) (oi := _) (v := ?_) rfl (by kernel_rfl) (by kernel_rfl) (by kernel_rfl) (fun _ _ _ h => h) (Or.inl ⟨by rfl, ?_⟩) hHeld ?_
  rotate_left
  · intro w9 hSw; obtain ⟨t1, t2, t3⟩ := hSw; go_simp; (try with_reducible rfl)
  simp only [List.getElem_toArray, List.getElem_cons_zero, List.getElem_cons_succ, Act.put, List.setIfInBounds_toArray, List.set_cons_zero, List.set_cons_succ]
  refine wpAnyH_take (i := 8) (oi := _) (v := ?_) rfl (by kernel_rfl) (by kernel_rfl) (by kernel_rfl) (fun _ _ _ h => h) (Or.inl ⟨by rfl, ?_⟩) hHeld ?_
  rotate_left
  · intro w9 hSw; go_simp; (try with_reducible rfl)
  simp only [List.getElem_toArray, List.getElem_cons_zero, List.getElem_cons_succ, Act.put, List.setIfInBounds_toArray, List.set_cons_zero, List.set_cons_succ]
  refine wpAnyH_take (i := 9) (oi := _) (v := ?_) rfl (by kernel_rfl) (by kernel_rfl) (by kernel_rfl) (fun _ _ _ h => h) (Or.inl ⟨by rfl, ?_⟩) hHeld ?_
  rotate_left
  · intro w9 hSw; go_simp; (try with_reducible rfl)
  simp only [List.getElem_toArray, List.getElem_cons_zero, List.getElem_cons_succ, Act.put, List.setIfInBounds_toArray, List.set_cons_zero, List.set_cons_succ]
  refine wpAnyH_take (i := 11) (oi := _) (v := ?_) rfl (by kernel_rfl) (by kernel_rfl) (by kernel_rfl) (fun _ _ _ h => h) (Or.inl ⟨by rfl, ?_⟩) hHeld ?_
  rotate_left
  · intro w9 hSw; go_simp; (try with_reducible rfl)
  simp only [List.getElem_toArray, List.getElem_cons_zero, List.getElem_cons_succ, Act.put, List.setIfInBounds_toArray, List.set_cons_zero, List.set_cons_succ]
  refine wpAnyH_take (i := 12) (oi := _) (v := ?_) rfl (by kernel_rfl) (by kernel_rfl) (by kernel_rfl) (fun _ _ _ h => h) (Or.inl ⟨by rfl, ?_⟩) hHeld ?_
  rotate_left
  · intro w9 hSw; go_simp; (try with_reducible rfl)
  simp only [List.getElem_toArray, List.getElem_cons_zero, List.getElem_cons_succ, Act.put, List.setIfInBounds_toArray, List.set_cons_zero, List.set_cons_succ]
  refine wpAnyH_take (i := 13) (oi := _) (v := ?_) rfl (by kernel_rfl) (by kernel_rfl) (by kernel_rfl) (fun _ _ _ h => h) (Or.inl ⟨by rfl, ?_⟩) hHeld ?_
  rotate_left
  · intro w9 hSw; go_simp; (try with_reducible rfl)
  simp only [List.getElem_toArray, List.getElem_cons_zero, List.getElem_cons_succ, Act.put, List.setIfInBounds_toArray, List.set_cons_zero, List.set_cons_succ]
  refine wpAnyH_take (i := 14) (oi := _) (v := ?_) rfl (by kernel_rfl) (by kernel_rfl) (by kernel_rfl) (fun _ _ _ h => h) (Or.inl ⟨by rfl, ?_⟩) hHeld ?_
  rotate_left
  · intro w9 hSw; obtain ⟨t1, t2, t3⟩ := hSw; go_simp; (try with_reducible rfl)
  simp only [List.getElem_toArray, List.getElem_cons_zero, List.getElem_cons_succ, Act.put, List.setIfInBounds_toArray, List.set_cons_zero, List.set_cons_succ]
  refine wpAnyH_take (i := 15) (oi := _) (v := ?_) rfl (by kernel_rfl) (by kernel_rfl) (by kernel_rfl) (fun _ _ _ h => h) (Or.inl ⟨by rfl, ?_⟩) hHeld ?_
  rotate_left
  · intro w9 hSw; go_simp; (try with_reducible rfl)
  simp only [List.getElem_toArray, List.getElem_cons_zero, List.getElem_cons_succ, Act.put, List.setIfInBounds_toArray, List.set_cons_zero, List.set_cons_succ]
  refine wpAnyH_take (i := 16) (oi := _) (v := ?_) rfl (by kernel_rfl) (by kernel_rfl) (by kernel_rfl) (fun _ _ _ h => h) (Or.inl ⟨by rfl, ?_⟩) hHeld ?_
  rotate_left
  · intro w9 hSw; go_simp; (try with_reducible rfl)
  simp only [List.getElem_toArray, List.getElem_cons_zero, List.getElem_cons_succ, Act.put, List.setIfInBounds_toArray, List.set_cons_zero, List.set_cons_succ]
  refine wpAnyH_take (i := 17) (oi := _) (v := ?_) rfl (by kernel_rfl) (by kernel_rfl) (by kernel_rfl) (fun _ _ _ h => h) (Or.inl ⟨by rfl, ?_⟩) hHeld ?_
  rotate_left
  · intro w9 hSw; go_simp; (try with_reducible rfl)
  simp only [List.getElem_toArray, List.getElem_cons_zero, List.getElem_cons_succ, Act.put, List.setIfInBounds_toArray, List.set_cons_zero, List.set_cons_succ]
  refine wpAnyH_take (i := 18) (oi := _) (v := ?_) rfl (by kernel_rfl) (by kernel_rfl) (by kernel_rfl) (fun _ _ _ h => h) (Or.inl ⟨by rfl, ?_⟩) hHeld ?_
  rotate_left
  · intro w9 hSw; obtain ⟨t1, t2, t3⟩ := hSw; go_simp; (try with_reducible rfl)
  simp only [List.getElem_toArray, List.getElem_cons_zero, List.getElem_cons_succ, Act.put, List.setIfInBounds_toArray, List.set_cons_zero, List.set_cons_succ]
  refine wpAnyH_take (i := 19) (oi := _) (v := ?_) rfl (by kernel_rfl) (by kernel_rfl) (by kernel_rfl) (fun _ _ _ h => h) (Or.inl ⟨by rfl, ?_⟩) hHeld ?_
  rotate_left
  · intro w9 hSw; go_simp; (try with_reducible rfl)
  simp only [List.getElem_toArray, List.getElem_cons_zero, List.getElem_cons_succ, Act.put, List.setIfInBounds_toArray, List.set_cons_zero, List.set_cons_succ]
  refine wpAnyH_take (i := 20) (oi := _) (v := ?_) rfl (by kernel_rfl) (by kernel_rfl) (by kernel_rfl) (fun _ _ _ h => h) (Or.inl ⟨by rfl, ?_⟩) hHeld ?_
  rotate_left
  · intro w9 hSw; go_simp; (try with_reducible rfl)
  simp only [List.getElem_toArray, List.getElem_cons_zero, List.getElem_cons_succ, Act.put, List.setIfInBounds_toArray, List.set_cons_zero, List.set_cons_succ]
  refine wpAnyH_take (i := 21) (oi := _) (v := ?_) rfl (by kernel_rfl) (by kernel_rfl) (by kernel_rfl) (fun _ _ _ h => h) (Or.inl ⟨by rfl, ?_⟩) hHeld ?_
  rotate_left
  · intro w9 hSw; go_simp; (try with_reducible rfl)
  simp only [List.getElem_toArray, List.getElem_cons_zero, List.getElem_cons_succ, Act.put, List.setIfInBounds_toArray, List.set_cons_zero, List.set_cons_succ]
  refine wpAnyH_ready (rs := [10, 22]) (by kernel_rfl) (by simp) ?_
  refine AllReadyH.cons (o := _) rfl (fun K hK => ?_) (AllReadyH.cons (o := _) rfl (fun K hK => ?_) AllReadyH.nil)
  · go_simp
    refine hK.out _ _ hHeld (fun _ => ?_)
    clear hK
    refine wpAnyH_ready (rs := [22]) (by kernel_rfl) (by simp) ?_
    refine AllReadyH.cons (o := _) rfl (fun K hK => ?_) AllReadyH.nil
    go_simp
    refine hK.out _ _ ⟨a1, a3, a4⟩ (fun _ => ?_)
    clear hK
    refine wpAnyH_ready (rs := [23]) (by kernel_rfl) (by simp) ?_
    refine AllReadyH.cons (o := _) rfl (fun K hK => ?_) AllReadyH.nil
    refine wp_append 29 29 _ _ ⟨rfl, rfl⟩ _ _ rfl rfl _ _ HR.out ?_
    refine hK.out _ _ ⟨g1, g2, g3⟩ (fun _ => ?_)
    clear hK
    refine wpAnyH_ready (rs := [24]) (by kernel_rfl) (by simp) ?_
    refine AllReadyH.cons (o := _) rfl (fun K hK => ?_) AllReadyH.nil
    go_simp
    refine hK.out _ _ ⟨g1, g2, g3⟩ (fun _ => ?_)
    clear hK
    refine wpAnyH_ready (rs := [25]) (by kernel_rfl) (by simp) ?_
    refine AllReadyH.cons (o := _) rfl (fun K hK => ?_) AllReadyH.nil
    go_simp
    refine hK.out _ _ ⟨g1, g2, g3⟩ (fun _ => ?_)
    clear hK
    refine wpAnyH_ready (rs := [26]) (by kernel_rfl) (by simp) ?_
    refine AllReadyH.cons (o := _) rfl (fun K hK => ?_) AllReadyH.nil
    go_simp
    refine hK.out _ _ SF.out (fun _ => ?_)
    clear hK
    refine wpAnyH_done (by kernel_rfl) ?_ _
    go_wp2_with fail
    go_end0
    exact ⟨rfl, MS5.out, BL5.out⟩
  · go_simp
    refine hK.out _ _ ⟨a1, a3, a4⟩ (fun hHeld1 => ?_)
    clear hK
    refine wpAnyH_ready (rs := [10]) (by kernel_rfl) (by simp) ?_
    refine AllReadyH.cons (o := _) rfl (fun K hK => ?_) AllReadyH.nil
    go_simp
    refine hK.out _ _ hHeld1 (fun _ => ?_)
    clear hK
    refine wpAnyH_ready (rs := [23]) (by kernel_rfl) (by simp) ?_
    refine AllReadyH.cons (o := _) rfl (fun K hK => ?_) AllReadyH.nil
    refine wp_append 29 29 _ _ ⟨rfl, rfl⟩ _ _ rfl rfl _ _ HR.out ?_
    refine hK.out _ _ ⟨g1, g2, g3⟩ (fun _ => ?_)
    clear hK
    refine wpAnyH_ready (rs := [24]) (by kernel_rfl) (by simp) ?_
    refine AllReadyH.cons (o := _) rfl (fun K hK => ?_) AllReadyH.nil
    go_simp
    refine hK.out _ _ ⟨g1, g2, g3⟩ (fun _ => ?_)
    clear hK
    refine wpAnyH_ready (rs := [25]) (by kernel_rfl) (by simp) ?_
    refine AllReadyH.cons (o := _) rfl (fun K hK => ?_) AllReadyH.nil
    go_simp
    refine hK.out _ _ ⟨g1, g2, g3⟩ (fun _ => ?_)
    clear hK
    refine wpAnyH_ready (rs := [26]) (by kernel_rfl) (by simp) ?_
    refine AllReadyH.cons (o := _) rfl (fun K hK => ?_) AllReadyH.nil
    go_simp
    refine hK.out _ _ SF.out (fun _ => ?_)
    clear hK
    refine wpAnyH_done (by kernel_rfl) ?_ _
    go_wp2_with fail
    go_end0
    exact ⟨rfl, MS5.out, BL5.out⟩
end Go.Proofs.YtibakihcicfeoaaGreat
/- The walks of a maker's shut and missing. No condition. -/
namespace Go.Proofs.YtibakihcicfeoaaGreat
open Go.RowKit

/-- An element with one more kid. -/
def SE.more (x : SE) (v : Value) (z : Int) : SE := { x with kv := v, kids := x.kids ++ [z] }
set_option maxRecDepth 100000 in
set_option maxHeartbeats 8000000 in
theorem shut60 {p : PC} {w : World} {N : List GN} {P : List SE} {y x : SE} {nd : Nat} (h : MS p w N (P ++ [y, x]) nd) (last : Int) (hko : kidsOk N (x.kids ++ [last]) (x.kids ++ [last]).length) (hW : bW N (x.kids ++ [last]) (x.kids ++ [last]).length ≤ 2147483647)
    (hC : ∀ i, i < N.length → (gn N i).cnt ≤ 2147483647) (hN : N.length ≤ 65000) (hP : P.length ≤ 65000) (hx : x.kids.length ≤ 4000) (hy : y.kids.length ≤ 65000) :
    Calls Tryz.prog 60 #[.pointer (some ⟨p.gm, 0, none⟩), .int .i64 last] w fun e w' => e = .returned (.tuple #[]) ∧ (∃ v', MS p w' (gbr N 21 (x.kids ++ [last])) (P ++ [y.more v' (N.length : Int)]) nd) ∧ Kp p w w' := by
  have h0 : MS p w N ((P ++ [y]) ++ [x]) nd := by rw [List.append_assoc]; exact h
  have HKO := Lib.hid hko
  have HW := Lib.hid hW
  have HC := Lib.hid hC
  clear h hko hW hC
  go_enter Tryz.func60, Tryz.ntmps60
  go_wp2_with fail
  refine (kid13 h0 last (by simp; omega) (by omega)).mono ?_
  rintro e w1 ⟨rfl, ⟨v1, m1⟩, b1⟩
  obtain ⟨gs, cs, hm, hc1, hc2, hcell, mp, bp, ok⟩ := m1.pop
  obtain ⟨Ak, ck, hkv, ok⟩ := own_form ok
  have hkv : v1 = .slice Ak (x.kids ++ [last]).length ck := hkv
  subst hkv
  have y3 := hcell _ _ (srow_get _ (P ++ [y]).length { x with kv := .slice Ak (x.kids ++ [last]).length ck, kids := x.kids ++ [last] } (by simp)).2
  have y2 : w1.cell? ⟨p.gm, 2, none⟩ = some (.slice (some ⟨gs, 0, none⟩) ((P ++ [y]).length + 1) cs) := cell_of_row w1 p.gm 2 _ _ _ hm
  have f2 := fun j => frozen_of_row w1 p.gm j _ _ hm
  obtain ⟨q, hq⟩ : ∃ q, (P ++ [y]).length = q := ⟨_, rfl⟩
  have hql : q ≤ 65001 := by rw [← hq]; simp; omega
  rw [hq] at y2 y3 hc1 mp bp ok
  have MP := Lib.hid mp
  have BP := Lib.hid (b1.trans bp)
  have OK := Lib.hid ok
  have u1 : IntKind.i64.wrap ((q : Int) + 1 - 1) = (q : Int) := by rw [show (q : Int) + 1 - 1 = q by omega]; exact IntWalk.i64_in _ (by omega)
  have C35 := Lib.hid (branch25 MP.out.mb.ar (kvX_lt MP.out) 21 Ak _ ck (x.kids ++ [last]) (Rd.of_own OK.out) (by omega) (by simp; omega) MP.out.mb.lo.2.2 HW.out HC.out)
  obtain ⟨SV', DV', ds', k1, k2, -, -⟩ := id mp.ex
  have z1 : (w1.setCell ⟨p.gm, 2, none⟩ (.slice (some ⟨gs, 0, none⟩) q cs)).cell? ⟨p.gm, 1, none⟩ = some (.pointer (some ⟨p.gt, 0, none⟩)) := cell_of_row _ p.gm 1 _ _ _ k1
  have z4 : (w1.setCell ⟨p.gm, 2, none⟩ (.slice (some ⟨gs, 0, none⟩) q cs)).cell? ⟨p.gt, 4, none⟩ = some (.pointer (some ⟨p.ga, 0, none⟩)) := cell_of_row _ p.gt 4 _ _ _ k2
  have hkl : (x.kids ++ [last]).length = x.kids.length + 1 := by simp
  rw [hkl] at C35
  clear m1 b1 hm hcell mp bp ok h0 k1 k2
  go_wp2_with fail
  refine C35.out.mono ?_
  rintro e w2 ⟨h2, hk2, b2⟩
  rcases h2 with ⟨rfl, -, a2⟩ | ⟨rfl, hno, -⟩
  · have m2 := MP.out.arena a2 hk2 b2
    have m2 : MS p w2 (gbr N 21 (x.kids ++ [last])) (P ++ [y]) nd := by unfold gbr; rw [hkl]; exact m2
    have B2 := Lib.hid (BP.out.trans (Kp.kept9 hk2 b2))
    clear z1 z4 y2 y3 f2 a2 hk2 b2
    go_wp2_with fail
    refine (kid13 m2 (N.length : Int) (by omega) (by omega)).mono ?_
    rintro e w3 ⟨rfl, ⟨v3, m3⟩, b3⟩
    go_wp2_with fail
    go_end0
    exact ⟨rfl, ⟨v3, m3⟩, B2.out.trans b3⟩
  · exact absurd (by have := HKO.out; rwa [hkl] at this) hno
/-- The kids of what is open. -/
def kidsOf (S : List SE) : List (List Int) := S.map SE.kids
theorem kidsOf_app (S T : List SE) : kidsOf (S ++ T) = kidsOf S ++ kidsOf T := by simp [kidsOf]
/-- A leaf closes the innermost one. -/
theorem Forest.close {N : List GN} {K : List (List Int)} {up ks done : List Int} {T : Nat} (h : Forest N (K ++ [up, ks]) done T) (hT : T ≤ 4000) (kind : Int) (b : List Int) :
    kidsOk (N ++ [gleaf kind b]) (ks ++ [(N.length : Int)]) (ks ++ [(N.length : Int)]).length ∧ bW (N ++ [gleaf kind b]) (ks ++ [(N.length : Int)]) (ks ++ [(N.length : Int)]).length ≤ (done ++ b).length ∧
    OkN (N ++ [gleaf kind b]) ∧ Forest (gbr (N ++ [gleaf kind b]) 21 (ks ++ [(N.length : Int)])) (K ++ [up ++ [((N ++ [gleaf kind b]).length : Int)]]) (done ++ b) T := by
  have h0 : Forest N ((K ++ [up]) ++ [ks]) done T := by rw [List.append_assoc]; exact h
  have h1 := h0.leaf kind b
  have hf := h1.fewK (ks := ks ++ [(N.length : Int)]) (by simp)
  have hw := h1.width (ks := ks ++ [(N.length : Int)]) (by simp)
  rw [List.append_assoc] at h1
  obtain ⟨k1, k2⟩ := h1.shut (by omega) 21
  exact ⟨k1, hw, h1.ok, k2 T (Nat.le_refl _)⟩
theorem Forest.nLen {N : List GN} {K : List (List Int)} {done : List Int} {T : Nat} (h : Forest N K done T) : N.length ≤ T ∧ 2 * (K.length - 1) ≤ T := by
  have := h.len
  omega
set_option maxRecDepth 100000 in
set_option maxHeartbeats 8000000 in
theorem missing34 {p : PC} {w : World} {N : List GN} {P : List SE} {y x : SE} {nd T : Nat} {done : List Int} (h : MS p w N (P ++ [y, x]) nd) (F : Forest N (kidsOf (P ++ [y, x])) done T) (hT : T ≤ 3000) (hd : done.length ≤ 4096) (at_ : Nat) (hat : at_ ≤ p.nR) (hnd : nd ≤ 65536) :
    Calls Tryz.prog 34 #[.pointer (some ⟨p.gm, 0, none⟩), .int .i64 (at_ : Nat)] w fun e w' => e = .returned (.tuple #[]) ∧ (∃ N' y', MS p w' N' (P ++ [y']) (nd + 1) ∧ Forest N' (kidsOf (P ++ [y'])) done T) ∧ Kp p w w' := by
  rw [kidsOf_app] at F
  have F0 : Forest N (kidsOf P ++ [y.kids, x.kids]) done T := F
  obtain ⟨c1, c2, c3, c4⟩ := F0.close (by omega) 22 []
  have hnl := F0.nLen
  have hpl : P.length ≤ T := by have := hnl.2; simp [kidsOf] at this; omega
  have hxk : x.kids.length ≤ T := F0.fewK (by simp)
  have hyk : y.kids.length ≤ T := F0.fewK (by simp)
  have C1 := Lib.hid c1
  have C2 := Lib.hid (show bW (N ++ [gleaf 22 []]) (x.kids ++ [(N.length : Int)]) (x.kids ++ [(N.length : Int)]).length ≤ 2147483647 by simp at c2; simp; omega)
  have C3 := Lib.hid c3
  have C4 := Lib.hid c4
  have C54 := wrong54 h 4 at_ at_ hat hat hnd
  clear c1 c2 c3 c4 F F0
  go_enter Tryz.func34, Tryz.ntmps34
  go_wp2_with fail
  refine C54.mono ?_
  rintro e w1 ⟨rfl, m1, b1⟩
  obtain ⟨SV', DV', ds', k1, k2, -, -⟩ := id m1.ex
  have z1 : w1.cell? ⟨p.gm, 1, none⟩ = some (.pointer (some ⟨p.gt, 0, none⟩)) := cell_of_row _ p.gm 1 _ _ _ k1
  have z4 : w1.cell? ⟨p.gt, 4, none⟩ = some (.pointer (some ⟨p.ga, 0, none⟩)) := cell_of_row _ p.gt 4 _ _ _ k2
  have C14 := leaf26 m1.mb.ar 22 none 0 0 [] Rd.nil_ (by omega) (by omega) m1.mb.lo.2.2
  clear k1 k2 C54
  go_wp2_with fail
  refine C14.mono ?_
  rintro e w2 ⟨rfl, a2, hk2, b2⟩
  have m2 : MS p w2 (N ++ [gleaf 22 []]) (P ++ [y, x]) (nd + 1) := m1.arena a2 hk2 b2
  have b2 := Kp.kept9 hk2 b2
  clear z1 z4 C14 a2 hk2
  go_wp2_with fail
  refine (shut60 m2 (N.length : Int) C1.out C2.out C3.out.cnt (by simp; omega) (by omega) (by omega) (by omega)).mono ?_
  rintro e w3 ⟨rfl, ⟨v3, m3⟩, b3⟩
  go_wp2_with fail
  go_end0
  refine ⟨rfl, ⟨_, _, m3, ?_⟩, b1.trans (b2.trans b3)⟩
  have := C4.out
  rw [List.append_nil] at this
  rw [kidsOf_app]
  exact this
end Go.Proofs.YtibakihcicfeoaaGreat
/- The walks of a maker's name and start. No condition. -/
namespace Go.Proofs.YtibakihcicfeoaaGreat
open Go.RowKit

theorem step_put {P : Program} {ops : Array Oper} {o : Oper} {a : Act} {w : World} {K : Act → World → Prop} {Q : Exit → Act → World → Prop} {E : Prop} (hgd : o.guard = none) (hd : o.dst = none) (ty : TypeId) (x y : Operand) (ho : o.op = .store ty x y)
    (g : Nat) (cells : Array Value) (hx : a.eval x = .pointer (some ⟨g, 0, none⟩)) (hy : a.eval y = .agg cells)
    (t : TypeId) (old : Array Value) (hg : w.heap[g]? = some (.cells old t (0, 0))) (hi : (P.info? ty).map (·.size) = some cells.size)
    (hold : old.size = cells.size) (h1 : cells.all (·.oneCell') = true)
    (h : ∀ w', w'.heap[g]? = some (.cells cells t (0, 0)) → w.grownBy w' (some g) → K a w') :
    if Region.wanted o (yielded ops a.tmps) = true then o.wp P a w K Q else E := by
  rw [if_pos (by simp [Region.wanted, hgd])]
  exact wp_store_row ty x y ho g cells hx hy t old hg hi hold h1 (by rw [hd]; exact h _ (setRow_heap w g old cells t _ hg) (setRow_grown w g cells))
theorem fldP (k f t : Int) (A : Option Addr) (m c : Nat) (r e : Bool) (W : World) : (Instr.field 130 (.agg (tgc k f t (.slice A m c) r e)) 0).run Tryz.prog W = .ok (.agg #[.int .i64 k, .int .i64 f, .int .i64 t]) W := by kernel_rfl
/-- A name: runes of the text. -/
def NameSaid (p : PC) (w : World) (e : Ending) (w' : World) : Prop := ∃ A m c, e = .returned (.slice A m c) ∧ m ≤ 65536 ∧ (∃ nm, Rd w' p.B 1 A m c (ints .i32 nm)) ∧ Below w.heap.size w w'
set_option maxRecDepth 100000 in
set_option maxHeartbeats 8000000 in
theorem name56 {p : PC} {w : World} {N : List GN} {S : List SE} {nd : Nat} (h : MS p w N S nd) (hR : p.nR ≤ 4096) (kind : Int) (i j : Nat) (wh : Bool) (hij : i ≤ j) (hj : j ≤ p.nR) :
    Calls Tryz.prog 56 #[.pointer (some ⟨p.gm, 0, none⟩), .agg (tk kind (i : Nat) (j : Nat) wh)] w (NameSaid p w) := by
  obtain ⟨SV, DV, ds, hm, ht, -, -⟩ := h.ex
  have hal := ((Below.refl w.heap.size w).alloc (Nat.le_refl _) (.cells (tk kind (i : Nat) (j : Nat) wh) 87))
  obtain ⟨X, hX⟩ : ∃ X, (w.alloc (.cells (tk kind (i : Nat) (j : Nat) wh) 87)).drew = X := ⟨_, rfl⟩
  have hs : X.heap.size = w.heap.size + 1 := by rw [← hX]; show (w.alloc _).heap.size = _; simp
  have hal := hal.drew
  rw [hX] at hal
  have y1 : X.cell? ⟨p.gm, 1, none⟩ = some (.pointer (some ⟨p.gt, 0, none⟩)) := cell_of_row _ p.gm 1 _ _ _ ((hal.block p.gm (Array.getElem?_eq_some_iff.1 hm).1).trans hm)
  have z2 : X.cell? ⟨p.gt, 2, none⟩ = some (.slice p.AR p.nR p.cR) := cell_of_row _ p.gt 2 _ _ _ ((hal.block p.gt (Array.getElem?_eq_some_iff.1 ht).1).trans ht)
  have t3 : X.heap[w.heap.size]? = some (.cells (tk kind (i : Nat) (j : Nat) wh) 87 (0, 0)) := by rw [← hX]; exact heap_alloc_new w _
  have c1 : X.cell? ⟨w.heap.size, 1, none⟩ = some (.int .i64 (i : Nat)) := cell_of_row _ _ 1 _ _ _ t3
  have c2 : X.cell? ⟨w.heap.size, 2, none⟩ = some (.int .i64 (j : Nat)) := cell_of_row _ _ 2 _ _ _ t3
  have HS := Lib.hid (fun (W : World) (hW : Below X.heap.size X W) => (show W.cell? ⟨p.gm, 1, none⟩ = some (.pointer (some ⟨p.gt, 0, none⟩)) ∧ W.cell? ⟨p.gt, 2, none⟩ = some (.slice p.AR p.nR p.cR) ∧ W.cell? ⟨w.heap.size, 1, none⟩ = some (.int .i64 (i : Nat)) ∧ W.cell? ⟨w.heap.size, 2, none⟩ = some (.int .i64 (j : Nat)) from
    ⟨(hW.cell (World.block_lt_of_cell? _ _ y1)).trans y1, (hW.cell (World.block_lt_of_cell? _ _ z2)).trans z2, (hW.cell (World.block_lt_of_cell? _ _ c1)).trans c1, (hW.cell (World.block_lt_of_cell? _ _ c2)).trans c2⟩))
  have CR := Lib.hid (fun (W : World) (hW : Below X.heap.size X W) => read55 (w := W) p.AR p.nR p.cR p.rs i j ((h.mb.R.below ((hal.trans (hW.mono (by omega))).mono h.mb.lo.2.2)).more (by have := hW.size; have := h.mb.lo.2.2; omega)) (by omega) hij hj)
  unfold ReadSaid at CR
  have HRd := Lib.hid ((h.mb.R.below (hal.mono h.mb.lo.2.2)))
  have HB := Lib.hid hal
  have hlo := h.mb.lo.2.2
  clear t3 hm ht hal h
  go_enter Tryz.func56, Tryz.ntmps56
  go_wp2_with fail
  refine wp_region_held_drew (S := fun W => W.cell? ⟨p.gm, 1, none⟩ = some (.pointer (some ⟨p.gt, 0, none⟩)) ∧ W.cell? ⟨p.gt, 2, none⟩ = some (.slice p.AR p.nR p.cR) ∧ W.cell? ⟨w.heap.size, 1, none⟩ = some (.int .i64 (i : Nat)) ∧ W.cell? ⟨w.heap.size, 2, none⟩ = some (.int .i64 (j : Nat))) (by kernel_rfl) (by rw [hX]; exact ⟨y1, z2, c1, c2⟩) (fun hHeld => ?_)
  change wpAnyH _ _ _ _ _ 16 #[false, false, false, false, false, false, false, false, false, false, false, false, false, false, false, false] _ _
  rw [hX] at hHeld ⊢
  refine wpAnyH_take (i := 0) (oi := _) (v := ?_) rfl (by kernel_rfl) (by kernel_rfl) (by kernel_rfl) (fun _ _ _ h => h) (Or.inl ⟨by rfl, ?_⟩) hHeld ?_
  rotate_left
  · intro w9 hSw; go_simp; (try with_reducible rfl)
  simp only [List.getElem_toArray, List.getElem_cons_zero, Act.put, List.setIfInBounds_toArray, List.set_cons_zero, List.set_cons_succ]
  refine wpAnyH_take (i := 1) (oi := _) (v := ?_) rfl (by kernel_rfl) (by kernel_rfl) (by kernel_rfl) (fun _ _ _ h => h) (Or.inl ⟨by rfl, ?_⟩) hHeld ?_
  rotate_left
  · intro w9 hSw; go_simp; (try with_reducible rfl)
  simp only [List.getElem_toArray, List.getElem_cons_zero, List.getElem_cons_succ, Act.put, List.setIfInBounds_toArray, List.set_cons_zero, List.set_cons_succ]
  refine wpAnyH_take (i := 2) (oi := _) (v := ?_) rfl (by kernel_rfl) (by kernel_rfl) (by kernel_rfl) (fun _ _ _ h => h) (Or.inl ⟨by rfl, ?_⟩) hHeld ?_
  rotate_left
  · intro w9 hSw; go_simp; (try with_reducible rfl)
  simp only [List.getElem_toArray, List.getElem_cons_zero, List.getElem_cons_succ, Act.put, List.setIfInBounds_toArray, List.set_cons_zero, List.set_cons_succ]
  refine wpAnyH_take (i := 3) (oi := _) (v := ?_) rfl (by kernel_rfl) (by kernel_rfl) (by kernel_rfl) (fun _ _ _ h => h) (Or.inl ⟨by rfl, ?_⟩) hHeld ?_
  rotate_left
  · intro w9 hSw; obtain ⟨t1, t2, t3, t4⟩ := hSw; go_simp; (try with_reducible rfl)
  simp only [List.getElem_toArray, List.getElem_cons_zero, List.getElem_cons_succ, Act.put, List.setIfInBounds_toArray, List.set_cons_zero, List.set_cons_succ]
  refine wpAnyH_take (i := 4) (oi := _) (v := ?_) rfl (by kernel_rfl) (by kernel_rfl) (by kernel_rfl) (fun _ _ _ h => h) (Or.inl ⟨by rfl, ?_⟩) hHeld ?_
  rotate_left
  · intro w9 hSw; go_simp; (try with_reducible rfl)
  simp only [List.getElem_toArray, List.getElem_cons_zero, List.getElem_cons_succ, Act.put, List.setIfInBounds_toArray, List.set_cons_zero, List.set_cons_succ]
  refine wpAnyH_take (i := 5) (oi := _) (v := ?_) rfl (by kernel_rfl) (by kernel_rfl) (by kernel_rfl) (fun _ _ _ h => h) (Or.inl ⟨by rfl, ?_⟩) hHeld ?_
  rotate_left
  · intro w9 hSw; go_simp; (try with_reducible rfl)
  simp only [List.getElem_toArray, List.getElem_cons_zero, List.getElem_cons_succ, Act.put, List.setIfInBounds_toArray, List.set_cons_zero, List.set_cons_succ]
  refine wpAnyH_take (i := 6) (oi := _) (v := ?_) rfl (by kernel_rfl) (by kernel_rfl) (by kernel_rfl) (fun _ _ _ h => h) (Or.inl ⟨by rfl, ?_⟩) hHeld ?_
  rotate_left
  · intro w9 hSw; go_simp; (try with_reducible rfl)
  simp only [List.getElem_toArray, List.getElem_cons_zero, List.getElem_cons_succ, Act.put, List.setIfInBounds_toArray, List.set_cons_zero, List.set_cons_succ]
  refine wpAnyH_take (i := 7) (oi := _) (v := ?_) rfl (by kernel_rfl) (by kernel_rfl) (by kernel_rfl) (fun _ _ _ h => h) (Or.inl ⟨by rfl, ?_⟩) hHeld ?_
  rotate_left
  · intro w9 hSw; obtain ⟨t1, t2, t3, t4⟩ := hSw; go_simp; (try with_reducible rfl)
  simp only [List.getElem_toArray, List.getElem_cons_zero, List.getElem_cons_succ, Act.put, List.setIfInBounds_toArray, List.set_cons_zero, List.set_cons_succ]
  refine wpAnyH_take (i := 8) (oi := _) (v := ?_) rfl (by kernel_rfl) (by kernel_rfl) (by kernel_rfl) (fun _ _ _ h => h) (Or.inl ⟨by rfl, ?_⟩) hHeld ?_
  rotate_left
  · intro w9 hSw; go_simp; (try with_reducible rfl)
  simp only [List.getElem_toArray, List.getElem_cons_zero, List.getElem_cons_succ, Act.put, List.setIfInBounds_toArray, List.set_cons_zero, List.set_cons_succ]
  refine wpAnyH_take (i := 9) (oi := _) (v := ?_) rfl (by kernel_rfl) (by kernel_rfl) (by kernel_rfl) (fun _ _ _ h => h) (Or.inl ⟨by rfl, ?_⟩) hHeld ?_
  rotate_left
  · intro w9 hSw; obtain ⟨t1, t2, t3, t4⟩ := hSw; go_simp; (try with_reducible rfl)
  simp only [List.getElem_toArray, List.getElem_cons_zero, List.getElem_cons_succ, Act.put, List.setIfInBounds_toArray, List.set_cons_zero, List.set_cons_succ]
  refine wpAnyH_take (i := 10) (oi := _) (v := ?_) rfl (by kernel_rfl) (by kernel_rfl) (by kernel_rfl) (fun _ _ _ h => h) (Or.inl ⟨by rfl, ?_⟩) hHeld ?_
  rotate_left
  · intro w9 hSw; go_simp; (try with_reducible rfl)
  simp only [List.getElem_toArray, List.getElem_cons_zero, List.getElem_cons_succ, Act.put, List.setIfInBounds_toArray, List.set_cons_zero, List.set_cons_succ]
  refine wpAnyH_take (i := 11) (oi := _) (v := ?_) rfl (by kernel_rfl) (by kernel_rfl) (by kernel_rfl) (fun _ _ _ h => h) (Or.inl ⟨by rfl, ?_⟩) hHeld ?_
  rotate_left
  · intro w9 hSw; obtain ⟨t1, t2, t3, t4⟩ := hSw; go_simp; (try with_reducible rfl)
  simp only [List.getElem_toArray, List.getElem_cons_zero, List.getElem_cons_succ, Act.put, List.setIfInBounds_toArray, List.set_cons_zero, List.set_cons_succ]
  refine wpAnyH_ready (rs := [12, 14]) (by kernel_rfl) (by simp) ?_
  refine AllReadyH.cons (o := _) rfl (fun K hK => ?_) (AllReadyH.cons (o := _) rfl (fun K hK => ?_) AllReadyH.nil)
  · go_simp
    refine (CR.out _ (Below.refl _ _)).mono ?_
    rintro e x2 ⟨k, f, t, A6, m6, c6, r6, e6, rfl, hf1, hf2, b2⟩
    have HS2 := HS.out x2 b2
    refine hK.out _ _ HS2 (fun hHeld2 => ?_)
    clear hK
    refine wpAnyH_take (i := 13) (oi := _) (v := .agg #[.int .i64 k, .int .i64 f, .int .i64 t]) rfl (by kernel_rfl) (by kernel_rfl) (by kernel_rfl) (fun _ _ _ h => h) (Or.inl ⟨by rfl, ?_⟩) hHeld2 ?_
    · intro w9 hSw; have q := fldP k f t A6 m6 c6 r6 e6; go_simp; (try with_reducible rfl)
    simp only [List.getElem_toArray, List.getElem_cons_zero, List.getElem_cons_succ, Act.put, List.setIfInBounds_toArray, List.set_cons_zero, List.set_cons_succ]
    refine wpAnyH_ready (rs := [14]) (by kernel_rfl) (by simp) ?_
    refine AllReadyH.cons (o := _) rfl (fun K hK => ?_) AllReadyH.nil
    go_simp
    refine hK.out _ _ (HS.out _ (b2.alloc b2.size _)) (fun _ => ?_)
    clear hK
    refine wpAnyH_ready (rs := [15]) (by kernel_rfl) (by simp) ?_
    refine AllReadyH.cons (o := _) rfl (fun K hK => ?_) AllReadyH.nil
    go_simp
    refine hK.out _ _ (HS.out _ (b2.alloc b2.size _)) (fun _ => ?_)
    clear hK
    refine wpAnyH_done (by kernel_rfl) ?_ _
    obtain ⟨Y, hY⟩ : ∃ Y, x2.alloc (.cells #[.int .i64 k, .int .i64 (f : Nat), .int .i64 (t : Nat)] 127) = Y := ⟨_, rfl⟩
    rw [hY]
    have hYb : Below X.heap.size X Y := by rw [← hY]; exact b2.alloc b2.size _
    have hg := heap_alloc_new x2 (.cells #[.int .i64 k, .int .i64 (f : Nat), .int .i64 (t : Nat)] 127)
    rw [hY] at hg
    obtain ⟨a1, a2, -, -⟩ := HS.out Y hYb
    have d1 : Y.cell? ⟨x2.heap.size, 1, none⟩ = some (.int .i64 (f : Nat)) := cell_of_row _ _ 1 _ _ _ hg
    have d2 : Y.cell? ⟨x2.heap.size, 2, none⟩ = some (.int .i64 (t : Nat)) := cell_of_row _ _ 2 _ _ _ hg
    have q0 : decide ((f : Int) < 0) = false := by simp
    have q1 : decide (t < f) = false := by simp; omega
    have q2 : decide (p.nR < t) = false := by simp; omega
    have hbY := HB.out.trans (hYb.mono (by omega))
    have HR := Lib.hid ((HRd.out.below (hYb.mono (by omega))).cutK (lo := f) (hi := t) hf1 (by omega))
    have HbY := Lib.hid hbY
    have hcap := HRd.out.cap
    have q3 : t ≤ p.nR := by omega
    have q4 : t ≤ p.cR := by omega
    clear hY hYb hg hbY y1 z2 c1 c2 hHeld
    go_wp2_with fail
    go_quiet (fail)
    go_wp2_with fail
    all_goals go_ret
    all_goals refine ⟨_, _, _, rfl, by omega, ⟨(p.rs.drop f).take (t - f), ?_⟩, Below.drewN_ HbY.out _⟩
    all_goals first | exact (HR.out.1 (by assumption)).drewN _ | exact (HR.out.2 (by assumption)).drewN _
  · go_simp
    have z0 : X.heap.size < (X.alloc (.cells #[.int .i64 0, .int .i64 0, .int .i64 0] 127)).heap.size := by simp
    have z1 := (Below.refl X.heap.size X).alloc (Nat.le_refl _) (.cells #[.int .i64 0, .int .i64 0, .int .i64 0] 127)
    refine hK.out _ _ (HS.out _ z1) (fun hHeld1 => ?_)
    clear hK
    have zb := heap_alloc_new X (.cells #[.int .i64 0, .int .i64 0, .int .i64 0] 127)
    obtain ⟨V, hV⟩ : ∃ V, X.alloc (.cells #[.int .i64 0, .int .i64 0, .int .i64 0] 127) = V := ⟨_, rfl⟩
    rw [hV] at hHeld1 z0 z1 zb ⊢
    clear hV
    refine wpAnyH_ready (rs := [12]) (by kernel_rfl) (by simp) ?_
    refine AllReadyH.cons (o := _) rfl (fun K hK => ?_) AllReadyH.nil
    go_simp
    refine (CR.out _ z1).mono ?_
    rintro e x2 ⟨k, f, t, A6, m6, c6, r6, e6, rfl, hf1, hf2, b2⟩
    have zb2 := (b2.block _ z0).trans zb
    have zz := z1.trans (b2.mono (Nat.le_of_lt z0))
    refine hK.out _ _ (HS.out _ zz) (fun hHeld2 => ?_)
    clear hK
    refine wpAnyH_take (i := 13) (oi := _) (v := .agg #[.int .i64 k, .int .i64 f, .int .i64 t]) rfl (by kernel_rfl) (by kernel_rfl) (by kernel_rfl) (fun _ _ _ h => h) (Or.inl ⟨by rfl, ?_⟩) hHeld2 ?_
    · intro w9 hSw; have q := fldP k f t A6 m6 c6 r6 e6; go_simp; (try with_reducible rfl)
    simp only [List.getElem_toArray, List.getElem_cons_zero, List.getElem_cons_succ, Act.put, List.setIfInBounds_toArray, List.set_cons_zero, List.set_cons_succ]
    refine wpAnyH_ready (rs := [15]) (by kernel_rfl) (by simp) ?_
    refine AllReadyH.cons (o := _) rfl (fun K hK => ?_) AllReadyH.nil
    rw [hs] at zb2
    refine step_put rfl rfl _ _ _ rfl (w.heap.size + 1) #[.int .i64 k, .int .i64 f, .int .i64 t] rfl rfl 127 _ zb2 (by kernel_rfl) rfl (by simp [Value.oneCell']) ?_
    intro Y hg hgr
    have hYb : Below X.heap.size X Y := zz.grown hgr zz.size (fun k hk => by injection hk with e; omega)
    refine hK.out _ _ (HS.out _ hYb) (fun hq => ?_)
    clear hK hq
    refine wpAnyH_done (by kernel_rfl) ?_ _
    obtain ⟨a1, a2, -, -⟩ := HS.out Y hYb
    have d1 : Y.cell? ⟨w.heap.size + 1, 1, none⟩ = some (.int .i64 (f : Nat)) := cell_of_row _ _ 1 _ _ _ hg
    have d2 : Y.cell? ⟨w.heap.size + 1, 2, none⟩ = some (.int .i64 (t : Nat)) := cell_of_row _ _ 2 _ _ _ hg
    have q0 : decide ((f : Int) < 0) = false := by simp
    have q1 : decide (t < f) = false := by simp; omega
    have q2 : decide (p.nR < t) = false := by simp; omega
    have hbY := HB.out.trans (hYb.mono (by omega))
    have HR := Lib.hid ((HRd.out.below (hYb.mono (by omega))).cutK (lo := f) (hi := t) hf1 (by omega))
    have HbY := Lib.hid hbY
    have hcap := HRd.out.cap
    have q3 : t ≤ p.nR := by omega
    have q4 : t ≤ p.cR := by omega
    clear hYb hg hbY y1 z2 c1 c2 hHeld zb zb2 zz z0 z1 b2 hgr hHeld1 hHeld2
    clear hf2
    go_wp2_with fail
    go_quiet (fail)
    go_wp2_with fail
    all_goals go_ret
    all_goals refine ⟨_, _, _, rfl, by omega, ⟨(p.rs.drop f).take (t - f), ?_⟩, Below.drewN_ HbY.out _⟩
    all_goals first | exact (HR.out.1 (by assumption)).drewN _ | exact (HR.out.2 (by assumption)).drewN _
end Go.Proofs.YtibakihcicfeoaaGreat
/- The walk of a maker's start. No condition. -/
namespace Go.Proofs.YtibakihcicfeoaaGreat
open Go.RowKit

/-- The parser stands: what it has read is 'done'. -/
def PS (p : PC) (w : World) (done : List Int) (T : Nat) : Prop := ∃ N S nd, MS p w N S nd ∧ Forest N (kidsOf S) done T ∧ nd + S.length ≤ T + 1
theorem kidsOf_len (S : List SE) : (kidsOf S).length = S.length := by simp [kidsOf]
theorem last_of {N : List GN} {S : List SE} {done : List Int} {T : Nat} (F : Forest N (kidsOf S) done T) : ∃ P x, S = P ++ [x] := by
  have := F.one
  rw [kidsOf_len] at this
  have hne : S ≠ [] := by intro e; rw [e] at this; simp at this
  exact ⟨S.dropLast, S.getLast hne, (List.dropLast_concat_getLast hne).symm⟩
/-- A leaf is made and is the innermost one's last kid. -/
theorem PS.leaf {p : PC} {w : World} {N : List GN} {P : List SE} {x : SE} {nd T : Nat} {done b : List Int} {kind : Int} {v : Value} (F : Forest N (kidsOf (P ++ [x])) done T) (hd : nd + (P ++ [x]).length ≤ T + 1)
    (h : MS p w (N ++ [gleaf kind b]) (P ++ [{ x with kv := v, kids := x.kids ++ [(N.length : Int)] }]) nd) : PS p w (done ++ b) (T + 1) := by
  refine ⟨_, _, _, h, ?_, by simp at hd ⊢; omega⟩
  rw [kidsOf_app] at F ⊢
  exact Forest.leaf F kind b
theorem st43 : ST Tryz.prog 43 42 2 48 := ST.mk' (z := .agg #[.slice none 0 0, .slice none 0 0]) Tryz.underlying43 (by kernel_rfl) rfl (by decide)
set_option maxRecDepth 100000 in
set_option maxHeartbeats 8000000 in
theorem start57 {p : PC} {w : World} {N : List GN} {S : List SE} {nd T : Nat} {done : List Int} (h : MS p w N S nd) (F : Forest N (kidsOf S) done T) (hd : nd + S.length ≤ T + 1) (hP : PO p) (hT : T ≤ 3000) (kind : Int) (i j : Nat) (wh : Bool) (hij : i ≤ j) (hj : j ≤ p.nR) :
    Calls Tryz.prog 57 #[.pointer (some ⟨p.gm, 0, none⟩), .agg (tk kind (i : Nat) (j : Nat) wh)] w fun e w' => e = .returned (.tuple #[]) ∧ PS p w' (done ++ tkB p i j) (T + 3) ∧ Kp p w w' := by
  have hloB := h.mb.lo.2.2
  have hnl := F.nLen
  rw [kidsOf_len] at hnl
  have hb0 := (Below.refl w.heap.size w).alloc (Nat.le_refl _) (.cells (tk kind (i : Nat) (j : Nat) wh) 87)
  have t3 := heap_alloc_new w (.cells (tk kind (i : Nat) (j : Nat) wh) 87)
  obtain ⟨X, hX⟩ : ∃ X, w.alloc (.cells (tk kind (i : Nat) (j : Nat) wh) 87) = X := ⟨_, rfl⟩
  have hlt : w.heap.size < X.heap.size := by rw [← hX]; simp
  rw [hX] at hb0 t3
  have hX0 := h.below hb0
  have C56 := name56 hX0 hP.nR kind i j wh hij hj
  have e0 : X.cell? ⟨w.heap.size, 0, none⟩ = some (.int .i64 kind) := cell_of_row _ _ 0 _ _ _ t3
  have e1 : X.cell? ⟨w.heap.size, 1, none⟩ = some (.int .i64 (i : Nat)) := cell_of_row _ _ 1 _ _ _ t3
  have e2 : X.cell? ⟨w.heap.size, 2, none⟩ = some (.int .i64 (j : Nat)) := cell_of_row _ _ 2 _ _ _ t3
  have e3 : X.cell? ⟨w.heap.size, 3, none⟩ = some (.bool wh) := cell_of_row _ _ 3 _ _ _ t3
  have HX0 := Lib.hid hX0
  have KX := Lib.hid (Kp.below (p := p) hb0 hloB)
  have FF := Lib.hid F
  have T3 := Lib.hid t3
  have HPP := Lib.hid hP
  unfold NameSaid at C56
  clear hX0 hb0 h F hP t3
  go_enter Tryz.func57, Tryz.ntmps57
  go_wp2_with fail
  refine C56.mono ?_
  rintro e w1 ⟨An, mn, cn, rfl, hmn, hnm, b1⟩
  have HNM := Lib.hid hnm
  have HM1 := Lib.hid (HX0.out.below b1)
  have K1 := Lib.hid (KX.out.trans (Kp.below b1 HX0.out.mb.lo.2.2))
  have T31 := Lib.hid ((b1.block _ hlt).trans T3.out)
  obtain ⟨SV, DV, ds, k1, k2, k3, -⟩ := HM1.out.ex
  obtain ⟨AS, cS, rfl, k4⟩ := own_form k3
  have y2 : w1.cell? ⟨p.gm, 2, none⟩ = some (.slice AS S.length cS) := cell_of_row w1 p.gm 2 _ _ _ k1
  have K3 := Lib.hid k4
  have HK1 := Lib.hid k1
  clear hnm b1 k1 k2 k3 k4 C56 e0 e1 e2 e3
  by_cases hdeep : 64 < S.length
  · have q1 : decide (64 < S.length) = true := by simpa using hdeep
    have C54 := wrong54 HM1.out 5 i j (by omega) hj (by omega)
    have e0 : w1.cell? ⟨w.heap.size, 0, none⟩ = some (.int .i64 kind) := cell_of_row _ _ 0 _ _ _ T31.out
    have e1 : w1.cell? ⟨w.heap.size, 1, none⟩ = some (.int .i64 (i : Nat)) := cell_of_row _ _ 1 _ _ _ T31.out
    have e2 : w1.cell? ⟨w.heap.size, 2, none⟩ = some (.int .i64 (j : Nat)) := cell_of_row _ _ 2 _ _ _ T31.out
    have e3 : w1.cell? ⟨w.heap.size, 3, none⟩ = some (.bool wh) := cell_of_row _ _ 3 _ _ _ T31.out
    go_wp2_with fail
    refine C54.mono ?_
    rintro e w2 ⟨rfl, m2, r2⟩
    have T32 := Lib.hid (r2.k _ _ _ T31.out)
    have K2 := Lib.hid (K1.out.trans r2)
    have C59 := leaf59 m2 HPP.out kind i j wh hij hj (by omega)
    clear C54 e0 e1 e2 e3 r2 m2
    have e0 : w2.cell? ⟨w.heap.size, 0, none⟩ = some (.int .i64 kind) := cell_of_row _ _ 0 _ _ _ T32.out
    have e1 : w2.cell? ⟨w.heap.size, 1, none⟩ = some (.int .i64 (i : Nat)) := cell_of_row _ _ 1 _ _ _ T32.out
    have e2 : w2.cell? ⟨w.heap.size, 2, none⟩ = some (.int .i64 (j : Nat)) := cell_of_row _ _ 2 _ _ _ T32.out
    have e3 : w2.cell? ⟨w.heap.size, 3, none⟩ = some (.bool wh) := cell_of_row _ _ 3 _ _ _ T32.out
    go_wp2_with fail
    refine C59.mono ?_
    rintro e w3 ⟨rfl, m3, r3⟩
    obtain ⟨P, x, rfl⟩ := last_of FF.out
    have hxk : x.kids.length ≤ T := FF.out.fewK (by simp [kidsOf])
    have K3 := Lib.hid (K2.out.trans r3)
    have C13 := kid13 m3 (N.length : Int) (by simp at hnl; omega) (by omega)
    clear C59 e0 e1 e2 e3 r3 m3
    go_wp2_with fail
    refine C13.mono ?_
    rintro e w4 ⟨rfl, ⟨v4, m4⟩, k4⟩
    clear C13
    go_wp2_with fail
    first | go_end0 | (refine bodyPost_ret (results_none rfl _ _ _) rfl ?_)
    obtain ⟨N', S', nd', a1, a2, a3⟩ := PS.leaf (FF.out.more (T' := T + 1) (by omega)) (by omega) m4
    exact ⟨rfl, ⟨N', S', nd', a1, a2.more (by omega), by omega⟩, K3.out.trans k4⟩
  · have q1 : decide (64 < S.length) = false := by simpa using hdeep
    have hlo1 := HM1.out.mb.lo.2.2
    go_wp2_with (at_builtin; go_loud (refine wpList_pushA st43 rfl _ _ rfl _ rfl K3.out [.slice An mn cn, .slice none 0 0] _ rfl rfl rfl (by intro u hu; simp at hu; rcases hu with rfl | rfl <;> rfl) (by omega) (by omega) hlo1 ?_); intro v5 w5 ho5 hg5 hat5; obtain ⟨A9, c9, rfl, -⟩ := own_form ho5; obtain ⟨ms5, k5, hm5⟩ := HM1.out.push (x := ⟨An, mn, cn, .slice none 0 0, []⟩) HK1.out hg5 ho5 rfl rfl ⟨hmn, HNM.out⟩; have y5 := cell_of_row w5 p.gm 2 _ _ _ hm5; have f5 := frozen_of_row w5 p.gm 2 _ _ hm5; obtain ⟨Y, hY⟩ : ∃ Y, w5.setCell ⟨p.gm, 2, none⟩ (.slice A9 (S.length + 1) c9) = Y := ⟨_, rfl⟩; rw [hY] at ms5 k5; have MS5 := Lib.hid ms5; have T35 := Lib.hid (k5.k _ _ _ T31.out); have K5 := Lib.hid (K1.out.trans k5); have C59 := leaf59 ms5 HPP.out kind i j wh hij hj (by omega); have e0 : Y.cell? ⟨w.heap.size, 0, none⟩ = some (.int .i64 kind) := cell_of_row _ _ 0 _ _ _ T35.out; have e1 : Y.cell? ⟨w.heap.size, 1, none⟩ = some (.int .i64 (i : Nat)) := cell_of_row _ _ 1 _ _ _ T35.out; have e2 : Y.cell? ⟨w.heap.size, 2, none⟩ = some (.int .i64 (j : Nat)) := cell_of_row _ _ 2 _ _ _ T35.out; have e3 : Y.cell? ⟨w.heap.size, 3, none⟩ = some (.bool wh) := cell_of_row _ _ 3 _ _ _ T35.out; clear ho5 hg5 hat5 hm5 ms5 k5 y2)
    refine C59.mono ?_
    rintro e w3 ⟨rfl, m3, r3⟩
    have K6 := Lib.hid (K5.out.trans r3)
    have C13 := kid13 m3 (N.length : Int) (by omega) (by simp)
    clear C59 e0 e1 e2 e3 r3 m3 y5 f5
    go_wp2_with fail
    refine C13.mono ?_
    rintro e w4 ⟨rfl, ⟨v4, m4⟩, k4⟩
    clear C13
    go_wp2_with fail
    first | go_end0 | (refine bodyPost_ret (results_none rfl _ _ _) rfl ?_)
    have F2 : Forest N (kidsOf (S ++ [⟨An, mn, cn, .slice none 0 0, []⟩])) done (T + 2) := by rw [kidsOf_app]; exact FF.out.push
    obtain ⟨N', S', nd', a1, a2, a3⟩ := PS.leaf F2 (by simp; omega) m4
    exact ⟨rfl, ⟨N', S', nd', a1, a2, a3⟩, K6.out.trans k4⟩
end Go.Proofs.YtibakihcicfeoaaGreat
/- The walks of slices.Equal over runes and of a maker's end. No condition. -/
namespace Go.Proofs.YtibakihcicfeoaaGreat
open Go.RowKit

def EqSaid (w : World) (e : Ending) (w' : World) : Prop := (∃ b : Bool, e = .returned (.bool b)) ∧ ∃ q, w' = w.drewN q
theorem drewN_two (w : World) (a b : Nat) : ∃ q, (w.drewN a).drewN b = w.drewN q := ⟨_, World.drewN_drewN w a b⟩
set_option maxRecDepth 100000 in
set_option maxHeartbeats 4000000 in
theorem equal108 {w : World} {B1 B2 : Nat} (A A2 : Option Addr) (m c m2 c2 : Nat) (l l2 : List Int) (h : Rd w B1 1 A m c (ints .i32 l)) (h2 : Rd w B2 1 A2 m2 c2 (ints .i32 l2)) (hm : m ≤ 65536) (hm2 : m2 ≤ 65536) :
    Calls Tryz.prog 108 #[.slice A m c, .slice A2 m2 c2] w (EqSaid w) := by
  unfold EqSaid
  by_cases he : m = m2
  · subst he
    by_cases hn0 : 0 < m
    · obtain ⟨b, off, rfl, -, hc⟩ := h.int_form hn0
      obtain ⟨b2, off2, rfl, -, hc2⟩ := h2.int_form hn0
      have HC := Lib.hid hc
      have HC2 := Lib.hid hc2
      clear h hc h2 hc2
      go_enter Tryz.func108, Tryz.ntmps108
      go_wp2_with fail
      go_loopw [13] (fun i wr => ∃ k : Nat, k ≤ m ∧ i = .int .i64 k ∧ ∃ q, wr = w.drewN q)
        (fun i _ => m - (intOf i).toNat)
      case atStart => exact ⟨0, Nat.zero_le _, rfl, 0, rfl⟩
      case round =>
        obtain ⟨k, hk, rfl, q, rfl⟩ := hrel
        by_cases hlt : k < m
        · have x0 := HC.out k hlt
          have x2 := HC2.out k hlt
          generalize gz l k = z at x0
          generalize gz l2 k = z2 at x2
          by_cases hzz : z = z2
          · subst hzz
            go_wp2_with fail
            go_quiet (fail)
            go_wp2_with fail
            go_roundw
            case rel => exact ⟨k + 1, by omega, by go_num, _, rfl⟩
            case measure => simp [intOf]; omega
          · have u6 : (z == z2) = false := by simpa using hzz
            have u7 : (z != z2) = true := by simpa using hzz
            go_wp2_with fail
            go_quiet (fail)
            go_wp2_with fail
            go_ret
            exact ⟨⟨_, rfl⟩, drewN_two _ _ _⟩
        · obtain rfl : k = m := by omega
          go_wp2_with fail
          go_ret
          exact ⟨⟨_, rfl⟩, _, rfl⟩
    · obtain rfl : m = 0 := by omega
      clear h h2
      go_enter Tryz.func108, Tryz.ntmps108
      go_wp2_with fail
      go_loopw [13] (fun i wr => i = .int .i64 0 ∧ wr = w) (fun _ _ => 0)
      case atStart => exact ⟨rfl, rfl⟩
      case round =>
        obtain ⟨rfl, rfl⟩ := hrel
        go_wp2_with fail
        go_ret
        exact ⟨⟨_, rfl⟩, 0, rfl⟩
  · have u6 : (m == m2) = false := by simpa using he
    have u7 : (m != m2) = true := by simpa using he
    have u8 : ((m : Int) == (m2 : Int)) = false := by simp; omega
    have u9 : ((m : Int) != (m2 : Int)) = true := by simp; omega
    clear h h2
    go_enter Tryz.func108, Tryz.ntmps108
    go_wp2_with fail
    go_ret
    exact ⟨⟨_, rfl⟩, 0, rfl⟩
end Go.Proofs.YtibakihcicfeoaaGreat
