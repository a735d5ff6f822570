/- The walk of stands: a cursor at the end of its path. No condition. -/
import Derived.Test.YtbmbiffhgdkpiaaR10
namespace Go.Proofs.Ytbmbiffhgdkpiaa
open Go.RowKit

theorem path37' {X : Nat → Prop} {w : World} {ga : Nat} {N : List GN} {root : Nat} {Q : List Int} {a : Option Addr} {n f k : Int} {u : Option Addr} (h : Chain X w ga N root Q n f k u) (hQ : Q.length ≤ 4096) :
    Calls Try.prog 37 #[.agg (cc a n f k u)] w fun e w' => ∃ A c, e = .returned (.slice A Q.length c) ∧ w'.ownsRow w.heap.size 3 1 (.slice A Q.length c) Q.length (ints .i64 Q.reverse) ∧ Below w.heap.size w w' := by
  have := path37 (a := a) h hQ
  unfold PathSaid at this
  simpa only [List.length_reverse] using this
set_option maxRecDepth 100000 in
set_option maxHeartbeats 8000000 in
theorem stands38 {X : Nat → Prop} {w : World} {B ga : Nat} {A : Option Addr} {nn c : Nat} {N : List GN} (h : Both w B ga (.slice A nn c) N) (hn : N.length ≤ 4096) {root : Nat} (hr : root < N.length) {Q : List Int} {n f k : Int} {u : Option Addr}
    (hc : Chain X w ga N root Q n f k u) (hQ : Q.length ≤ 4096) (A2 : Option Addr) (m c2 : Nat) (hP : Rd w w.heap.size 1 A2 m c2 (ints .i64 Q.reverse)) :
    Calls Try.prog 38 #[.agg (cc (some ⟨ga, 0, none⟩) n f k u), .slice A nn c, .int .i64 (root : Nat), .slice A2 m c2] w fun e w' => e = .returned (.bool true) ∧ Below w.heap.size w w' := by
  obtain ⟨hlo, ha, hd, hN, hwd⟩ := h
  have hm : m = Q.length := by have := hP.int_len; simpa using this.symm
  subst hm
  obtain ⟨p0, p1, p2, p3, p4⟩ := hc.ok hN hr
  obtain ⟨i, rfl⟩ := Int.eq_ofNat_of_zero_le p0
  have hi : i < N.length := by omega
  rw [show ((i : Nat) : Int).toNat = i from rfl] at p4
  have hfrom := hc.from hN hr
  have b0 := Lib.hid (fun o => (Below.refl w.heap.size w).alloc (Nat.le_refl _) o)
  have C21 := Lib.hid (fun W (hb : Below w.heap.size w W) => at21 (hd.below hb) hN.good root A2 Q.length c2 Q.reverse (hP.on hb) hQ)
  have hat : atZ N root Q.reverse = (i : Nat) := atZ_some ((gatR_in hr Q.reverse).trans p4)
  rw [hat] at C21
  have C61 := Lib.hid (fun W (hb : Below w.heap.size w W) => from61 (hd.below hb) hN (fun j hj => Nat.le_trans (hwd j hj) (by omega)) root hr A2 Q.length c2 Q.reverse (hP.on hb) hQ i p4)
  rw [List.reverse_reverse, ← hfrom] at C61
  obtain ⟨rfl, g, bv, kv, hg, hnode⟩ := hd.node
  obtain rfl := hg (by omega)
  obtain ⟨n0, -, n2, -, -, o5, -⟩ := hnode i hi
  obtain ⟨A5, c5, hv5, ho5⟩ := own_form o5
  rw [hv5] at n2
  have hgl := World.block_lt_of_cell? _ _ n0
  have hwl : (gn N i).w ≤ 3000 := hwd i hi
  have hwr : (gn N root).w ≤ 3000 := hwd root hr
  have hwk := hN.wide i hi
  have hprl : (pr N (i : Nat)).length ≤ 3000 := by rw [← hwk]; exact hwl
  have hf1 : f ≤ 3000 := by have : 0 ≤ wd N (i : Nat) := by { unfold wd; omega }; omega
  have HN := Lib.hid hN
  have HWK := Lib.hid hwk
  have hr5 := Rd.of_own ho5
  clear hnode hwd hwk hfrom hat p4 p3 o5 hv5 ho5 hd hN hg p0 p1
  go_enter Try.func38, Try.ntmps38
  go_wp2_with (first
    | (go_at_call 21; refine (C21.out _ (b0.out _)).mono ?_; rintro e w0 ⟨rfl, rfl⟩; clear C21)
    | (go_at_call 61; refine (C61.out _ (b0.out _)).mono ?_; rintro e w0 ⟨rfl, rfl⟩; clear C61))
  have hX1 : (w.alloc (.cells (cc (some ⟨ga, 0, none⟩) (i : Nat) f k u) 59)).heap[w.heap.size]? = _ := heap_alloc_new w _
  have hb1 : Below w.heap.size w (w.alloc (.cells (cc (some ⟨ga, 0, none⟩) (i : Nat) f k u) 59)) := b0.out _
  have hs1 : w.heap.size < (w.alloc (.cells (cc (some ⟨ga, 0, none⟩) (i : Nat) f k u) 59)).heap.size := by simp
  have m0 : (w.alloc (.cells (cc (some ⟨ga, 0, none⟩) (i : Nat) f k u) 59)).cell? ⟨g, i * 5, none⟩ = some (.int .i64 (gn N i).kind) := (hb1.cell (p := ⟨g, i * 5, none⟩) hgl).trans n0
  have m2 : (w.alloc (.cells (cc (some ⟨ga, 0, none⟩) (i : Nat) f k u) 59)).cell? ⟨g, i * 5 + 2, none⟩ = some (.slice A5 (pr N (i : Nat)).length c5) := (hb1.cell (p := ⟨g, i * 5 + 2, none⟩) hgl).trans n2
  have ha1 := ha.below hb1
  have hc1 := hc.below hb1
  have hr51 := hr5.on hb1
  have hp1 := hP.on hb1
  clear n0 n2 b0
  generalize (w.alloc (.cells (cc (some ⟨ga, 0, none⟩) (i : Nat) f k u) 59)) = w1 at *
  have u1 : IntKind.i64.wrap (f + ((pr N (i : Nat)).length : Nat)) = f + ((pr N (i : Nat)).length : Nat) := IntWalk.i64_in _ (by omega)
  refine wp_region_held_drew (S := fun W => Below w1.drew.heap.size w1.drew W) (by kernel_rfl) (Below.refl _ _) (fun hHeld => ?_)
  change wpAnyH _ _ _ _ _ 48 #[false, false, false, false, false, false, false, false, false, false, false, false, false, false, false, false, false, false, false, false, false, false, false, false, false, false, false, false, false, false, false, false, false, false, false, false, false, false, false, false, false, false, false, false, false, false, false, false] _ _
  have wa_a := ha1.drew
  have wa_s : w.heap.size < w1.drew.heap.size := hs1
  have wa_X : w1.drew.heap[w.heap.size]? = some (.cells (cc (some ⟨ga, 0, none⟩) (i : Nat) f k u) 59 (0, 0)) := hX1
  have wa_m0 : w1.drew.cell? ⟨g, i * 5, none⟩ = _ := m0
  have wa_m2 : w1.drew.cell? ⟨g, i * 5 + 2, none⟩ = _ := m2
  have wa_c : Chain X w1.drew ga N root Q (i : Nat) f k u := Chain.keep (X := X) (X' := X) (w := w1) (w' := w1.drew) (fun _ _ hx hg => ⟨hx, hg⟩) hc1
  have wa_r : Rd w1.drew w1.drew.heap.size 1 _ _ _ _ := hr51.drew
  have wa_p : Rd w1.drew w1.drew.heap.size 1 _ _ _ _ := hp1.drew
  have wa_b := hb1.drew
  generalize w1.drew = wa at *
  refine wpAnyH_take (i := 0) (oi := _) (v := ?_) rfl (by kernel_rfl) (by kernel_rfl) (by kernel_rfl) (fun _ _ _ h => h) (Or.inl ⟨by rfl, ?_⟩) hHeld ?_
  rotate_left
  · intro w9 hSw; have s0 := (hSw.block w.heap.size wa_s).trans wa_X; have s1 := (cells5 s0).1; have s2 := (cells5 s0).2.1; have s3 := (cells5 s0).2.2.1; have s4 := (cells5 s0).2.2.2.1; have s5 := (cells5 s0).2.2.2.2; clear s0; go_simp; (try with_reducible rfl)
  simp only [List.getElem_toArray, List.getElem_cons_zero, Act.put, List.setIfInBounds_toArray, List.set_cons_zero, List.set_cons_succ]
  refine wpAnyH_take (i := 2) (oi := _) (v := ?_) rfl (by kernel_rfl) (by kernel_rfl) (by kernel_rfl) (fun _ _ _ h => h) (Or.inl ⟨by rfl, ?_⟩) hHeld ?_
  rotate_left
  · intro w9 hSw; go_simp; (try with_reducible rfl)
  simp only [List.getElem_toArray, List.getElem_cons_zero, List.getElem_cons_succ, Act.put, List.setIfInBounds_toArray, List.set_cons_zero, List.set_cons_succ]
  refine wpAnyH_ready (rs := [1]) (by kernel_rfl) (by simp) ?_
  refine AllReadyH.cons (o := _) rfl (fun K hK => ?_) AllReadyH.nil
  go_simp
  refine (node35 _ _ _ _ _ _).mono ?_
  rintro e wb ⟨rfl, hb_wb⟩
  refine hK.out _ _ hb_wb (fun _ => ?_)
  clear hK
  refine wpAnyH_mono (S' := fun W => Below wb.heap.size wb W) (fun W h => Below.trans hb_wb (h.mono hb_wb.size)) _ _ _ _ ?_
  have hHeld1 : (fun W => Below wb.heap.size wb W) wb := Below.refl _ _
  have wb_a := wa_a.below hb_wb
  have wb_s : w.heap.size < wb.heap.size := Nat.lt_of_lt_of_le wa_s hb_wb.size
  have wb_X := (hb_wb.block w.heap.size wa_s).trans wa_X
  have wb_m0 := (hb_wb.cell (p := ⟨g, i * 5, none⟩) (Nat.lt_trans hgl wa_s)).trans wa_m0
  have wb_m2 := (hb_wb.cell (p := ⟨g, i * 5 + 2, none⟩) (Nat.lt_trans hgl wa_s)).trans wa_m2
  have wb_c := wa_c.below hb_wb
  have wb_r := wa_r.on hb_wb
  have wb_p := wa_p.on hb_wb
  have wb_b := wa_b.trans (hb_wb.mono (Nat.le_of_lt wa_s))
  clear wa_X wa_m0 wa_m2
  refine wpAnyH_take (i := 3) (oi := _) (v := ?_) rfl (by kernel_rfl) (by kernel_rfl) (by kernel_rfl) (fun _ _ _ h => h) (Or.inl ⟨by rfl, ?_⟩) hHeld1 ?_
  rotate_left
  · intro w9 hSw; go_simp; (try with_reducible rfl)
  simp only [List.getElem_toArray, List.getElem_cons_zero, List.getElem_cons_succ, Act.put, List.setIfInBounds_toArray, List.set_cons_zero, List.set_cons_succ]
  refine wpAnyH_take (i := 4) (oi := _) (v := ?_) rfl (by kernel_rfl) (by kernel_rfl) (by kernel_rfl) (fun _ _ _ h => h) (Or.inl ⟨by rfl, ?_⟩) hHeld1 ?_
  rotate_left
  · intro w9 hSw; go_simp; (try with_reducible rfl)
  simp only [List.getElem_toArray, List.getElem_cons_zero, List.getElem_cons_succ, Act.put, List.setIfInBounds_toArray, List.set_cons_zero, List.set_cons_succ]
  refine wpAnyH_take (i := 5) (oi := _) (v := ?_) rfl (by kernel_rfl) (by kernel_rfl) (by kernel_rfl) (fun _ _ _ h => h) (Or.inl ⟨by rfl, ?_⟩) hHeld1 ?_
  rotate_left
  · intro w9 hSw; have s0 := (hSw.block w.heap.size wb_s).trans wb_X; have s1 := (cells5 s0).1; have s2 := (cells5 s0).2.1; have s3 := (cells5 s0).2.2.1; have s4 := (cells5 s0).2.2.2.1; have s5 := (cells5 s0).2.2.2.2; clear s0; go_simp; (try with_reducible rfl)
  simp only [List.getElem_toArray, List.getElem_cons_zero, List.getElem_cons_succ, Act.put, List.setIfInBounds_toArray, List.set_cons_zero, List.set_cons_succ]
  refine wpAnyH_take (i := 7) (oi := _) (v := ?_) rfl (by kernel_rfl) (by kernel_rfl) (by kernel_rfl) (fun _ _ _ h => h) (Or.inl ⟨by rfl, ?_⟩) hHeld1 ?_
  rotate_left
  · intro w9 hSw; go_simp; (try with_reducible rfl)
  simp only [List.getElem_toArray, List.getElem_cons_zero, List.getElem_cons_succ, Act.put, List.setIfInBounds_toArray, List.set_cons_zero, List.set_cons_succ]
  refine wpAnyH_take (i := 8) (oi := _) (v := ?_) rfl (by kernel_rfl) (by kernel_rfl) (by kernel_rfl) (fun _ _ _ h => h) (Or.inl ⟨by rfl, ?_⟩) hHeld1 ?_
  rotate_left
  · intro w9 hSw; go_simp; (try with_reducible rfl)
  simp only [List.getElem_toArray, List.getElem_cons_zero, List.getElem_cons_succ, Act.put, List.setIfInBounds_toArray, List.set_cons_zero, List.set_cons_succ]
  refine wpAnyH_take (i := 9) (oi := _) (v := ?_) rfl (by kernel_rfl) (by kernel_rfl) (by kernel_rfl) (fun _ _ _ h => h) (Or.inl ⟨by rfl, ?_⟩) hHeld1 ?_
  rotate_left
  · intro w9 hSw; go_simp; (try with_reducible rfl)
  simp only [List.getElem_toArray, List.getElem_cons_zero, List.getElem_cons_succ, Act.put, List.setIfInBounds_toArray, List.set_cons_zero, List.set_cons_succ]
  refine wpAnyH_take (i := 10) (oi := _) (v := ?_) rfl (by kernel_rfl) (by kernel_rfl) (by kernel_rfl) (fun _ _ _ h => h) (Or.inl ⟨by rfl, ?_⟩) hHeld1 ?_
  rotate_left
  · intro w9 hSw; go_simp; (try with_reducible rfl)
  simp only [List.getElem_toArray, List.getElem_cons_zero, List.getElem_cons_succ, Act.put, List.setIfInBounds_toArray, List.set_cons_zero, List.set_cons_succ]
  refine wpAnyH_take (i := 11) (oi := _) (v := ?_) rfl (by kernel_rfl) (by kernel_rfl) (by kernel_rfl) (fun _ _ _ h => h) (Or.inl ⟨by rfl, ?_⟩) hHeld1 ?_
  rotate_left
  · intro w9 hSw; have s0 := (hSw.cell (p := ⟨g, i * 5, none⟩) (Nat.lt_trans hgl wb_s)).trans wb_m0; go_simp; (try with_reducible rfl)
  simp only [List.getElem_toArray, List.getElem_cons_zero, List.getElem_cons_succ, Act.put, List.setIfInBounds_toArray, List.set_cons_zero, List.set_cons_succ]
  refine wpAnyH_ready (rs := [6]) (by kernel_rfl) (by simp) ?_
  refine AllReadyH.cons (o := _) rfl (fun K hK => ?_) AllReadyH.nil
  go_simp
  refine (kind36 _ _ _ _ _ _ _ (fun W hbW => kind23_at (wb_a.below hbW) hi)).mono ?_
  rintro e wd ⟨rfl, hb_wd⟩
  refine hK.out _ _ hb_wd (fun _ => ?_)
  clear hK
  refine wpAnyH_mono (S' := fun W => Below wd.heap.size wd W) (fun W h => Below.trans hb_wd (h.mono hb_wd.size)) _ _ _ _ ?_
  have hHeld2 : (fun W => Below wd.heap.size wd W) wd := Below.refl _ _
  have wd_a := wb_a.below hb_wd
  have wd_s : w.heap.size < wd.heap.size := Nat.lt_of_lt_of_le wb_s hb_wd.size
  have wd_X := (hb_wd.block w.heap.size wb_s).trans wb_X
  have wd_m0 := (hb_wd.cell (p := ⟨g, i * 5, none⟩) (Nat.lt_trans hgl wb_s)).trans wb_m0
  have wd_m2 := (hb_wd.cell (p := ⟨g, i * 5 + 2, none⟩) (Nat.lt_trans hgl wb_s)).trans wb_m2
  have wd_c := wb_c.below hb_wd
  have wd_r := wb_r.on hb_wd
  have wd_p := wb_p.on hb_wd
  have wd_b := wb_b.trans (hb_wd.mono (Nat.le_of_lt wb_s))
  clear wb_X wb_m0 wb_m2
  refine wpAnyH_take (i := 12) (oi := _) (v := ?_) rfl (by kernel_rfl) (by kernel_rfl) (by kernel_rfl) (fun _ _ _ h => h) (Or.inl ⟨by rfl, ?_⟩) hHeld2 ?_
  rotate_left
  · intro w9 hSw; go_simp; (try with_reducible rfl)
  simp only [List.getElem_toArray, List.getElem_cons_zero, List.getElem_cons_succ, Act.put, List.setIfInBounds_toArray, List.set_cons_zero, List.set_cons_succ]
  refine wpAnyH_take (i := 13) (oi := _) (v := ?_) rfl (by kernel_rfl) (by kernel_rfl) (by kernel_rfl) (fun _ _ _ h => h) (Or.inl ⟨by rfl, ?_⟩) hHeld2 ?_
  rotate_left
  · intro w9 hSw; go_simp; (try with_reducible rfl)
  simp only [List.getElem_toArray, List.getElem_cons_zero, List.getElem_cons_succ, Act.put, List.setIfInBounds_toArray, List.set_cons_zero, List.set_cons_succ]
  refine wpAnyH_take (i := 14) (oi := _) (v := ?_) rfl (by kernel_rfl) (by kernel_rfl) (by kernel_rfl) (fun _ _ _ h => h) (Or.inl ⟨by rfl, ?_⟩) hHeld2 ?_
  rotate_left
  · intro w9 hSw; go_simp; (try with_reducible rfl)
  simp only [List.getElem_toArray, List.getElem_cons_zero, List.getElem_cons_succ, Act.put, List.setIfInBounds_toArray, List.set_cons_zero, List.set_cons_succ]
  refine wpAnyH_take (i := 15) (oi := _) (v := ?_) rfl (by kernel_rfl) (by kernel_rfl) (by kernel_rfl) (fun _ _ _ h => h) (Or.inl ⟨by rfl, ?_⟩) hHeld2 ?_
  rotate_left
  · intro w9 hSw; have s0 := (hSw.block w.heap.size wd_s).trans wd_X; have s1 := (cells5 s0).1; have s2 := (cells5 s0).2.1; have s3 := (cells5 s0).2.2.1; have s4 := (cells5 s0).2.2.2.1; have s5 := (cells5 s0).2.2.2.2; clear s0; go_simp; (try with_reducible rfl)
  simp only [List.getElem_toArray, List.getElem_cons_zero, List.getElem_cons_succ, Act.put, List.setIfInBounds_toArray, List.set_cons_zero, List.set_cons_succ]
  refine wpAnyH_take (i := 17) (oi := _) (v := ?_) rfl (by kernel_rfl) (by kernel_rfl) (by kernel_rfl) (fun _ _ _ h => h) (Or.inl ⟨by rfl, ?_⟩) hHeld2 ?_
  rotate_left
  · intro w9 hSw; go_simp; (try with_reducible rfl)
  simp only [List.getElem_toArray, List.getElem_cons_zero, List.getElem_cons_succ, Act.put, List.setIfInBounds_toArray, List.set_cons_zero, List.set_cons_succ]
  refine wpAnyH_ready (rs := [16]) (by kernel_rfl) (by simp) ?_
  refine AllReadyH.cons (o := _) rfl (fun K hK => ?_) AllReadyH.nil
  go_simp
  refine (path37' wd_c hQ).mono ?_
  rintro e we ⟨A7, c7, rfl, ho7, hb_we⟩
  refine hK.out _ _ hb_we (fun _ => ?_)
  clear hK
  refine wpAnyH_mono (S' := fun W => Below we.heap.size we W) (fun W h => Below.trans hb_we (h.mono hb_we.size)) _ _ _ _ ?_
  have hHeld3 : (fun W => Below we.heap.size we W) we := Below.refl _ _
  have we_a := wd_a.below hb_we
  have we_s : w.heap.size < we.heap.size := Nat.lt_of_lt_of_le wd_s hb_we.size
  have we_X := (hb_we.block w.heap.size wd_s).trans wd_X
  have we_m0 := (hb_we.cell (p := ⟨g, i * 5, none⟩) (Nat.lt_trans hgl wd_s)).trans wd_m0
  have we_m2 := (hb_we.cell (p := ⟨g, i * 5 + 2, none⟩) (Nat.lt_trans hgl wd_s)).trans wd_m2
  have we_c := wd_c.below hb_we
  have we_r := wd_r.on hb_we
  have we_p := wd_p.on hb_we
  have we_b := wd_b.trans (hb_we.mono (Nat.le_of_lt wd_s))
  clear wd_X wd_m0 wd_m2
  have hr7 := Rd.of_own ho7
  refine wpAnyH_ready (rs := [18]) (by kernel_rfl) (by simp) ?_
  refine AllReadyH.cons (o := _) rfl (fun K hK => ?_) AllReadyH.nil
  go_simp
  refine (same62 A7 A2 Q.length c7 c2 Q.reverse hr7 we_p hQ).mono ?_
  rintro e wf ⟨rfl, hb_wf⟩
  refine hK.out _ _ hb_wf (fun _ => ?_)
  clear hK
  refine wpAnyH_mono (S' := fun W => Below wf.heap.size wf W) (fun W h => Below.trans hb_wf (h.mono hb_wf.size)) _ _ _ _ ?_
  have hHeld4 : (fun W => Below wf.heap.size wf W) wf := Below.refl _ _
  have wf_a := we_a.below hb_wf
  have wf_s : w.heap.size < wf.heap.size := Nat.lt_of_lt_of_le we_s hb_wf.size
  have wf_X := (hb_wf.block w.heap.size we_s).trans we_X
  have wf_m0 := (hb_wf.cell (p := ⟨g, i * 5, none⟩) (Nat.lt_trans hgl we_s)).trans we_m0
  have wf_m2 := (hb_wf.cell (p := ⟨g, i * 5 + 2, none⟩) (Nat.lt_trans hgl we_s)).trans we_m2
  have wf_c := we_c.below hb_wf
  have wf_r := we_r.on hb_wf
  have wf_p := we_p.on hb_wf
  have wf_b := we_b.trans (hb_wf.mono (Nat.le_of_lt we_s))
  clear we_X we_m0 we_m2
  refine wpAnyH_take (i := 19) (oi := _) (v := ?_) rfl (by kernel_rfl) (by kernel_rfl) (by kernel_rfl) (fun _ _ _ h => h) (Or.inl ⟨by rfl, ?_⟩) hHeld4 ?_
  rotate_left
  · intro w9 hSw; go_simp; (try with_reducible rfl)
  simp only [List.getElem_toArray, List.getElem_cons_zero, List.getElem_cons_succ, Act.put, List.setIfInBounds_toArray, List.set_cons_zero, List.set_cons_succ]
  refine wpAnyH_take (i := 20) (oi := _) (v := ?_) rfl (by kernel_rfl) (by kernel_rfl) (by kernel_rfl) (fun _ _ _ h => h) (Or.inl ⟨by rfl, ?_⟩) hHeld4 ?_
  rotate_left
  · intro w9 hSw; go_simp; (try with_reducible rfl)
  simp only [List.getElem_toArray, List.getElem_cons_zero, List.getElem_cons_succ, Act.put, List.setIfInBounds_toArray, List.set_cons_zero, List.set_cons_succ]
  refine wpAnyH_take (i := 21) (oi := _) (v := ?_) rfl (by kernel_rfl) (by kernel_rfl) (by kernel_rfl) (fun _ _ _ h => h) (Or.inl ⟨by rfl, ?_⟩) hHeld4 ?_
  rotate_left
  · intro w9 hSw; have s0 := (hSw.block w.heap.size wf_s).trans wf_X; have s1 := (cells5 s0).1; have s2 := (cells5 s0).2.1; have s3 := (cells5 s0).2.2.1; have s4 := (cells5 s0).2.2.2.1; have s5 := (cells5 s0).2.2.2.2; clear s0; go_simp; (try with_reducible rfl)
  simp only [List.getElem_toArray, List.getElem_cons_zero, List.getElem_cons_succ, Act.put, List.setIfInBounds_toArray, List.set_cons_zero, List.set_cons_succ]
  refine wpAnyH_take (i := 23) (oi := _) (v := ?_) rfl (by kernel_rfl) (by kernel_rfl) (by kernel_rfl) (fun _ _ _ h => h) (Or.inl ⟨by rfl, ?_⟩) hHeld4 ?_
  rotate_left
  · intro w9 hSw; go_simp; (try with_reducible rfl)
  simp only [List.getElem_toArray, List.getElem_cons_zero, List.getElem_cons_succ, Act.put, List.setIfInBounds_toArray, List.set_cons_zero, List.set_cons_succ]
  refine wpAnyH_take (i := 24) (oi := _) (v := ?_) rfl (by kernel_rfl) (by kernel_rfl) (by kernel_rfl) (fun _ _ _ h => h) (Or.inl ⟨by rfl, ?_⟩) hHeld4 ?_
  rotate_left
  · intro w9 hSw; go_simp; (try with_reducible rfl)
  simp only [List.getElem_toArray, List.getElem_cons_zero, List.getElem_cons_succ, Act.put, List.setIfInBounds_toArray, List.set_cons_zero, List.set_cons_succ]
  refine wpAnyH_take (i := 25) (oi := _) (v := ?_) rfl (by kernel_rfl) (by kernel_rfl) (by kernel_rfl) (fun _ _ _ h => h) (Or.inl ⟨by rfl, ?_⟩) hHeld4 ?_
  rotate_left
  · intro w9 hSw; go_simp; (try with_reducible rfl)
  simp only [List.getElem_toArray, List.getElem_cons_zero, List.getElem_cons_succ, Act.put, List.setIfInBounds_toArray, List.set_cons_zero, List.set_cons_succ]
  refine wpAnyH_take (i := 26) (oi := _) (v := ?_) rfl (by kernel_rfl) (by kernel_rfl) (by kernel_rfl) (fun _ _ _ h => h) (Or.inl ⟨by rfl, ?_⟩) hHeld4 ?_
  rotate_left
  · intro w9 hSw; go_simp; (try with_reducible rfl)
  simp only [List.getElem_toArray, List.getElem_cons_zero, List.getElem_cons_succ, Act.put, List.setIfInBounds_toArray, List.set_cons_zero, List.set_cons_succ]
  refine wpAnyH_take (i := 27) (oi := _) (v := ?_) rfl (by kernel_rfl) (by kernel_rfl) (by kernel_rfl) (fun _ _ _ h => h) (Or.inl ⟨by rfl, ?_⟩) hHeld4 ?_
  rotate_left
  · intro w9 hSw; go_simp; (try with_reducible rfl)
  simp only [List.getElem_toArray, List.getElem_cons_zero, List.getElem_cons_succ, Act.put, List.setIfInBounds_toArray, List.set_cons_zero, List.set_cons_succ]
  refine wpAnyH_take (i := 28) (oi := _) (v := ?_) rfl (by kernel_rfl) (by kernel_rfl) (by kernel_rfl) (fun _ _ _ h => h) (Or.inl ⟨by rfl, ?_⟩) hHeld4 ?_
  rotate_left
  · intro w9 hSw; go_simp; (try with_reducible rfl)
  simp only [List.getElem_toArray, List.getElem_cons_zero, List.getElem_cons_succ, Act.put, List.setIfInBounds_toArray, List.set_cons_zero, List.set_cons_succ]
  refine wpAnyH_take (i := 29) (oi := _) (v := ?_) rfl (by kernel_rfl) (by kernel_rfl) (by kernel_rfl) (fun _ _ _ h => h) (Or.inl ⟨by rfl, ?_⟩) hHeld4 ?_
  rotate_left
  · intro w9 hSw; have s0 := (hSw.cell (p := ⟨g, i * 5 + 2, none⟩) (Nat.lt_trans hgl wf_s)).trans wf_m2; go_simp; (try with_reducible rfl)
  simp only [List.getElem_toArray, List.getElem_cons_zero, List.getElem_cons_succ, Act.put, List.setIfInBounds_toArray, List.set_cons_zero, List.set_cons_succ]
  refine wpAnyH_take (i := 30) (oi := _) (v := ?_) rfl (by kernel_rfl) (by kernel_rfl) (by kernel_rfl) (fun _ _ _ h => h) (Or.inl ⟨by rfl, ?_⟩) hHeld4 ?_
  rotate_left
  · intro w9 hSw; go_simp; (try with_reducible rfl)
  simp only [List.getElem_toArray, List.getElem_cons_zero, List.getElem_cons_succ, Act.put, List.setIfInBounds_toArray, List.set_cons_zero, List.set_cons_succ]
  refine wpAnyH_take (i := 31) (oi := _) (v := ?_) rfl (by kernel_rfl) (by kernel_rfl) (by kernel_rfl) (fun _ _ _ h => h) (Or.inl ⟨by rfl, ?_⟩) hHeld4 ?_
  rotate_left
  · intro w9 hSw; have s9 := u1; go_simp; (try with_reducible rfl)
  simp only [List.getElem_toArray, List.getElem_cons_zero, List.getElem_cons_succ, Act.put, List.setIfInBounds_toArray, List.set_cons_zero, List.set_cons_succ]
  refine wpAnyH_take (i := 32) (oi := _) (v := ?_) rfl (by kernel_rfl) (by kernel_rfl) (by kernel_rfl) (fun _ _ _ h => h) (Or.inl ⟨by rfl, ?_⟩) hHeld4 ?_
  rotate_left
  · intro w9 hSw; go_simp; (try with_reducible rfl)
  simp only [List.getElem_toArray, List.getElem_cons_zero, List.getElem_cons_succ, Act.put, List.setIfInBounds_toArray, List.set_cons_zero, List.set_cons_succ]
  refine wpAnyH_ready (rs := [22]) (by kernel_rfl) (by simp) ?_
  refine AllReadyH.cons (o := _) rfl (fun K hK => ?_) AllReadyH.nil
  go_simp
  refine (span46 _ _ _ _ _ _ _ (fun W hbW => width18_at (wf_a.below hbW) hi) p2 (by omega) (by omega) (by omega)).mono ?_
  rintro e wg ⟨rfl, hb_wg⟩
  refine hK.out _ _ hb_wg (fun _ => ?_)
  clear hK
  refine wpAnyH_mono (S' := fun W => Below wg.heap.size wg W) (fun W h => Below.trans hb_wg (h.mono hb_wg.size)) _ _ _ _ ?_
  have hHeld5 : (fun W => Below wg.heap.size wg W) wg := Below.refl _ _
  have wg_a := wf_a.below hb_wg
  have wg_s : w.heap.size < wg.heap.size := Nat.lt_of_lt_of_le wf_s hb_wg.size
  have wg_X := (hb_wg.block w.heap.size wf_s).trans wf_X
  have wg_m0 := (hb_wg.cell (p := ⟨g, i * 5, none⟩) (Nat.lt_trans hgl wf_s)).trans wf_m0
  have wg_m2 := (hb_wg.cell (p := ⟨g, i * 5 + 2, none⟩) (Nat.lt_trans hgl wf_s)).trans wf_m2
  have wg_c := wf_c.below hb_wg
  have wg_r := wf_r.on hb_wg
  have wg_p := wf_p.on hb_wg
  have wg_b := wf_b.trans (hb_wg.mono (Nat.le_of_lt wf_s))
  clear wf_X wf_m0 wf_m2
  refine wpAnyH_take (i := 33) (oi := _) (v := ?_) rfl (by kernel_rfl) (by kernel_rfl) (by kernel_rfl) (fun _ _ _ h => h) (Or.inl ⟨by rfl, ?_⟩) hHeld5 ?_
  rotate_left
  · intro w9 hSw; have s9 := HWK.out; go_simp; (try with_reducible rfl)
  simp only [List.getElem_toArray, List.getElem_cons_zero, List.getElem_cons_succ, Act.put, List.setIfInBounds_toArray, List.set_cons_zero, List.set_cons_succ]
  refine wpAnyH_take (i := 34) (oi := _) (v := ?_) rfl (by kernel_rfl) (by kernel_rfl) (by kernel_rfl) (fun _ _ _ h => h) (Or.inl ⟨by rfl, ?_⟩) hHeld5 ?_
  rotate_left
  · intro w9 hSw; go_simp; (try with_reducible rfl)
  simp only [List.getElem_toArray, List.getElem_cons_zero, List.getElem_cons_succ, Act.put, List.setIfInBounds_toArray, List.set_cons_zero, List.set_cons_succ]
  refine wpAnyH_take (i := 35) (oi := _) (v := ?_) rfl (by kernel_rfl) (by kernel_rfl) (by kernel_rfl) (fun _ _ _ h => h) (Or.inl ⟨by rfl, ?_⟩) hHeld5 ?_
  rotate_left
  · intro w9 hSw; go_simp; (try with_reducible rfl)
  simp only [List.getElem_toArray, List.getElem_cons_zero, List.getElem_cons_succ, Act.put, List.setIfInBounds_toArray, List.set_cons_zero, List.set_cons_succ]
  refine wpAnyH_take (i := 36) (oi := _) (v := ?_) rfl (by kernel_rfl) (by kernel_rfl) (by kernel_rfl) (fun _ _ _ h => h) (Or.inl ⟨by rfl, ?_⟩) hHeld5 ?_
  rotate_left
  · intro w9 hSw; have s0 := (hSw.block w.heap.size wg_s).trans wg_X; have s1 := (cells5 s0).1; have s2 := (cells5 s0).2.1; have s3 := (cells5 s0).2.2.1; have s4 := (cells5 s0).2.2.2.1; have s5 := (cells5 s0).2.2.2.2; clear s0; go_simp; (try with_reducible rfl)
  simp only [List.getElem_toArray, List.getElem_cons_zero, List.getElem_cons_succ, Act.put, List.setIfInBounds_toArray, List.set_cons_zero, List.set_cons_succ]
  refine wpAnyH_take (i := 39) (oi := _) (v := ?_) rfl (by kernel_rfl) (by kernel_rfl) (by kernel_rfl) (fun _ _ _ h => h) (Or.inl ⟨by rfl, ?_⟩) hHeld5 ?_
  rotate_left
  · intro w9 hSw; go_simp; (try with_reducible rfl)
  simp only [List.getElem_toArray, List.getElem_cons_zero, List.getElem_cons_succ, Act.put, List.setIfInBounds_toArray, List.set_cons_zero, List.set_cons_succ]
  refine wpAnyH_take (i := 40) (oi := _) (v := ?_) rfl (by kernel_rfl) (by kernel_rfl) (by kernel_rfl) (fun _ _ _ h => h) (Or.inl ⟨by rfl, ?_⟩) hHeld5 ?_
  rotate_left
  · intro w9 hSw; go_simp; (try with_reducible rfl)
  simp only [List.getElem_toArray, List.getElem_cons_zero, List.getElem_cons_succ, Act.put, List.setIfInBounds_toArray, List.set_cons_zero, List.set_cons_succ]
  refine wpAnyH_take (i := 41) (oi := _) (v := ?_) rfl (by kernel_rfl) (by kernel_rfl) (by kernel_rfl) (fun _ _ _ h => h) (Or.inl ⟨by rfl, ?_⟩) hHeld5 ?_
  rotate_left
  · intro w9 hSw; go_simp; (try with_reducible rfl)
  simp only [List.getElem_toArray, List.getElem_cons_zero, List.getElem_cons_succ, Act.put, List.setIfInBounds_toArray, List.set_cons_zero, List.set_cons_succ]
  refine wpAnyH_take (i := 42) (oi := _) (v := ?_) rfl (by kernel_rfl) (by kernel_rfl) (by kernel_rfl) (fun _ _ _ h => h) (Or.inl ⟨by rfl, ?_⟩) hHeld5 ?_
  rotate_left
  · intro w9 hSw; go_simp; (try with_reducible rfl)
  simp only [List.getElem_toArray, List.getElem_cons_zero, List.getElem_cons_succ, Act.put, List.setIfInBounds_toArray, List.set_cons_zero, List.set_cons_succ]
  refine wpAnyH_take (i := 43) (oi := _) (v := ?_) rfl (by kernel_rfl) (by kernel_rfl) (by kernel_rfl) (fun _ _ _ h => h) (Or.inl ⟨by rfl, ?_⟩) hHeld5 ?_
  rotate_left
  · intro w9 hSw; have s0 := (hSw.cell (p := ⟨g, i * 5 + 2, none⟩) (Nat.lt_trans hgl wg_s)).trans wg_m2; go_simp; (try with_reducible rfl)
  simp only [List.getElem_toArray, List.getElem_cons_zero, List.getElem_cons_succ, Act.put, List.setIfInBounds_toArray, List.set_cons_zero, List.set_cons_succ]
  refine wpAnyH_take (i := 44) (oi := _) (v := ?_) rfl (by kernel_rfl) (by kernel_rfl) (by kernel_rfl) (fun _ _ _ h => h) (Or.inl ⟨by rfl, ?_⟩) hHeld5 ?_
  rotate_left
  · intro w9 hSw; have s9 := run_str' (wg_r.below hSw); go_simp; (try with_reducible rfl)
  simp only [List.getElem_toArray, List.getElem_cons_zero, List.getElem_cons_succ, Act.put, List.setIfInBounds_toArray, List.set_cons_zero, List.set_cons_succ]
  refine wpAnyH_ready (rs := [37]) (by kernel_rfl) (by simp) ?_
  refine AllReadyH.cons (o := _) rfl (fun K hK => ?_) AllReadyH.nil
  go_simp
  refine (text45 _ _ _ _ _ _ _ _ (fun W hbW => print19_at (wg_a.below hbW) hi HN.out (by omega))).mono ?_
  rintro e wh ⟨A8, c8, rfl, ho8, hb_wh⟩
  refine hK.out _ _ hb_wh (fun _ => ?_)
  clear hK
  refine wpAnyH_mono (S' := fun W => Below wh.heap.size wh W) (fun W h => Below.trans hb_wh (h.mono hb_wh.size)) _ _ _ _ ?_
  have hHeld6 : (fun W => Below wh.heap.size wh W) wh := Below.refl _ _
  have wh_a := wg_a.below hb_wh
  have wh_s : w.heap.size < wh.heap.size := Nat.lt_of_lt_of_le wg_s hb_wh.size
  have wh_X := (hb_wh.block w.heap.size wg_s).trans wg_X
  have wh_m0 := (hb_wh.cell (p := ⟨g, i * 5, none⟩) (Nat.lt_trans hgl wg_s)).trans wg_m0
  have wh_m2 := (hb_wh.cell (p := ⟨g, i * 5 + 2, none⟩) (Nat.lt_trans hgl wg_s)).trans wg_m2
  have wh_c := wg_c.below hb_wh
  have wh_r := wg_r.on hb_wh
  have wh_p := wg_p.on hb_wh
  have wh_b := wg_b.trans (hb_wh.mono (Nat.le_of_lt wg_s))
  clear wg_X wg_m0 wg_m2
  have r8 := Rd.of_own ho8
  refine wpAnyH_take (i := 38) (oi := _) (v := ?_) rfl (by kernel_rfl) (by kernel_rfl) (by kernel_rfl) (fun _ _ _ h => h) (Or.inl ⟨by rfl, ?_⟩) hHeld6 ?_
  rotate_left
  · intro w9 hSw; have s9 := run_str' (r8.below hSw); go_simp; (try with_reducible rfl)
  simp only [List.getElem_toArray, List.getElem_cons_zero, List.getElem_cons_succ, Act.put, List.setIfInBounds_toArray, List.set_cons_zero, List.set_cons_succ]
  refine wpAnyH_take (i := 45) (oi := _) (v := ?_) rfl (by kernel_rfl) (by kernel_rfl) (by kernel_rfl) (fun _ _ _ h => h) (Or.inl ⟨by rfl, ?_⟩) hHeld6 ?_
  rotate_left
  · intro w9 hSw; go_simp; (try with_reducible rfl)
  simp only [List.getElem_toArray, List.getElem_cons_zero, List.getElem_cons_succ, Act.put, List.setIfInBounds_toArray, List.set_cons_zero, List.set_cons_succ]
  refine wpAnyH_take (i := 46) (oi := _) (v := ?_) rfl (by kernel_rfl) (by kernel_rfl) (by kernel_rfl) (fun _ _ _ h => h) (Or.inl ⟨by rfl, ?_⟩) hHeld6 ?_
  rotate_left
  · intro w9 hSw; go_simp; (try with_reducible rfl)
  simp only [List.getElem_toArray, List.getElem_cons_zero, List.getElem_cons_succ, Act.put, List.setIfInBounds_toArray, List.set_cons_zero, List.set_cons_succ]
  refine wpAnyH_take (i := 47) (oi := _) (v := ?_) rfl (by kernel_rfl) (by kernel_rfl) (by kernel_rfl) (fun _ _ _ h => h) (Or.inl ⟨by rfl, ?_⟩) hHeld6 ?_
  rotate_left
  · intro w9 hSw; go_simp; (try with_reducible rfl)
  simp only [List.getElem_toArray, List.getElem_cons_zero, List.getElem_cons_succ, Act.put, List.setIfInBounds_toArray, List.set_cons_zero, List.set_cons_succ]
  refine wpAnyH_done (by kernel_rfl) ?_ _
  go_wp2_with fail
  go_ret
  exact ⟨rfl, wh_b⟩
end Go.Proofs.Ytbmbiffhgdkpiaa
