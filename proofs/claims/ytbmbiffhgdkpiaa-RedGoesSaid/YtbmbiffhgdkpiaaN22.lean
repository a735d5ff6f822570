/- The walk of same. No condition. -/
import Derived.Test.YtbmbiffhgdkpiaaN21
namespace Go.Proofs.Ytbmbiffhgdkpiaa
open Go.RowKit

theorem wpAnyH_mono {P : Program} {md : Region.Mode} {ops : Array Oper} {Q : Exit → Act → World → Prop} {S S' : World → Prop} (h : ∀ w, S' w → S w) :
    ∀ (fuel : Nat) (listed : Array Bool) (a : Act) (w : World), wpAnyH P md ops Q S' fuel listed a w → wpAnyH P md ops Q S fuel listed a w
  | 0, _, _, _, hw => hw
  | fuel + 1, _, _, _, hw => ⟨hw.1, fun i hi => wpOp_mono (fun a' w' hq => ⟨h _ hq.1, wpAnyH_mono h fuel _ a' w' hq.2⟩) (hw.2 i hi)⟩
theorem gq_in {N : List GN} {i : Nat} (h : i < N.length) : gq N (i : Nat) = gn N i := by
  unfold gq
  rw [if_pos ⟨by omega, by omega⟩]
  rfl
theorem gq_out {N : List GN} {z : Int} (h : ¬ (0 ≤ z ∧ z < N.length)) : gq N z = ⟨0, 0, 0, false, [], []⟩ := by
  unfold gq
  rw [if_neg h]
section
variable {w : World} {B ga k : Nat} {N : List GN} (h : Arena w B ga N) (hk : k < N.length)
include h hk
theorem kind23_at : Calls Try.prog 23 #[.pointer (some ⟨ga, 0, none⟩), .int .i64 (k : Nat)] w fun e w' => e = .returned (.int .i64 (gn N k).kind) ∧ Below w.heap.size w w' := by have := kind23 h (k : Nat); rwa [gq_in hk] at this
theorem width18_at : Calls Try.prog 18 #[.pointer (some ⟨ga, 0, none⟩), .int .i64 (k : Nat)] w fun e w' => e = .returned (.int .i64 (gn N k).w) ∧ Below w.heap.size w w' := by have := width18 h (k : Nat); rwa [gq_in hk] at this
theorem count30_at : Calls Try.prog 30 #[.pointer (some ⟨ga, 0, none⟩), .int .i64 (k : Nat)] w fun e w' => e = .returned (.int .i64 (gn N k).cnt) ∧ Below w.heap.size w w' := by have := count30 h (k : Nat); rwa [gq_in hk] at this
theorem leafy29_at : Calls Try.prog 29 #[.pointer (some ⟨ga, 0, none⟩), .int .i64 (k : Nat)] w fun e w' => e = .returned (.bool (gn N k).leaf) ∧ Below w.heap.size w w' := by have := leafy29 h (k : Nat); rwa [gq_in hk] at this
theorem bytes27_at (hl : (gn N k).b.length ≤ 65536) : Calls Try.prog 27 #[.pointer (some ⟨ga, 0, none⟩), .int .i64 (k : Nat)] w (OwnSaid 5 (gn N k).b.length (ints .u8 (gn N k).b) w) := by have := bytes27 h (k : Nat) (by rw [gq_in hk]; exact hl); rwa [gq_in hk] at this
theorem kids28_at (hl : (gn N k).kids.length ≤ 65536) : Calls Try.prog 28 #[.pointer (some ⟨ga, 0, none⟩), .int .i64 (k : Nat)] w (OwnSaid 3 (gn N k).kids.length (ints .i64 (gn N k).kids) w) := by have := kids28 h (k : Nat) (by rw [gq_in hk]; exact hl); rwa [gq_in hk] at this
theorem print19_at (hN : OkN N) (hp : (pr N (k : Nat)).length ≤ 65536) : Calls Try.prog 19 #[.pointer (some ⟨ga, 0, none⟩), .int .i64 (k : Nat)] w (OwnSaid 5 (pr N (k : Nat)).length (ints .u8 (pr N (k : Nat))) w) :=
  print19_in h hN.good hN.wide k hk hp (fun i hi => Nat.le_trans (hN.few i hi) (by omega))
end
set_option maxRecDepth 100000 in
set_option maxHeartbeats 8000000 in
theorem same14 {w : World} {B ga : Nat} {A : Option Addr} {n c : Nat} {N : List GN} (h : Both w B ga (.slice A n c) N) (hn : N.length ≤ 4096) :
    Calls Try.prog 14 #[.pointer (some ⟨ga, 0, none⟩), .slice A n c] w fun e w' => e = .returned (.bool true) ∧ Below w.heap.size w w' := by
  obtain ⟨hlo, ha, hd, hN, hwd⟩ := h
  obtain ⟨rfl, g, bv, kv, hg, hnode⟩ := hd.node
  have HN := Lib.hid hN
  have HWD := Lib.hid hwd
  have HG := Lib.hid hg
  have HND := Lib.hid hnode
  have C17 := len17 ha
  clear hd hN hwd hg hnode
  go_enter Try.func14, Try.ntmps14
  go_wp2_with (go_at_call 17; refine C17.mono ?_; rintro e w1 ⟨rfl, rfl⟩; clear C17)
  go_loopw [17] (fun i wr => ∃ k : Nat, k ≤ N.length ∧ i = .int .i64 k ∧ Below w.heap.size w wr)
    (fun i _ => N.length - (intOf i).toNat)
  case atStart => exact ⟨0, Nat.zero_le _, rfl, Below.refl _ _⟩
  case round =>
    obtain ⟨k, hk, rfl, hb⟩ := hrel
    have har := ha.below hb
    by_cases hlt : k < N.length
    · obtain rfl := HG.out (by omega)
      obtain ⟨n0, n1, n2, n3, n4, o5, o6⟩ := HND.out k hlt
      obtain ⟨A5, c5, hv5, ho5⟩ := own_form o5
      obtain ⟨A6, c6, hv6, ho6⟩ := own_form o6
      rw [hv5] at n2
      rw [hv6] at n3
      have hgl := World.block_lt_of_cell? _ _ n0
      have m0 := (hb.cell (p := ⟨g, k * 5, none⟩) hgl).trans n0
      have m1 := (hb.cell (p := ⟨g, k * 5 + 1, none⟩) hgl).trans n1
      have m2 := (hb.cell (p := ⟨g, k * 5 + 2, none⟩) hgl).trans n2
      have m3 := (hb.cell (p := ⟨g, k * 5 + 3, none⟩) hgl).trans n3
      have m4 := (hb.cell (p := ⟨g, k * 5 + 4, none⟩) hgl).trans n4
      have hr5 := (Rd.of_own ho5).below hb
      have hr6 := (Rd.of_own ho6).below hb
      have hkl := HN.out.few k hlt
      have hwk := HN.out.wide k hlt
      have hwl := HWD.out k hlt
      have hprl : (pr N (k : Nat)).length ≤ 3000 := by rw [← hwk]; exact hwl
      have HWK := Lib.hid hwk
      have HLF := Lib.hid (HN.out.leaf k hlt)
      have HBR := Lib.hid (HN.out.bra k hlt)
      have HPE := Lib.hid (pr_eq HN.out.good (z := (k : Int)) (by omega) (by omega))
      clear n0 n1 n2 n3 n4 o5 o6 hv5 hv6 ho5 ho6 hwk
      go_wp2_with fail
      have hX1 : (wr.alloc (.cells #[.int .i64 (gn N k).kind, .bool (gn N k).leaf, .slice A5 (pr N (k : Nat)).length c5, .slice A6 (gn N k).kids.length c6, .int .i64 (gn N k).cnt] 47)).heap[wr.heap.size]? = _ := heap_alloc_new wr _
      have hb1 := (Below.refl wr.heap.size wr).alloc (Nat.le_refl _) (.cells #[.int .i64 (gn N k).kind, .bool (gn N k).leaf, .slice A5 (pr N (k : Nat)).length c5, .slice A6 (gn N k).kids.length c6, .int .i64 (gn N k).cnt] 47)
      have ha1 := har.below hb1
      have hr51 := hr5.below (hb1.mono hb.size)
      have hr61 := hr6.below (hb1.mono hb.size)
      have hbw1 := hb.trans (hb1.mono hb.size)
      have hs1 : wr.heap.size < (wr.alloc (.cells #[.int .i64 (gn N k).kind, .bool (gn N k).leaf, .slice A5 (pr N (k : Nat)).length c5, .slice A6 (gn N k).kids.length c6, .int .i64 (gn N k).cnt] 47)).heap.size := by simp
      clear hb1
      generalize (wr.alloc (.cells #[.int .i64 (gn N k).kind, .bool (gn N k).leaf, .slice A5 (pr N (k : Nat)).length c5, .slice A6 (gn N k).kids.length c6, .int .i64 (gn N k).cnt] 47)) = w1 at *
      have x0 : w1.cell? ⟨wr.heap.size, 0, none⟩ = some (.int .i64 (gn N k).kind) := cell_of_row w1 _ 0 _ _ _ hX1
      have x1 : w1.cell? ⟨wr.heap.size, 1, none⟩ = some (.bool (gn N k).leaf) := cell_of_row w1 _ 1 _ _ _ hX1
      have x2 : w1.cell? ⟨wr.heap.size, 2, none⟩ = some (.slice A5 (pr N (k : Nat)).length c5) := cell_of_row w1 _ 2 _ _ _ hX1
      have x3 : w1.cell? ⟨wr.heap.size, 3, none⟩ = some (.slice A6 (gn N k).kids.length c6) := cell_of_row w1 _ 3 _ _ _ hX1
      have x4 : w1.cell? ⟨wr.heap.size, 4, none⟩ = some (.int .i64 (gn N k).cnt) := cell_of_row w1 _ 4 _ _ _ hX1
      refine wp_region_held_drew (S := fun W => Below w1.drew.heap.size w1.drew W) (by kernel_rfl) (Below.refl _ _) (fun hHeld => ?_)
      change wpAnyH _ _ _ _ _ 41 #[false, false, false, false, false, false, false, false, false, false, false, false, false, false, false, false, false, false, false, false, false, false, false, false, false, false, false, false, false, false, false, false, false, false, false, false, false, false, false, false, false] _ _
      have wa_a := ha1.drew
      have wa_h : wr.heap.size < w1.drew.heap.size := hs1
      have wa_x0 : w1.drew.cell? ⟨wr.heap.size, 0, none⟩ = some (.int .i64 (gn N k).kind) := x0
      have wa_x1 : w1.drew.cell? ⟨wr.heap.size, 1, none⟩ = some (.bool (gn N k).leaf) := x1
      have wa_x2 : w1.drew.cell? ⟨wr.heap.size, 2, none⟩ = some (.slice A5 (pr N (k : Nat)).length c5) := x2
      have wa_x3 : w1.drew.cell? ⟨wr.heap.size, 3, none⟩ = some (.slice A6 (gn N k).kids.length c6) := x3
      have wa_x4 : w1.drew.cell? ⟨wr.heap.size, 4, none⟩ = some (.int .i64 (gn N k).cnt) := x4
      have wa_r := hr51.drew
      have wa_q := hr61.drew
      have wa_b := hbw1.drew
      generalize w1.drew = wa at *
      refine wpAnyH_take (i := 0) (oi := _) (v := ?_) rfl (by kernel_rfl) (by kernel_rfl) (by kernel_rfl) (fun _ _ _ h => h) (Or.inl ⟨by rfl, ?_⟩) hHeld ?_
      rotate_left
      · intro w9 hSw; go_simp; (try with_reducible rfl)
      simp only [List.getElem_toArray, List.getElem_cons_zero, Act.put, List.setIfInBounds_toArray, List.set_cons_zero, List.set_cons_succ]
      refine wpAnyH_take (i := 1) (oi := _) (v := ?_) rfl (by kernel_rfl) (by kernel_rfl) (by kernel_rfl) (fun _ _ _ h => h) (Or.inl ⟨by rfl, ?_⟩) hHeld ?_
      rotate_left
      · intro w9 hSw; go_simp; (try with_reducible rfl)
      simp only [List.getElem_toArray, List.getElem_cons_zero, List.getElem_cons_succ, Act.put, List.setIfInBounds_toArray, List.set_cons_zero, List.set_cons_succ]
      refine wpAnyH_take (i := 3) (oi := _) (v := ?_) rfl (by kernel_rfl) (by kernel_rfl) (by kernel_rfl) (fun _ _ _ h => h) (Or.inl ⟨by rfl, ?_⟩) hHeld ?_
      rotate_left
      · intro w9 hSw; go_simp; (try with_reducible rfl)
      simp only [List.getElem_toArray, List.getElem_cons_zero, List.getElem_cons_succ, Act.put, List.setIfInBounds_toArray, List.set_cons_zero, List.set_cons_succ]
      refine wpAnyH_take (i := 4) (oi := _) (v := ?_) rfl (by kernel_rfl) (by kernel_rfl) (by kernel_rfl) (fun _ _ _ h => h) (Or.inl ⟨by rfl, ?_⟩) hHeld ?_
      rotate_left
      · intro w9 hSw; have s0 := (hSw.cell (p := ⟨wr.heap.size, 0, none⟩) wa_h).trans wa_x0; go_simp; (try with_reducible rfl)
      simp only [List.getElem_toArray, List.getElem_cons_zero, List.getElem_cons_succ, Act.put, List.setIfInBounds_toArray, List.set_cons_zero, List.set_cons_succ]
      refine wpAnyH_ready (rs := [2]) (by kernel_rfl) (by simp) ?_
      refine AllReadyH.cons (o := _) rfl (fun K hK => ?_) AllReadyH.nil
      go_simp
      refine (kind23_at wa_a hlt).mono ?_
      rintro e wb ⟨rfl, hb_wb⟩
      refine hK.out _ _ hb_wb (fun _ => ?_)
      clear hK
      refine wpAnyH_mono (S' := fun W => Below wb.heap.size wb W) (fun W h => Below.trans hb_wb (h.mono hb_wb.size)) _ _ _ _ ?_
      have hHeld1 : (fun W => Below wb.heap.size wb W) wb := Below.refl _ _
      have wb_a := wa_a.below hb_wb
      have wb_h : wr.heap.size < wb.heap.size := Nat.lt_of_lt_of_le wa_h hb_wb.size
      have wb_x0 := (hb_wb.cell (p := ⟨wr.heap.size, 0, none⟩) wa_h).trans wa_x0
      have wb_x1 := (hb_wb.cell (p := ⟨wr.heap.size, 1, none⟩) wa_h).trans wa_x1
      have wb_x2 := (hb_wb.cell (p := ⟨wr.heap.size, 2, none⟩) wa_h).trans wa_x2
      have wb_x3 := (hb_wb.cell (p := ⟨wr.heap.size, 3, none⟩) wa_h).trans wa_x3
      have wb_x4 := (hb_wb.cell (p := ⟨wr.heap.size, 4, none⟩) wa_h).trans wa_x4
      have wb_r := (wa_r.belowAt hb_wb (Nat.le_of_lt (Nat.lt_of_le_of_lt hb.size wa_h)))
      have wb_q := (wa_q.belowAt hb_wb (Nat.le_of_lt (Nat.lt_of_le_of_lt hb.size wa_h)))
      have wb_b := wa_b.trans (hb_wb.mono (Nat.le_of_lt (Nat.lt_of_le_of_lt hb.size wa_h)))
      clear wa_x0 wa_x1 wa_x2 wa_x3 wa_x4
      refine wpAnyH_take (i := 5) (oi := _) (v := ?_) rfl (by kernel_rfl) (by kernel_rfl) (by kernel_rfl) (fun _ _ _ h => h) (Or.inl ⟨by rfl, ?_⟩) hHeld1 ?_
      rotate_left
      · intro w9 hSw; go_simp; (try with_reducible rfl)
      simp only [List.getElem_toArray, List.getElem_cons_zero, List.getElem_cons_succ, Act.put, List.setIfInBounds_toArray, List.set_cons_zero, List.set_cons_succ]
      refine wpAnyH_take (i := 6) (oi := _) (v := ?_) rfl (by kernel_rfl) (by kernel_rfl) (by kernel_rfl) (fun _ _ _ h => h) (Or.inl ⟨by rfl, ?_⟩) hHeld1 ?_
      rotate_left
      · intro w9 hSw; go_simp; (try with_reducible rfl)
      simp only [List.getElem_toArray, List.getElem_cons_zero, List.getElem_cons_succ, Act.put, List.setIfInBounds_toArray, List.set_cons_zero, List.set_cons_succ]
      refine wpAnyH_take (i := 7) (oi := _) (v := ?_) rfl (by kernel_rfl) (by kernel_rfl) (by kernel_rfl) (fun _ _ _ h => h) (Or.inl ⟨by rfl, ?_⟩) hHeld1 ?_
      rotate_left
      · intro w9 hSw; go_simp; (try with_reducible rfl)
      simp only [List.getElem_toArray, List.getElem_cons_zero, List.getElem_cons_succ, Act.put, List.setIfInBounds_toArray, List.set_cons_zero, List.set_cons_succ]
      refine wpAnyH_take (i := 8) (oi := _) (v := ?_) rfl (by kernel_rfl) (by kernel_rfl) (by kernel_rfl) (fun _ _ _ h => h) (Or.inl ⟨by rfl, ?_⟩) hHeld1 ?_
      rotate_left
      · intro w9 hSw; go_simp; (try with_reducible rfl)
      simp only [List.getElem_toArray, List.getElem_cons_zero, List.getElem_cons_succ, Act.put, List.setIfInBounds_toArray, List.set_cons_zero, List.set_cons_succ]
      refine wpAnyH_take (i := 10) (oi := _) (v := ?_) rfl (by kernel_rfl) (by kernel_rfl) (by kernel_rfl) (fun _ _ _ h => h) (Or.inl ⟨by rfl, ?_⟩) hHeld1 ?_
      rotate_left
      · intro w9 hSw; go_simp; (try with_reducible rfl)
      simp only [List.getElem_toArray, List.getElem_cons_zero, List.getElem_cons_succ, Act.put, List.setIfInBounds_toArray, List.set_cons_zero, List.set_cons_succ]
      refine wpAnyH_take (i := 11) (oi := _) (v := ?_) rfl (by kernel_rfl) (by kernel_rfl) (by kernel_rfl) (fun _ _ _ h => h) (Or.inl ⟨by rfl, ?_⟩) hHeld1 ?_
      rotate_left
      · intro w9 hSw; have s1 := (hSw.cell (p := ⟨wr.heap.size, 1, none⟩) wb_h).trans wb_x1; go_simp; (try with_reducible rfl)
      simp only [List.getElem_toArray, List.getElem_cons_zero, List.getElem_cons_succ, Act.put, List.setIfInBounds_toArray, List.set_cons_zero, List.set_cons_succ]
      refine wpAnyH_ready (rs := [9]) (by kernel_rfl) (by simp) ?_
      refine AllReadyH.cons (o := _) rfl (fun K hK => ?_) AllReadyH.nil
      go_simp
      refine (leafy29_at wb_a hlt).mono ?_
      rintro e wc ⟨rfl, hb_wc⟩
      refine hK.out _ _ hb_wc (fun _ => ?_)
      clear hK
      refine wpAnyH_mono (S' := fun W => Below wc.heap.size wc W) (fun W h => Below.trans hb_wc (h.mono hb_wc.size)) _ _ _ _ ?_
      have hHeld2 : (fun W => Below wc.heap.size wc W) wc := Below.refl _ _
      have wc_a := wb_a.below hb_wc
      have wc_h : wr.heap.size < wc.heap.size := Nat.lt_of_lt_of_le wb_h hb_wc.size
      have wc_x0 := (hb_wc.cell (p := ⟨wr.heap.size, 0, none⟩) wb_h).trans wb_x0
      have wc_x1 := (hb_wc.cell (p := ⟨wr.heap.size, 1, none⟩) wb_h).trans wb_x1
      have wc_x2 := (hb_wc.cell (p := ⟨wr.heap.size, 2, none⟩) wb_h).trans wb_x2
      have wc_x3 := (hb_wc.cell (p := ⟨wr.heap.size, 3, none⟩) wb_h).trans wb_x3
      have wc_x4 := (hb_wc.cell (p := ⟨wr.heap.size, 4, none⟩) wb_h).trans wb_x4
      have wc_r := (wb_r.belowAt hb_wc (Nat.le_of_lt (Nat.lt_of_le_of_lt hb.size wb_h)))
      have wc_q := (wb_q.belowAt hb_wc (Nat.le_of_lt (Nat.lt_of_le_of_lt hb.size wb_h)))
      have wc_b := wb_b.trans (hb_wc.mono (Nat.le_of_lt (Nat.lt_of_le_of_lt hb.size wb_h)))
      clear wb_x0 wb_x1 wb_x2 wb_x3 wb_x4
      refine wpAnyH_take (i := 12) (oi := _) (v := ?_) rfl (by kernel_rfl) (by kernel_rfl) (by kernel_rfl) (fun _ _ _ h => h) (Or.inl ⟨by rfl, ?_⟩) hHeld2 ?_
      rotate_left
      · intro w9 hSw; go_simp; (try with_reducible rfl)
      simp only [List.getElem_toArray, List.getElem_cons_zero, List.getElem_cons_succ, Act.put, List.setIfInBounds_toArray, List.set_cons_zero, List.set_cons_succ]
      refine wpAnyH_take (i := 13) (oi := _) (v := ?_) rfl (by kernel_rfl) (by kernel_rfl) (by kernel_rfl) (fun _ _ _ h => h) (Or.inl ⟨by rfl, ?_⟩) hHeld2 ?_
      rotate_left
      · intro w9 hSw; go_simp; (try with_reducible rfl)
      simp only [List.getElem_toArray, List.getElem_cons_zero, List.getElem_cons_succ, Act.put, List.setIfInBounds_toArray, List.set_cons_zero, List.set_cons_succ]
      refine wpAnyH_take (i := 14) (oi := _) (v := ?_) rfl (by kernel_rfl) (by kernel_rfl) (by kernel_rfl) (fun _ _ _ h => h) (Or.inl ⟨by rfl, ?_⟩) hHeld2 ?_
      rotate_left
      · intro w9 hSw; go_simp; (try with_reducible rfl)
      simp only [List.getElem_toArray, List.getElem_cons_zero, List.getElem_cons_succ, Act.put, List.setIfInBounds_toArray, List.set_cons_zero, List.set_cons_succ]
      refine wpAnyH_take (i := 15) (oi := _) (v := ?_) rfl (by kernel_rfl) (by kernel_rfl) (by kernel_rfl) (fun _ _ _ h => h) (Or.inl ⟨by rfl, ?_⟩) hHeld2 ?_
      rotate_left
      · intro w9 hSw; go_simp; (try with_reducible rfl)
      simp only [List.getElem_toArray, List.getElem_cons_zero, List.getElem_cons_succ, Act.put, List.setIfInBounds_toArray, List.set_cons_zero, List.set_cons_succ]
      refine wpAnyH_take (i := 16) (oi := _) (v := ?_) rfl (by kernel_rfl) (by kernel_rfl) (by kernel_rfl) (fun _ _ _ h => h) (Or.inl ⟨by rfl, ?_⟩) hHeld2 ?_
      rotate_left
      · intro w9 hSw; go_simp; (try with_reducible rfl)
      simp only [List.getElem_toArray, List.getElem_cons_zero, List.getElem_cons_succ, Act.put, List.setIfInBounds_toArray, List.set_cons_zero, List.set_cons_succ]
      refine wpAnyH_take (i := 18) (oi := _) (v := ?_) rfl (by kernel_rfl) (by kernel_rfl) (by kernel_rfl) (fun _ _ _ h => h) (Or.inl ⟨by rfl, ?_⟩) hHeld2 ?_
      rotate_left
      · intro w9 hSw; go_simp; (try with_reducible rfl)
      simp only [List.getElem_toArray, List.getElem_cons_zero, List.getElem_cons_succ, Act.put, List.setIfInBounds_toArray, List.set_cons_zero, List.set_cons_succ]
      refine wpAnyH_take (i := 19) (oi := _) (v := ?_) rfl (by kernel_rfl) (by kernel_rfl) (by kernel_rfl) (fun _ _ _ h => h) (Or.inl ⟨by rfl, ?_⟩) hHeld2 ?_
      rotate_left
      · intro w9 hSw; have s2 := (hSw.cell (p := ⟨wr.heap.size, 2, none⟩) wc_h).trans wc_x2; go_simp; (try with_reducible rfl)
      simp only [List.getElem_toArray, List.getElem_cons_zero, List.getElem_cons_succ, Act.put, List.setIfInBounds_toArray, List.set_cons_zero, List.set_cons_succ]
      refine wpAnyH_take (i := 20) (oi := _) (v := ?_) rfl (by kernel_rfl) (by kernel_rfl) (by kernel_rfl) (fun _ _ _ h => h) (Or.inl ⟨by rfl, ?_⟩) hHeld2 ?_
      rotate_left
      · intro w9 hSw; go_simp; (try with_reducible rfl)
      simp only [List.getElem_toArray, List.getElem_cons_zero, List.getElem_cons_succ, Act.put, List.setIfInBounds_toArray, List.set_cons_zero, List.set_cons_succ]
      refine wpAnyH_ready (rs := [17]) (by kernel_rfl) (by simp) ?_
      refine AllReadyH.cons (o := _) rfl (fun K hK => ?_) AllReadyH.nil
      go_simp
      refine (width18_at wc_a hlt).mono ?_
      rintro e we ⟨rfl, hb_we⟩
      refine hK.out _ _ hb_we (fun _ => ?_)
      clear hK
      refine wpAnyH_mono (S' := fun W => Below we.heap.size we W) (fun W h => Below.trans hb_we (h.mono hb_we.size)) _ _ _ _ ?_
      have hHeld3 : (fun W => Below we.heap.size we W) we := Below.refl _ _
      have we_a := wc_a.below hb_we
      have we_h : wr.heap.size < we.heap.size := Nat.lt_of_lt_of_le wc_h hb_we.size
      have we_x0 := (hb_we.cell (p := ⟨wr.heap.size, 0, none⟩) wc_h).trans wc_x0
      have we_x1 := (hb_we.cell (p := ⟨wr.heap.size, 1, none⟩) wc_h).trans wc_x1
      have we_x2 := (hb_we.cell (p := ⟨wr.heap.size, 2, none⟩) wc_h).trans wc_x2
      have we_x3 := (hb_we.cell (p := ⟨wr.heap.size, 3, none⟩) wc_h).trans wc_x3
      have we_x4 := (hb_we.cell (p := ⟨wr.heap.size, 4, none⟩) wc_h).trans wc_x4
      have we_r := (wc_r.belowAt hb_we (Nat.le_of_lt (Nat.lt_of_le_of_lt hb.size wc_h)))
      have we_q := (wc_q.belowAt hb_we (Nat.le_of_lt (Nat.lt_of_le_of_lt hb.size wc_h)))
      have we_b := wc_b.trans (hb_we.mono (Nat.le_of_lt (Nat.lt_of_le_of_lt hb.size wc_h)))
      clear wc_x0 wc_x1 wc_x2 wc_x3 wc_x4
      refine wpAnyH_take (i := 21) (oi := _) (v := ?_) rfl (by kernel_rfl) (by kernel_rfl) (by kernel_rfl) (fun _ _ _ h => h) (Or.inl ⟨by rfl, ?_⟩) hHeld3 ?_
      rotate_left
      · intro w9 hSw; have s9 := HWK.out; go_simp; (try with_reducible rfl)
      simp only [List.getElem_toArray, List.getElem_cons_zero, List.getElem_cons_succ, Act.put, List.setIfInBounds_toArray, List.set_cons_zero, List.set_cons_succ]
      refine wpAnyH_take (i := 22) (oi := _) (v := ?_) rfl (by kernel_rfl) (by kernel_rfl) (by kernel_rfl) (fun _ _ _ h => h) (Or.inl ⟨by rfl, ?_⟩) hHeld3 ?_
      rotate_left
      · intro w9 hSw; go_simp; (try with_reducible rfl)
      simp only [List.getElem_toArray, List.getElem_cons_zero, List.getElem_cons_succ, Act.put, List.setIfInBounds_toArray, List.set_cons_zero, List.set_cons_succ]
      refine wpAnyH_take (i := 23) (oi := _) (v := ?_) rfl (by kernel_rfl) (by kernel_rfl) (by kernel_rfl) (fun _ _ _ h => h) (Or.inl ⟨by rfl, ?_⟩) hHeld3 ?_
      rotate_left
      · intro w9 hSw; go_simp; (try with_reducible rfl)
      simp only [List.getElem_toArray, List.getElem_cons_zero, List.getElem_cons_succ, Act.put, List.setIfInBounds_toArray, List.set_cons_zero, List.set_cons_succ]
      refine wpAnyH_take (i := 24) (oi := _) (v := ?_) rfl (by kernel_rfl) (by kernel_rfl) (by kernel_rfl) (fun _ _ _ h => h) (Or.inl ⟨by rfl, ?_⟩) hHeld3 ?_
      rotate_left
      · intro w9 hSw; go_simp; (try with_reducible rfl)
      simp only [List.getElem_toArray, List.getElem_cons_zero, List.getElem_cons_succ, Act.put, List.setIfInBounds_toArray, List.set_cons_zero, List.set_cons_succ]
      refine wpAnyH_take (i := 25) (oi := _) (v := ?_) rfl (by kernel_rfl) (by kernel_rfl) (by kernel_rfl) (fun _ _ _ h => h) (Or.inl ⟨by rfl, ?_⟩) hHeld3 ?_
      rotate_left
      · intro w9 hSw; go_simp; (try with_reducible rfl)
      simp only [List.getElem_toArray, List.getElem_cons_zero, List.getElem_cons_succ, Act.put, List.setIfInBounds_toArray, List.set_cons_zero, List.set_cons_succ]
      refine wpAnyH_take (i := 28) (oi := _) (v := ?_) rfl (by kernel_rfl) (by kernel_rfl) (by kernel_rfl) (fun _ _ _ h => h) (Or.inl ⟨by rfl, ?_⟩) hHeld3 ?_
      rotate_left
      · intro w9 hSw; go_simp; (try with_reducible rfl)
      simp only [List.getElem_toArray, List.getElem_cons_zero, List.getElem_cons_succ, Act.put, List.setIfInBounds_toArray, List.set_cons_zero, List.set_cons_succ]
      refine wpAnyH_take (i := 29) (oi := _) (v := ?_) rfl (by kernel_rfl) (by kernel_rfl) (by kernel_rfl) (fun _ _ _ h => h) (Or.inl ⟨by rfl, ?_⟩) hHeld3 ?_
      rotate_left
      · intro w9 hSw; have s2 := (hSw.cell (p := ⟨wr.heap.size, 2, none⟩) we_h).trans we_x2; go_simp; (try with_reducible rfl)
      simp only [List.getElem_toArray, List.getElem_cons_zero, List.getElem_cons_succ, Act.put, List.setIfInBounds_toArray, List.set_cons_zero, List.set_cons_succ]
      refine wpAnyH_take (i := 30) (oi := _) (v := ?_) rfl (by kernel_rfl) (by kernel_rfl) (by kernel_rfl) (fun _ _ _ h => h) (Or.inl ⟨by rfl, ?_⟩) hHeld3 ?_
      rotate_left
      · intro w9 hSw; have s9 := run_str' (we_r.belowAt hSw (Nat.le_of_lt (Nat.lt_of_le_of_lt hb.size we_h))); go_simp; (try with_reducible rfl)
      simp only [List.getElem_toArray, List.getElem_cons_zero, List.getElem_cons_succ, Act.put, List.setIfInBounds_toArray, List.set_cons_zero, List.set_cons_succ]
      refine wpAnyH_ready (rs := [26]) (by kernel_rfl) (by simp) ?_
      refine AllReadyH.cons (o := _) rfl (fun K hK => ?_) AllReadyH.nil
      go_simp
      refine (print19_at we_a hlt HN.out (by omega)).mono ?_
      rintro e wf ⟨A7, c7, rfl, ho7, hb_wf⟩
      refine hK.out _ _ hb_wf (fun _ => ?_)
      clear hK
      refine wpAnyH_mono (S' := fun W => Below wf.heap.size wf W) (fun W h => Below.trans hb_wf (h.mono hb_wf.size)) _ _ _ _ ?_
      have hHeld4 : (fun W => Below wf.heap.size wf W) wf := Below.refl _ _
      have wf_a := we_a.below hb_wf
      have wf_h : wr.heap.size < wf.heap.size := Nat.lt_of_lt_of_le we_h hb_wf.size
      have wf_x0 := (hb_wf.cell (p := ⟨wr.heap.size, 0, none⟩) we_h).trans we_x0
      have wf_x1 := (hb_wf.cell (p := ⟨wr.heap.size, 1, none⟩) we_h).trans we_x1
      have wf_x2 := (hb_wf.cell (p := ⟨wr.heap.size, 2, none⟩) we_h).trans we_x2
      have wf_x3 := (hb_wf.cell (p := ⟨wr.heap.size, 3, none⟩) we_h).trans we_x3
      have wf_x4 := (hb_wf.cell (p := ⟨wr.heap.size, 4, none⟩) we_h).trans we_x4
      have wf_r := (we_r.belowAt hb_wf (Nat.le_of_lt (Nat.lt_of_le_of_lt hb.size we_h)))
      have wf_q := (we_q.belowAt hb_wf (Nat.le_of_lt (Nat.lt_of_le_of_lt hb.size we_h)))
      have wf_b := we_b.trans (hb_wf.mono (Nat.le_of_lt (Nat.lt_of_le_of_lt hb.size we_h)))
      clear we_x0 we_x1 we_x2 we_x3 we_x4
      have r7 := Rd.of_own ho7
      refine wpAnyH_take (i := 27) (oi := _) (v := ?_) rfl (by kernel_rfl) (by kernel_rfl) (by kernel_rfl) (fun _ _ _ h => h) (Or.inl ⟨by rfl, ?_⟩) hHeld4 ?_
      rotate_left
      · intro w9 hSw; have s9 := run_str' (r7.below hSw); go_simp; (try with_reducible rfl)
      simp only [List.getElem_toArray, List.getElem_cons_zero, List.getElem_cons_succ, Act.put, List.setIfInBounds_toArray, List.set_cons_zero, List.set_cons_succ]
      refine wpAnyH_take (i := 31) (oi := _) (v := ?_) rfl (by kernel_rfl) (by kernel_rfl) (by kernel_rfl) (fun _ _ _ h => h) (Or.inl ⟨by rfl, ?_⟩) hHeld4 ?_
      rotate_left
      · intro w9 hSw; go_simp; (try with_reducible rfl)
      simp only [List.getElem_toArray, List.getElem_cons_zero, List.getElem_cons_succ, Act.put, List.setIfInBounds_toArray, List.set_cons_zero, List.set_cons_succ]
      refine wpAnyH_take (i := 32) (oi := _) (v := ?_) rfl (by kernel_rfl) (by kernel_rfl) (by kernel_rfl) (fun _ _ _ h => h) (Or.inl ⟨by rfl, ?_⟩) hHeld4 ?_
      rotate_left
      · intro w9 hSw; go_simp; (try with_reducible rfl)
      simp only [List.getElem_toArray, List.getElem_cons_zero, List.getElem_cons_succ, Act.put, List.setIfInBounds_toArray, List.set_cons_zero, List.set_cons_succ]
      refine wpAnyH_take (i := 33) (oi := _) (v := ?_) rfl (by kernel_rfl) (by kernel_rfl) (by kernel_rfl) (fun _ _ _ h => h) (Or.inl ⟨by rfl, ?_⟩) hHeld4 ?_
      rotate_left
      · intro w9 hSw; go_simp; (try with_reducible rfl)
      simp only [List.getElem_toArray, List.getElem_cons_zero, List.getElem_cons_succ, Act.put, List.setIfInBounds_toArray, List.set_cons_zero, List.set_cons_succ]
      refine wpAnyH_take (i := 34) (oi := _) (v := ?_) rfl (by kernel_rfl) (by kernel_rfl) (by kernel_rfl) (fun _ _ _ h => h) (Or.inl ⟨by rfl, ?_⟩) hHeld4 ?_
      rotate_left
      · intro w9 hSw; go_simp; (try with_reducible rfl)
      simp only [List.getElem_toArray, List.getElem_cons_zero, List.getElem_cons_succ, Act.put, List.setIfInBounds_toArray, List.set_cons_zero, List.set_cons_succ]
      refine wpAnyH_take (i := 35) (oi := _) (v := ?_) rfl (by kernel_rfl) (by kernel_rfl) (by kernel_rfl) (fun _ _ _ h => h) (Or.inl ⟨by rfl, ?_⟩) hHeld4 ?_
      rotate_left
      · intro w9 hSw; go_simp; (try with_reducible rfl)
      simp only [List.getElem_toArray, List.getElem_cons_zero, List.getElem_cons_succ, Act.put, List.setIfInBounds_toArray, List.set_cons_zero, List.set_cons_succ]
      refine wpAnyH_take (i := 37) (oi := _) (v := ?_) rfl (by kernel_rfl) (by kernel_rfl) (by kernel_rfl) (fun _ _ _ h => h) (Or.inl ⟨by rfl, ?_⟩) hHeld4 ?_
      rotate_left
      · intro w9 hSw; go_simp; (try with_reducible rfl)
      simp only [List.getElem_toArray, List.getElem_cons_zero, List.getElem_cons_succ, Act.put, List.setIfInBounds_toArray, List.set_cons_zero, List.set_cons_succ]
      refine wpAnyH_take (i := 38) (oi := _) (v := ?_) rfl (by kernel_rfl) (by kernel_rfl) (by kernel_rfl) (fun _ _ _ h => h) (Or.inl ⟨by rfl, ?_⟩) hHeld4 ?_
      rotate_left
      · intro w9 hSw; have s4 := (hSw.cell (p := ⟨wr.heap.size, 4, none⟩) wf_h).trans wf_x4; go_simp; (try with_reducible rfl)
      simp only [List.getElem_toArray, List.getElem_cons_zero, List.getElem_cons_succ, Act.put, List.setIfInBounds_toArray, List.set_cons_zero, List.set_cons_succ]
      refine wpAnyH_ready (rs := [36]) (by kernel_rfl) (by simp) ?_
      refine AllReadyH.cons (o := _) rfl (fun K hK => ?_) AllReadyH.nil
      go_simp
      refine (count30_at wf_a hlt).mono ?_
      rintro e wg ⟨rfl, hb_wg⟩
      refine hK.out _ _ hb_wg (fun _ => ?_)
      clear hK
      refine wpAnyH_mono (S' := fun W => Below wg.heap.size wg W) (fun W h => Below.trans hb_wg (h.mono hb_wg.size)) _ _ _ _ ?_
      have hHeld5 : (fun W => Below wg.heap.size wg W) wg := Below.refl _ _
      have wg_a := wf_a.below hb_wg
      have wg_h : wr.heap.size < wg.heap.size := Nat.lt_of_lt_of_le wf_h hb_wg.size
      have wg_x0 := (hb_wg.cell (p := ⟨wr.heap.size, 0, none⟩) wf_h).trans wf_x0
      have wg_x1 := (hb_wg.cell (p := ⟨wr.heap.size, 1, none⟩) wf_h).trans wf_x1
      have wg_x2 := (hb_wg.cell (p := ⟨wr.heap.size, 2, none⟩) wf_h).trans wf_x2
      have wg_x3 := (hb_wg.cell (p := ⟨wr.heap.size, 3, none⟩) wf_h).trans wf_x3
      have wg_x4 := (hb_wg.cell (p := ⟨wr.heap.size, 4, none⟩) wf_h).trans wf_x4
      have wg_r := (wf_r.belowAt hb_wg (Nat.le_of_lt (Nat.lt_of_le_of_lt hb.size wf_h)))
      have wg_q := (wf_q.belowAt hb_wg (Nat.le_of_lt (Nat.lt_of_le_of_lt hb.size wf_h)))
      have wg_b := wf_b.trans (hb_wg.mono (Nat.le_of_lt (Nat.lt_of_le_of_lt hb.size wf_h)))
      clear wf_x0 wf_x1 wf_x2 wf_x3 wf_x4
      refine wpAnyH_take (i := 39) (oi := _) (v := ?_) rfl (by kernel_rfl) (by kernel_rfl) (by kernel_rfl) (fun _ _ _ h => h) (Or.inl ⟨by rfl, ?_⟩) hHeld5 ?_
      rotate_left
      · intro w9 hSw; go_simp; (try with_reducible rfl)
      simp only [List.getElem_toArray, List.getElem_cons_zero, List.getElem_cons_succ, Act.put, List.setIfInBounds_toArray, List.set_cons_zero, List.set_cons_succ]
      refine wpAnyH_take (i := 40) (oi := _) (v := ?_) rfl (by kernel_rfl) (by kernel_rfl) (by kernel_rfl) (fun _ _ _ h => h) (Or.inl ⟨by rfl, ?_⟩) hHeld5 ?_
      rotate_left
      · intro w9 hSw; go_simp; (try with_reducible rfl)
      simp only [List.getElem_toArray, List.getElem_cons_zero, List.getElem_cons_succ, Act.put, List.setIfInBounds_toArray, List.set_cons_zero, List.set_cons_succ]
      refine wpAnyH_done (by kernel_rfl) ?_ _
      go_wp2_with fail
      by_cases hlf : (gn N k).leaf = true
      · have HB9 : Hid ((gn N k).b = pr N (k : Nat)) := Lib.hid (by have := HPE.out; rw [show ((k : Nat) : Int).toNat = k from rfl, HLF.out hlf] at this; simpa using this.symm)
        refine wp_region_held_drew (S := fun W => Below wg.drew.heap.size wg.drew W) (by kernel_rfl) (Below.refl _ _) (fun hHeld => ?_)
        change wpAnyH _ _ _ _ _ 24 #[false, false, false, false, false, false, false, false, false, false, false, false, false, false, false, false, false, false, false, false, false, false, false, false] _ _
        have va_a := wg_a.drew
        have va_h : wr.heap.size < wg.drew.heap.size := wg_h
        have va_x0 : wg.drew.cell? ⟨wr.heap.size, 0, none⟩ = some (.int .i64 (gn N k).kind) := wg_x0
        have va_x1 : wg.drew.cell? ⟨wr.heap.size, 1, none⟩ = some (.bool (gn N k).leaf) := wg_x1
        have va_x2 : wg.drew.cell? ⟨wr.heap.size, 2, none⟩ = some (.slice A5 (pr N (k : Nat)).length c5) := wg_x2
        have va_x3 : wg.drew.cell? ⟨wr.heap.size, 3, none⟩ = some (.slice A6 (gn N k).kids.length c6) := wg_x3
        have va_x4 : wg.drew.cell? ⟨wr.heap.size, 4, none⟩ = some (.int .i64 (gn N k).cnt) := wg_x4
        have va_r := wg_r.drew
        have va_q := wg_q.drew
        have va_b := wg_b.drew
        generalize wg.drew = va at *
        refine wpAnyH_take (i := 0) (oi := _) (v := ?_) rfl (by kernel_rfl) (by kernel_rfl) (by kernel_rfl) (fun _ _ _ h => h) (Or.inl ⟨by rfl, ?_⟩) hHeld ?_
        rotate_left
        · intro w9 hSw; go_simp; (try with_reducible rfl)
        simp only [List.getElem_toArray, List.getElem_cons_zero, Act.put, List.setIfInBounds_toArray, List.set_cons_zero, List.set_cons_succ]
        refine wpAnyH_take (i := 1) (oi := _) (v := ?_) rfl (by kernel_rfl) (by kernel_rfl) (by kernel_rfl) (fun _ _ _ h => h) (Or.inl ⟨by rfl, ?_⟩) hHeld ?_
        rotate_left
        · intro w9 hSw; have s1 := (hSw.cell (p := ⟨wr.heap.size, 1, none⟩) va_h).trans va_x1; go_simp; (try with_reducible rfl)
        simp only [List.getElem_toArray, List.getElem_cons_zero, List.getElem_cons_succ, Act.put, List.setIfInBounds_toArray, List.set_cons_zero, List.set_cons_succ]
        refine wpAnyH_take (i := 2) (oi := _) (v := ?_) rfl (by kernel_rfl) (by kernel_rfl) (by kernel_rfl) (fun _ _ _ h => h) (Or.inl ⟨by rfl, ?_⟩) hHeld ?_
        rotate_left
        · intro w9 hSw; go_simp; (try with_reducible rfl)
        simp only [List.getElem_toArray, List.getElem_cons_zero, List.getElem_cons_succ, Act.put, List.setIfInBounds_toArray, List.set_cons_zero, List.set_cons_succ]
        refine wpAnyH_take (i := 3) (oi := _) (v := ?_) rfl (by kernel_rfl) (by kernel_rfl) (by kernel_rfl) (fun _ _ _ h => h) (Or.inl ⟨by rfl, ?_⟩) hHeld ?_
        rotate_left
        · intro w9 hSw; go_simp; (try with_reducible rfl)
        simp only [List.getElem_toArray, List.getElem_cons_zero, List.getElem_cons_succ, Act.put, List.setIfInBounds_toArray, List.set_cons_zero, List.set_cons_succ]
        refine wpAnyH_take (i := 4) (oi := _) (v := ?_) rfl (by kernel_rfl) (by kernel_rfl) (by kernel_rfl) (fun _ _ _ h => h) (Or.inl ⟨by rfl, ?_⟩) hHeld ?_
        rotate_left
        · intro w9 hSw; go_simp; (try with_reducible rfl)
        simp only [List.getElem_toArray, List.getElem_cons_zero, List.getElem_cons_succ, Act.put, List.setIfInBounds_toArray, List.set_cons_zero, List.set_cons_succ]
        refine wpAnyH_take (i := 7) (oi := _) (v := ?_) rfl (by kernel_rfl) (by kernel_rfl) (by kernel_rfl) (fun _ _ _ h => h) (Or.inl ⟨by rfl, ?_⟩) hHeld ?_
        rotate_left
        · intro w9 hSw; go_simp; (try with_reducible rfl)
        simp only [List.getElem_toArray, List.getElem_cons_zero, List.getElem_cons_succ, Act.put, List.setIfInBounds_toArray, List.set_cons_zero, List.set_cons_succ]
        refine wpAnyH_take (i := 8) (oi := _) (v := ?_) rfl (by kernel_rfl) (by kernel_rfl) (by kernel_rfl) (fun _ _ _ h => h) (Or.inl ⟨by rfl, ?_⟩) hHeld ?_
        rotate_left
        · intro w9 hSw; have s2 := (hSw.cell (p := ⟨wr.heap.size, 2, none⟩) va_h).trans va_x2; go_simp; (try with_reducible rfl)
        simp only [List.getElem_toArray, List.getElem_cons_zero, List.getElem_cons_succ, Act.put, List.setIfInBounds_toArray, List.set_cons_zero, List.set_cons_succ]
        refine wpAnyH_take (i := 9) (oi := _) (v := ?_) rfl (by kernel_rfl) (by kernel_rfl) (by kernel_rfl) (fun _ _ _ h => h) (Or.inl ⟨by rfl, ?_⟩) hHeld ?_
        rotate_left
        · intro w9 hSw; have s9 := run_str' (va_r.belowAt hSw (Nat.le_of_lt (Nat.lt_of_le_of_lt hb.size va_h))); go_simp; (try with_reducible rfl)
        simp only [List.getElem_toArray, List.getElem_cons_zero, List.getElem_cons_succ, Act.put, List.setIfInBounds_toArray, List.set_cons_zero, List.set_cons_succ]
        refine wpAnyH_ready (rs := [5]) (by kernel_rfl) (by simp) ?_
        refine AllReadyH.cons (o := _) rfl (fun K hK => ?_) AllReadyH.nil
        go_simp
        refine (bytes27_at va_a hlt (by rw [HB9.out]; omega)).mono ?_
        rintro e vb ⟨A9, c9, rfl, ho9, hb_vb⟩
        refine hK.out _ _ hb_vb (fun _ => ?_)
        clear hK
        refine wpAnyH_mono (S' := fun W => Below vb.heap.size vb W) (fun W h => Below.trans hb_vb (h.mono hb_vb.size)) _ _ _ _ ?_
        have hHeld1 : (fun W => Below vb.heap.size vb W) vb := Below.refl _ _
        have vb_a := va_a.below hb_vb
        have vb_h : wr.heap.size < vb.heap.size := Nat.lt_of_lt_of_le va_h hb_vb.size
        have vb_x0 := (hb_vb.cell (p := ⟨wr.heap.size, 0, none⟩) va_h).trans va_x0
        have vb_x1 := (hb_vb.cell (p := ⟨wr.heap.size, 1, none⟩) va_h).trans va_x1
        have vb_x2 := (hb_vb.cell (p := ⟨wr.heap.size, 2, none⟩) va_h).trans va_x2
        have vb_x3 := (hb_vb.cell (p := ⟨wr.heap.size, 3, none⟩) va_h).trans va_x3
        have vb_x4 := (hb_vb.cell (p := ⟨wr.heap.size, 4, none⟩) va_h).trans va_x4
        have vb_r := (va_r.belowAt hb_vb (Nat.le_of_lt (Nat.lt_of_le_of_lt hb.size va_h)))
        have vb_q := (va_q.belowAt hb_vb (Nat.le_of_lt (Nat.lt_of_le_of_lt hb.size va_h)))
        have vb_b := va_b.trans (hb_vb.mono (Nat.le_of_lt (Nat.lt_of_le_of_lt hb.size va_h)))
        clear va_x0 va_x1 va_x2 va_x3 va_x4
        have r9 := Rd.of_own ho9
        refine wpAnyH_take (i := 6) (oi := _) (v := ?_) rfl (by kernel_rfl) (by kernel_rfl) (by kernel_rfl) (fun _ _ _ h => h) (Or.inl ⟨by rfl, ?_⟩) hHeld1 ?_
        rotate_left
        · intro w9 hSw; have s9 := run_str' (r9.below hSw); go_simp; (try with_reducible rfl)
        simp only [List.getElem_toArray, List.getElem_cons_zero, List.getElem_cons_succ, Act.put, List.setIfInBounds_toArray, List.set_cons_zero, List.set_cons_succ]
        refine wpAnyH_take (i := 10) (oi := _) (v := ?_) rfl (by kernel_rfl) (by kernel_rfl) (by kernel_rfl) (fun _ _ _ h => h) (Or.inl ⟨by rfl, ?_⟩) hHeld1 ?_
        rotate_left
        · intro w9 hSw; have s9 := HB9.out; go_simp; (try with_reducible rfl)
        simp only [List.getElem_toArray, List.getElem_cons_zero, List.getElem_cons_succ, Act.put, List.setIfInBounds_toArray, List.set_cons_zero, List.set_cons_succ]
        refine wpAnyH_take (i := 11) (oi := _) (v := ?_) rfl (by kernel_rfl) (by kernel_rfl) (by kernel_rfl) (fun _ _ _ h => h) (Or.inl ⟨by rfl, ?_⟩) hHeld1 ?_
        rotate_left
        · intro w9 hSw; go_simp; (try with_reducible rfl)
        simp only [List.getElem_toArray, List.getElem_cons_zero, List.getElem_cons_succ, Act.put, List.setIfInBounds_toArray, List.set_cons_zero, List.set_cons_succ]
        refine wpAnyH_take (i := 12) (oi := _) (v := ?_) rfl (by kernel_rfl) (by kernel_rfl) (by kernel_rfl) (fun _ _ _ h => h) (Or.inl ⟨by rfl, ?_⟩) hHeld1 ?_
        rotate_left
        · intro w9 hSw; go_simp; (try with_reducible rfl)
        simp only [List.getElem_toArray, List.getElem_cons_zero, List.getElem_cons_succ, Act.put, List.setIfInBounds_toArray, List.set_cons_zero, List.set_cons_succ]
        refine wpAnyH_take (i := 13) (oi := _) (v := ?_) rfl (by kernel_rfl) (by kernel_rfl) (by kernel_rfl) (fun _ _ _ h => h) (Or.inl ⟨by rfl, ?_⟩) hHeld1 ?_
        rotate_left
        · intro w9 hSw; go_simp; (try with_reducible rfl)
        simp only [List.getElem_toArray, List.getElem_cons_zero, List.getElem_cons_succ, Act.put, List.setIfInBounds_toArray, List.set_cons_zero, List.set_cons_succ]
        refine wpAnyH_take (i := 14) (oi := _) (v := ?_) rfl (by kernel_rfl) (by kernel_rfl) (by kernel_rfl) (fun _ _ _ h => h) (Or.inl ⟨by rfl, ?_⟩) hHeld1 ?_
        rotate_left
        · intro w9 hSw; have s1 := (hSw.cell (p := ⟨wr.heap.size, 1, none⟩) vb_h).trans vb_x1; go_simp; (try with_reducible rfl)
        simp only [List.getElem_toArray, List.getElem_cons_zero, List.getElem_cons_succ, Act.put, List.setIfInBounds_toArray, List.set_cons_zero, List.set_cons_succ]
        refine wpAnyH_take (i := 15) (oi := _) (v := ?_) rfl (by kernel_rfl) (by kernel_rfl) (by kernel_rfl) (fun _ _ _ h => h) (Or.inl ⟨by rfl, ?_⟩) hHeld1 ?_
        rotate_left
        · intro w9 hSw; go_simp; (try with_reducible rfl)
        simp only [List.getElem_toArray, List.getElem_cons_zero, List.getElem_cons_succ, Act.put, List.setIfInBounds_toArray, List.set_cons_zero, List.set_cons_succ]
        refine wpAnyH_take (i := 16) (oi := _) (v := ?_) rfl (by kernel_rfl) (by kernel_rfl) (by kernel_rfl) (fun _ _ _ h => h) (Or.inl ⟨by rfl, ?_⟩) hHeld1 ?_
        rotate_left
        · intro w9 hSw; go_simp; (try with_reducible rfl)
        simp only [List.getElem_toArray, List.getElem_cons_zero, List.getElem_cons_succ, Act.put, List.setIfInBounds_toArray, List.set_cons_zero, List.set_cons_succ]
        refine wpAnyH_take (i := 17) (oi := _) (v := undef) rfl (by kernel_rfl) (by kernel_rfl) (by kernel_rfl) (fun _ _ _ h => h) (Or.inr ⟨by rfl, rfl⟩) hHeld1 ?_
        simp only [List.getElem_toArray, List.getElem_cons_zero, List.getElem_cons_succ, Act.put, List.setIfInBounds_toArray, List.set_cons_zero, List.set_cons_succ]
        refine wpAnyH_take (i := 18) (oi := _) (v := undef) rfl (by kernel_rfl) (by kernel_rfl) (by kernel_rfl) (fun _ _ _ h => h) (Or.inr ⟨by rfl, rfl⟩) hHeld1 ?_
        simp only [List.getElem_toArray, List.getElem_cons_zero, List.getElem_cons_succ, Act.put, List.setIfInBounds_toArray, List.set_cons_zero, List.set_cons_succ]
        refine wpAnyH_take (i := 19) (oi := _) (v := undef) rfl (by kernel_rfl) (by kernel_rfl) (by kernel_rfl) (fun _ _ _ h => h) (Or.inr ⟨by rfl, rfl⟩) hHeld1 ?_
        simp only [List.getElem_toArray, List.getElem_cons_zero, List.getElem_cons_succ, Act.put, List.setIfInBounds_toArray, List.set_cons_zero, List.set_cons_succ]
        refine wpAnyH_take (i := 20) (oi := _) (v := undef) rfl (by kernel_rfl) (by kernel_rfl) (by kernel_rfl) (fun _ _ _ h => h) (Or.inr ⟨by rfl, rfl⟩) hHeld1 ?_
        simp only [List.getElem_toArray, List.getElem_cons_zero, List.getElem_cons_succ, Act.put, List.setIfInBounds_toArray, List.set_cons_zero, List.set_cons_succ]
        refine wpAnyH_take (i := 21) (oi := _) (v := undef) rfl (by kernel_rfl) (by kernel_rfl) (by kernel_rfl) (fun _ _ _ h => h) (Or.inr ⟨by rfl, rfl⟩) hHeld1 ?_
        simp only [List.getElem_toArray, List.getElem_cons_zero, List.getElem_cons_succ, Act.put, List.setIfInBounds_toArray, List.set_cons_zero, List.set_cons_succ]
        refine wpAnyH_take (i := 22) (oi := _) (v := ?_) rfl (by kernel_rfl) (by kernel_rfl) (by kernel_rfl) (fun _ _ _ h => h) (Or.inl ⟨by rfl, ?_⟩) hHeld1 ?_
        rotate_left
        · intro w9 hSw; go_simp; (try with_reducible rfl)
        simp only [List.getElem_toArray, List.getElem_cons_zero, List.getElem_cons_succ, Act.put, List.setIfInBounds_toArray, List.set_cons_zero, List.set_cons_succ]
        refine wpAnyH_take (i := 23) (oi := _) (v := ?_) rfl (by kernel_rfl) (by kernel_rfl) (by kernel_rfl) (fun _ _ _ h => h) (Or.inl ⟨by rfl, ?_⟩) hHeld1 ?_
        rotate_left
        · intro w9 hSw; go_simp; (try with_reducible rfl)
        simp only [List.getElem_toArray, List.getElem_cons_zero, List.getElem_cons_succ, Act.put, List.setIfInBounds_toArray, List.set_cons_zero, List.set_cons_succ]
        refine wpAnyH_done (by kernel_rfl) ?_ _
        go_wp2_with (go_at_call 28; refine (kids28_at vb_a hlt (by omega)).mono ?_; rintro e vk ⟨A8, c8, rfl, ho8, hb_vk⟩; have vk_a := vb_a.below hb_vk; have vk_h : wr.heap.size < vk.heap.size := Nat.lt_of_lt_of_le vb_h hb_vk.size; have vk_x0 := (hb_vk.cell (p := ⟨wr.heap.size, 0, none⟩) vb_h).trans vb_x0; have vk_x1 := (hb_vk.cell (p := ⟨wr.heap.size, 1, none⟩) vb_h).trans vb_x1; have vk_x2 := (hb_vk.cell (p := ⟨wr.heap.size, 2, none⟩) vb_h).trans vb_x2; have vk_x3 := (hb_vk.cell (p := ⟨wr.heap.size, 3, none⟩) vb_h).trans vb_x3; have vk_x4 := (hb_vk.cell (p := ⟨wr.heap.size, 4, none⟩) vb_h).trans vb_x4; have vk_r := (vb_r.belowAt hb_vk (Nat.le_of_lt (Nat.lt_of_le_of_lt hb.size vb_h))); have vk_q := (vb_q.belowAt hb_vk (Nat.le_of_lt (Nat.lt_of_le_of_lt hb.size vb_h))); have vk_b := vb_b.trans (hb_vk.mono (Nat.le_of_lt (Nat.lt_of_le_of_lt hb.size vb_h))); clear vb_x0 vb_x1 vb_x2 vb_x3 vb_x4)
        go_loop [99] (fun i => ∃ j : Nat, j ≤ (gn N k).kids.length ∧ i = .int .i64 j) (fun i => (gn N k).kids.length - (intOf i).toNat)
        case atStart => exact ⟨0, Nat.zero_le _, rfl⟩
        case round =>
          obtain ⟨j, hj, rfl⟩ := hrel
          by_cases hlj : j < (gn N k).kids.length
          · obtain ⟨b6, f6, rfl, _, hc6⟩ := vk_q.int_form (by omega)
            obtain ⟨b8, f8, rfl, _, hc8⟩ := (Rd.of_own ho8).int_form (by omega)
            have y6 := hc6 j hlj
            have y8 := hc8 j hlj
            clear hc6 hc8
            go_wp2_with fail
            go_round
            case rel => exact ⟨j + 1, by omega, by go_num⟩
            case measure => simp [intOf]; omega
          · obtain rfl : j = (gn N k).kids.length := by omega
            go_wp2_with fail
            go_roundw
            case rel => exact ⟨k + 1, by omega, by go_num, vk_b⟩
            case measure => simp [intOf]; omega
      · have hlf : (gn N k).leaf = false := by simpa using hlf
        have HB9 : Hid ((gn N k).b = []) := Lib.hid (HBR.out hlf)
        refine wp_region_held_drew (S := fun W => Below wg.drew.heap.size wg.drew W) (by kernel_rfl) (Below.refl _ _) (fun hHeld => ?_)
        change wpAnyH _ _ _ _ _ 24 #[false, false, false, false, false, false, false, false, false, false, false, false, false, false, false, false, false, false, false, false, false, false, false, false] _ _
        have va_a := wg_a.drew
        have va_h : wr.heap.size < wg.drew.heap.size := wg_h
        have va_x0 : wg.drew.cell? ⟨wr.heap.size, 0, none⟩ = some (.int .i64 (gn N k).kind) := wg_x0
        have va_x1 : wg.drew.cell? ⟨wr.heap.size, 1, none⟩ = some (.bool (gn N k).leaf) := wg_x1
        have va_x2 : wg.drew.cell? ⟨wr.heap.size, 2, none⟩ = some (.slice A5 (pr N (k : Nat)).length c5) := wg_x2
        have va_x3 : wg.drew.cell? ⟨wr.heap.size, 3, none⟩ = some (.slice A6 (gn N k).kids.length c6) := wg_x3
        have va_x4 : wg.drew.cell? ⟨wr.heap.size, 4, none⟩ = some (.int .i64 (gn N k).cnt) := wg_x4
        have va_r := wg_r.drew
        have va_q := wg_q.drew
        have va_b := wg_b.drew
        generalize wg.drew = va at *
        refine wpAnyH_take (i := 0) (oi := _) (v := ?_) rfl (by kernel_rfl) (by kernel_rfl) (by kernel_rfl) (fun _ _ _ h => h) (Or.inl ⟨by rfl, ?_⟩) hHeld ?_
        rotate_left
        · intro w9 hSw; go_simp; (try with_reducible rfl)
        simp only [List.getElem_toArray, List.getElem_cons_zero, Act.put, List.setIfInBounds_toArray, List.set_cons_zero, List.set_cons_succ]
        refine wpAnyH_take (i := 1) (oi := _) (v := ?_) rfl (by kernel_rfl) (by kernel_rfl) (by kernel_rfl) (fun _ _ _ h => h) (Or.inl ⟨by rfl, ?_⟩) hHeld ?_
        rotate_left
        · intro w9 hSw; have s1 := (hSw.cell (p := ⟨wr.heap.size, 1, none⟩) va_h).trans va_x1; go_simp; (try with_reducible rfl)
        simp only [List.getElem_toArray, List.getElem_cons_zero, List.getElem_cons_succ, Act.put, List.setIfInBounds_toArray, List.set_cons_zero, List.set_cons_succ]
        refine wpAnyH_take (i := 2) (oi := _) (v := ?_) rfl (by kernel_rfl) (by kernel_rfl) (by kernel_rfl) (fun _ _ _ h => h) (Or.inl ⟨by rfl, ?_⟩) hHeld ?_
        rotate_left
        · intro w9 hSw; go_simp; (try with_reducible rfl)
        simp only [List.getElem_toArray, List.getElem_cons_zero, List.getElem_cons_succ, Act.put, List.setIfInBounds_toArray, List.set_cons_zero, List.set_cons_succ]
        refine wpAnyH_take (i := 3) (oi := _) (v := undef) rfl (by kernel_rfl) (by kernel_rfl) (by kernel_rfl) (fun _ _ _ h => h) (Or.inr ⟨by rfl, rfl⟩) hHeld ?_
        simp only [List.getElem_toArray, List.getElem_cons_zero, List.getElem_cons_succ, Act.put, List.setIfInBounds_toArray, List.set_cons_zero, List.set_cons_succ]
        refine wpAnyH_take (i := 4) (oi := _) (v := undef) rfl (by kernel_rfl) (by kernel_rfl) (by kernel_rfl) (fun _ _ _ h => h) (Or.inr ⟨by rfl, rfl⟩) hHeld ?_
        simp only [List.getElem_toArray, List.getElem_cons_zero, List.getElem_cons_succ, Act.put, List.setIfInBounds_toArray, List.set_cons_zero, List.set_cons_succ]
        refine wpAnyH_take (i := 5) (oi := _) (v := undef) rfl (by kernel_rfl) (by kernel_rfl) (by kernel_rfl) (fun _ _ _ h => h) (Or.inr ⟨by rfl, rfl⟩) hHeld ?_
        simp only [List.getElem_toArray, List.getElem_cons_zero, List.getElem_cons_succ, Act.put, List.setIfInBounds_toArray, List.set_cons_zero, List.set_cons_succ]
        refine wpAnyH_take (i := 6) (oi := _) (v := undef) rfl (by kernel_rfl) (by kernel_rfl) (by kernel_rfl) (fun _ _ _ h => h) (Or.inr ⟨by rfl, rfl⟩) hHeld ?_
        simp only [List.getElem_toArray, List.getElem_cons_zero, List.getElem_cons_succ, Act.put, List.setIfInBounds_toArray, List.set_cons_zero, List.set_cons_succ]
        refine wpAnyH_take (i := 7) (oi := _) (v := undef) rfl (by kernel_rfl) (by kernel_rfl) (by kernel_rfl) (fun _ _ _ h => h) (Or.inr ⟨by rfl, rfl⟩) hHeld ?_
        simp only [List.getElem_toArray, List.getElem_cons_zero, List.getElem_cons_succ, Act.put, List.setIfInBounds_toArray, List.set_cons_zero, List.set_cons_succ]
        refine wpAnyH_take (i := 8) (oi := _) (v := undef) rfl (by kernel_rfl) (by kernel_rfl) (by kernel_rfl) (fun _ _ _ h => h) (Or.inr ⟨by rfl, rfl⟩) hHeld ?_
        simp only [List.getElem_toArray, List.getElem_cons_zero, List.getElem_cons_succ, Act.put, List.setIfInBounds_toArray, List.set_cons_zero, List.set_cons_succ]
        refine wpAnyH_take (i := 9) (oi := _) (v := undef) rfl (by kernel_rfl) (by kernel_rfl) (by kernel_rfl) (fun _ _ _ h => h) (Or.inr ⟨by rfl, rfl⟩) hHeld ?_
        simp only [List.getElem_toArray, List.getElem_cons_zero, List.getElem_cons_succ, Act.put, List.setIfInBounds_toArray, List.set_cons_zero, List.set_cons_succ]
        refine wpAnyH_take (i := 10) (oi := _) (v := undef) rfl (by kernel_rfl) (by kernel_rfl) (by kernel_rfl) (fun _ _ _ h => h) (Or.inr ⟨by rfl, rfl⟩) hHeld ?_
        simp only [List.getElem_toArray, List.getElem_cons_zero, List.getElem_cons_succ, Act.put, List.setIfInBounds_toArray, List.set_cons_zero, List.set_cons_succ]
        refine wpAnyH_take (i := 11) (oi := _) (v := ?_) rfl (by kernel_rfl) (by kernel_rfl) (by kernel_rfl) (fun _ _ _ h => h) (Or.inl ⟨by rfl, ?_⟩) hHeld ?_
        rotate_left
        · intro w9 hSw; go_simp; (try with_reducible rfl)
        simp only [List.getElem_toArray, List.getElem_cons_zero, List.getElem_cons_succ, Act.put, List.setIfInBounds_toArray, List.set_cons_zero, List.set_cons_succ]
        refine wpAnyH_take (i := 12) (oi := _) (v := ?_) rfl (by kernel_rfl) (by kernel_rfl) (by kernel_rfl) (fun _ _ _ h => h) (Or.inl ⟨by rfl, ?_⟩) hHeld ?_
        rotate_left
        · intro w9 hSw; go_simp; (try with_reducible rfl)
        simp only [List.getElem_toArray, List.getElem_cons_zero, List.getElem_cons_succ, Act.put, List.setIfInBounds_toArray, List.set_cons_zero, List.set_cons_succ]
        refine wpAnyH_take (i := 13) (oi := _) (v := ?_) rfl (by kernel_rfl) (by kernel_rfl) (by kernel_rfl) (fun _ _ _ h => h) (Or.inl ⟨by rfl, ?_⟩) hHeld ?_
        rotate_left
        · intro w9 hSw; go_simp; (try with_reducible rfl)
        simp only [List.getElem_toArray, List.getElem_cons_zero, List.getElem_cons_succ, Act.put, List.setIfInBounds_toArray, List.set_cons_zero, List.set_cons_succ]
        refine wpAnyH_take (i := 14) (oi := _) (v := ?_) rfl (by kernel_rfl) (by kernel_rfl) (by kernel_rfl) (fun _ _ _ h => h) (Or.inl ⟨by rfl, ?_⟩) hHeld ?_
        rotate_left
        · intro w9 hSw; have s1 := (hSw.cell (p := ⟨wr.heap.size, 1, none⟩) va_h).trans va_x1; go_simp; (try with_reducible rfl)
        simp only [List.getElem_toArray, List.getElem_cons_zero, List.getElem_cons_succ, Act.put, List.setIfInBounds_toArray, List.set_cons_zero, List.set_cons_succ]
        refine wpAnyH_take (i := 15) (oi := _) (v := ?_) rfl (by kernel_rfl) (by kernel_rfl) (by kernel_rfl) (fun _ _ _ h => h) (Or.inl ⟨by rfl, ?_⟩) hHeld ?_
        rotate_left
        · intro w9 hSw; go_simp; (try with_reducible rfl)
        simp only [List.getElem_toArray, List.getElem_cons_zero, List.getElem_cons_succ, Act.put, List.setIfInBounds_toArray, List.set_cons_zero, List.set_cons_succ]
        refine wpAnyH_take (i := 16) (oi := _) (v := ?_) rfl (by kernel_rfl) (by kernel_rfl) (by kernel_rfl) (fun _ _ _ h => h) (Or.inl ⟨by rfl, ?_⟩) hHeld ?_
        rotate_left
        · intro w9 hSw; go_simp; (try with_reducible rfl)
        simp only [List.getElem_toArray, List.getElem_cons_zero, List.getElem_cons_succ, Act.put, List.setIfInBounds_toArray, List.set_cons_zero, List.set_cons_succ]
        refine wpAnyH_take (i := 17) (oi := _) (v := ?_) rfl (by kernel_rfl) (by kernel_rfl) (by kernel_rfl) (fun _ _ _ h => h) (Or.inl ⟨by rfl, ?_⟩) hHeld ?_
        rotate_left
        · intro w9 hSw; go_simp; (try with_reducible rfl)
        simp only [List.getElem_toArray, List.getElem_cons_zero, List.getElem_cons_succ, Act.put, List.setIfInBounds_toArray, List.set_cons_zero, List.set_cons_succ]
        refine wpAnyH_take (i := 18) (oi := _) (v := ?_) rfl (by kernel_rfl) (by kernel_rfl) (by kernel_rfl) (fun _ _ _ h => h) (Or.inl ⟨by rfl, ?_⟩) hHeld ?_
        rotate_left
        · intro w9 hSw; go_simp; (try with_reducible rfl)
        simp only [List.getElem_toArray, List.getElem_cons_zero, List.getElem_cons_succ, Act.put, List.setIfInBounds_toArray, List.set_cons_zero, List.set_cons_succ]
        refine wpAnyH_ready (rs := [19]) (by kernel_rfl) (by simp) ?_
        refine AllReadyH.cons (o := _) rfl (fun K hK => ?_) AllReadyH.nil
        go_simp
        refine (bytes27_at va_a hlt (by rw [HB9.out]; simp)).mono ?_
        rintro e vb ⟨A9, c9, rfl, ho9, hb_vb⟩
        refine hK.out _ _ hb_vb (fun _ => ?_)
        clear hK
        refine wpAnyH_mono (S' := fun W => Below vb.heap.size vb W) (fun W h => Below.trans hb_vb (h.mono hb_vb.size)) _ _ _ _ ?_
        have hHeld1 : (fun W => Below vb.heap.size vb W) vb := Below.refl _ _
        have vb_a := va_a.below hb_vb
        have vb_h : wr.heap.size < vb.heap.size := Nat.lt_of_lt_of_le va_h hb_vb.size
        have vb_x0 := (hb_vb.cell (p := ⟨wr.heap.size, 0, none⟩) va_h).trans va_x0
        have vb_x1 := (hb_vb.cell (p := ⟨wr.heap.size, 1, none⟩) va_h).trans va_x1
        have vb_x2 := (hb_vb.cell (p := ⟨wr.heap.size, 2, none⟩) va_h).trans va_x2
        have vb_x3 := (hb_vb.cell (p := ⟨wr.heap.size, 3, none⟩) va_h).trans va_x3
        have vb_x4 := (hb_vb.cell (p := ⟨wr.heap.size, 4, none⟩) va_h).trans va_x4
        have vb_r := (va_r.belowAt hb_vb (Nat.le_of_lt (Nat.lt_of_le_of_lt hb.size va_h)))
        have vb_q := (va_q.belowAt hb_vb (Nat.le_of_lt (Nat.lt_of_le_of_lt hb.size va_h)))
        have vb_b := va_b.trans (hb_vb.mono (Nat.le_of_lt (Nat.lt_of_le_of_lt hb.size va_h)))
        clear va_x0 va_x1 va_x2 va_x3 va_x4
        refine wpAnyH_take (i := 20) (oi := _) (v := ?_) rfl (by kernel_rfl) (by kernel_rfl) (by kernel_rfl) (fun _ _ _ h => h) (Or.inl ⟨by rfl, ?_⟩) hHeld1 ?_
        rotate_left
        · intro w9 hSw; go_simp; (try with_reducible rfl)
        simp only [List.getElem_toArray, List.getElem_cons_zero, List.getElem_cons_succ, Act.put, List.setIfInBounds_toArray, List.set_cons_zero, List.set_cons_succ]
        refine wpAnyH_take (i := 21) (oi := _) (v := ?_) rfl (by kernel_rfl) (by kernel_rfl) (by kernel_rfl) (fun _ _ _ h => h) (Or.inl ⟨by rfl, ?_⟩) hHeld1 ?_
        rotate_left
        · intro w9 hSw; have s9 := HB9.out; go_simp; (try with_reducible rfl)
        simp only [List.getElem_toArray, List.getElem_cons_zero, List.getElem_cons_succ, Act.put, List.setIfInBounds_toArray, List.set_cons_zero, List.set_cons_succ]
        refine wpAnyH_take (i := 22) (oi := _) (v := ?_) rfl (by kernel_rfl) (by kernel_rfl) (by kernel_rfl) (fun _ _ _ h => h) (Or.inl ⟨by rfl, ?_⟩) hHeld1 ?_
        rotate_left
        · intro w9 hSw; go_simp; (try with_reducible rfl)
        simp only [List.getElem_toArray, List.getElem_cons_zero, List.getElem_cons_succ, Act.put, List.setIfInBounds_toArray, List.set_cons_zero, List.set_cons_succ]
        refine wpAnyH_take (i := 23) (oi := _) (v := ?_) rfl (by kernel_rfl) (by kernel_rfl) (by kernel_rfl) (fun _ _ _ h => h) (Or.inl ⟨by rfl, ?_⟩) hHeld1 ?_
        rotate_left
        · intro w9 hSw; go_simp; (try with_reducible rfl)
        simp only [List.getElem_toArray, List.getElem_cons_zero, List.getElem_cons_succ, Act.put, List.setIfInBounds_toArray, List.set_cons_zero, List.set_cons_succ]
        refine wpAnyH_done (by kernel_rfl) ?_ _
        go_wp2_with (go_at_call 28; refine (kids28_at vb_a hlt (by omega)).mono ?_; rintro e vk ⟨A8, c8, rfl, ho8, hb_vk⟩; have vk_a := vb_a.below hb_vk; have vk_h : wr.heap.size < vk.heap.size := Nat.lt_of_lt_of_le vb_h hb_vk.size; have vk_x0 := (hb_vk.cell (p := ⟨wr.heap.size, 0, none⟩) vb_h).trans vb_x0; have vk_x1 := (hb_vk.cell (p := ⟨wr.heap.size, 1, none⟩) vb_h).trans vb_x1; have vk_x2 := (hb_vk.cell (p := ⟨wr.heap.size, 2, none⟩) vb_h).trans vb_x2; have vk_x3 := (hb_vk.cell (p := ⟨wr.heap.size, 3, none⟩) vb_h).trans vb_x3; have vk_x4 := (hb_vk.cell (p := ⟨wr.heap.size, 4, none⟩) vb_h).trans vb_x4; have vk_r := (vb_r.belowAt hb_vk (Nat.le_of_lt (Nat.lt_of_le_of_lt hb.size vb_h))); have vk_q := (vb_q.belowAt hb_vk (Nat.le_of_lt (Nat.lt_of_le_of_lt hb.size vb_h))); have vk_b := vb_b.trans (hb_vk.mono (Nat.le_of_lt (Nat.lt_of_le_of_lt hb.size vb_h))); clear vb_x0 vb_x1 vb_x2 vb_x3 vb_x4)
        go_loop [99] (fun i => ∃ j : Nat, j ≤ (gn N k).kids.length ∧ i = .int .i64 j) (fun i => (gn N k).kids.length - (intOf i).toNat)
        case atStart => exact ⟨0, Nat.zero_le _, rfl⟩
        case round =>
          obtain ⟨j, hj, rfl⟩ := hrel
          by_cases hlj : j < (gn N k).kids.length
          · obtain ⟨b6, f6, rfl, _, hc6⟩ := vk_q.int_form (by omega)
            obtain ⟨b8, f8, rfl, _, hc8⟩ := (Rd.of_own ho8).int_form (by omega)
            have y6 := hc6 j hlj
            have y8 := hc8 j hlj
            clear hc6 hc8
            go_wp2_with fail
            go_round
            case rel => exact ⟨j + 1, by omega, by go_num⟩
            case measure => simp [intOf]; omega
          · obtain rfl : j = (gn N k).kids.length := by omega
            go_wp2_with fail
            go_roundw
            case rel => exact ⟨k + 1, by omega, by go_num, vk_b⟩
            case measure => simp [intOf]; omega
    · obtain rfl : k = N.length := by omega
      have K1 : ∀ W, Arena W B ga N → Calls Try.prog 23 #[.pointer (some ⟨ga, 0, none⟩), .int .i64 (-1)] W fun e w' => e = .returned (.int .i64 0) ∧ Below W.heap.size W w' := fun W h => by have := kind23 h (-1); rwa [gq_out (by omega)] at this
      have K2 : ∀ W, Arena W B ga N → Calls Try.prog 18 #[.pointer (some ⟨ga, 0, none⟩), .int .i64 (N.length : Nat)] W fun e w' => e = .returned (.int .i64 0) ∧ Below W.heap.size W w' := fun W h => by have := width18 h (N.length : Nat); rwa [gq_out (by omega)] at this
      have K3 : ∀ W, Arena W B ga N → Calls Try.prog 30 #[.pointer (some ⟨ga, 0, none⟩), .int .i64 (-1)] W fun e w' => e = .returned (.int .i64 0) ∧ Below W.heap.size W w' := fun W h => by have := count30 h (-1); rwa [gq_out (by omega)] at this
      have sr := hb.size
      go_wp2_with (first
        | (go_at_call 23; refine (K1 _ har).mono ?_; rintro e w1 ⟨rfl, hb1⟩; have ha1 := har.below hb1; have hs1 := hb1.size; clear har)
        | (go_at_call 18; refine (K2 _ ha1).mono ?_; rintro e w2 ⟨rfl, hb2⟩; have ha2 := ha1.below hb2; have hs2 := hb2.size; clear ha1)
        | (go_at_call 19; refine (print19_out ha2 (N.length : Nat) (by omega)).mono ?_; rintro e w3 ⟨rfl, rfl⟩)
        | (go_at_call 30; refine (K3 _ ha2).mono ?_; rintro e w4 ⟨rfl, hb4⟩; clear ha2))
      go_ret
      exact ⟨rfl, hb.trans ((hb1.mono sr).trans ((hb2.mono (by omega)).trans (hb4.mono (by omega))))⟩
end Go.Proofs.Ytbmbiffhgdkpiaa
