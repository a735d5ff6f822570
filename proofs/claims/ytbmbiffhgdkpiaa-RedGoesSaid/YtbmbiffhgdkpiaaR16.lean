/- The walk of the law RedSeeks. No condition. -/
import Derived.Test.YtbmbiffhgdkpiaaR12
namespace Go.Proofs.Ytbmbiffhgdkpiaa
open Go.RowKit

theorem seekL_len {N : List GN} {at_ : Int} : ∀ (d n : Nat) (f : Int), (seekL N at_ d n f).length ≤ d
  | 0, _, _ => Nat.le_refl _
  | d + 1, n, f => by
    simp only [seekL]
    split
    · simp
    · rw [List.length_cons]
      exact Nat.succ_le_succ (seekL_len d _ _)
theorem seekP_len {N : List GN} {at_ : Int} (n : Nat) (f : Int) : (seekP N n f at_).length ≤ n + 1 := seekL_len _ _ _
theorem below_put {w w' : World} {o : Obj} (hg : (w.alloc o).grownBy w' (some w.heap.size)) : Below w.heap.size w w' := Below.put ((Below.refl w.heap.size w).alloc (Nat.le_refl _) o) (Nat.le_refl _) hg (by simp)
theorem kept_at {w w' : World} {g : Nat} {ob : Obj} (hb : Below w.heap.size w w') (h : w.heap[g]? = some ob) : w'.heap[g]? = some ob := (hb.block g (Array.getElem?_eq_some_iff.1 h).1).trans h
set_option maxRecDepth 100000 in
set_option maxHeartbeats 4000000 in
theorem walk7 (A : Option Addr) (n c : Nat) (w : World) (h : OpsIn w w.heap.size A n) (root at_ : Int) : Calls Try.prog 7 #[.slice A n c, .int .i64 root, .int .i64 at_] w fun e w' => e = .returned (.bool true) ∧ Below w.heap.size w w' := by
  go_enter Try.func7, Try.ntmps7
  go_wp2_with (go_at_call 31; refine (made31 A n c w h).mono ?_; rintro e w1 ⟨A1, c1, N, rfl, hB1, hl1, b1⟩)
  have C32 := root32 hB1.arena root
  have C24 := has24 A1 N.length c1 root
  have HB1 := Lib.hid hB1
  have B1 := Lib.hid b1
  clear hB1 b1 h
  by_cases hroot : 0 ≤ root ∧ root < N.length
  · obtain ⟨r, rfl⟩ := Int.eq_ofNat_of_zero_le hroot.1
    have hr : r < N.length := by omega
    have C32' : Calls Try.prog 32 #[.pointer (some ⟨w.heap.size, 0, none⟩), .int .i64 (r : Nat)] w1 fun e w' => e = .returned (.tuple #[.agg (cc (some ⟨w.heap.size, 0, none⟩) (r : Nat) 0 0 none), .int .i64 0]) ∧ Below w1.heap.size w1 w' := C32.mono fun e w' ⟨hx, hb⟩ => ⟨by rw [if_pos hroot] at hx; exact hx, hb⟩
    clear C32 C24
    go_wp2_with (first
      | (go_at_call 32; refine C32'.mono ?_; rintro e w2 ⟨rfl, b2⟩; have hR := heap_alloc_new w2 (.cells (cc none 0 0 0 none) 59); have B2 := Lib.hid (B1.out.trans (b2.mono B1.out.size)); have HB2 := Lib.hid (HB1.out.below b2); clear C32' b2 HB1)
      | (refine wpList_putc rfl _ _ rfl w2.heap.size (some ⟨w.heap.size, 0, none⟩) (r : Nat) 0 0 none rfl rfl hR ?_; intro w3 hR3 hg3; have b3 := below_put hg3; have B3 := Lib.hid (B2.out.trans (b3.mono B2.out.size)); have HB3 := Lib.hid (HB2.out.below b3); have d0 := (cells5 hR3).1; have d1 := (cells5 hR3).2.1; have d2 := (cells5 hR3).2.2.1; have d3 := (cells5 hR3).2.2.2.1; have d4 := (cells5 hR3).2.2.2.2; clear hR b3 HB2 hR3 hg3))
    have C34 := seek34 (N := N) HB3.out.arena HB3.out.ok (fun i hi => Nat.le_trans (HB3.out.wd i hi) (by omega)) r hr [] r 0 0 none ⟨rfl, rfl, rfl, rfl⟩ at_
    have HW := Lib.hid (HB3.out.ok.wide r hr)
    by_cases hin : 0 ≤ at_ ∧ at_ < ((pr N (r : Nat)).length : Nat)
    · have C34' : Calls Try.prog 34 #[.agg (cc (some ⟨w.heap.size, 0, none⟩) (r : Nat) 0 0 none), .int .i64 at_] w3 fun e w' => (∃ n' f' k' u', e = .returned (.tuple #[.agg (cc (some ⟨w.heap.size, 0, none⟩) n' f' k' u'), .bool true]) ∧ Chain (fun _ => True) w' w.heap.size N r (seekP N r 0 at_).reverse n' f' k' u') ∧ Below w3.heap.size w3 w' := C34.mono fun e w' ⟨hx, hb⟩ => ⟨by
        rw [if_pos (by rw [HW.out]; exact ⟨hin.1, by rw [Int.zero_add]; exact hin.2⟩)] at hx
        obtain ⟨n', f', k', u', e1, h1⟩ := hx
        exact ⟨n', f', k', u', e1, by simpa using h1⟩, hb⟩
      clear C34
      obtain ⟨-, g, bv, kv, hA, hnode⟩ := HB3.out.doc.node
      obtain rfl := hA (by omega)
      obtain ⟨m0, -, m2, -, -, o5, -⟩ := hnode r hr
      obtain ⟨A5, c5, hv5, -⟩ := own_form o5
      rw [hv5] at m2
      have M2 := Lib.hid m2
      have hin0 := hin.1
      have hin1 := hin.2
      have t1 : decide (at_ < 0) = false := by simpa using hin0
      have t2 : decide (((pr N (r : Nat)).length : Int) ≤ at_) = false := by simpa using hin1
      clear hA hnode o5 hv5 m0 m2
      go_wp2_with (first
        | (go_at_call 34; refine C34'.mono ?_; rintro e w4 ⟨⟨n', f', k', u', rfl, hc4⟩, b4⟩; have hR := heap_alloc_new w4 (.cells (cc none 0 0 0 none) 59); have B4 := Lib.hid (B3.out.trans (b4.mono B3.out.size)); have HB4 := Lib.hid (HB3.out.below b4); have HC4 := Lib.hid hc4; have M4 := Lib.hid ((b4.cell (World.block_lt_of_cell? _ _ M2.out)).trans M2.out); clear C34' b4 HB3 hc4 d0 d1 d2 d3 d4)
        | (refine wpList_putc rfl _ _ rfl w4.heap.size (some ⟨w.heap.size, 0, none⟩) n' f' k' u' rfl rfl hR ?_; intro w5 hR5 hg5; have b5 := below_put hg5; have B5 := Lib.hid (B4.out.trans (b5.mono B4.out.size)); have HB5 := Lib.hid (HB4.out.below b5); have HC5 := Lib.hid (HC4.out.below b5); have m5 := ((b5.cell (World.block_lt_of_cell? _ _ M4.out)).trans M4.out); have HX5 := Lib.hid hR5; have hw4 : w4.heap.size < w5.heap.size := (Array.getElem?_eq_some_iff.1 hR5).1; clear hR b5 HB4 HC4 hR5 hg5))
      clear m5 M4
      refine wp_region_held_drew (S := fun W => Below w5.drew.heap.size w5.drew W) (by kernel_rfl) (Below.refl _ _) (fun hHeld => ?_)
      change wpAnyH _ _ _ _ _ 15 #[false, false, false, false, false, false, false, false, false, false, false, false, false, false, false] _ _
      have wa_b : Hid (Below w.heap.size w w5.drew) := Lib.hid B5.out.drew
      have wa_h : Hid (Both w5.drew w.heap.size w.heap.size (.slice (some ⟨g, 0, none⟩) N.length c1) N) := Lib.hid (HB5.out.below ⟨rfl, rfl, rfl, Nat.le_refl _, fun _ _ => rfl⟩)
      have wa_c : Hid (Chain (fun _ => True) w5.drew w.heap.size N r (seekP N r 0 at_).reverse n' f' k' u') := Lib.hid (Chain.keep (w := w5) (w' := w5.drew) (X := fun _ => True) (X' := fun _ => True) (fun _ _ hx hg => ⟨hx, hg⟩) HC5.out)
      have wa_x : Hid (w5.drew.heap[w4.heap.size]? = some (.cells (cc (some ⟨w.heap.size, 0, none⟩) n' f' k' u') 59 (0, 0))) := Lib.hid HX5.out
      have wa_s : w4.heap.size < w5.drew.heap.size := hw4
      generalize w5.drew = wa at *
      refine wpAnyH_take (i := 0) (oi := _) (v := ?_) rfl (by kernel_rfl) (by kernel_rfl) (by kernel_rfl) (fun _ _ _ h => h) (Or.inl ⟨by rfl, ?_⟩) hHeld ?_
      rotate_left
      · intro w9 hSw; go_simp; (try with_reducible rfl)
      simp only [List.getElem_toArray, List.getElem_cons_zero, Act.put, List.setIfInBounds_toArray, List.set_cons_zero, List.set_cons_succ]
      refine wpAnyH_take (i := 1) (oi := _) (v := ?_) rfl (by kernel_rfl) (by kernel_rfl) (by kernel_rfl) (fun _ _ _ h => h) (Or.inl ⟨by rfl, ?_⟩) hHeld ?_
      rotate_left
      · intro w9 hSw; go_simp; (try with_reducible rfl)
      simp only [List.getElem_toArray, List.getElem_cons_zero, List.getElem_cons_succ, Act.put, List.setIfInBounds_toArray, List.set_cons_zero, List.set_cons_succ]
      refine wpAnyH_take (i := 3) (oi := _) (v := ?_) rfl (by kernel_rfl) (by kernel_rfl) (by kernel_rfl) (fun _ _ _ h => h) (Or.inl ⟨by rfl, ?_⟩) hHeld ?_
      rotate_left
      · intro w9 hSw; go_simp; (try with_reducible rfl)
      simp only [List.getElem_toArray, List.getElem_cons_zero, List.getElem_cons_succ, Act.put, List.setIfInBounds_toArray, List.set_cons_zero, List.set_cons_succ]
      refine wpAnyH_take (i := 4) (oi := _) (v := ?_) rfl (by kernel_rfl) (by kernel_rfl) (by kernel_rfl) (fun _ _ _ h => h) (Or.inl ⟨by rfl, ?_⟩) hHeld ?_
      rotate_left
      · intro w9 hSw; go_simp; (try with_reducible rfl)
      simp only [List.getElem_toArray, List.getElem_cons_zero, List.getElem_cons_succ, Act.put, List.setIfInBounds_toArray, List.set_cons_zero, List.set_cons_succ]
      refine wpAnyH_take (i := 5) (oi := _) (v := ?_) rfl (by kernel_rfl) (by kernel_rfl) (by kernel_rfl) (fun _ _ _ h => h) (Or.inl ⟨by rfl, ?_⟩) hHeld ?_
      rotate_left
      · intro w9 hSw; go_simp; (try with_reducible rfl)
      simp only [List.getElem_toArray, List.getElem_cons_zero, List.getElem_cons_succ, Act.put, List.setIfInBounds_toArray, List.set_cons_zero, List.set_cons_succ]
      refine wpAnyH_take (i := 6) (oi := _) (v := ?_) rfl (by kernel_rfl) (by kernel_rfl) (by kernel_rfl) (fun _ _ _ h => h) (Or.inl ⟨by rfl, ?_⟩) hHeld ?_
      rotate_left
      · intro w9 hSw; go_simp; (try with_reducible rfl)
      simp only [List.getElem_toArray, List.getElem_cons_zero, List.getElem_cons_succ, Act.put, List.setIfInBounds_toArray, List.set_cons_zero, List.set_cons_succ]
      refine wpAnyH_take (i := 7) (oi := _) (v := ?_) rfl (by kernel_rfl) (by kernel_rfl) (by kernel_rfl) (fun _ _ _ h => h) (Or.inl ⟨by rfl, ?_⟩) hHeld ?_
      rotate_left
      · intro w9 hSw; go_simp; (try with_reducible rfl)
      simp only [List.getElem_toArray, List.getElem_cons_zero, List.getElem_cons_succ, Act.put, List.setIfInBounds_toArray, List.set_cons_zero, List.set_cons_succ]
      refine wpAnyH_take (i := 2) (oi := _) (v := ?_) rfl (by kernel_rfl) (by kernel_rfl) (by kernel_rfl) (fun _ _ _ h => h) (Or.inl ⟨by rfl, ?_⟩) hHeld ?_
      rotate_left
      · intro w9 hSw; have s0 := (hSw.block w4.heap.size wa_s).trans wa_x.out; have s1 := (cells5 s0).1; have s2 := (cells5 s0).2.1; have s3 := (cells5 s0).2.2.1; have s4 := (cells5 s0).2.2.2.1; have s5 := (cells5 s0).2.2.2.2; clear s0; go_simp; (try with_reducible rfl)
      simp only [List.getElem_toArray, List.getElem_cons_zero, List.getElem_cons_succ, Act.put, List.setIfInBounds_toArray, List.set_cons_zero, List.set_cons_succ]
      refine wpAnyH_ready (rs := [8]) (by kernel_rfl) (by simp) ?_
      refine AllReadyH.cons (o := _) rfl (fun K hK => ?_) AllReadyH.nil
      go_simp
      refine (seek39 wa_h.out.ok (fun i hi => Nat.le_trans (wa_h.out.wd i hi) (by omega)) r hr at_ r [] _ none 0 0 wa_h.out.doc Rd.nil_ (by omega) rfl).mono ?_
      rintro e wb ⟨A7, m7, c7, rfl, r7, hb_wb⟩
      refine hK.out _ _ hb_wb (fun _ => ?_)
      clear hK
      refine wpAnyH_mono (S' := fun W => Below wb.heap.size wb W) (fun W h => Below.trans hb_wb (h.mono hb_wb.size)) _ _ _ _ ?_
      have hHeld1 : (fun W => Below wb.heap.size wb W) wb := Below.refl _ _
      rw [List.nil_append] at r7
      have wb_b := Lib.hid (wa_b.out.trans (hb_wb.mono wa_b.out.size))
      have wb_h := Lib.hid (wa_h.out.below hb_wb)
      have wb_c := Lib.hid (wa_c.out.below hb_wb)
      refine wpAnyH_ready (rs := [9]) (by kernel_rfl) (by simp) ?_
      refine AllReadyH.cons (o := _) rfl (fun K hK => ?_) AllReadyH.nil
      go_simp
      refine (stands38 wb_h.out (by omega) hr wb_c.out (by have := seekP_len (N := N) (at_ := at_) r 0; rw [List.length_reverse]; omega) A7 m7 c7 (by rw [List.reverse_reverse]; exact r7)).mono ?_
      rintro e wc ⟨rfl, hb_wc⟩
      refine hK.out _ _ hb_wc (fun _ => ?_)
      clear hK
      refine wpAnyH_mono (S' := fun W => Below wc.heap.size wc W) (fun W h => Below.trans hb_wc (h.mono hb_wc.size)) _ _ _ _ ?_
      have hHeld2 : (fun W => Below wc.heap.size wc W) wc := Below.refl _ _
      have wc_b := Lib.hid (wb_b.out.trans (hb_wc.mono wb_b.out.size))
      refine wpAnyH_take (i := 10) (oi := _) (v := ?_) rfl (by kernel_rfl) (by kernel_rfl) (by kernel_rfl) (fun _ _ _ h => h) (Or.inl ⟨by rfl, ?_⟩) hHeld2 ?_
      rotate_left
      · intro w9 hSw; go_simp; (try with_reducible rfl)
      simp only [List.getElem_toArray, List.getElem_cons_zero, List.getElem_cons_succ, Act.put, List.setIfInBounds_toArray, List.set_cons_zero, List.set_cons_succ]
      refine wpAnyH_take (i := 11) (oi := _) (v := ?_) rfl (by kernel_rfl) (by kernel_rfl) (by kernel_rfl) (fun _ _ _ h => h) (Or.inl ⟨by rfl, ?_⟩) hHeld2 ?_
      rotate_left
      · intro w9 hSw; go_simp; (try with_reducible rfl)
      simp only [List.getElem_toArray, List.getElem_cons_zero, List.getElem_cons_succ, Act.put, List.setIfInBounds_toArray, List.set_cons_zero, List.set_cons_succ]
      refine wpAnyH_ready (rs := [12]) (by kernel_rfl) (by simp) ?_
      refine AllReadyH.cons (o := _) rfl (fun K hK => ?_) AllReadyH.nil
      go_simp
      refine (awake33 _).mono ?_
      rintro e wd ⟨rfl, hb_wd⟩
      refine hK.out _ _ hb_wd (fun _ => ?_)
      clear hK
      refine wpAnyH_mono (S' := fun W => Below wd.heap.size wd W) (fun W h => Below.trans hb_wd (h.mono hb_wd.size)) _ _ _ _ ?_
      have hHeld3 : (fun W => Below wd.heap.size wd W) wd := Below.refl _ _
      have wd_b := Lib.hid (wc_b.out.trans (hb_wd.mono wc_b.out.size))
      refine wpAnyH_take (i := 13) (oi := _) (v := ?_) rfl (by kernel_rfl) (by kernel_rfl) (by kernel_rfl) (fun _ _ _ h => h) (Or.inl ⟨by rfl, ?_⟩) hHeld3 ?_
      rotate_left
      · intro w9 hSw; go_simp; (try with_reducible rfl)
      simp only [List.getElem_toArray, List.getElem_cons_zero, List.getElem_cons_succ, Act.put, List.setIfInBounds_toArray, List.set_cons_zero, List.set_cons_succ]
      refine wpAnyH_take (i := 14) (oi := _) (v := ?_) rfl (by kernel_rfl) (by kernel_rfl) (by kernel_rfl) (fun _ _ _ h => h) (Or.inl ⟨by rfl, ?_⟩) hHeld3 ?_
      rotate_left
      · intro w9 hSw; go_simp; (try with_reducible rfl)
      simp only [List.getElem_toArray, List.getElem_cons_zero, List.getElem_cons_succ, Act.put, List.setIfInBounds_toArray, List.set_cons_zero, List.set_cons_succ]
      refine wpAnyH_done (by kernel_rfl) ?_ _
      go_wp2_with fail
      go_ret
      exact ⟨rfl, wd_b.out⟩
    · have C34' : Calls Try.prog 34 #[.agg (cc (some ⟨w.heap.size, 0, none⟩) (r : Nat) 0 0 none), .int .i64 at_] w3 fun e w' => e = .returned (.tuple #[.agg (cc none 0 0 0 none), .bool false]) ∧ Below w3.heap.size w3 w' := C34.mono fun e w' ⟨hx, hb⟩ => ⟨by
        rw [if_neg (by rw [HW.out]; intro hq; exact hin ⟨hq.1, by have := hq.2; rwa [Int.zero_add] at this⟩)] at hx
        exact hx, hb⟩
      clear C34
      obtain ⟨-, g, bv, kv, hA, hnode⟩ := HB3.out.doc.node
      obtain rfl := hA (by omega)
      obtain ⟨m0, -, m2, -, -, o5, -⟩ := hnode r hr
      obtain ⟨A5, c5, hv5, -⟩ := own_form o5
      rw [hv5] at m2
      have M2 := Lib.hid m2
      clear hA hnode o5 hv5 m0 m2
      have hcase : decide (at_ < 0) = true ∨ (decide (at_ < 0) = false ∧ decide (((pr N (r : Nat)).length : Int) ≤ at_) = true) := by
        by_cases hx : at_ < 0
        · exact .inl (by simpa using hx)
        · exact .inr ⟨by simpa using hx, by simp only [decide_eq_true_eq]; omega⟩
      clear hin
      rcases hcase with t1 | ⟨t1, t2⟩
      all_goals
        go_wp2_with (first
          | (go_at_call 34; refine C34'.mono ?_; rintro e w4 ⟨rfl, b4⟩; have hR := heap_alloc_new w4 (.cells (cc none 0 0 0 none) 59); have B4 := Lib.hid (B3.out.trans (b4.mono B3.out.size)); have M4 := Lib.hid ((b4.cell (World.block_lt_of_cell? _ _ M2.out)).trans M2.out); clear C34' b4 HB3 d0 d1 d2 d3 d4)
          | (refine wpList_putc rfl _ _ rfl w4.heap.size none 0 0 0 none rfl rfl hR ?_; intro w5 hR5 hg5; have b5 := below_put hg5; have B5 := Lib.hid (B4.out.trans (b5.mono B4.out.size)); have m5 := ((b5.cell (World.block_lt_of_cell? _ _ M4.out)).trans M4.out); have h5 := hR5; have d8_0 := (cells5 h5).1; have d8_1 := (cells5 h5).2.1; have d8_2 := (cells5 h5).2.2.1; have d8_3 := (cells5 h5).2.2.2.1; have d8_4 := (cells5 h5).2.2.2.2; have H5 := Lib.hid h5; clear hR b5 hR5 hg5 h5)
          | (go_at_call 35; refine (node35 none 0 0 0 none _).mono ?_; rintro e w6 ⟨rfl, b6⟩; have B6 := Lib.hid (B5.out.trans (b6.mono B5.out.size)); have h6 := kept_at b6 H5.out; have H6 := Lib.hid h6; have d9_0 := (cells5 h6).1; have d9_1 := (cells5 h6).2.1; have d9_2 := (cells5 h6).2.2.1; have d9_3 := (cells5 h6).2.2.2.1; have d9_4 := (cells5 h6).2.2.2.2; clear b6 h6 d8_0 d8_1 d8_2 d8_3 d8_4)
          | (go_at_call 36; refine (kind36 none 0 0 0 none _ 0 (fun W _ => kind23_nil 0 W)).mono ?_; rintro e w7 ⟨rfl, b7⟩; have B7 := Lib.hid (B6.out.trans (b7.mono B6.out.size)); have h7 := kept_at b7 H6.out; have H7 := Lib.hid h7; have d10_0 := (cells5 h7).1; have d10_1 := (cells5 h7).2.1; have d10_2 := (cells5 h7).2.2.1; have d10_3 := (cells5 h7).2.2.2.1; have d10_4 := (cells5 h7).2.2.2.2; clear b7 h7 d9_0 d9_1 d9_2 d9_3 d9_4)
          | (go_at_call 37; refine (path37 (X := fun _ => True) (ga := 0) (N := []) (root := 0) (Q := []) (a := none) (n := 0) (f := 0) (k := 0) (u := none) ⟨rfl, rfl, rfl, rfl⟩ (by simp)).mono ?_; rintro e w8 ⟨A8, c8, rfl, -, b8⟩; have B8 := Lib.hid (B7.out.trans (b8.mono B7.out.size)); clear b8 d10_0 d10_1 d10_2 d10_3 d10_4)
          | (go_at_call 33; refine (awake33 _).mono ?_; rintro e w9 ⟨rfl, b9⟩; have B9 := Lib.hid (B8.out.trans (b9.mono B8.out.size)); clear b9))
        go_ret
        exact ⟨rfl, B9.out⟩
  · have C32' : Calls Try.prog 32 #[.pointer (some ⟨w.heap.size, 0, none⟩), .int .i64 root] w1 fun e w' => e = .returned (.tuple #[.agg (cc none 0 0 0 none), .int .i64 6]) ∧ Below w1.heap.size w1 w' := C32.mono fun e w' ⟨hx, hb⟩ => ⟨by rw [if_neg hroot] at hx; exact hx, hb⟩
    rw [show decide (0 ≤ root ∧ root < (N.length : Nat)) = false from decide_eq_false hroot] at C24
    clear C32 hroot
    go_wp2_with (first
      | (go_at_call 32; refine C32'.mono ?_; rintro e w2 ⟨rfl, b2⟩; have hR := heap_alloc_new w2 (.cells (cc none 0 0 0 none) 59); have B2 := Lib.hid (B1.out.trans (b2.mono B1.out.size)); clear C32' b2)
      | (refine wpList_putc rfl _ _ rfl w2.heap.size none 0 0 0 none rfl rfl hR ?_; intro w3 hR3 hg3; have b3 := below_put hg3; have B3 := Lib.hid (B2.out.trans (b3.mono B2.out.size)); clear hR b3 hR3 hg3)
      | (go_at_call 24; refine (C24 _).mono ?_; rintro e w4 ⟨rfl, rfl⟩; clear C24)
      | (go_at_call 33; refine (awake33 _).mono ?_; rintro e w9 ⟨rfl, b9⟩; have B9 := Lib.hid (B3.out.trans (b9.mono B3.out.size)); clear b9))
    go_ret
    exact ⟨rfl, B9.out⟩
end Go.Proofs.Ytbmbiffhgdkpiaa
