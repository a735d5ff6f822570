/- The walk of the law GreenKeeps. No condition. -/
import Derived.Test.YtbmbiffhgdkpiaaN25
namespace Go.Proofs.Ytbmbiffhgdkpiaa
open Go.RowKit

set_option maxRecDepth 100000 in
set_option maxHeartbeats 8000000 in
theorem walk5 (A : Option Addr) (n c : Nat) (z y : Int) (AP : Option Addr) (nP cP : Nat) (zP : List Int) (w : World) (h : OpsIn w w.heap.size A n) (hP : Rd w w.heap.size 1 AP nP cP (ints .i64 zP)) :
    Calls Try.prog 5 #[.slice A n c, .int .i64 z, .int .i64 y, .slice AP nP cP] w fun e w' => e = .returned (.bool true) ∧ Below w.heap.size w w' := by
  have hmax := h.max
  unfold maxLen at hmax
  go_enter Try.func5, Try.ntmps5
  go_wp2_with (go_at_call 12; refine (new12 _).mono ?_; rintro e w1 ⟨rfl, a1, b1⟩)
  have B0 := both_new a1 b1
  clear a1
  go_loopw [10, 22] (fun v i wr => ∃ (k : Nat) (N : List GN), k ≤ n ∧ i = .int .i64 k ∧ N.length ≤ 5 * k ∧ N.length ≤ 100 ∧ Both wr w.heap.size w.heap.size v N ∧ Below w.heap.size w wr)
    (fun _ i _ => n - (intOf i).toNat)
  case atStart => exact ⟨0, [], Nat.zero_le _, rfl, by simp, by simp, B0, b1⟩
  case round =>
    obtain ⟨k, N, hk, rfl, hN, hN1, hB, hb⟩ := hrel
    obtain ⟨A4, c4, rfl, hB⟩ := hB.form
    have sr := hb.size
    by_cases hlt : k < n
    · obtain ⟨b, off, rfl, hbb, hi⟩ := (h.below hb).at_ (by omega)
      obtain ⟨o0, o1, o4, o5, AB, nB, cB, AK, nK, cK, AP', nP', cP', back, q0, q1, q2, q3, q4, q5, q6, q7, hop⟩ := hi k hlt
      clear hi
      have hal : ∀ o, Below wr.heap.size wr (wr.alloc o) := fun o => (Below.refl _ _).alloc (Nat.le_refl _) o
      by_cases h20 : k < 20
      · have C13 := fun o => step13 (hB.below (hal o)) (by omega) o0 o1 o4 o5 AB nB cB AK nK cK AP' nP' cP' back ⟨hop.b.imp fun _ h => h.alloc sr o, hop.k.imp fun _ h => h.alloc sr o, hop.p.imp fun _ h => h.alloc sr o⟩
        have HB := Lib.hid hB
        have HAL := Lib.hid hal
        clear hB hal hop
        unfold StepSaid at C13
        go_wp2_with (go_at_call 13; refine (C13 _).mono ?_; rintro e w2 ⟨v2, N2, rfl, hB2, hl1, hl2, hk2, hb2⟩; clear C13)
        go_roundw
        case rel => exact ⟨k + 1, N2, by omega, by go_num, by omega, by omega, hB2, hb.trans (((HAL.out _).mono sr).trans hb2)⟩
        case measure => simp [intOf]; omega
      · have HB := Lib.hid (fun o => hB.below (hal o))
        have HAL := Lib.hid hal
        clear hB hal hop
        go_wp2_with fail
        go_roundw
        case rel => exact ⟨k + 1, N, by omega, by go_num, by omega, by omega, HB.out _, hb.trans ((HAL.out _).mono sr)⟩
        case measure => simp [intOf]; omega
    · have C16 := few16 AP nP cP zP false 0 wr ((hP.below hb).more sr)
      unfold FewSaid at C16
      clear hP
      have CX := fun (w2 : World) (A2 : Option Addr) (c2 : Nat) (ps : List Int) (hB2 : Both w2 w.heap.size w.heap.size (.slice A4 N.length c4) N) (ho2 : w2.ownsRow wr.heap.size 3 1 (.slice A2 ps.length c2) ps.length (ints .i64 ps)) (hps : ps.length ≤ 5) => replace22 hB2.arena hB2.ok z y A2 ps.length c2 ps (own_mono ho2 (Nat.zero_le _)) (by omega) hB2.lo (by omega) (fun i hi => Nat.le_trans (hB2.wd i hi) (by omega))
      go_wp2_with (go_at_call 16; refine C16.mono ?_; rintro e w2 ⟨A2, c2, ps, rfl, hps, ho2, hb2⟩; clear C16; have hB2 := hB.below hb2; clear hB)
      have C22 := CX w2 A2 c2 ps hB2 ho2 hps
      clear CX
      have hbw2 := hb.trans (hb2.mono sr)
      have s2 := hbw2.size
      obtain ⟨-, ha2, hd2, hN2, hwd2⟩ := hB2
      have HN := Lib.hid hN2
      have HWD := Lib.hid hwd2
      clear hwd2 hb2
      unfold RepSaid at C22
      by_cases hv : (gatR N z ps).isSome ∧ 0 ≤ y ∧ y < N.length
      · obtain ⟨r, rfl, hr, hgl⟩ := gatR_isSome hv.1
        obtain ⟨t, rfl⟩ := Int.eq_ofNat_of_zero_le hv.2.1
        have htl : t < N.length := by omega
        have hok := repN_ok hN2 ps r t hr htl hgl
        have hat := repN_at hN2 ps r t hr htl hgl _ (fun i _ => rfl)
        have C22 := C22.mono (R' := fun e w' => e = .returned (.tuple #[.int .i64 (repN N r ps t).2, .int .i64 0]) ∧ Arena w' w.heap.size w.heap.size (repN N r ps t).1 ∧ Kept9 w2 w' ∧ Below w.heap.size w2 w') (fun e w' h => by rw [if_pos ⟨⟨by omega, by omega, hgl⟩, hv.2⟩] at h; exact h)
        have HAZ := Lib.hid (show atZ N (r : Nat) ps = (((gatR N (r : Nat) ps).getD 0 : Nat) : Int) from by unfold atZ; obtain ⟨q, hq⟩ := Option.isSome_iff_exists.1 hv.1; rw [hq]; rfl)
        obtain ⟨S, hS⟩ : ∃ S, repN N r ps t = S := ⟨_, rfl⟩
        rw [hS] at hok hat C22
        obtain ⟨M, m'⟩ := S
        have HOK := Lib.hid hok
        have HAT := Lib.hid hat
        have HM : Hid (OkN M) := Lib.hid hok.ok
        have HME : Hid (∀ i, i < N.length → gn M i = gn N i) := Lib.hid hok.old
        have HMP : Hid (∀ i : Nat, i < N.length → pr M i = pr N i) := Lib.hid hok.pr
        have hML : N.length ≤ M.length := by have := hok.len; simp only at this; omega
        have HML : Hid (M.length = N.length + ps.length) := Lib.hid hok.len
        have hmlt : m' < M.length := hok.lt
        clear hok hat hS hgl hv hN2
        go_wp2_with (go_at_call 22; refine C22.mono ?_; rintro e w5 ⟨rfl, ha5, hk5, hb5⟩; clear C22)
        have hd5 := hd2.kept hk5
        have ho5 := hk5.own ho2 (by decide) (by decide)
        have hbw5 := hbw2.trans hb5
        have s5 := hbw5.size
        obtain ⟨-, g, bv, kv, hg, hnode⟩ := hd5.node
        have HG := Lib.hid hg
        have HND := Lib.hid hnode
        have HD5 := Lib.hid hd5
        clear hg hnode ha2 hd2 ho2 hd5
        go_loopw [49] (fun i w6 => ∃ k : Nat, k ≤ N.length ∧ i = .int .i64 k ∧ Below w5.heap.size w5 w6)
          (fun i _ => N.length - (intOf i).toNat)
        case atStart => exact ⟨0, Nat.zero_le _, rfl, Below.refl _ _⟩
        case round =>
          obtain ⟨k, hk, rfl, hb⟩ := hrel
          have har := ha5.below hb
          by_cases hlt : k < N.length
          · obtain rfl := HG.out (by omega)
            obtain ⟨n0, n1, n2, n3, n4, o5, o6⟩ := HND.out k hlt
            obtain ⟨A5, c5, hv5, ho5'⟩ := own_form o5
            obtain ⟨A6, c6, hv6, ho6⟩ := own_form o6
            rw [hv5] at n2
            rw [hv6] at n3
            have hgl := World.block_lt_of_cell? _ _ n0
            have m0 := (hb.cell (p := ⟨g, k * 5, none⟩) hgl).trans n0
            have m1 := (hb.cell (p := ⟨g, k * 5 + 1, none⟩) hgl).trans n1
            have m2 := (hb.cell (p := ⟨g, k * 5 + 2, none⟩) hgl).trans n2
            have m3 := (hb.cell (p := ⟨g, k * 5 + 3, none⟩) hgl).trans n3
            have m4 := (hb.cell (p := ⟨g, k * 5 + 4, none⟩) hgl).trans n4
            have hr5 := (Rd.of_own ho5').below hb
            have hr6 := (Rd.of_own ho6).below hb
            have hprl : (pr N (k : Nat)).length ≤ 3000 := by rw [← HN.out.wide k hlt]; exact HWD.out k hlt
            have K19 : ∀ W, Arena W w.heap.size w.heap.size M → Calls Try.prog 19 #[.pointer (some ⟨w.heap.size, 0, none⟩), .int .i64 (k : Nat)] W (OwnSaid 5 (pr N (k : Nat)).length (ints .u8 (pr N (k : Nat))) W) := fun W h => by have := print19_at h (k := k) (by omega) HM.out (by rw [HMP.out k hlt]; omega); rwa [HMP.out k hlt] at this
            have K23 : ∀ W, Arena W w.heap.size w.heap.size M → Calls Try.prog 23 #[.pointer (some ⟨w.heap.size, 0, none⟩), .int .i64 (k : Nat)] W fun e w' => e = .returned (.int .i64 (gn N k).kind) ∧ Below W.heap.size W w' := fun W h => by have := kind23_at h (k := k) (by omega); rwa [HME.out k hlt] at this
            unfold OwnSaid at K19
            clear n0 n1 n2 n3 n4 o5 o6 hv5 hv6 ho5' ho6
            go_wp2_with fail
            have hX1 : (wr.alloc (.cells #[.int .i64 (gn N k).kind, .bool (gn N k).leaf, .slice A5 (pr N (k : Nat)).length c5, .slice A6 (gn N k).kids.length c6, .int .i64 (gn N k).cnt] 47)).heap[wr.heap.size]? = _ := heap_alloc_new wr _
            have hb1 := (Below.refl wr.heap.size wr).alloc (Nat.le_refl _) (.cells #[.int .i64 (gn N k).kind, .bool (gn N k).leaf, .slice A5 (pr N (k : Nat)).length c5, .slice A6 (gn N k).kids.length c6, .int .i64 (gn N k).cnt] 47)
            have ha1 := har.below hb1
            have hr51 := hr5.below (hb1.mono hb.size)
            have hr61 := hr6.below (hb1.mono hb.size)
            have hbw1 := hb.trans (hb1.mono hb.size)
            have hs1 : wr.heap.size < (wr.alloc (.cells #[.int .i64 (gn N k).kind, .bool (gn N k).leaf, .slice A5 (pr N (k : Nat)).length c5, .slice A6 (gn N k).kids.length c6, .int .i64 (gn N k).cnt] 47)).heap.size := by simp
            clear hb1
            generalize (wr.alloc (.cells #[.int .i64 (gn N k).kind, .bool (gn N k).leaf, .slice A5 (pr N (k : Nat)).length c5, .slice A6 (gn N k).kids.length c6, .int .i64 (gn N k).cnt] 47)) = w1 at *
            have x0 : w1.cell? ⟨wr.heap.size, 0, none⟩ = some (.int .i64 (gn N k).kind) := cell_of_row w1 _ 0 _ _ _ hX1
            have x1 : w1.cell? ⟨wr.heap.size, 1, none⟩ = some (.bool (gn N k).leaf) := cell_of_row w1 _ 1 _ _ _ hX1
            have x2 : w1.cell? ⟨wr.heap.size, 2, none⟩ = some (.slice A5 (pr N (k : Nat)).length c5) := cell_of_row w1 _ 2 _ _ _ hX1
            have x3 : w1.cell? ⟨wr.heap.size, 3, none⟩ = some (.slice A6 (gn N k).kids.length c6) := cell_of_row w1 _ 3 _ _ _ hX1
            have x4 : w1.cell? ⟨wr.heap.size, 4, none⟩ = some (.int .i64 (gn N k).cnt) := cell_of_row w1 _ 4 _ _ _ hX1
            refine wp_region_held_drew (S := fun W => Below w1.drew.heap.size w1.drew W) (by kernel_rfl) (Below.refl _ _) (fun hHeld => ?_)
            change wpAnyH _ _ _ _ _ 16 #[false, false, false, false, false, false, false, false, false, false, false, false, false, false, false, false] _ _
            have wa_a := ha1.drew
            have wa_h : wr.heap.size < w1.drew.heap.size := hs1
            have wa_x0 : w1.drew.cell? ⟨wr.heap.size, 0, none⟩ = some (.int .i64 (gn N k).kind) := x0
            have wa_x1 : w1.drew.cell? ⟨wr.heap.size, 1, none⟩ = some (.bool (gn N k).leaf) := x1
            have wa_x2 : w1.drew.cell? ⟨wr.heap.size, 2, none⟩ = some (.slice A5 (pr N (k : Nat)).length c5) := x2
            have wa_x3 : w1.drew.cell? ⟨wr.heap.size, 3, none⟩ = some (.slice A6 (gn N k).kids.length c6) := x3
            have wa_x4 : w1.drew.cell? ⟨wr.heap.size, 4, none⟩ = some (.int .i64 (gn N k).cnt) := x4
            have wa_r := hr51.drew
            have wa_q := hr61.drew
            have wa_b := hbw1.drew
            generalize w1.drew = wa at *
            refine wpAnyH_take (i := 0) (oi := _) (v := ?_) rfl (by kernel_rfl) (by kernel_rfl) (by kernel_rfl) (fun _ _ _ h => h) (Or.inl ⟨by rfl, ?_⟩) hHeld ?_
            rotate_left
            · intro w9 hSw; go_simp; (try with_reducible rfl)
            simp only [List.getElem_toArray, List.getElem_cons_zero, Act.put, List.setIfInBounds_toArray, List.set_cons_zero, List.set_cons_succ]
            refine wpAnyH_take (i := 1) (oi := _) (v := ?_) rfl (by kernel_rfl) (by kernel_rfl) (by kernel_rfl) (fun _ _ _ h => h) (Or.inl ⟨by rfl, ?_⟩) hHeld ?_
            rotate_left
            · intro w9 hSw; go_simp; (try with_reducible rfl)
            simp only [List.getElem_toArray, List.getElem_cons_zero, List.getElem_cons_succ, Act.put, List.setIfInBounds_toArray, List.set_cons_zero, List.set_cons_succ]
            refine wpAnyH_take (i := 4) (oi := _) (v := ?_) rfl (by kernel_rfl) (by kernel_rfl) (by kernel_rfl) (fun _ _ _ h => h) (Or.inl ⟨by rfl, ?_⟩) hHeld ?_
            rotate_left
            · intro w9 hSw; go_simp; (try with_reducible rfl)
            simp only [List.getElem_toArray, List.getElem_cons_zero, List.getElem_cons_succ, Act.put, List.setIfInBounds_toArray, List.set_cons_zero, List.set_cons_succ]
            refine wpAnyH_take (i := 5) (oi := _) (v := ?_) rfl (by kernel_rfl) (by kernel_rfl) (by kernel_rfl) (fun _ _ _ h => h) (Or.inl ⟨by rfl, ?_⟩) hHeld ?_
            rotate_left
            · intro w9 hSw; have s2 := (hSw.cell (p := ⟨wr.heap.size, 2, none⟩) wa_h).trans wa_x2; go_simp; (try with_reducible rfl)
            simp only [List.getElem_toArray, List.getElem_cons_zero, List.getElem_cons_succ, Act.put, List.setIfInBounds_toArray, List.set_cons_zero, List.set_cons_succ]
            refine wpAnyH_take (i := 6) (oi := _) (v := ?_) rfl (by kernel_rfl) (by kernel_rfl) (by kernel_rfl) (fun _ _ _ h => h) (Or.inl ⟨by rfl, ?_⟩) hHeld ?_
            rotate_left
            · intro w9 hSw; have s9 := run_str' (wa_r.belowAt hSw (Nat.le_of_lt (Nat.lt_of_le_of_lt hb.size wa_h))); go_simp; (try with_reducible rfl)
            simp only [List.getElem_toArray, List.getElem_cons_zero, List.getElem_cons_succ, Act.put, List.setIfInBounds_toArray, List.set_cons_zero, List.set_cons_succ]
            refine wpAnyH_ready (rs := [2]) (by kernel_rfl) (by simp) ?_
            refine AllReadyH.cons (o := _) rfl (fun K hK => ?_) AllReadyH.nil
            go_simp
            refine (K19 _ wa_a).mono ?_
            rintro e wb ⟨A7, c7, rfl, ho7, hb_wb⟩
            refine hK.out _ _ hb_wb (fun _ => ?_)
            clear hK
            refine wpAnyH_mono (S' := fun W => Below wb.heap.size wb W) (fun W h => Below.trans hb_wb (h.mono hb_wb.size)) _ _ _ _ ?_
            have hHeld1 : (fun W => Below wb.heap.size wb W) wb := Below.refl _ _
            have wb_a := wa_a.below hb_wb
            have wb_h : wr.heap.size < wb.heap.size := Nat.lt_of_lt_of_le wa_h hb_wb.size
            have wb_x0 := (hb_wb.cell (p := ⟨wr.heap.size, 0, none⟩) wa_h).trans wa_x0
            have wb_x1 := (hb_wb.cell (p := ⟨wr.heap.size, 1, none⟩) wa_h).trans wa_x1
            have wb_x2 := (hb_wb.cell (p := ⟨wr.heap.size, 2, none⟩) wa_h).trans wa_x2
            have wb_x3 := (hb_wb.cell (p := ⟨wr.heap.size, 3, none⟩) wa_h).trans wa_x3
            have wb_x4 := (hb_wb.cell (p := ⟨wr.heap.size, 4, none⟩) wa_h).trans wa_x4
            have wb_r := (wa_r.belowAt hb_wb (Nat.le_of_lt (Nat.lt_of_le_of_lt hb.size wa_h)))
            have wb_q := (wa_q.belowAt hb_wb (Nat.le_of_lt (Nat.lt_of_le_of_lt hb.size wa_h)))
            have wb_b := wa_b.trans (hb_wb.mono (Nat.le_of_lt (Nat.lt_of_le_of_lt hb.size wa_h)))
            clear wa_x0 wa_x1 wa_x2 wa_x3 wa_x4
            have r7 := Rd.of_own ho7
            refine wpAnyH_take (i := 3) (oi := _) (v := ?_) rfl (by kernel_rfl) (by kernel_rfl) (by kernel_rfl) (fun _ _ _ h => h) (Or.inl ⟨by rfl, ?_⟩) hHeld1 ?_
            rotate_left
            · intro w9 hSw; have s9 := run_str' (r7.below hSw); go_simp; (try with_reducible rfl)
            simp only [List.getElem_toArray, List.getElem_cons_zero, List.getElem_cons_succ, Act.put, List.setIfInBounds_toArray, List.set_cons_zero, List.set_cons_succ]
            refine wpAnyH_take (i := 7) (oi := _) (v := ?_) rfl (by kernel_rfl) (by kernel_rfl) (by kernel_rfl) (fun _ _ _ h => h) (Or.inl ⟨by rfl, ?_⟩) hHeld1 ?_
            rotate_left
            · intro w9 hSw; go_simp; (try with_reducible rfl)
            simp only [List.getElem_toArray, List.getElem_cons_zero, List.getElem_cons_succ, Act.put, List.setIfInBounds_toArray, List.set_cons_zero, List.set_cons_succ]
            refine wpAnyH_take (i := 8) (oi := _) (v := ?_) rfl (by kernel_rfl) (by kernel_rfl) (by kernel_rfl) (fun _ _ _ h => h) (Or.inl ⟨by rfl, ?_⟩) hHeld1 ?_
            rotate_left
            · intro w9 hSw; go_simp; (try with_reducible rfl)
            simp only [List.getElem_toArray, List.getElem_cons_zero, List.getElem_cons_succ, Act.put, List.setIfInBounds_toArray, List.set_cons_zero, List.set_cons_succ]
            refine wpAnyH_take (i := 9) (oi := _) (v := ?_) rfl (by kernel_rfl) (by kernel_rfl) (by kernel_rfl) (fun _ _ _ h => h) (Or.inl ⟨by rfl, ?_⟩) hHeld1 ?_
            rotate_left
            · intro w9 hSw; go_simp; (try with_reducible rfl)
            simp only [List.getElem_toArray, List.getElem_cons_zero, List.getElem_cons_succ, Act.put, List.setIfInBounds_toArray, List.set_cons_zero, List.set_cons_succ]
            refine wpAnyH_take (i := 10) (oi := _) (v := ?_) rfl (by kernel_rfl) (by kernel_rfl) (by kernel_rfl) (fun _ _ _ h => h) (Or.inl ⟨by rfl, ?_⟩) hHeld1 ?_
            rotate_left
            · intro w9 hSw; go_simp; (try with_reducible rfl)
            simp only [List.getElem_toArray, List.getElem_cons_zero, List.getElem_cons_succ, Act.put, List.setIfInBounds_toArray, List.set_cons_zero, List.set_cons_succ]
            refine wpAnyH_take (i := 12) (oi := _) (v := ?_) rfl (by kernel_rfl) (by kernel_rfl) (by kernel_rfl) (fun _ _ _ h => h) (Or.inl ⟨by rfl, ?_⟩) hHeld1 ?_
            rotate_left
            · intro w9 hSw; go_simp; (try with_reducible rfl)
            simp only [List.getElem_toArray, List.getElem_cons_zero, List.getElem_cons_succ, Act.put, List.setIfInBounds_toArray, List.set_cons_zero, List.set_cons_succ]
            refine wpAnyH_take (i := 13) (oi := _) (v := ?_) rfl (by kernel_rfl) (by kernel_rfl) (by kernel_rfl) (fun _ _ _ h => h) (Or.inl ⟨by rfl, ?_⟩) hHeld1 ?_
            rotate_left
            · intro w9 hSw; have s0 := (hSw.cell (p := ⟨wr.heap.size, 0, none⟩) wb_h).trans wb_x0; go_simp; (try with_reducible rfl)
            simp only [List.getElem_toArray, List.getElem_cons_zero, List.getElem_cons_succ, Act.put, List.setIfInBounds_toArray, List.set_cons_zero, List.set_cons_succ]
            refine wpAnyH_ready (rs := [11]) (by kernel_rfl) (by simp) ?_
            refine AllReadyH.cons (o := _) rfl (fun K hK => ?_) AllReadyH.nil
            go_simp
            refine (K23 _ wb_a).mono ?_
            rintro e wc ⟨rfl, hb_wc⟩
            refine hK.out _ _ hb_wc (fun _ => ?_)
            clear hK
            refine wpAnyH_mono (S' := fun W => Below wc.heap.size wc W) (fun W h => Below.trans hb_wc (h.mono hb_wc.size)) _ _ _ _ ?_
            have hHeld2 : (fun W => Below wc.heap.size wc W) wc := Below.refl _ _
            have wc_a := wb_a.below hb_wc
            have wc_h : wr.heap.size < wc.heap.size := Nat.lt_of_lt_of_le wb_h hb_wc.size
            have wc_x0 := (hb_wc.cell (p := ⟨wr.heap.size, 0, none⟩) wb_h).trans wb_x0
            have wc_x1 := (hb_wc.cell (p := ⟨wr.heap.size, 1, none⟩) wb_h).trans wb_x1
            have wc_x2 := (hb_wc.cell (p := ⟨wr.heap.size, 2, none⟩) wb_h).trans wb_x2
            have wc_x3 := (hb_wc.cell (p := ⟨wr.heap.size, 3, none⟩) wb_h).trans wb_x3
            have wc_x4 := (hb_wc.cell (p := ⟨wr.heap.size, 4, none⟩) wb_h).trans wb_x4
            have wc_r := (wb_r.belowAt hb_wc (Nat.le_of_lt (Nat.lt_of_le_of_lt hb.size wb_h)))
            have wc_q := (wb_q.belowAt hb_wc (Nat.le_of_lt (Nat.lt_of_le_of_lt hb.size wb_h)))
            have wc_b := wb_b.trans (hb_wc.mono (Nat.le_of_lt (Nat.lt_of_le_of_lt hb.size wb_h)))
            clear wb_x0 wb_x1 wb_x2 wb_x3 wb_x4
            refine wpAnyH_take (i := 14) (oi := _) (v := ?_) rfl (by kernel_rfl) (by kernel_rfl) (by kernel_rfl) (fun _ _ _ h => h) (Or.inl ⟨by rfl, ?_⟩) hHeld2 ?_
            rotate_left
            · intro w9 hSw; go_simp; (try with_reducible rfl)
            simp only [List.getElem_toArray, List.getElem_cons_zero, List.getElem_cons_succ, Act.put, List.setIfInBounds_toArray, List.set_cons_zero, List.set_cons_succ]
            refine wpAnyH_take (i := 15) (oi := _) (v := ?_) rfl (by kernel_rfl) (by kernel_rfl) (by kernel_rfl) (fun _ _ _ h => h) (Or.inl ⟨by rfl, ?_⟩) hHeld2 ?_
            rotate_left
            · intro w9 hSw; go_simp; (try with_reducible rfl)
            simp only [List.getElem_toArray, List.getElem_cons_zero, List.getElem_cons_succ, Act.put, List.setIfInBounds_toArray, List.set_cons_zero, List.set_cons_succ]
            refine wpAnyH_done (by kernel_rfl) ?_ _
            go_wp2_with fail
            go_roundw
            case rel => exact ⟨k + 1, by omega, by go_num, wc_b⟩
            case measure => simp [intOf]; omega
          · obtain rfl : k = N.length := by omega
            have hP6 := own_below ho5 hb
            have hD6 := HD5.out.below hb
            have hbw6 := hbw5.trans (hb.mono s5)
            have s6 := hbw6.size
            have C17 := len17 har
            have C21 := at21 hD6 HN.out.good (r : Nat) A2 ps.length c2 ps (Rd.of_own hP6) (by omega)
            rw [HAZ.out] at C21
            have C24 := has24 (A4) N.length c4 (t : Nat) wr
            rw [show decide (0 ≤ (t : Int) ∧ (t : Int) < N.length) = true by simpa using htl] at C24
            have C20 : Calls Try.prog 20 #[.pointer (some ⟨w.heap.size, 0, none⟩), .int .i64 (m' : Nat), .slice A2 ps.length c2] wr fun e w' => e = .returned (.tuple #[.int .i64 ((gatR M (m' : Nat) ps).getD 0 : Nat), .bool (gatR M (m' : Nat) ps).isSome]) ∧ Below wr.heap.size wr w' := at20_any har HM.out.good (m' : Nat) A2 ps.length c2 ps (Rd.of_own hP6) (by omega)
            rw [gatR_in hmlt, show gatL M m' ps = some t from HAT.out] at C20
            have C17 := fun W (hb : Below wr.heap.size wr W) => len17 (har.below hb)
            have hln := HML.out
            rw [hln] at C17
            clear hln
            generalize (gatR N (r : Nat) ps).getD 0 = q at *
            go_wp2_with (first | (go_at_call 21; refine C21.mono ?_; rintro e w7 ⟨rfl, rfl⟩; clear C21) | (go_at_call 24; refine C24.mono ?_; rintro e w7 ⟨rfl, rfl⟩; clear C24) | (go_at_call 20; refine C20.mono ?_; rintro e w8 ⟨rfl, hb8⟩; clear C20) | (go_at_call 17; refine (C17 _ hb8).mono ?_; rintro e w7 ⟨rfl, rfl⟩; clear C17) | (go_at_call 15; refine (awake15 _).mono ?_; rintro e w9 ⟨rfl, hb9⟩))
            go_ret
            exact ⟨rfl, hbw6.trans ((hb8.mono s6).trans (hb9.mono (Nat.le_trans s6 hb8.size)))⟩
      · have C22 := C22.mono (R' := fun e w' => e = .returned (.tuple #[.int .i64 0, .int .i64 6]) ∧ Below w2.heap.size w2 w') (fun e w' h => by rw [if_neg (fun hh => hv ⟨by unfold gatR; rw [if_pos ⟨hh.1.1, hh.1.2.1⟩]; exact hh.1.2.2, hh.2⟩)] at h; exact h)
        have HV := Lib.hid hv
        obtain ⟨M, hM⟩ : ∃ M, M = N := ⟨N, rfl⟩
        have HM : Hid (OkN M) := Lib.hid (by rw [hM]; exact hN2)
        have HME : Hid (∀ i, i < N.length → gn M i = gn N i) := Lib.hid (by rw [hM]; exact fun _ _ => rfl)
        have HMP : Hid (∀ i : Nat, i < N.length → pr M i = pr N i) := Lib.hid (by rw [hM]; exact fun _ _ => rfl)
        have hML : N.length ≤ M.length := by rw [hM]; exact Nat.le_refl _
        have HML : Hid (M.length = N.length) := Lib.hid (by rw [hM])
        have ha2' : Arena w2 w.heap.size w.heap.size M := by rw [hM]; exact ha2
        clear hM hv hN2
        go_wp2_with (go_at_call 22; refine C22.mono ?_; rintro e w5 ⟨rfl, hb5⟩; clear C22)
        have ha5 := ha2'.below hb5
        have hd5 := hd2.below hb5
        have ho5 := own_below ho2 hb5
        have hbw5 := hbw2.trans (hb5.mono s2)
        have s5 := hbw5.size
        obtain ⟨-, g, bv, kv, hg, hnode⟩ := hd5.node
        have HG := Lib.hid hg
        have HND := Lib.hid hnode
        have HD5 := Lib.hid hd5
        clear hg hnode ha2 hd2 ho2 hd5
        go_loopw [49] (fun i w6 => ∃ k : Nat, k ≤ N.length ∧ i = .int .i64 k ∧ Below w5.heap.size w5 w6)
          (fun i _ => N.length - (intOf i).toNat)
        case atStart => exact ⟨0, Nat.zero_le _, rfl, Below.refl _ _⟩
        case round =>
          obtain ⟨k, hk, rfl, hb⟩ := hrel
          have har := ha5.below hb
          by_cases hlt : k < N.length
          · obtain rfl := HG.out (by omega)
            obtain ⟨n0, n1, n2, n3, n4, o5, o6⟩ := HND.out k hlt
            obtain ⟨A5, c5, hv5, ho5'⟩ := own_form o5
            obtain ⟨A6, c6, hv6, ho6⟩ := own_form o6
            rw [hv5] at n2
            rw [hv6] at n3
            have hgl := World.block_lt_of_cell? _ _ n0
            have m0 := (hb.cell (p := ⟨g, k * 5, none⟩) hgl).trans n0
            have m1 := (hb.cell (p := ⟨g, k * 5 + 1, none⟩) hgl).trans n1
            have m2 := (hb.cell (p := ⟨g, k * 5 + 2, none⟩) hgl).trans n2
            have m3 := (hb.cell (p := ⟨g, k * 5 + 3, none⟩) hgl).trans n3
            have m4 := (hb.cell (p := ⟨g, k * 5 + 4, none⟩) hgl).trans n4
            have hr5 := (Rd.of_own ho5').below hb
            have hr6 := (Rd.of_own ho6).below hb
            have hprl : (pr N (k : Nat)).length ≤ 3000 := by rw [← HN.out.wide k hlt]; exact HWD.out k hlt
            have K19 : ∀ W, Arena W w.heap.size w.heap.size M → Calls Try.prog 19 #[.pointer (some ⟨w.heap.size, 0, none⟩), .int .i64 (k : Nat)] W (OwnSaid 5 (pr N (k : Nat)).length (ints .u8 (pr N (k : Nat))) W) := fun W h => by have := print19_at h (k := k) (by omega) HM.out (by rw [HMP.out k hlt]; omega); rwa [HMP.out k hlt] at this
            have K23 : ∀ W, Arena W w.heap.size w.heap.size M → Calls Try.prog 23 #[.pointer (some ⟨w.heap.size, 0, none⟩), .int .i64 (k : Nat)] W fun e w' => e = .returned (.int .i64 (gn N k).kind) ∧ Below W.heap.size W w' := fun W h => by have := kind23_at h (k := k) (by omega); rwa [HME.out k hlt] at this
            unfold OwnSaid at K19
            clear n0 n1 n2 n3 n4 o5 o6 hv5 hv6 ho5' ho6
            go_wp2_with fail
            have hX1 : (wr.alloc (.cells #[.int .i64 (gn N k).kind, .bool (gn N k).leaf, .slice A5 (pr N (k : Nat)).length c5, .slice A6 (gn N k).kids.length c6, .int .i64 (gn N k).cnt] 47)).heap[wr.heap.size]? = _ := heap_alloc_new wr _
            have hb1 := (Below.refl wr.heap.size wr).alloc (Nat.le_refl _) (.cells #[.int .i64 (gn N k).kind, .bool (gn N k).leaf, .slice A5 (pr N (k : Nat)).length c5, .slice A6 (gn N k).kids.length c6, .int .i64 (gn N k).cnt] 47)
            have ha1 := har.below hb1
            have hr51 := hr5.below (hb1.mono hb.size)
            have hr61 := hr6.below (hb1.mono hb.size)
            have hbw1 := hb.trans (hb1.mono hb.size)
            have hs1 : wr.heap.size < (wr.alloc (.cells #[.int .i64 (gn N k).kind, .bool (gn N k).leaf, .slice A5 (pr N (k : Nat)).length c5, .slice A6 (gn N k).kids.length c6, .int .i64 (gn N k).cnt] 47)).heap.size := by simp
            clear hb1
            generalize (wr.alloc (.cells #[.int .i64 (gn N k).kind, .bool (gn N k).leaf, .slice A5 (pr N (k : Nat)).length c5, .slice A6 (gn N k).kids.length c6, .int .i64 (gn N k).cnt] 47)) = w1 at *
            have x0 : w1.cell? ⟨wr.heap.size, 0, none⟩ = some (.int .i64 (gn N k).kind) := cell_of_row w1 _ 0 _ _ _ hX1
            have x1 : w1.cell? ⟨wr.heap.size, 1, none⟩ = some (.bool (gn N k).leaf) := cell_of_row w1 _ 1 _ _ _ hX1
            have x2 : w1.cell? ⟨wr.heap.size, 2, none⟩ = some (.slice A5 (pr N (k : Nat)).length c5) := cell_of_row w1 _ 2 _ _ _ hX1
            have x3 : w1.cell? ⟨wr.heap.size, 3, none⟩ = some (.slice A6 (gn N k).kids.length c6) := cell_of_row w1 _ 3 _ _ _ hX1
            have x4 : w1.cell? ⟨wr.heap.size, 4, none⟩ = some (.int .i64 (gn N k).cnt) := cell_of_row w1 _ 4 _ _ _ hX1
            refine wp_region_held_drew (S := fun W => Below w1.drew.heap.size w1.drew W) (by kernel_rfl) (Below.refl _ _) (fun hHeld => ?_)
            change wpAnyH _ _ _ _ _ 16 #[false, false, false, false, false, false, false, false, false, false, false, false, false, false, false, false] _ _
            have wa_a := ha1.drew
            have wa_h : wr.heap.size < w1.drew.heap.size := hs1
            have wa_x0 : w1.drew.cell? ⟨wr.heap.size, 0, none⟩ = some (.int .i64 (gn N k).kind) := x0
            have wa_x1 : w1.drew.cell? ⟨wr.heap.size, 1, none⟩ = some (.bool (gn N k).leaf) := x1
            have wa_x2 : w1.drew.cell? ⟨wr.heap.size, 2, none⟩ = some (.slice A5 (pr N (k : Nat)).length c5) := x2
            have wa_x3 : w1.drew.cell? ⟨wr.heap.size, 3, none⟩ = some (.slice A6 (gn N k).kids.length c6) := x3
            have wa_x4 : w1.drew.cell? ⟨wr.heap.size, 4, none⟩ = some (.int .i64 (gn N k).cnt) := x4
            have wa_r := hr51.drew
            have wa_q := hr61.drew
            have wa_b := hbw1.drew
            generalize w1.drew = wa at *
            refine wpAnyH_take (i := 0) (oi := _) (v := ?_) rfl (by kernel_rfl) (by kernel_rfl) (by kernel_rfl) (fun _ _ _ h => h) (Or.inl ⟨by rfl, ?_⟩) hHeld ?_
            rotate_left
            · intro w9 hSw; go_simp; (try with_reducible rfl)
            simp only [List.getElem_toArray, List.getElem_cons_zero, Act.put, List.setIfInBounds_toArray, List.set_cons_zero, List.set_cons_succ]
            refine wpAnyH_take (i := 1) (oi := _) (v := ?_) rfl (by kernel_rfl) (by kernel_rfl) (by kernel_rfl) (fun _ _ _ h => h) (Or.inl ⟨by rfl, ?_⟩) hHeld ?_
            rotate_left
            · intro w9 hSw; go_simp; (try with_reducible rfl)
            simp only [List.getElem_toArray, List.getElem_cons_zero, List.getElem_cons_succ, Act.put, List.setIfInBounds_toArray, List.set_cons_zero, List.set_cons_succ]
            refine wpAnyH_take (i := 4) (oi := _) (v := ?_) rfl (by kernel_rfl) (by kernel_rfl) (by kernel_rfl) (fun _ _ _ h => h) (Or.inl ⟨by rfl, ?_⟩) hHeld ?_
            rotate_left
            · intro w9 hSw; go_simp; (try with_reducible rfl)
            simp only [List.getElem_toArray, List.getElem_cons_zero, List.getElem_cons_succ, Act.put, List.setIfInBounds_toArray, List.set_cons_zero, List.set_cons_succ]
            refine wpAnyH_take (i := 5) (oi := _) (v := ?_) rfl (by kernel_rfl) (by kernel_rfl) (by kernel_rfl) (fun _ _ _ h => h) (Or.inl ⟨by rfl, ?_⟩) hHeld ?_
            rotate_left
            · intro w9 hSw; have s2 := (hSw.cell (p := ⟨wr.heap.size, 2, none⟩) wa_h).trans wa_x2; go_simp; (try with_reducible rfl)
            simp only [List.getElem_toArray, List.getElem_cons_zero, List.getElem_cons_succ, Act.put, List.setIfInBounds_toArray, List.set_cons_zero, List.set_cons_succ]
            refine wpAnyH_take (i := 6) (oi := _) (v := ?_) rfl (by kernel_rfl) (by kernel_rfl) (by kernel_rfl) (fun _ _ _ h => h) (Or.inl ⟨by rfl, ?_⟩) hHeld ?_
            rotate_left
            · intro w9 hSw; have s9 := run_str' (wa_r.belowAt hSw (Nat.le_of_lt (Nat.lt_of_le_of_lt hb.size wa_h))); go_simp; (try with_reducible rfl)
            simp only [List.getElem_toArray, List.getElem_cons_zero, List.getElem_cons_succ, Act.put, List.setIfInBounds_toArray, List.set_cons_zero, List.set_cons_succ]
            refine wpAnyH_ready (rs := [2]) (by kernel_rfl) (by simp) ?_
            refine AllReadyH.cons (o := _) rfl (fun K hK => ?_) AllReadyH.nil
            go_simp
            refine (K19 _ wa_a).mono ?_
            rintro e wb ⟨A7, c7, rfl, ho7, hb_wb⟩
            refine hK.out _ _ hb_wb (fun _ => ?_)
            clear hK
            refine wpAnyH_mono (S' := fun W => Below wb.heap.size wb W) (fun W h => Below.trans hb_wb (h.mono hb_wb.size)) _ _ _ _ ?_
            have hHeld1 : (fun W => Below wb.heap.size wb W) wb := Below.refl _ _
            have wb_a := wa_a.below hb_wb
            have wb_h : wr.heap.size < wb.heap.size := Nat.lt_of_lt_of_le wa_h hb_wb.size
            have wb_x0 := (hb_wb.cell (p := ⟨wr.heap.size, 0, none⟩) wa_h).trans wa_x0
            have wb_x1 := (hb_wb.cell (p := ⟨wr.heap.size, 1, none⟩) wa_h).trans wa_x1
            have wb_x2 := (hb_wb.cell (p := ⟨wr.heap.size, 2, none⟩) wa_h).trans wa_x2
            have wb_x3 := (hb_wb.cell (p := ⟨wr.heap.size, 3, none⟩) wa_h).trans wa_x3
            have wb_x4 := (hb_wb.cell (p := ⟨wr.heap.size, 4, none⟩) wa_h).trans wa_x4
            have wb_r := (wa_r.belowAt hb_wb (Nat.le_of_lt (Nat.lt_of_le_of_lt hb.size wa_h)))
            have wb_q := (wa_q.belowAt hb_wb (Nat.le_of_lt (Nat.lt_of_le_of_lt hb.size wa_h)))
            have wb_b := wa_b.trans (hb_wb.mono (Nat.le_of_lt (Nat.lt_of_le_of_lt hb.size wa_h)))
            clear wa_x0 wa_x1 wa_x2 wa_x3 wa_x4
            have r7 := Rd.of_own ho7
            refine wpAnyH_take (i := 3) (oi := _) (v := ?_) rfl (by kernel_rfl) (by kernel_rfl) (by kernel_rfl) (fun _ _ _ h => h) (Or.inl ⟨by rfl, ?_⟩) hHeld1 ?_
            rotate_left
            · intro w9 hSw; have s9 := run_str' (r7.below hSw); go_simp; (try with_reducible rfl)
            simp only [List.getElem_toArray, List.getElem_cons_zero, List.getElem_cons_succ, Act.put, List.setIfInBounds_toArray, List.set_cons_zero, List.set_cons_succ]
            refine wpAnyH_take (i := 7) (oi := _) (v := ?_) rfl (by kernel_rfl) (by kernel_rfl) (by kernel_rfl) (fun _ _ _ h => h) (Or.inl ⟨by rfl, ?_⟩) hHeld1 ?_
            rotate_left
            · intro w9 hSw; go_simp; (try with_reducible rfl)
            simp only [List.getElem_toArray, List.getElem_cons_zero, List.getElem_cons_succ, Act.put, List.setIfInBounds_toArray, List.set_cons_zero, List.set_cons_succ]
            refine wpAnyH_take (i := 8) (oi := _) (v := ?_) rfl (by kernel_rfl) (by kernel_rfl) (by kernel_rfl) (fun _ _ _ h => h) (Or.inl ⟨by rfl, ?_⟩) hHeld1 ?_
            rotate_left
            · intro w9 hSw; go_simp; (try with_reducible rfl)
            simp only [List.getElem_toArray, List.getElem_cons_zero, List.getElem_cons_succ, Act.put, List.setIfInBounds_toArray, List.set_cons_zero, List.set_cons_succ]
            refine wpAnyH_take (i := 9) (oi := _) (v := ?_) rfl (by kernel_rfl) (by kernel_rfl) (by kernel_rfl) (fun _ _ _ h => h) (Or.inl ⟨by rfl, ?_⟩) hHeld1 ?_
            rotate_left
            · intro w9 hSw; go_simp; (try with_reducible rfl)
            simp only [List.getElem_toArray, List.getElem_cons_zero, List.getElem_cons_succ, Act.put, List.setIfInBounds_toArray, List.set_cons_zero, List.set_cons_succ]
            refine wpAnyH_take (i := 10) (oi := _) (v := ?_) rfl (by kernel_rfl) (by kernel_rfl) (by kernel_rfl) (fun _ _ _ h => h) (Or.inl ⟨by rfl, ?_⟩) hHeld1 ?_
            rotate_left
            · intro w9 hSw; go_simp; (try with_reducible rfl)
            simp only [List.getElem_toArray, List.getElem_cons_zero, List.getElem_cons_succ, Act.put, List.setIfInBounds_toArray, List.set_cons_zero, List.set_cons_succ]
            refine wpAnyH_take (i := 12) (oi := _) (v := ?_) rfl (by kernel_rfl) (by kernel_rfl) (by kernel_rfl) (fun _ _ _ h => h) (Or.inl ⟨by rfl, ?_⟩) hHeld1 ?_
            rotate_left
            · intro w9 hSw; go_simp; (try with_reducible rfl)
            simp only [List.getElem_toArray, List.getElem_cons_zero, List.getElem_cons_succ, Act.put, List.setIfInBounds_toArray, List.set_cons_zero, List.set_cons_succ]
            refine wpAnyH_take (i := 13) (oi := _) (v := ?_) rfl (by kernel_rfl) (by kernel_rfl) (by kernel_rfl) (fun _ _ _ h => h) (Or.inl ⟨by rfl, ?_⟩) hHeld1 ?_
            rotate_left
            · intro w9 hSw; have s0 := (hSw.cell (p := ⟨wr.heap.size, 0, none⟩) wb_h).trans wb_x0; go_simp; (try with_reducible rfl)
            simp only [List.getElem_toArray, List.getElem_cons_zero, List.getElem_cons_succ, Act.put, List.setIfInBounds_toArray, List.set_cons_zero, List.set_cons_succ]
            refine wpAnyH_ready (rs := [11]) (by kernel_rfl) (by simp) ?_
            refine AllReadyH.cons (o := _) rfl (fun K hK => ?_) AllReadyH.nil
            go_simp
            refine (K23 _ wb_a).mono ?_
            rintro e wc ⟨rfl, hb_wc⟩
            refine hK.out _ _ hb_wc (fun _ => ?_)
            clear hK
            refine wpAnyH_mono (S' := fun W => Below wc.heap.size wc W) (fun W h => Below.trans hb_wc (h.mono hb_wc.size)) _ _ _ _ ?_
            have hHeld2 : (fun W => Below wc.heap.size wc W) wc := Below.refl _ _
            have wc_a := wb_a.below hb_wc
            have wc_h : wr.heap.size < wc.heap.size := Nat.lt_of_lt_of_le wb_h hb_wc.size
            have wc_x0 := (hb_wc.cell (p := ⟨wr.heap.size, 0, none⟩) wb_h).trans wb_x0
            have wc_x1 := (hb_wc.cell (p := ⟨wr.heap.size, 1, none⟩) wb_h).trans wb_x1
            have wc_x2 := (hb_wc.cell (p := ⟨wr.heap.size, 2, none⟩) wb_h).trans wb_x2
            have wc_x3 := (hb_wc.cell (p := ⟨wr.heap.size, 3, none⟩) wb_h).trans wb_x3
            have wc_x4 := (hb_wc.cell (p := ⟨wr.heap.size, 4, none⟩) wb_h).trans wb_x4
            have wc_r := (wb_r.belowAt hb_wc (Nat.le_of_lt (Nat.lt_of_le_of_lt hb.size wb_h)))
            have wc_q := (wb_q.belowAt hb_wc (Nat.le_of_lt (Nat.lt_of_le_of_lt hb.size wb_h)))
            have wc_b := wb_b.trans (hb_wc.mono (Nat.le_of_lt (Nat.lt_of_le_of_lt hb.size wb_h)))
            clear wb_x0 wb_x1 wb_x2 wb_x3 wb_x4
            refine wpAnyH_take (i := 14) (oi := _) (v := ?_) rfl (by kernel_rfl) (by kernel_rfl) (by kernel_rfl) (fun _ _ _ h => h) (Or.inl ⟨by rfl, ?_⟩) hHeld2 ?_
            rotate_left
            · intro w9 hSw; go_simp; (try with_reducible rfl)
            simp only [List.getElem_toArray, List.getElem_cons_zero, List.getElem_cons_succ, Act.put, List.setIfInBounds_toArray, List.set_cons_zero, List.set_cons_succ]
            refine wpAnyH_take (i := 15) (oi := _) (v := ?_) rfl (by kernel_rfl) (by kernel_rfl) (by kernel_rfl) (fun _ _ _ h => h) (Or.inl ⟨by rfl, ?_⟩) hHeld2 ?_
            rotate_left
            · intro w9 hSw; go_simp; (try with_reducible rfl)
            simp only [List.getElem_toArray, List.getElem_cons_zero, List.getElem_cons_succ, Act.put, List.setIfInBounds_toArray, List.set_cons_zero, List.set_cons_succ]
            refine wpAnyH_done (by kernel_rfl) ?_ _
            go_wp2_with fail
            go_roundw
            case rel => exact ⟨k + 1, by omega, by go_num, wc_b⟩
            case measure => simp [intOf]; omega
          · obtain rfl : k = N.length := by omega
            have hP6 := own_below ho5 hb
            have hD6 := HD5.out.below hb
            have hbw6 := hbw5.trans (hb.mono s5)
            have s6 := hbw6.size
            have C17 := len17 har
            have C21 := at21 hD6 HN.out.good z A2 ps.length c2 ps (Rd.of_own hP6) (by omega)
            have hln := HML.out
            rw [hln] at C17
            clear hln
            cases hq : gatR N z ps with
            | none =>
              rw [atZ_none hq] at C21
              clear hq
              go_wp2_with (first | (go_at_call 21; refine C21.mono ?_; rintro e w7 ⟨rfl, rfl⟩; clear C21) | (go_at_call 24; refine C24.mono ?_; rintro e w7 ⟨rfl, rfl⟩; clear C24) | (go_at_call 17; refine C17.mono ?_; rintro e w7 ⟨rfl, rfl⟩; clear C17) | (go_at_call 15; refine (awake15 _).mono ?_; rintro e w9 ⟨rfl, hb9⟩))
              go_ret
              exact ⟨rfl, hbw6.trans (hb9.mono s6)⟩
            | some q =>
              rw [atZ_some hq] at C21
              have C24 := has24 A4 N.length c4 y wr
              rw [show decide (0 ≤ y ∧ y < (N.length : Int)) = false from decide_eq_false (fun hh => HV.out ⟨by rw [hq]; rfl, hh⟩)] at C24
              clear hq
              go_wp2_with (first | (go_at_call 21; refine C21.mono ?_; rintro e w7 ⟨rfl, rfl⟩; clear C21) | (go_at_call 24; refine C24.mono ?_; rintro e w7 ⟨rfl, rfl⟩; clear C24) | (go_at_call 17; refine C17.mono ?_; rintro e w7 ⟨rfl, rfl⟩; clear C17) | (go_at_call 15; refine (awake15 _).mono ?_; rintro e w9 ⟨rfl, hb9⟩))
              go_ret
              exact ⟨rfl, hbw6.trans (hb9.mono s6)⟩
end Go.Proofs.Ytbmbiffhgdkpiaa
