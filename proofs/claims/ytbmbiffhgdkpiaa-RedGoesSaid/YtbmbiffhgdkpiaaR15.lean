/- The walk of a cursor's Walk. No condition. -/
import Derived.Test.YtbmbiffhgdkpiaaR14
namespace Go.Proofs.Ytbmbiffhgdkpiaa
open Go.RowKit

set_option maxRecDepth 100000 in
set_option maxHeartbeats 8000000 in
theorem walk47 {w : World} {B ga : Nat} {N : List GN} (h : Arena w B ga N) (hN : OkN N) (hwd : ∀ i, i < N.length → (gn N i).w ≤ 100000) (root : Nat) (hr : root < N.length) (Q0 : List Int) (n f k : Int) (u : Option Addr) (hc : Chain (fun _ => True) w ga N root Q0 n f k u) (most : Int) (hmo : most ≤ 4096) :
    Calls Try.prog 47 #[.agg (cc (some ⟨ga, 0, none⟩) n f k u), .int .i64 most] w (WalkSaid ga N root ((preP N n.toNat Q0.reverse).take most.toNat) w) := by
  unfold WalkSaid
  have HN := Lib.hid hN
  have HW := Lib.hid hwd
  have HA := Lib.hid h
  have hT := two_new w (.cells (cc (some ⟨ga, 0, none⟩) n f k u) 59) (.cells (cc (some ⟨ga, 0, none⟩) n f k u) 59)
  have hX0 : ((w.alloc (.cells (cc (some ⟨ga, 0, none⟩) n f k u) 59)).alloc (.cells (cc (some ⟨ga, 0, none⟩) n f k u) 59)).heap[w.heap.size]? = some (.cells (cc (some ⟨ga, 0, none⟩) n f k u) 59 (0, 0)) := (heap_alloc_old _ _ (by simp)).trans (heap_alloc_new w _)
  have HX0 := Lib.hid hX0
  have HB0 := Lib.hid hT.2
  have HS0 : Hid (WSt w.heap.size ga N root ((w.alloc (.cells (cc (some ⟨ga, 0, none⟩) n f k u) 59)).alloc (.cells (cc (some ⟨ga, 0, none⟩) n f k u) 59)) (.slice none 0 0) (.slice (some ⟨w.heap.size + 1, 0, none⟩) 1 1) [] [⟨Q0.reverse, n, f, k, u⟩]) := Lib.hid (by
    refine ⟨World.ownsRow_nil _ _ _ _, ?_, .inl rfl, fun x hx => (by cases hx), fun x hx => ?_⟩
    · have := World.ownsRow_lit (base := w.heap.size) (e := 59) (size := 5) (w.alloc (.cells (cc (some ⟨ga, 0, none⟩) n f k u) 59)) (cc (some ⟨ga, 0, none⟩) n f k u) 1 (by simp) (by simp [maxLen]) rfl
      simpa [crow, CE.cells] using this
    · simp only [List.mem_singleton] at hx
      subst hx
      show Chain _ _ ga N root Q0.reverse.reverse n f k u
      rw [List.reverse_reverse]
      exact hc.keep fun b ob _ hg => by
        have hl := (Array.getElem?_eq_some_iff.1 hg).1
        exact ⟨⟨by simp [Value.ownBlock], by simp [Value.ownBlock]; omega⟩, (hT.2.block b hl).trans hg⟩)
  have hM : ∃ M : Nat, most.toNat = M ∧ M ≤ 4096 := ⟨_, rfl, by omega⟩
  obtain ⟨M, HM, hM⟩ := hM
  rw [HM]
  have HM := Lib.hid HM
  clear h hN hwd hc hT hX0
  go_enter Try.func47, Try.ntmps47
  go_wp2_with fail
  go_loopw [5, 6] (fun out st wr => ∃ ol sl : List CE, Hid (WSt w.heap.size ga N root wr out st ol sl) ∧ ol.length ≤ M ∧ sl.length ≤ 1 + ol.length * 64 ∧ Hid (ol.map (·.P) ++ todoC N sl = preP N n.toNat Q0.reverse) ∧ Hid (Off out st w.heap.size) ∧ Hid (wr.heap[w.heap.size]? = some (.cells (cc (some ⟨ga, 0, none⟩) n f k u) 59 (0, 0))) ∧ Below w.heap.size w wr)
    (fun out _ _ => M - slen out)
  case atStart => exact ⟨[], [⟨Q0.reverse, n, f, k, u⟩], HS0, Nat.zero_le _, by simp, Lib.hid (by simp [todoC]), Lib.hid ⟨by simp [Value.ownBlock], by simp [Value.ownBlock]⟩, HX0, HB0.out⟩
  case round =>
    obtain ⟨ol, sl, HS, hol, hsl, HT, HF, HX, hb⟩ := hrel
    obtain ⟨A5, c5, rfl, -⟩ := own_form HS.out.own_o
    have hsz := hb.size
    rcases List.eq_nil_or_concat sl with rfl | ⟨sl', x, rfl⟩
    · obtain ⟨A6, c6, rfl, -⟩ := own_form HS.out.own_s
      have HE := Lib.hid (show ol.map (·.P) = (preP N n.toNat Q0.reverse).take M by
        have := HT.out
        simp only [todoC, List.reverse_nil, List.flatMap_nil, List.append_nil] at this
        rw [← this, List.take_of_length_le (by simp; omega)])
      go_wp2_with fail
      go_ret
      exact ⟨A5, c5, ol, rfl, HS.out.own_o, fun x hx => Chain.imp (HS.out.ch_o x hx) (fun _ _ _ => trivial), HE.out, hb⟩
    · rw [List.concat_eq_append] at HS HT hsl
      obtain ⟨gs, cap, rfl, hcap, hcm, hz, hS1, hx1⟩ := HS.out.pop
      by_cases hlt : (ol.length : Int) < most
      · obtain ⟨xP, xn, xf, xk, xu⟩ := x
        have hxc : Chain (Off (.slice A5 ol.length c5) (.slice (some ⟨gs, 0, none⟩) sl'.length cap)) wr ga N root xP.reverse xn xf xk xu := hx1
        obtain ⟨p0, p1, p2, p3, p4⟩ := hxc.ok HN.out hr
        obtain ⟨i, rfl⟩ := Int.eq_ofNat_of_zero_le p0
        have hi : i < N.length := by omega
        have hkl := HN.out.few i hi
        have hwr := HW.out root hr
        have hwi := HW.out i hi
        have hxf : xf ≤ 1000000 := by have : 0 ≤ wd N (i : Nat) := by { unfold wd; omega }; omega
        have z0 : wr.cell? ⟨gs, sl'.length * 5, none⟩ = some (.pointer (some ⟨ga, 0, none⟩)) := hz 0 _ rfl
        have z1 : wr.cell? ⟨gs, sl'.length * 5 + 1, none⟩ = some (.int .i64 (i : Nat)) := hz 1 _ rfl
        have z2 : wr.cell? ⟨gs, sl'.length * 5 + 2, none⟩ = some (.int .i64 xf) := hz 2 _ rfl
        have z3 : wr.cell? ⟨gs, sl'.length * 5 + 3, none⟩ = some (.int .i64 xk) := hz 3 _ rfl
        have z4 : wr.cell? ⟨gs, sl'.length * 5 + 4, none⟩ = some (.pointer xu) := hz 4 _ rfl
        have t1 : IntKind.i64.wrap ((sl'.length : Int) + 1 - 1) = (sl'.length : Int) := by rw [show (sl'.length : Int) + 1 - 1 = sl'.length by omega]; exact IntWalk.i64_in _ (by simp at hsl; omega)
        have t2 : IntKind.i64.wrap (sl'.length : Int) = (sl'.length : Int) := IntWalk.i64_in _ (by simp at hsl; omega)
        have hlc : sl'.length ≤ cap := by omega
        have t3 : (sl'.length : Int) < (sl'.length : Int) + 1 := by omega
        have hR := heap_alloc_new wr (.cells (cc none 0 0 0 none) 59)
        have hsl2 : sl'.length ≤ ol.length * 64 := by simp at hsl; omega
        have hoM : ol.length < M := by have := HM.out; omega
        have HS1 := Lib.hid hS1
        have HXC := Lib.hid hxc
        have HFx := Lib.hid (hS1.offO (Nat.le_refl _))
        have HF1 : Hid (Off (.slice A5 ol.length c5) (.slice (some ⟨gs, 0, none⟩) sl'.length cap) w.heap.size) := Lib.hid ⟨HF.out.1, HF.out.2⟩
        have HT1 := Lib.hid (show ol.map (·.P) ++ (xP :: preK N i xP (gn N i).kids.length ++ todoC N sl') = preP N n.toNat Q0.reverse by
          rw [← preP_eq HN.out hi]; rw [← HT.out, todoC_snoc]; rfl)
        clear hz hS1 hx1 hxc HS HF HT hsl p0
        go_wp2_with (first
          | (go_at_call 28; refine (kids28_at (HA.out.below hb5) hi (by omega)).mono ?_; rintro e w6 ⟨A6, c6, rfl, -, b6⟩; have HS6 := Lib.hid (HS5.out.below b6); have HXC6 := Lib.hid (HXC5.out.below b6); have HX6 := Lib.hid ((b6.block _ (Array.getElem?_eq_some_iff.1 HX5.out).1).trans HX5.out); have HY6 := Lib.hid ((b6.block _ (Array.getElem?_eq_some_iff.1 HY5.out).1).trans HY5.out); have hb6 := hb5.trans (b6.mono hs5); clear b6 e0 e1 HS5 HXC5 HX5 HY5)
          | (at_builtin; go_loud (refine wpList_pushA st74 rfl _ _ rfl _ rfl HS3.out.own_o (CE.cells ga ⟨xP, (i : Nat), xf, xk, xu⟩) _ rfl rfl rfl (CE.one ga _) (by omega) (by omega) hs3 ?_); intro v5 w5 ho5 hg5 hat5; obtain ⟨A9, c9, rfl, -⟩ := own_form ho5; have HS5 := Lib.hid (HS3.out.pushO (x := ⟨xP, (i : Nat), xf, xk, xu⟩) HXC3.out ho5 hg5 hat5); have HXC5 := Lib.hid (HXC3.out.keep (fun b ob hX hq => WSt.keepO hg5 hat5 hX hq)); have kY := WSt.keepO hg5 hat5 HFx.out HY3.out; have kX := WSt.keepO hg5 hat5 HF1.out HX3.out; have HFx5 := Lib.hid kY.1; have HF5 := Lib.hid kX.1; have hY5 := kY.2; have hX5 := kX.2; have HY5 := Lib.hid hY5; have HX5 := Lib.hid hX5; have e0 := (cells5 hX5).1; have e1 := (cells5 hY5).2.1; have hb5 := hb3.grown hg5 hs3 (fun k hk => (HS3.out.own_o.lt k hk).1); have hs5 := hb5.size; clear ho5 hg5 hat5 kX kY hY5 hX5 d0 d1 d2 d3 d4 HS3 HXC3 HX3 HY3)
          | (refine wpList_putc rfl _ _ rfl wr.heap.size (some ⟨ga, 0, none⟩) (i : Nat) xf xk xu rfl rfl hR ?_; intro w3 hR3 hg3; have b3 := Below.put ((Below.refl wr.heap.size wr).alloc (Nat.le_refl _) _) (Nat.le_refl _) hg3 (by simp); have hb3 := hb.trans (b3.mono hsz); have hs3 := hb3.size; have HS3 := Lib.hid (HS1.out.below b3); have HXC3 := Lib.hid (HXC.out.below b3); have HX3 := Lib.hid ((b3.block w.heap.size (Array.getElem?_eq_some_iff.1 HX.out).1).trans HX.out); have HY3 := Lib.hid hR3; have d0 := (cells5 hR3).1; have d1 := (cells5 hR3).2.1; have d2 := (cells5 hR3).2.2.1; have d3 := (cells5 hR3).2.2.2.1; have d4 := (cells5 hR3).2.2.2.2; clear hR hR3 hg3 b3 z0 z1 z2 z3 z4 HS1 HXC HX))
        have hK : IntKind.i64.wrap (((gn N i).kids.length : Int) - 1) = ((gn N i).kids.length : Int) - 1 := IntWalk.i64_in _ (by omega)
        clear HFx
        go_loopw [6, 8] (fun st kk wx => ∃ (q : Nat) (tl : List CE), q ≤ (gn N i).kids.length ∧ kk = .int .i64 ((q : Int) - 1) ∧ tl.length + q = (gn N i).kids.length ∧ Hid (preK N i xP q ++ todoC N tl = preK N i xP (gn N i).kids.length) ∧ Hid (WSt w.heap.size ga N root wx (.slice A9 (ol.length + 1) c9) st (ol ++ [⟨xP, (i : Nat), xf, xk, xu⟩]) (sl' ++ tl)) ∧ Hid (Off (.slice A9 (ol.length + 1) c9) st w.heap.size) ∧ Hid (Off (.slice A9 (ol.length + 1) c9) st wr.heap.size) ∧ Hid (wx.heap[w.heap.size]? = some (.cells (cc (some ⟨ga, 0, none⟩) n f k u) 59 (0, 0))) ∧ Hid (wx.heap[wr.heap.size]? = some (.cells (cc (some ⟨ga, 0, none⟩) (i : Nat) xf xk xu) 59 (0, 0))) ∧ Hid (Chain (Off (.slice A9 (ol.length + 1) c9) st) wx ga N root xP.reverse (i : Nat) xf xk xu) ∧ Below w.heap.size w wx)
          (fun _ kk _ => (intOf kk + 1).toNat)
        case atStart => exact ⟨(gn N i).kids.length, [], Nat.le_refl _, rfl, by simp, Lib.hid (by simp [todoC]), by rw [List.append_nil]; exact HS6, HF5, HFx5, HX6, HY6, HXC6, hb6⟩
        case round =>
          obtain ⟨q, tl, hq, rfl, htl, HTD, HSx, HFc, HFg, HXx, HYx, HXCx, hbx⟩ := hrel
          have hsx := hbx.size
          by_cases hq0 : q = 0
          · subst hq0
            have HE := Lib.hid (show (ol ++ [(⟨xP, (i : Nat), xf, xk, xu⟩ : CE)]).map (·.P) ++ todoC N (sl' ++ tl) = preP N n.toNat Q0.reverse by
              have h1 := HTD.out
              simp only [preK, List.range_zero, List.flatMap_nil, List.nil_append] at h1
              rw [todoC_app, h1, ← HT1.out]
              simp [preK])
            go_wp2_with fail
            go_roundw
            case rel => exact ⟨ol ++ [⟨xP, (i : Nat), xf, xk, xu⟩], sl' ++ tl, by simpa using HSx, by simp; omega, by simp; omega, HE, HFc, HXx, hbx⟩
            case measure => show M - (ol.length + 1) < M - ol.length; omega
          · obtain ⟨p, rfl⟩ : ∃ p, q = p + 1 := ⟨q - 1, by omega⟩
            rw [show ((p + 1 : Nat) : Int) - 1 = (p : Int) by omega]
            have hpk : p < (gn N i).kids.length := by omega
            have C40 : Calls Try.prog 40 #[.agg (cc (some ⟨ga, 0, none⟩) (i : Nat) xf xk xu), .int .i64 (p : Nat)] wr fun e w' => (∃ b, e = .returned (.tuple #[.agg (cc (some ⟨ga, 0, none⟩) (gz (gn N i).kids p) (xf + (bW N (gn N i).kids p : Nat)) (p : Nat) (some ⟨b, 0, none⟩)), .bool true]) ∧ wr.heap.size ≤ b ∧ w'.heap[b]? = some (.cells (cc (some ⟨ga, 0, none⟩) (i : Nat) xf xk xu) 59 (0, 0))) ∧ Below wr.heap.size wr w' := by
              refine (down40 (HA.out.below hbx) HN.out i hi xf xk xu (p : Nat) p2 hxf (by omega)).mono ?_
              rintro e w' ⟨h, hb⟩
              rw [if_pos ⟨by omega, by omega⟩] at h
              exact ⟨h, hb⟩
            have f0 := (cells5 HYx.out).1
            have f1 := (cells5 HYx.out).2.1
            have f2 := (cells5 HYx.out).2.2.1
            have f3 := (cells5 HYx.out).2.2.2.1
            have f4 := (cells5 HYx.out).2.2.2.2
            have u1 : IntKind.i64.wrap ((p : Int) - 1) = (p : Int) - 1 := IntWalk.i64_in _ (by omega)
            have HPK := Lib.hid (preK_succ N i xP p)
            have HPI := Lib.hid (show (p : Int) < (gn N ((i : Nat) : Int).toNat).kids.length by rw [show ((i : Nat) : Int).toNat = i from rfl]; omega)
            obtain ⟨z, hz⟩ : ∃ z : Int, gz (gn N i).kids p = z := ⟨_, rfl⟩
            obtain ⟨fz, hfz⟩ : ∃ fz : Int, xf + (bW N (gn N i).kids p : Nat) = fz := ⟨_, rfl⟩
            rw [hz, hfz] at C40
            rw [hz] at HPK
            have HZ := Lib.hid hz
            have HFZ := Lib.hid hfz
            clear hz hfz
            obtain ⟨sl2, hs2⟩ : ∃ sl2, sl' ++ tl = sl2 := ⟨_, rfl⟩
            rw [hs2] at HSx
            have hl2 : sl2.length ≤ 400000 := by rw [← hs2, List.length_append]; omega
            have HS2 := Lib.hid hs2
            clear hs2
            obtain ⟨A6', c6', rfl, -⟩ := own_form HSx.out.own_s
            go_wp2_with (first
              | (go_at_call 40; refine C40.mono ?_; rintro e w7 ⟨⟨bk, rfl, hbk, hgk⟩, b7⟩; have hR := heap_alloc_new w7 (.cells (cc none 0 0 0 none) 59); have HGK := Lib.hid hgk; have B7 := Lib.hid b7; clear C40 f0 f1 f2 f3 f4 hgk b7)
              | (refine wpList_putc rfl _ _ rfl w7.heap.size (some ⟨ga, 0, none⟩) z fz (p : Nat) (some ⟨bk, 0, none⟩) rfl rfl hR ?_; intro w8 hR8 hg8; have b8 := B7.out.trans ((Below.put ((Below.refl w7.heap.size w7).alloc (Nat.le_refl _) _) (Nat.le_refl _) hg8 (by simp)).mono B7.out.size); have hs8 := (hbx.trans (b8.mono hsx)).size; have HS8 := Lib.hid (HSx.out.below b8); have HGK8 := Lib.hid ((hg8.block bk (by have := (Array.getElem?_eq_some_iff.1 HGK.out).1; simp; omega) (by have := (Array.getElem?_eq_some_iff.1 HGK.out).1; intro e; injection e with e; omega)).trans ((heap_alloc_old w7 _ (Array.getElem?_eq_some_iff.1 HGK.out).1).trans HGK.out)); have HXC8 := Lib.hid (HXCx.out.below b8); have HX8 := Lib.hid ((b8.block _ (Array.getElem?_eq_some_iff.1 HXx.out).1).trans HXx.out); have HY8 := Lib.hid ((b8.block _ (Array.getElem?_eq_some_iff.1 HYx.out).1).trans HYx.out); have HB8 := Lib.hid (hbx.trans (b8.mono hsx)); have d0 := (cells5 hR8).1; have d1 := (cells5 hR8).2.1; have d2 := (cells5 hR8).2.2.1; have d3 := (cells5 hR8).2.2.2.1; have d4 := (cells5 hR8).2.2.2.2; clear hR hR8 hg8 b8)
              | (at_builtin; go_loud (refine wpList_pushA st74 rfl _ _ rfl _ rfl HS8.out.own_s (CE.cells ga ⟨xP ++ [(p : Int)], z, fz, (p : Nat), some ⟨bk, 0, none⟩⟩) _ rfl rfl rfl (CE.one ga _) (by omega) (by omega) hs8 ?_; intro v9 w9 ho9 hg9 hat9; have HS9 := Lib.hid (HS8.out.pushS (x := ⟨xP ++ [(p : Int)], z, fz, (p : Nat), some ⟨bk, 0, none⟩⟩) (by show Chain _ _ ga N root (xP ++ [(p : Int)]).reverse z fz (p : Nat) (some ⟨bk, 0, none⟩); rw [List.reverse_append]; exact ⟨bk, (i : Nat), xf, xk, xu, rfl, HSx.out.offO hbk, HGK8.out, HXC8.out, rfl, by omega, HPI.out, HZ.out.symm, HFZ.out.symm⟩) ho9 hg9 hat9); have kc := WSt.keepS hg9 hat9 HFc.out HX8.out; have kg := WSt.keepS hg9 hat9 HFg.out HY8.out; have HFc9 := Lib.hid kc.1; have HX9 := Lib.hid kc.2; have HFg9 := Lib.hid kg.1; have HY9 := Lib.hid kg.2; have HXC9 := Lib.hid (HXC8.out.keep (fun b ob hX hq => WSt.keepS hg9 hat9 hX hq)); have HB9 := Lib.hid (HB8.out.grown hg9 hs8 (fun k hk => (HS8.out.own_s.lt k hk).1)); clear ho9 hg9 hat9 kc kg d0 d1 d2 d3 d4 HS8 HXC8 HX8 HY8 HB8)))
            go_roundw
            case rel =>
              exact ⟨p, tl ++ [⟨xP ++ [(p : Int)], z, fz, (p : Nat), some ⟨bk, 0, none⟩⟩], by omega, (by first | rfl | rw [u1]), by simp; omega, Lib.hid (by rw [todoC_snoc, ← List.append_assoc, ← HTD.out, HPK.out]), by rw [← List.append_assoc, HS2.out]; exact HS9, HFc9, HFg9, HX9, HY9, HXC9, HB9.out⟩
            case measure => simp [intOf]
      · have HE := Lib.hid (show ol.map (·.P) = (preP N n.toNat Q0.reverse).take M by
          rw [← HT.out, List.take_append_of_le_length (by simp; have := HM.out; omega), List.take_of_length_le (by simp; omega)])
        have t1 : decide ((ol.length : Int) < most) = false := by simpa using hlt
        have HS1 := Lib.hid hS1
        clear hz hS1 hx1
        go_wp2_with fail
        go_ret
        exact ⟨A5, c5, ol, rfl, HS1.out.own_o, fun x hx => Chain.imp (HS1.out.ch_o x hx) (fun _ _ _ => trivial), HE.out, hb⟩
end Go.Proofs.Ytbmbiffhgdkpiaa
