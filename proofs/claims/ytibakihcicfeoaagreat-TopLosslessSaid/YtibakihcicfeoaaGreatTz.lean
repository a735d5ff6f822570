/- The walk of audit.Holds: it answers true for all bytes. No condition. -/
import Derived.Test.YtibakihcicfeoaaGreatTx
import Derived.Test.YtibakihcicfeoaaGreatTy
namespace Go.Proofs.YtibakihcicfeoaaGreat
open Go.RowKit

/-- What a cursor's node prints stands in what the root prints, where the cursor begins. -/
theorem Chain.text {X : Nat → Prop} {w : World} {ga : Nat} {N : List GN} {root : Nat} (hN : OkN N) (hr : root < N.length) : ∀ {Q : List Int} {n f k : Int} {u : Option Addr}, Chain X w ga N root Q n f k u → ∃ p s, pr N root = p ++ pr N n ++ s ∧ f = (p.length : Nat)
  | [], n, f, k, u, ⟨hn, hf, _⟩ => ⟨[], [], by simp [hn], by simp [hf]⟩
  | q :: Q, n, f, k, u, ⟨b, n', f', k', u', _, _, _, hc, _, h0, h1, hn, hf⟩ => by
    obtain ⟨p, s, hp, hl⟩ := hc.text hN hr
    obtain ⟨p0, p1, -, -, -⟩ := hc.ok hN hr
    obtain ⟨i, rfl⟩ := Int.eq_ofNat_of_zero_le p0
    obtain ⟨j, rfl⟩ := Int.eq_ofNat_of_zero_le h0
    rw [show ((i : Nat) : Int).toNat = i from rfl] at h1 hn hf
    rw [show ((j : Nat) : Int).toNat = j from rfl] at hn hf
    have hi : i < N.length := by omega
    have hj : j < (gn N i).kids.length := by omega
    have hb : (gn N i).b = [] := by
      cases hlf : (gn N i).leaf with
      | false => exact hN.bra i hi hlf
      | true => rw [hN.leaf i hi hlf] at hj; simp at hj
    have he := pr_eq hN.good (z := (i : Nat)) (by omega) (by omega)
    rw [show ((i : Nat) : Int).toNat = i from rfl, hb, List.nil_append] at he
    have hk : (gn N i).kids = (gn N i).kids.take j ++ (gn N i).kids[j] :: (gn N i).kids.drop (j + 1) := by rw [← List.drop_eq_getElem_cons hj, List.take_append_drop]
    have hlen : (((gn N i).kids.take j).flatMap (pr N)).length = bW N (gn N i).kids j := by
      rw [bW_sum N _ j (by omega)]
      refine flat_len _ _ _ fun z hz => ?_
      have hg := good_kid hN.good hi (z := z) (List.mem_of_mem_take hz)
      obtain ⟨y, rfl⟩ := Int.eq_ofNat_of_zero_le hg.1
      exact (hN.wide y (by omega)).symm
    refine ⟨p ++ ((gn N i).kids.take j).flatMap (pr N), ((gn N i).kids.drop (j + 1)).flatMap (pr N) ++ s, ?_, ?_⟩
    · have he2 : (gn N i).kids.flatMap (pr N) = ((gn N i).kids.take j).flatMap (pr N) ++ (pr N (gn N i).kids[j] ++ ((gn N i).kids.drop (j + 1)).flatMap (pr N)) :=
        (congrArg (fun l => l.flatMap (pr N)) hk).trans (by simp only [List.flatMap_append, List.flatMap_cons])
      rw [hp, he, hn, gz_eq hj, he2]
      simp only [List.append_assoc]
    · rw [hf, hl, List.length_append, hlen]
      omega
theorem Rd.cut5 {w : World} {B n c lo hi : Nat} {A : Option Addr} {k : IntKind} {zs : List Int} (h : Rd w B 1 A n c (ints k zs)) (h1 : lo ≤ hi) (h2 : hi ≤ n) :
    Rd w B 1 (if c = lo then A else Option.map (fun x => x.add lo) A) (hi - lo) (c - lo) (ints k ((zs.drop lo).take (hi - lo))) := by
  have hc := h.cap
  have := h.cut (l := lo) (k := hi) (m := c) h1 h2 (Nat.le_refl _) (by omega)
  rw [Nat.mul_one, Nat.mul_one, ← List.map_drop, ← List.map_take] at this
  exact this
theorem ccells {w : World} {B ga g c n : Nat} {l : List CE} (h : w.ownsRow B 54 5 (.slice (some ⟨g, 0, none⟩) n c) n (crow ga l)) {k : Nat} {x : CE} (hx : l[k]? = some x) :
    w.cell? ⟨g, k * 5, none⟩ = some (.pointer (some ⟨ga, 0, none⟩)) ∧ w.cell? ⟨g, k * 5 + 1, none⟩ = some (.int .i64 x.n) ∧ w.cell? ⟨g, k * 5 + 2, none⟩ = some (.int .i64 x.f) ∧ w.cell? ⟨g, k * 5 + 3, none⟩ = some (.int .i64 x.k) ∧ w.cell? ⟨g, k * 5 + 4, none⟩ = some (.pointer x.u) := by
  have hk := (List.getElem?_eq_some_iff.1 hx).1
  have hn : l.length * 5 = n * 5 := by rw [← crow_len ga l]; exact h.1
  have key : ∀ j, j < 5 → w.cell? ⟨g, k * 5 + j, none⟩ = (x.cells ga)[j]? := fun j hj => by
    rw [World.ownsRow.cellAt h (k * 5 + j) (by omega), crow_get ga l k x j hx hj]
  exact ⟨key 0 (by omega), key 1 (by omega), key 2 (by omega), key 3 (by omega), key 4 (by omega)⟩
theorem cells7 {W : World} {b : Nat} {v0 v1 v2 v3 v4 v5 v6 : Value} (h : W.heap[b]? = some (.cells #[v0, v1, v2, v3, v4, v5, v6] 31 (0, 0))) :
    W.cell? ⟨b, 0, none⟩ = some v0 ∧ W.cell? ⟨b, 1, none⟩ = some v1 ∧ W.cell? ⟨b, 2, none⟩ = some v2 ∧ W.cell? ⟨b, 3, none⟩ = some v3 ∧ W.cell? ⟨b, 4, none⟩ = some v4 ∧ W.cell? ⟨b, 5, none⟩ = some v5 ∧ W.cell? ⟨b, 6, none⟩ = some v6 :=
  ⟨cell_of_row W b 0 _ _ _ h, cell_of_row W b 1 _ _ _ h, cell_of_row W b 2 _ _ _ h, cell_of_row W b 3 _ _ _ h, cell_of_row W b 4 _ _ _ h, cell_of_row W b 5 _ _ _ h, cell_of_row W b 6 _ _ _ h⟩
/-- What stands between a cursor's ends. -/
theorem Chain.cut {X : Nat → Prop} {w : World} {ga : Nat} {N : List GN} {root : Nat} (hN : OkN N) (hr : root < N.length) {Q : List Int} {n f k : Int} {u : Option Addr} (h : Chain X w ga N root Q n f k u) :
    ∃ (i fn : Nat), n = (i : Nat) ∧ f = (fn : Nat) ∧ i < N.length ∧ fn + (gn N i).w ≤ (gn N root).w ∧ ((pr N (root : Nat)).drop fn).take (gn N i).w = pr N (i : Nat) := by
  obtain ⟨p0, p1, p2, p3, -⟩ := h.ok hN hr
  obtain ⟨i, rfl⟩ := Int.eq_ofNat_of_zero_le p0
  obtain ⟨p, s, hp, hf⟩ := h.text hN hr
  have hi : i < N.length := by omega
  have hw : wd N (i : Nat) = (gn N i).w := rfl
  refine ⟨i, p.length, rfl, hf, hi, by omega, ?_⟩
  have hl := hN.wide i hi
  rw [hp, List.append_assoc, List.drop_left, hl, List.take_left]
set_option maxRecDepth 100000 in
set_option maxHeartbeats 8000000 in
theorem holds7 {w : World} (A : Option Addr) (n c : Nat) (zs : List Int) (h : Rd w w.heap.size 1 A n c (ints .u8 zs)) (hz : Bytes8 zs) (hn : n ≤ 400) :
    Calls Tryz.prog 7 #[.slice A n c] w fun e w' => e = .returned (.bool true) ∧ Below w.heap.size w w' := by
  have C5 := parse5 A n c zs h hz hn
  have HRD := Lib.hid h
  have hl := h.int_len
  have hcap := h.cap
  have HL := Lib.hid hl
  unfold ParseSaid at C5
  clear h hz hl
  go_enter Tryz.func7, Tryz.ntmps7
  go_upto_region 2 with (go_at_call 5; refine C5.mono ?_; rintro e w1 ⟨kd, bom, AR, nR, cR, rs, AO, nO, cO, B, ga, root, N, AD, nD, cD, rfl, hR, hnR, hA, hN, hr, hp, -, hw, hsz, b1⟩; have HRS := Lib.hid hR; have HA := Lib.hid hA; have HN := Lib.hid hN; have HP := Lib.hid hp; have HW := Lib.hid hw; have HSZ := Lib.hid hsz; have B1 := Lib.hid b1; clear C5 hR hA hN hp hw hsz b1)
  have hal := (Below.refl w1.heap.size w1).alloc (Nat.le_refl _) (.cells (tcs kd bom AR nR cR AO nO cO ga (root : Nat) AD nD cD) 31)
  have hnew := heap_alloc_new w1 (.cells (tcs kd bom AR nR cR AO nO cO ga (root : Nat) AD nD cD) 31)
  obtain ⟨X, hX⟩ : ∃ X, w1.alloc (.cells (tcs kd bom AR nR cR AO nO cO ga (root : Nat) AD nD cD) 31) = X := ⟨_, rfl⟩
  have hXs : w1.heap.size < X.heap.size := by rw [← hX]; simp
  rw [hX] at hal hnew ⊢
  obtain ⟨gt, hgt⟩ : ∃ g, w1.heap.size = g := ⟨_, rfl⟩
  rw [hgt] at hnew hXs ⊢
  have HX := Lib.hid hnew
  have hbX := B1.out.trans (hal.mono B1.out.size)
  have HBX := Lib.hid hbX
  have HAX := Lib.hid (HA.out.below hal)
  have HRX := Lib.hid (HRD.out.on hbX)
  have hpl : (pr N (root : Nat)).length = n := by rw [HP.out, HL.out]
  have hwr : (gn N root).w ≤ 100000 := by rw [HW.out]; omega
  have C17 := covered17 AR nR cR rs (HRS.out.on hal) (by omega)
  obtain ⟨z0, z1, z2, z3, z4, z5, z6⟩ := cells7 hnew
  clear hX hgt hal hnew hbX HA HRD
  go_upto_block 1 with (first
    | (go_at_call 17; refine C17.mono ?_; rintro e w2 ⟨rfl, b2⟩; have HX2 := Lib.hid (kept_at b2 HX.out); have HB2 := Lib.hid b2; have HA2 := Lib.hid (HAX.out.below b2); clear z0 z1 z2 z3 z4 z5 z6; obtain ⟨z0, z1, z2, z3, z4, z5, z6⟩ := cells7 HX2.out; clear C17 b2)
    | (go_at_call 6; refine (print6 kd bom AR nR cR AO nO cO AD nD cD HA2.out HN.out hr (by omega)).mono ?_; rintro e w3 ⟨A6, c6, rfl, o6, b3⟩; rw [HP.out, HL.out] at o6; have HO6 := Lib.hid (Rd.of_own o6); have HB3 := Lib.hid (HB2.out.trans (b3.mono HB2.out.size)); have HX3 := Lib.hid (kept_at b3 HX2.out); have HA3 := Lib.hid (HA2.out.below b3); clear b3 o6 z0 z1 z2 z3 z4 z5 z6)
    | (go_at_call 18; refine (equal18 _ _ _ _ _ _ zs HO6.out (HRX.out.on HB3.out)).mono ?_; rintro e w4 ⟨rfl, b4⟩; have HB4 := Lib.hid (HB3.out.trans (b4.mono HB3.out.size)); have HX4 := Lib.hid (kept_at b4 HX3.out); have HA4 := Lib.hid (HA3.out.below b4); obtain ⟨z0, z1, z2, z3, z4, z5, z6⟩ := cells7 HX4.out; clear b4)
    | (go_at_call 19; refine (cursor19 kd bom AR nR cR AO nO cO AD nD cD HA4.out hr).mono ?_; rintro e w5 ⟨rfl, b5⟩; have HB5 := Lib.hid (HB4.out.trans (b5.mono HB4.out.size)); have HX5 := Lib.hid (kept_at b5 HX4.out); have HA5 := Lib.hid (HA4.out.below b5); clear b5 z0 z1 z2 z3 z4 z5 z6)
    | (go_at_call 20; refine (walk20 HA5.out HN.out root hwr hr [] (root : Nat) 0 0 none ⟨rfl, rfl, rfl, rfl⟩ 1073741824 (by omega) (by omega) HSZ.out).mono ?_; rintro e w6 ⟨A7, c7, l, rfl, o7, hl7, hx7, b6⟩; have HB6 := Lib.hid (HB5.out.trans (b6.mono HB5.out.size)); have HX6 := Lib.hid (kept_at b6 HX5.out); have HA6 := Lib.hid (HA5.out.below b6); have HO7 := Lib.hid o7; have HC7 := Lib.hid hx7; clear b6 o7 hx7))
  go_loopw [25] (fun i wr => ∃ k : Nat, k ≤ l.length ∧ i = .int .i64 k ∧ Hid (Below w6.heap.size w6 wr)) (fun i _ => l.length - (intOf i).toNat)
  case atStart => exact ⟨0, Nat.zero_le _, rfl, Lib.hid (Below.refl _ _)⟩
  case round =>
    obtain ⟨k, hk, rfl, HB⟩ := hrel
    by_cases hlt : k < l.length
    · obtain ⟨x, hx⟩ : ∃ x, l[k]? = some x := ⟨_, List.getElem?_eq_getElem hlt⟩
      obtain ⟨g7, rfl⟩ := own_head HO7.out (by omega)
      obtain ⟨y0, y1, y2, y3, y4⟩ := ccells (own_below HO7.out HB.out) hx
      have hch := HC7.out x (List.mem_of_getElem? hx)
      obtain ⟨xP, xn, xf, xk, xu⟩ := x
      obtain ⟨i, fn, e1, e2, hi, hfw, hcut⟩ := Chain.cut HN.out hr (show Chain (fun _ => True) w6 ga N root xP.reverse xn xf xk xu from hch)
      subst e1; subst e2
      have HCT := Lib.hid hcut
      rw [HW.out] at hfw
      have HAr := Lib.hid (HA6.out.below HB.out)
      obtain ⟨wi, hwi⟩ : ∃ r, (gn N i).w = r := ⟨_, rfl⟩
      rw [hwi] at hfw
      have HWI := Lib.hid hwi
      have hpi : (pr N (i : Nat)).length = wi := by rw [← hwi]; exact (HN.out.wide i hi).symm
      have HPI := Lib.hid hpi
      have C8 : ∀ W, Below wr.heap.size wr W → Calls Tryz.prog 8 #[.pointer (some ⟨ga, 0, none⟩), .int .i64 (i : Nat)] W fun e w' => e = .returned (.int .i64 (wi : Nat)) ∧ Below W.heap.size W w' := fun W hb => by
        have := width18_at (HAr.out.below hb) hi
        rwa [hwi] at this
      have C23 : ∀ W, Below wr.heap.size wr W → Calls Tryz.prog 16 #[.pointer (some ⟨ga, 0, none⟩), .int .i64 (i : Nat)] W (OwnSaid 5 (pr N (i : Nat)).length (ints .u8 (pr N (i : Nat))) W) := fun W hb => print19_at (HAr.out.below hb) hi HN.out (by rw [hpi]; omega)
      have HC8 := Lib.hid C8
      have HC23 := Lib.hid C23
      have b0 := (Below.refl wr.heap.size wr).alloc (Nat.le_refl _) (.cells (cc (some ⟨ga, 0, none⟩) (i : Nat) (fn : Nat) xk xu) 54)
      have hc0 := heap_alloc_new wr (.cells (cc (some ⟨ga, 0, none⟩) (i : Nat) (fn : Nat) xk xu) 54)
      have C21 := span46 (some ⟨ga, 0, none⟩) (i : Nat) (fn : Nat) xk xu (wr.alloc (.cells (cc (some ⟨ga, 0, none⟩) (i : Nat) (fn : Nat) xk xu) 54)) (wi : Nat) (fun W hb => C8 W (b0.trans (hb.mono b0.size))) (by omega) (by omega) (by omega) (by omega)
      clear hwi hpi hcut hch hx C8 C23
      go_upto_region 8 with (go_at_call 21; refine C21.mono ?_; rintro e w8 ⟨rfl, b8⟩; have B8 := Lib.hid b8; clear C21 b8 y0 y1 y2 y3 y4)
      have hb8 : Below wr.heap.size wr (w8.alloc (.cells #[.int .i64 (fn : Nat), .int .i64 ((fn : Nat) + (wi : Nat))] 58)) := (b0.trans (B8.out.mono b0.size)).alloc (b0.trans (B8.out.mono b0.size)).size _
      have hs0 := heap_alloc_new w8 (.cells #[.int .i64 (fn : Nat), .int .i64 ((fn : Nat) + (wi : Nat))] 58)
      have hk0 := heap_alloc_old w8 (.cells #[.int .i64 (fn : Nat), .int .i64 ((fn : Nat) + (wi : Nat))] 58) (Array.getElem?_eq_some_iff.1 (kept_at B8.out hc0)).1
      rw [kept_at B8.out hc0] at hk0
      obtain ⟨Y, hY⟩ : ∃ Y, w8.alloc (.cells #[.int .i64 (fn : Nat), .int .i64 ((fn : Nat) + (wi : Nat))] 58) = Y := ⟨_, rfl⟩
      rw [hY] at hb8 hs0 hk0 ⊢
      obtain ⟨te, hte⟩ : ∃ te, fn + wi = te := ⟨_, rfl⟩
      have hte2 : ((fn : Nat) : Int) + ((wi : Nat) : Int) = (te : Nat) := by omega
      rw [hte2] at hs0 ⊢
      have u1 : IntKind.i64.wrap ((te : Int) - (fn : Int)) = (wi : Int) := by rw [show (te : Int) - (fn : Int) = (wi : Int) by omega]; exact IntWalk.i64_in _ (by omega)
      obtain ⟨gc, hgc⟩ : ∃ g, wr.heap.size = g := ⟨_, rfl⟩
      obtain ⟨gs, hgs⟩ : ∃ g, w8.heap.size = g := ⟨_, rfl⟩
      rw [hgs] at hs0 ⊢
      rw [hgc] at hk0 ⊢
      have HSP := Lib.hid hs0
      have HCU := Lib.hid hk0
      have HTR := Lib.hid (kept_at hb8 (kept_at HB.out HX6.out))
      have HBY := Lib.hid hb8
      have HRY := Lib.hid (show Rd Y Y.heap.size 1 (if c = fn then A else Option.map (fun x => x.add fn) A) (te - fn) (c - fn) (ints .u8 (pr N (i : Nat))) from by
        have hb : Below X.heap.size X Y := HB6.out.trans ((HB.out.trans (hb8.mono HB.out.size)).mono HB6.out.size)
        have := (HRX.out.on hb).cut5 (lo := fn) (hi := te) (by omega) (by omega)
        have e : (zs.drop fn).take (te - fn) = pr N (i : Nat) := by
          rw [← HCT.out, HP.out, HWI.out]; congr 1; omega
        rwa [e] at this)
      have hfte : fn ≤ te := by omega
      have htn : te ≤ n := by omega
      have htf : te - fn = (pr N (i : Nat)).length := by rw [HPI.out]; omega
      clear hte hte2 hb8 hs0 hk0 hY hgc hgs hc0 b0 B8
      refine wp_region_held_drew (S := fun W => Below Y.heap.size Y W) (by kernel_rfl) (Below.drew (Below.refl _ _)) (fun hHeld => ?_)
      change wpAnyH _ _ _ _ _ 35 #[false, false, false, false, false, false, false, false, false, false, false, false, false, false, false, false, false, false, false, false, false, false, false, false, false, false, false, false, false, false, false, false, false, false, false] _ _
      refine wpAnyH_take (i := 0) (oi := _) (v := ?_) rfl (by kernel_rfl) (by kernel_rfl) (by kernel_rfl) (fun _ _ _ h => h) (Or.inl ⟨by rfl, ?_⟩) hHeld ?_
      rotate_left
      · intro w9 hSw; go_simp; (try with_reducible rfl)
      simp only [List.getElem_toArray, List.getElem_cons_zero, Act.put, List.setIfInBounds_toArray, List.set_cons_zero, List.set_cons_succ]
      refine wpAnyH_take (i := 1) (oi := _) (v := ?_) rfl (by kernel_rfl) (by kernel_rfl) (by kernel_rfl) (fun _ _ _ h => h) (Or.inl ⟨by rfl, ?_⟩) hHeld ?_
      rotate_left
      · intro w9 hSw; have s0 := kept_at hSw HSP.out; have s1 := (cells2 s0).1; have s2 := (cells2 s0).2; clear s0; go_simp; (try with_reducible rfl)
      simp only [List.getElem_toArray, List.getElem_cons_zero, List.getElem_cons_succ, Act.put, List.setIfInBounds_toArray, List.set_cons_zero, List.set_cons_succ]
      refine wpAnyH_take (i := 2) (oi := _) (v := ?_) rfl (by kernel_rfl) (by kernel_rfl) (by kernel_rfl) (fun _ _ _ h => h) (Or.inl ⟨by rfl, ?_⟩) hHeld ?_
      rotate_left
      · intro w9 hSw; have s9 : decide ((fn : Int) < 0) = false := decide_eq_false (by omega); go_simp; (try with_reducible rfl)
      simp only [List.getElem_toArray, List.getElem_cons_zero, List.getElem_cons_succ, Act.put, List.setIfInBounds_toArray, List.set_cons_zero, List.set_cons_succ]
      refine wpAnyH_take (i := 3) (oi := _) (v := ?_) rfl (by kernel_rfl) (by kernel_rfl) (by kernel_rfl) (fun _ _ _ h => h) (Or.inl ⟨by rfl, ?_⟩) hHeld ?_
      rotate_left
      · intro w9 hSw; go_simp; (try with_reducible rfl)
      simp only [List.getElem_toArray, List.getElem_cons_zero, List.getElem_cons_succ, Act.put, List.setIfInBounds_toArray, List.set_cons_zero, List.set_cons_succ]
      refine wpAnyH_take (i := 4) (oi := _) (v := ?_) rfl (by kernel_rfl) (by kernel_rfl) (by kernel_rfl) (fun _ _ _ h => h) (Or.inl ⟨by rfl, ?_⟩) hHeld ?_
      rotate_left
      · intro w9 hSw; go_simp; (try with_reducible rfl)
      simp only [List.getElem_toArray, List.getElem_cons_zero, List.getElem_cons_succ, Act.put, List.setIfInBounds_toArray, List.set_cons_zero, List.set_cons_succ]
      refine wpAnyH_take (i := 5) (oi := _) (v := ?_) rfl (by kernel_rfl) (by kernel_rfl) (by kernel_rfl) (fun _ _ _ h => h) (Or.inl ⟨by rfl, ?_⟩) hHeld ?_
      rotate_left
      · intro w9 hSw; have s0 := kept_at hSw HSP.out; have s1 := (cells2 s0).1; have s2 := (cells2 s0).2; clear s0; go_simp; (try with_reducible rfl)
      simp only [List.getElem_toArray, List.getElem_cons_zero, List.getElem_cons_succ, Act.put, List.setIfInBounds_toArray, List.set_cons_zero, List.set_cons_succ]
      refine wpAnyH_take (i := 6) (oi := _) (v := ?_) rfl (by kernel_rfl) (by kernel_rfl) (by kernel_rfl) (fun _ _ _ h => h) (Or.inl ⟨by rfl, ?_⟩) hHeld ?_
      rotate_left
      · intro w9 hSw; go_simp; (try with_reducible rfl)
      simp only [List.getElem_toArray, List.getElem_cons_zero, List.getElem_cons_succ, Act.put, List.setIfInBounds_toArray, List.set_cons_zero, List.set_cons_succ]
      refine wpAnyH_take (i := 7) (oi := _) (v := ?_) rfl (by kernel_rfl) (by kernel_rfl) (by kernel_rfl) (fun _ _ _ h => h) (Or.inl ⟨by rfl, ?_⟩) hHeld ?_
      rotate_left
      · intro w9 hSw; go_simp; (try with_reducible rfl)
      simp only [List.getElem_toArray, List.getElem_cons_zero, List.getElem_cons_succ, Act.put, List.setIfInBounds_toArray, List.set_cons_zero, List.set_cons_succ]
      refine wpAnyH_take (i := 8) (oi := _) (v := ?_) rfl (by kernel_rfl) (by kernel_rfl) (by kernel_rfl) (fun _ _ _ h => h) (Or.inl ⟨by rfl, ?_⟩) hHeld ?_
      rotate_left
      · intro w9 hSw; have s9 : decide (n < te) = false := decide_eq_false (by omega); go_simp; (try with_reducible rfl)
      simp only [List.getElem_toArray, List.getElem_cons_zero, List.getElem_cons_succ, Act.put, List.setIfInBounds_toArray, List.set_cons_zero, List.set_cons_succ]
      refine wpAnyH_take (i := 9) (oi := _) (v := ?_) rfl (by kernel_rfl) (by kernel_rfl) (by kernel_rfl) (fun _ _ _ h => h) (Or.inl ⟨by rfl, ?_⟩) hHeld ?_
      rotate_left
      · intro w9 hSw; go_simp; (try with_reducible rfl)
      simp only [List.getElem_toArray, List.getElem_cons_zero, List.getElem_cons_succ, Act.put, List.setIfInBounds_toArray, List.set_cons_zero, List.set_cons_succ]
      refine wpAnyH_take (i := 10) (oi := _) (v := ?_) rfl (by kernel_rfl) (by kernel_rfl) (by kernel_rfl) (fun _ _ _ h => h) (Or.inl ⟨by rfl, ?_⟩) hHeld ?_
      rotate_left
      · intro w9 hSw; go_simp; (try with_reducible rfl)
      simp only [List.getElem_toArray, List.getElem_cons_zero, List.getElem_cons_succ, Act.put, List.setIfInBounds_toArray, List.set_cons_zero, List.set_cons_succ]
      refine wpAnyH_take (i := 11) (oi := _) (v := ?_) rfl (by kernel_rfl) (by kernel_rfl) (by kernel_rfl) (fun _ _ _ h => h) (Or.inl ⟨by rfl, ?_⟩) hHeld ?_
      rotate_left
      · intro w9 hSw; go_simp; (try with_reducible rfl)
      simp only [List.getElem_toArray, List.getElem_cons_zero, List.getElem_cons_succ, Act.put, List.setIfInBounds_toArray, List.set_cons_zero, List.set_cons_succ]
      refine wpAnyH_take (i := 12) (oi := _) (v := ?_) rfl (by kernel_rfl) (by kernel_rfl) (by kernel_rfl) (fun _ _ _ h => h) (Or.inl ⟨by rfl, ?_⟩) hHeld ?_
      rotate_left
      · intro w9 hSw; have s0 := kept_at hSw HSP.out; have s1 := (cells2 s0).1; have s2 := (cells2 s0).2; clear s0; go_simp; (try with_reducible rfl)
      simp only [List.getElem_toArray, List.getElem_cons_zero, List.getElem_cons_succ, Act.put, List.setIfInBounds_toArray, List.set_cons_zero, List.set_cons_succ]
      refine wpAnyH_take (i := 13) (oi := _) (v := ?_) rfl (by kernel_rfl) (by kernel_rfl) (by kernel_rfl) (fun _ _ _ h => h) (Or.inl ⟨by rfl, ?_⟩) hHeld ?_
      rotate_left
      · intro w9 hSw; go_simp; (try with_reducible rfl)
      simp only [List.getElem_toArray, List.getElem_cons_zero, List.getElem_cons_succ, Act.put, List.setIfInBounds_toArray, List.set_cons_zero, List.set_cons_succ]
      refine wpAnyH_take (i := 14) (oi := _) (v := ?_) rfl (by kernel_rfl) (by kernel_rfl) (by kernel_rfl) (fun _ _ _ h => h) (Or.inl ⟨by rfl, ?_⟩) hHeld ?_
      rotate_left
      · intro w9 hSw; have s0 := kept_at hSw HSP.out; have s1 := (cells2 s0).1; have s2 := (cells2 s0).2; clear s0; go_simp; (try with_reducible rfl)
      simp only [List.getElem_toArray, List.getElem_cons_zero, List.getElem_cons_succ, Act.put, List.setIfInBounds_toArray, List.set_cons_zero, List.set_cons_succ]
      refine wpAnyH_take (i := 15) (oi := _) (v := ?_) rfl (by kernel_rfl) (by kernel_rfl) (by kernel_rfl) (fun _ _ _ h => h) (Or.inl ⟨by rfl, ?_⟩) hHeld ?_
      rotate_left
      · intro w9 hSw; go_simp; (try with_reducible rfl)
      simp only [List.getElem_toArray, List.getElem_cons_zero, List.getElem_cons_succ, Act.put, List.setIfInBounds_toArray, List.set_cons_zero, List.set_cons_succ]
      refine wpAnyH_take (i := 16) (oi := _) (v := ?_) rfl (by kernel_rfl) (by kernel_rfl) (by kernel_rfl) (fun _ _ _ h => h) (Or.inl ⟨by rfl, ?_⟩) hHeld ?_
      rotate_left
      · intro w9 hSw; go_simp; (try with_reducible rfl)
      simp only [List.getElem_toArray, List.getElem_cons_zero, List.getElem_cons_succ, Act.put, List.setIfInBounds_toArray, List.set_cons_zero, List.set_cons_succ]
      refine wpAnyH_take (i := 17) (oi := _) (v := ?_) rfl (by kernel_rfl) (by kernel_rfl) (by kernel_rfl) (fun _ _ _ h => h) (Or.inl ⟨by rfl, ?_⟩) hHeld ?_
      rotate_left
      · intro w9 hSw; have s0 := kept_at hSw HTR.out; have s1 := (cells7 s0).2.2.2.2.1; clear s0; go_simp; (try with_reducible rfl)
      simp only [List.getElem_toArray, List.getElem_cons_zero, List.getElem_cons_succ, Act.put, List.setIfInBounds_toArray, List.set_cons_zero, List.set_cons_succ]
      refine wpAnyH_take (i := 18) (oi := _) (v := ?_) rfl (by kernel_rfl) (by kernel_rfl) (by kernel_rfl) (fun _ _ _ h => h) (Or.inl ⟨by rfl, ?_⟩) hHeld ?_
      rotate_left
      · intro w9 hSw; have s0 := kept_at hSw HCU.out; have s1 := (cells5 s0).1; have s2 := (cells5 s0).2.1; have s3 := (cells5 s0).2.2.1; have s4 := (cells5 s0).2.2.2.1; have s5 := (cells5 s0).2.2.2.2; clear s0; go_simp; (try with_reducible rfl)
      simp only [List.getElem_toArray, List.getElem_cons_zero, List.getElem_cons_succ, Act.put, List.setIfInBounds_toArray, List.set_cons_zero, List.set_cons_succ]
      refine wpAnyH_ready (rs := [19]) (by kernel_rfl) (by simp) ?_
      refine AllReadyH.cons (o := _) rfl (fun K hK => ?_) AllReadyH.nil
      go_simp
      refine (node35 (some ⟨ga, 0, none⟩) (i : Nat) (fn : Nat) xk xu Y.drew).mono ?_
      rintro e x1 ⟨rfl, b1⟩
      have b1 : Below Y.heap.size Y x1 := (Below.drew (Below.refl _ _)).trans b1
      refine hK.out _ _ b1 (fun hHeld1 => ?_)
      clear hK
      refine wpAnyH_ready (rs := [20]) (by kernel_rfl) (by simp) ?_
      refine AllReadyH.cons (o := _) rfl (fun K hK => ?_) AllReadyH.nil
      go_simp
      refine (HC8.out x1 (HBY.out.trans (b1.mono HBY.out.size))).mono ?_
      rintro e x2 ⟨rfl, b2⟩
      have b2 : Below Y.heap.size Y x2 := b1.trans (b2.mono b1.size)
      refine hK.out _ _ b2 (fun hHeld2 => ?_)
      clear hK
      refine wpAnyH_take (i := 21) (oi := _) (v := ?_) rfl (by kernel_rfl) (by kernel_rfl) (by kernel_rfl) (fun _ _ _ h => h) (Or.inl ⟨by rfl, ?_⟩) hHeld2 ?_
      rotate_left
      · intro w9 hSw; go_simp; (try with_reducible rfl)
      simp only [List.getElem_toArray, List.getElem_cons_zero, List.getElem_cons_succ, Act.put, List.setIfInBounds_toArray, List.set_cons_zero, List.set_cons_succ]
      refine wpAnyH_take (i := 22) (oi := _) (v := ?_) rfl (by kernel_rfl) (by kernel_rfl) (by kernel_rfl) (fun _ _ _ h => h) (Or.inl ⟨by rfl, ?_⟩) hHeld2 ?_
      rotate_left
      · intro w9 hSw; go_simp; (try with_reducible rfl)
      simp only [List.getElem_toArray, List.getElem_cons_zero, List.getElem_cons_succ, Act.put, List.setIfInBounds_toArray, List.set_cons_zero, List.set_cons_succ]
      refine wpAnyH_take (i := 23) (oi := _) (v := ?_) rfl (by kernel_rfl) (by kernel_rfl) (by kernel_rfl) (fun _ _ _ h => h) (Or.inl ⟨by rfl, ?_⟩) hHeld2 ?_
      rotate_left
      · intro w9 hSw; go_simp; (try with_reducible rfl)
      simp only [List.getElem_toArray, List.getElem_cons_zero, List.getElem_cons_succ, Act.put, List.setIfInBounds_toArray, List.set_cons_zero, List.set_cons_succ]
      refine wpAnyH_take (i := 24) (oi := _) (v := ?_) rfl (by kernel_rfl) (by kernel_rfl) (by kernel_rfl) (fun _ _ _ h => h) (Or.inl ⟨by rfl, ?_⟩) hHeld2 ?_
      rotate_left
      · intro w9 hSw; go_simp; (try with_reducible rfl)
      simp only [List.getElem_toArray, List.getElem_cons_zero, List.getElem_cons_succ, Act.put, List.setIfInBounds_toArray, List.set_cons_zero, List.set_cons_succ]
      refine wpAnyH_take (i := 25) (oi := _) (v := ?_) rfl (by kernel_rfl) (by kernel_rfl) (by kernel_rfl) (fun _ _ _ h => h) (Or.inl ⟨by rfl, ?_⟩) hHeld2 ?_
      rotate_left
      · intro w9 hSw; go_simp; (try with_reducible rfl)
      simp only [List.getElem_toArray, List.getElem_cons_zero, List.getElem_cons_succ, Act.put, List.setIfInBounds_toArray, List.set_cons_zero, List.set_cons_succ]
      refine wpAnyH_take (i := 26) (oi := _) (v := ?_) rfl (by kernel_rfl) (by kernel_rfl) (by kernel_rfl) (fun _ _ _ h => h) (Or.inl ⟨by rfl, ?_⟩) hHeld2 ?_
      rotate_left
      · intro w9 hSw; have s0 := kept_at hSw HSP.out; have s1 := (cells2 s0).1; have s2 := (cells2 s0).2; clear s0; go_simp; (try with_reducible rfl)
      simp only [List.getElem_toArray, List.getElem_cons_zero, List.getElem_cons_succ, Act.put, List.setIfInBounds_toArray, List.set_cons_zero, List.set_cons_succ]
      refine wpAnyH_take (i := 27) (oi := _) (v := ?_) rfl (by kernel_rfl) (by kernel_rfl) (by kernel_rfl) (fun _ _ _ h => h) (Or.inl ⟨by rfl, ?_⟩) hHeld2 ?_
      rotate_left
      · intro w9 hSw; go_simp; (try with_reducible rfl)
      simp only [List.getElem_toArray, List.getElem_cons_zero, List.getElem_cons_succ, Act.put, List.setIfInBounds_toArray, List.set_cons_zero, List.set_cons_succ]
      refine wpAnyH_take (i := 28) (oi := _) (v := ?_) rfl (by kernel_rfl) (by kernel_rfl) (by kernel_rfl) (fun _ _ _ h => h) (Or.inl ⟨by rfl, ?_⟩) hHeld2 ?_
      rotate_left
      · intro w9 hSw; have s0 := kept_at hSw HSP.out; have s1 := (cells2 s0).1; have s2 := (cells2 s0).2; clear s0; go_simp; (try with_reducible rfl)
      simp only [List.getElem_toArray, List.getElem_cons_zero, List.getElem_cons_succ, Act.put, List.setIfInBounds_toArray, List.set_cons_zero, List.set_cons_succ]
      refine wpAnyH_take (i := 29) (oi := _) (v := ?_) rfl (by kernel_rfl) (by kernel_rfl) (by kernel_rfl) (fun _ _ _ h => h) (Or.inl ⟨by rfl, ?_⟩) hHeld2 ?_
      rotate_left
      · intro w9 hSw; have s1 : te ≤ c := (by omega); have s2 : fn ≤ c := (by omega); have s3 : decide (te < fn) = false := decide_eq_false (by omega); have s4 : decide (c < te) = false := decide_eq_false (by omega); have s5 : decide ((fn : Int) < 0) = false := decide_eq_false (by omega); go_simp; (try with_reducible rfl)
      simp only [List.getElem_toArray, List.getElem_cons_zero, List.getElem_cons_succ, Act.put, List.setIfInBounds_toArray, List.set_cons_zero, List.set_cons_succ]
      have RY := HRY.out
      rw [htf] at RY
      generalize (if c = fn then A else Option.map (fun x => x.add fn) A) = A94 at RY ⊢
      refine wpAnyH_take (i := 30) (oi := _) (v := ?_) rfl (by kernel_rfl) (by kernel_rfl) (by kernel_rfl) (fun _ _ _ h => h) (Or.inl ⟨by rfl, ?_⟩) hHeld2 ?_
      rotate_left
      · intro w9 hSw; have s0 := kept_at hSw HCU.out; have s1 := (cells5 s0).1; have s2 := (cells5 s0).2.1; have s3 := (cells5 s0).2.2.1; have s4 := (cells5 s0).2.2.2.1; have s5 := (cells5 s0).2.2.2.2; clear s0; go_simp; (try with_reducible rfl)
      simp only [List.getElem_toArray, List.getElem_cons_zero, List.getElem_cons_succ, Act.put, List.setIfInBounds_toArray, List.set_cons_zero, List.set_cons_succ]
      refine wpAnyH_ready (rs := [31]) (by kernel_rfl) (by simp) ?_
      refine AllReadyH.cons (o := _) rfl (fun K hK => ?_) AllReadyH.nil
      go_simp
      refine (text45 (some ⟨ga, 0, none⟩) (i : Nat) (fn : Nat) xk xu x2 (pr N (i : Nat)).length (ints .u8 (pr N (i : Nat))) (fun W hb => HC23.out W (HBY.out.trans ((b2.mono HBY.out.size).trans (hb.mono (Nat.le_trans HBY.out.size b2.size)))))).mono ?_
      rintro e x3 ⟨A8, c8, rfl, o8, b3⟩
      have b3 : Below Y.heap.size Y x3 := b2.trans (b3.mono b2.size)
      have HO8 := Lib.hid (Rd.of_own o8)
      have HRE := Lib.hid (RY.on b3)
      refine hK.out _ _ b3 (fun hHeld3 => ?_)
      clear hK o8 RY
      refine wpAnyH_ready (rs := [32]) (by kernel_rfl) (by simp) ?_
      refine AllReadyH.cons (o := _) rfl (fun K hK => ?_) AllReadyH.nil
      go_simp
      refine (equal18 _ _ _ _ _ _ _ HRE.out HO8.out).mono ?_
      rintro e x4 ⟨rfl, b4⟩
      have b4 : Below Y.heap.size Y x4 := b3.trans (b4.mono b3.size)
      refine hK.out _ _ b4 (fun hHeld4 => ?_)
      clear hK
      refine wpAnyH_take (i := 33) (oi := _) (v := ?_) rfl (by kernel_rfl) (by kernel_rfl) (by kernel_rfl) (fun _ _ _ h => h) (Or.inl ⟨by rfl, ?_⟩) hHeld4 ?_
      rotate_left
      · intro w9 hSw; go_simp; (try with_reducible rfl)
      simp only [List.getElem_toArray, List.getElem_cons_zero, List.getElem_cons_succ, Act.put, List.setIfInBounds_toArray, List.set_cons_zero, List.set_cons_succ]
      refine wpAnyH_take (i := 34) (oi := _) (v := ?_) rfl (by kernel_rfl) (by kernel_rfl) (by kernel_rfl) (fun _ _ _ h => h) (Or.inl ⟨by rfl, ?_⟩) hHeld4 ?_
      rotate_left
      · intro w9 hSw; go_simp; (try with_reducible rfl)
      simp only [List.getElem_toArray, List.getElem_cons_zero, List.getElem_cons_succ, Act.put, List.setIfInBounds_toArray, List.set_cons_zero, List.set_cons_succ]
      refine wpAnyH_done (by kernel_rfl) ?_ _
      have HB4 := Lib.hid (HB.out.trans ((HBY.out.trans (b4.mono HBY.out.size)).mono HB.out.size))
      clear hHeld hHeld1 hHeld2 hHeld3 hHeld4 b1 b2 b3 b4
      go_wp2_with fail
      go_roundw
      case rel => exact ⟨k + 1, by omega, by go_num, HB4⟩
      case measure => simp [intOf]; omega
    · obtain rfl : k = l.length := by omega
      go_wp2_with fail
      go_ret
      exact ⟨rfl, HBX.out.trans ((HB6.out.trans (HB.out.mono HB6.out.size)).mono HBX.out.size)⟩
end Go.Proofs.YtibakihcicfeoaaGreat
