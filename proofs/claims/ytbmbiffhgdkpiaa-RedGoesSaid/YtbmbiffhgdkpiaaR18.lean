/- The walk of the law RedTexts. No condition. -/
import Derived.Test.YtbmbiffhgdkpiaaR17
namespace Go.Proofs.Ytbmbiffhgdkpiaa
open Go.RowKit

/-- What a cursor's node prints stands in what the root prints, where the cursor begins. -/
theorem Chain.text {X : Nat → Prop} {w : World} {ga : Nat} {N : List GN} {root : Nat} (hN : OkN N) (hr : root < N.length) : ∀ {Q : List Int} {n f k : Int} {u : Option Addr}, Chain X w ga N root Q n f k u → ∃ p s, pr N root = p ++ pr N n ++ s ∧ f = (p.length : Nat)
  | [], n, f, k, u, ⟨hn, hf, _⟩ => ⟨[], [], by simp [hn], by simp [hf]⟩
  | q :: Q, n, f, k, u, ⟨b, n', f', k', u', _, _, _, hc, _, h0, h1, hn, hf⟩ => by
    obtain ⟨p, s, hp, hl⟩ := hc.text hN hr
    obtain ⟨p0, p1, -, -, -⟩ := hc.ok hN hr
    obtain ⟨i, rfl⟩ := Int.eq_ofNat_of_zero_le p0
    obtain ⟨j, rfl⟩ := Int.eq_ofNat_of_zero_le h0
    rw [show ((i : Nat) : Int).toNat = i from rfl] at h1 hn hf
    rw [show ((j : Nat) : Int).toNat = j from rfl] at hn hf
    have hi : i < N.length := by omega
    have hj : j < (gn N i).kids.length := by omega
    have hb : (gn N i).b = [] := by
      cases hlf : (gn N i).leaf with
      | false => exact hN.bra i hi hlf
      | true => rw [hN.leaf i hi hlf] at hj; simp at hj
    have he := pr_eq hN.good (z := (i : Nat)) (by omega) (by omega)
    rw [show ((i : Nat) : Int).toNat = i from rfl, hb, List.nil_append] at he
    have hk : (gn N i).kids = (gn N i).kids.take j ++ (gn N i).kids[j] :: (gn N i).kids.drop (j + 1) := by rw [← List.drop_eq_getElem_cons hj, List.take_append_drop]
    have hlen : (((gn N i).kids.take j).flatMap (pr N)).length = bW N (gn N i).kids j := by
      rw [bW_sum N _ j (by omega)]
      refine flat_len _ _ _ fun z hz => ?_
      have hg := good_kid hN.good hi (z := z) (List.mem_of_mem_take hz)
      obtain ⟨y, rfl⟩ := Int.eq_ofNat_of_zero_le hg.1
      exact (hN.wide y (by omega)).symm
    refine ⟨p ++ ((gn N i).kids.take j).flatMap (pr N), ((gn N i).kids.drop (j + 1)).flatMap (pr N) ++ s, ?_, ?_⟩
    · have he2 : (gn N i).kids.flatMap (pr N) = ((gn N i).kids.take j).flatMap (pr N) ++ (pr N (gn N i).kids[j] ++ ((gn N i).kids.drop (j + 1)).flatMap (pr N)) :=
        (congrArg (fun l => l.flatMap (pr N)) hk).trans (by simp only [List.flatMap_append, List.flatMap_cons])
      rw [hp, he, hn, gz_eq hj, he2]
      simp only [List.append_assoc]
    · rw [hf, hl, List.length_append, hlen]
      omega
theorem Rd.cut5 {w : World} {B n c lo hi : Nat} {A : Option Addr} {k : IntKind} {zs : List Int} (h : Rd w B 1 A n c (ints k zs)) (h1 : lo ≤ hi) (h2 : hi ≤ n) :
    Rd w B 1 (if c = lo then A else Option.map (fun x => x.add lo) A) (hi - lo) (c - lo) (ints k ((zs.drop lo).take (hi - lo))) := by
  have hc := h.cap
  have := h.cut (l := lo) (k := hi) (m := c) h1 h2 (Nat.le_refl _) (by omega)
  rw [Nat.mul_one, Nat.mul_one, ← List.map_drop, ← List.map_take] at this
  exact this
theorem cells2 {W : World} {b : Nat} {x y : Value} {t : TypeId} (h : W.heap[b]? = some (.cells #[x, y] t (0, 0))) : W.cell? ⟨b, 0, none⟩ = some x ∧ W.cell? ⟨b, 1, none⟩ = some y := ⟨cell_of_row W b 0 _ _ _ h, cell_of_row W b 1 _ _ _ h⟩
set_option maxRecDepth 100000 in
set_option maxHeartbeats 4000000 in
theorem walk9 (A : Option Addr) (n c : Nat) (w : World) (h : OpsIn w w.heap.size A n) (root : Int) : Calls Try.prog 9 #[.slice A n c, .int .i64 root] w fun e w' => e = .returned (.bool true) ∧ Below w.heap.size w w' := by
  go_enter Try.func9, Try.ntmps9
  go_wp2_with (go_at_call 31; refine (made31 A n c w h).mono ?_; rintro e w1 ⟨A1, c1, N, rfl, hB1, hl1, b1⟩)
  have C32 := root32 hB1.arena root
  have C24 := has24 A1 N.length c1 root
  have HB1 := Lib.hid hB1
  have B1 := Lib.hid b1
  clear hB1 b1 h
  by_cases hroot : 0 ≤ root ∧ root < N.length
  · obtain ⟨r, rfl⟩ := Int.eq_ofNat_of_zero_le hroot.1
    have hr : r < N.length := by omega
    have C32' : Calls Try.prog 32 #[.pointer (some ⟨w.heap.size, 0, none⟩), .int .i64 (r : Nat)] w1 fun e w' => e = .returned (.tuple #[.agg (cc (some ⟨w.heap.size, 0, none⟩) (r : Nat) 0 0 none), .int .i64 0]) ∧ Below w1.heap.size w1 w' := C32.mono fun e w' ⟨hx, hb⟩ => ⟨by rw [if_pos hroot] at hx; exact hx, hb⟩
    have hwr := HB1.out.wd r hr
    have HWR := Lib.hid (HB1.out.ok.wide r hr)
    rw [HWR.out] at hwr
    clear C32 C24
    go_wp2_with (first
      | (go_at_call 32; refine C32'.mono ?_; rintro e w2 ⟨rfl, b2⟩; have hR := heap_alloc_new w2 (.cells (cc none 0 0 0 none) 59); have B2 := Lib.hid (B1.out.trans (b2.mono B1.out.size)); have HB2 := Lib.hid (HB1.out.below b2); clear C32' b2 HB1)
      | (refine wpList_putc rfl _ _ rfl w2.heap.size (some ⟨w.heap.size, 0, none⟩) (r : Nat) 0 0 none rfl rfl hR ?_; intro w3 hR3 hg3; have b3 := below_put hg3; have B3 := Lib.hid (B2.out.trans (b3.mono B2.out.size)); have HB3 := Lib.hid (HB2.out.below b3); have HX3 := Lib.hid hR3; clear hR b3 HB2 hR3 hg3)
      | (go_at_call 19; refine (print19_at HB3.out.arena hr HB3.out.ok (by omega)).mono ?_; rintro e w4 ⟨A9, c9, rfl, o9, b4⟩; have B4 := Lib.hid (B3.out.trans (b4.mono B3.out.size)); have HB4 := Lib.hid (HB3.out.below b4); have HR4 := Lib.hid (Rd.of_own o9); have h4 := kept_at b4 HX3.out; have d0 := (cells5 h4).1; have d1 := (cells5 h4).2.1; have d2 := (cells5 h4).2.2.1; have d3 := (cells5 h4).2.2.2.1; have d4 := (cells5 h4).2.2.2.2; clear b4 h4 HB3 HX3 o9)
      | (go_at_call 47; refine (walk47 HB4.out.arena HB4.out.ok (fun i hi => Nat.le_trans (HB4.out.wd i hi) (by omega)) r hr [] (r : Nat) 0 0 none ⟨rfl, rfl, rfl, rfl⟩ 100 (by omega)).mono ?_; intro e w5 hs5; obtain ⟨A4, c4, L, l, rfl, ho5, hx5, hl5, hL, b5⟩ := WalkSaid.to hs5; have hLb : L.length ≤ 100 := (by rw [hL, List.length_take]; exact Nat.min_le_left _ _); have HO5 := Lib.hid ho5; have HX5 := Lib.hid hx5; have HLL := Lib.hid hl5; have B5 := Lib.hid (B4.out.trans (b5.mono B4.out.size)); have HB5 := Lib.hid (HB4.out.below b5); have HR5 := Lib.hid (HR4.out.on b5); clear hs5 ho5 hx5 hl5 hL b5 HB4 HR4 d0 d1 d2 d3 d4))
    go_loopw [41] (fun i wr => ∃ k : Nat, k ≤ L.length ∧ i = .int .i64 k ∧ Hid (wr.ownsRow w4.heap.size 59 5 (.slice A4 L.length c4) L.length (crow w.heap.size l)) ∧ Hid (Rd wr wr.heap.size 1 A9 (pr N (r : Nat)).length c9 (ints .u8 (pr N (r : Nat)))) ∧ Hid (∀ x ∈ l, x.at_ (fun _ => True) wr w.heap.size N r) ∧ Hid (Both wr w.heap.size w.heap.size (.slice A1 N.length c1) N) ∧ Hid (Below w.heap.size w wr))
      (fun i _ => L.length - (intOf i).toNat)
    case atStart => exact ⟨0, Nat.zero_le _, rfl, HO5, HR5, HX5, HB5, B5⟩
    case round =>
      obtain ⟨k, hk, rfl, HO, HR, HX, HB, HBl⟩ := hrel
      by_cases hlt : k < L.length
      · have hll : l.length = L.length := by rw [← HLL.out, List.length_map]
        obtain ⟨x, hx⟩ : ∃ x, l[k]? = some x := ⟨_, List.getElem?_eq_getElem (by omega)⟩
        obtain ⟨xP, xn, xf, xk, xu⟩ := x
        obtain ⟨g4, rfl⟩ := own_head HO.out (by omega)
        obtain ⟨y0, y1, y2, y3, y4⟩ := ccells HO.out hx
        have hch : Chain (fun _ => True) wr w.heap.size N r xP.reverse xn xf xk xu := HX.out _ (List.mem_of_getElem? hx)
        obtain ⟨p0, p1, p2, p3, -⟩ := hch.ok HB.out.ok hr
        obtain ⟨tp, ts, htx, htf⟩ := hch.text HB.out.ok hr
        obtain ⟨i, rfl⟩ := Int.eq_ofNat_of_zero_le p0
        have hi : i < N.length := by omega
        subst htf
        generalize hfn : tp.length = fn at *
        have hwi := HB.out.ok.wide i hi
        have hsum : fn + (pr N (i : Nat)).length ≤ (pr N (r : Nat)).length := by rw [htx, List.length_append, List.length_append]; omega
        have HTX := Lib.hid (show ((pr N (r : Nat)).drop fn).take ((fn + (pr N (i : Nat)).length) - fn) = pr N (i : Nat) by
          rw [htx, ← hfn, List.append_assoc, List.drop_left, Nat.add_sub_cancel_left, List.take_left])
        have C46 : ∀ W, Below wr.heap.size wr W → Calls Try.prog 46 #[.agg (cc (some ⟨w.heap.size, 0, none⟩) (i : Nat) (fn : Nat) xk xu)] W fun e w' => e = .returned (.agg #[.int .i64 (fn : Nat), .int .i64 ((fn + (pr N (i : Nat)).length : Nat) : Int)]) ∧ Below W.heap.size W w' := fun W hW => by
          refine (span46 (some ⟨w.heap.size, 0, none⟩) (i : Nat) (fn : Nat) xk xu W ((gn N i).w : Nat) (fun W' hW' => (width18_at (k := i) ((HB.out.arena.below hW).below hW') hi).mono fun e w' ⟨he, hb⟩ => ⟨he, hb⟩) (by omega) (by omega) (by omega) (by omega)).mono ?_
          rintro e w' ⟨he, hb⟩
          refine ⟨?_, hb⟩
          rw [he, hwi, Int.natCast_add]
        have C46 := Lib.hid C46
        have HC := Lib.hid hwi
        have hlen : (pr N (i : Nat)).length ≤ 3000 := by omega
        have hto1 : fn ≤ fn + (pr N (i : Nat)).length := Nat.le_add_right _ _
        generalize hto : fn + (pr N (i : Nat)).length = te at *
        have hR := heap_alloc_new wr (.cells (cc none 0 0 0 none) 59)
        clear hch p0 p1 p3 htx hx hfn hwi hto
        go_wp2_with (first
          | (refine wpList_putc rfl _ _ rfl wr.heap.size (some ⟨w.heap.size, 0, none⟩) (i : Nat) (fn : Nat) xk xu rfl rfl hR ?_; intro w6 hR6 hg6; have b6 := below_put hg6; have B6 := Lib.hid b6; have HX6 := Lib.hid hR6; have d0 := (cells5 hR6).1; have d1 := (cells5 hR6).2.1; have d2 := (cells5 hR6).2.2.1; have d3 := (cells5 hR6).2.2.2.1; have d4 := (cells5 hR6).2.2.2.2; clear hR b6 hR6 hg6 y0 y1 y2 y3 y4)
          | (go_at_call 46; refine (C46.out _ B6.out).mono ?_; rintro e w7 ⟨rfl, b7⟩; have B7 := Lib.hid (B6.out.trans (b7.mono B6.out.size)); have HX7 := Lib.hid (kept_at b7 HX6.out); have hR := heap_alloc_new w7 (.cells #[.int .i64 0, .int .i64 0] 72); clear b7 d0 d1 d2 d3 d4 HX6)
          | (refine wpList_put rfl 72 _ _ rfl w7.heap.size #[.int .i64 (fn : Nat), .int .i64 (te : Nat)] rfl rfl 72 #[.int .i64 0, .int .i64 0] hR (by kernel_rfl) rfl (by simp [Value.oneCell']) ?_; intro w8 hR8 hg8; have b8 := below_put hg8; have B8 := Lib.hid (B7.out.trans (b8.mono B7.out.size)); have HX8 := Lib.hid (kept_at b8 HX7.out); have HY8 := Lib.hid hR8; have hw7 : w7.heap.size < w8.heap.size := (Array.getElem?_eq_some_iff.1 hR8).1; have hw6 : wr.heap.size < w8.heap.size := (Array.getElem?_eq_some_iff.1 HX8.out).1; clear hR b8 hR8 hg8 HX7))
        have HB8 := Lib.hid (HB.out.below B8.out)
        have HR8 := Lib.hid (HR.out.on B8.out)
        have HO8 := Lib.hid (own_below HO.out B8.out)
        have HXX8 := Lib.hid (fun x hx => (HX.out x hx).below B8.out)
        have hcc := HR.out.cap
        refine wp_region_held_drew (S := fun W => Below w8.drew.heap.size w8.drew W) (by kernel_rfl) (Below.refl _ _) (fun hHeld => ?_)
        change wpAnyH _ _ _ _ _ 30 #[false, false, false, false, false, false, false, false, false, false, false, false, false, false, false, false, false, false, false, false, false, false, false, false, false, false, false, false, false, false] _ _
        have wa_b : Hid (Below wr.heap.size wr w8.drew) := Lib.hid B8.out.drew
        have wa_h : Hid (Both w8.drew w.heap.size w.heap.size (.slice A1 N.length c1) N) := Lib.hid (HB8.out.below ⟨rfl, rfl, rfl, Nat.le_refl _, fun _ _ => rfl⟩)
        have wa_q : Rd w8.drew w8.drew.heap.size 1 (if c9 = fn then A9 else Option.map (fun x => x.add fn) A9) (te - fn) (c9 - fn) (ints .u8 (pr N (i : Nat))) := by have h5 := (HR8.out.cut5 hto1 hsum).drew; rw [HTX.out] at h5; exact h5
        have wa_x : Hid (w8.drew.heap[wr.heap.size]? = some (.cells (cc (some ⟨w.heap.size, 0, none⟩) (i : Nat) (fn : Nat) xk xu) 59 (0, 0))) := Lib.hid HX8.out
        have wa_y : Hid (w8.drew.heap[w7.heap.size]? = some (.cells #[.int .i64 (fn : Nat), .int .i64 (te : Nat)] 72 (0, 0))) := Lib.hid HY8.out
        have wa_s : wr.heap.size < w8.drew.heap.size := hw6
        have wa_t : w7.heap.size < w8.drew.heap.size := hw7
        generalize w8.drew = wa at *
        refine wpAnyH_take (i := 0) (oi := _) (v := ?_) rfl (by kernel_rfl) (by kernel_rfl) (by kernel_rfl) (fun _ _ _ h => h) (Or.inl ⟨by rfl, ?_⟩) hHeld ?_
        rotate_left
        · intro w9 hSw; go_simp; (try with_reducible rfl)
        simp only [List.getElem_toArray, List.getElem_cons_zero, Act.put, List.setIfInBounds_toArray, List.set_cons_zero, List.set_cons_succ]
        refine wpAnyH_take (i := 1) (oi := _) (v := ?_) rfl (by kernel_rfl) (by kernel_rfl) (by kernel_rfl) (fun _ _ _ h => h) (Or.inl ⟨by rfl, ?_⟩) hHeld ?_
        rotate_left
        · intro w9 hSw; have s0 := (hSw.block w7.heap.size wa_t).trans wa_y.out; have s1 := (cells2 s0).1; have s2 := (cells2 s0).2; clear s0; go_simp; (try with_reducible rfl)
        simp only [List.getElem_toArray, List.getElem_cons_zero, List.getElem_cons_succ, Act.put, List.setIfInBounds_toArray, List.set_cons_zero, List.set_cons_succ]
        refine wpAnyH_take (i := 2) (oi := _) (v := ?_) rfl (by kernel_rfl) (by kernel_rfl) (by kernel_rfl) (fun _ _ _ h => h) (Or.inl ⟨by rfl, ?_⟩) hHeld ?_
        rotate_left
        · intro w9 hSw; have s9 : decide (((fn : Nat) : Int) < 0) = false := decide_eq_false (by omega); go_simp; (try with_reducible rfl)
        simp only [List.getElem_toArray, List.getElem_cons_zero, List.getElem_cons_succ, Act.put, List.setIfInBounds_toArray, List.set_cons_zero, List.set_cons_succ]
        refine wpAnyH_take (i := 3) (oi := _) (v := ?_) rfl (by kernel_rfl) (by kernel_rfl) (by kernel_rfl) (fun _ _ _ h => h) (Or.inl ⟨by rfl, ?_⟩) hHeld ?_
        rotate_left
        · intro w9 hSw; go_simp; (try with_reducible rfl)
        simp only [List.getElem_toArray, List.getElem_cons_zero, List.getElem_cons_succ, Act.put, List.setIfInBounds_toArray, List.set_cons_zero, List.set_cons_succ]
        refine wpAnyH_take (i := 4) (oi := _) (v := ?_) rfl (by kernel_rfl) (by kernel_rfl) (by kernel_rfl) (fun _ _ _ h => h) (Or.inl ⟨by rfl, ?_⟩) hHeld ?_
        rotate_left
        · intro w9 hSw; go_simp; (try with_reducible rfl)
        simp only [List.getElem_toArray, List.getElem_cons_zero, List.getElem_cons_succ, Act.put, List.setIfInBounds_toArray, List.set_cons_zero, List.set_cons_succ]
        refine wpAnyH_take (i := 5) (oi := _) (v := ?_) rfl (by kernel_rfl) (by kernel_rfl) (by kernel_rfl) (fun _ _ _ h => h) (Or.inl ⟨by rfl, ?_⟩) hHeld ?_
        rotate_left
        · intro w9 hSw; have s0 := (hSw.block w7.heap.size wa_t).trans wa_y.out; have s1 := (cells2 s0).1; have s2 := (cells2 s0).2; clear s0; go_simp; (try with_reducible rfl)
        simp only [List.getElem_toArray, List.getElem_cons_zero, List.getElem_cons_succ, Act.put, List.setIfInBounds_toArray, List.set_cons_zero, List.set_cons_succ]
        refine wpAnyH_take (i := 6) (oi := _) (v := ?_) rfl (by kernel_rfl) (by kernel_rfl) (by kernel_rfl) (fun _ _ _ h => h) (Or.inl ⟨by rfl, ?_⟩) hHeld ?_
        rotate_left
        · intro w9 hSw; go_simp; (try with_reducible rfl)
        simp only [List.getElem_toArray, List.getElem_cons_zero, List.getElem_cons_succ, Act.put, List.setIfInBounds_toArray, List.set_cons_zero, List.set_cons_succ]
        refine wpAnyH_take (i := 7) (oi := _) (v := ?_) rfl (by kernel_rfl) (by kernel_rfl) (by kernel_rfl) (fun _ _ _ h => h) (Or.inl ⟨by rfl, ?_⟩) hHeld ?_
        rotate_left
        · intro w9 hSw; have s0 := (hSw.block w7.heap.size wa_t).trans wa_y.out; have s1 := (cells2 s0).1; have s2 := (cells2 s0).2; clear s0; go_simp; (try with_reducible rfl)
        simp only [List.getElem_toArray, List.getElem_cons_zero, List.getElem_cons_succ, Act.put, List.setIfInBounds_toArray, List.set_cons_zero, List.set_cons_succ]
        refine wpAnyH_take (i := 8) (oi := _) (v := ?_) rfl (by kernel_rfl) (by kernel_rfl) (by kernel_rfl) (fun _ _ _ h => h) (Or.inl ⟨by rfl, ?_⟩) hHeld ?_
        rotate_left
        · intro w9 hSw; have s9 : decide (te < fn) = false := decide_eq_false (by omega); go_simp; (try with_reducible rfl)
        simp only [List.getElem_toArray, List.getElem_cons_zero, List.getElem_cons_succ, Act.put, List.setIfInBounds_toArray, List.set_cons_zero, List.set_cons_succ]
        refine wpAnyH_take (i := 9) (oi := _) (v := ?_) rfl (by kernel_rfl) (by kernel_rfl) (by kernel_rfl) (fun _ _ _ h => h) (Or.inl ⟨by rfl, ?_⟩) hHeld ?_
        rotate_left
        · intro w9 hSw; go_simp; (try with_reducible rfl)
        simp only [List.getElem_toArray, List.getElem_cons_zero, List.getElem_cons_succ, Act.put, List.setIfInBounds_toArray, List.set_cons_zero, List.set_cons_succ]
        refine wpAnyH_take (i := 10) (oi := _) (v := ?_) rfl (by kernel_rfl) (by kernel_rfl) (by kernel_rfl) (fun _ _ _ h => h) (Or.inl ⟨by rfl, ?_⟩) hHeld ?_
        rotate_left
        · intro w9 hSw; go_simp; (try with_reducible rfl)
        simp only [List.getElem_toArray, List.getElem_cons_zero, List.getElem_cons_succ, Act.put, List.setIfInBounds_toArray, List.set_cons_zero, List.set_cons_succ]
        refine wpAnyH_take (i := 11) (oi := _) (v := ?_) rfl (by kernel_rfl) (by kernel_rfl) (by kernel_rfl) (fun _ _ _ h => h) (Or.inl ⟨by rfl, ?_⟩) hHeld ?_
        rotate_left
        · intro w9 hSw; go_simp; (try with_reducible rfl)
        simp only [List.getElem_toArray, List.getElem_cons_zero, List.getElem_cons_succ, Act.put, List.setIfInBounds_toArray, List.set_cons_zero, List.set_cons_succ]
        refine wpAnyH_take (i := 12) (oi := _) (v := ?_) rfl (by kernel_rfl) (by kernel_rfl) (by kernel_rfl) (fun _ _ _ h => h) (Or.inl ⟨by rfl, ?_⟩) hHeld ?_
        rotate_left
        · intro w9 hSw; have s0 := (hSw.block w7.heap.size wa_t).trans wa_y.out; have s1 := (cells2 s0).1; have s2 := (cells2 s0).2; clear s0; go_simp; (try with_reducible rfl)
        simp only [List.getElem_toArray, List.getElem_cons_zero, List.getElem_cons_succ, Act.put, List.setIfInBounds_toArray, List.set_cons_zero, List.set_cons_succ]
        refine wpAnyH_take (i := 13) (oi := _) (v := ?_) rfl (by kernel_rfl) (by kernel_rfl) (by kernel_rfl) (fun _ _ _ h => h) (Or.inl ⟨by rfl, ?_⟩) hHeld ?_
        rotate_left
        · intro w9 hSw; go_simp; (try with_reducible rfl)
        simp only [List.getElem_toArray, List.getElem_cons_zero, List.getElem_cons_succ, Act.put, List.setIfInBounds_toArray, List.set_cons_zero, List.set_cons_succ]
        refine wpAnyH_take (i := 14) (oi := _) (v := ?_) rfl (by kernel_rfl) (by kernel_rfl) (by kernel_rfl) (fun _ _ _ h => h) (Or.inl ⟨by rfl, ?_⟩) hHeld ?_
        rotate_left
        · intro w9 hSw; go_simp; (try with_reducible rfl)
        simp only [List.getElem_toArray, List.getElem_cons_zero, List.getElem_cons_succ, Act.put, List.setIfInBounds_toArray, List.set_cons_zero, List.set_cons_succ]
        refine wpAnyH_take (i := 15) (oi := _) (v := ?_) rfl (by kernel_rfl) (by kernel_rfl) (by kernel_rfl) (fun _ _ _ h => h) (Or.inl ⟨by rfl, ?_⟩) hHeld ?_
        rotate_left
        · intro w9 hSw; have s9 : decide ((pr N (r : Nat)).length < te) = false := decide_eq_false (by omega); go_simp; (try with_reducible rfl)
        simp only [List.getElem_toArray, List.getElem_cons_zero, List.getElem_cons_succ, Act.put, List.setIfInBounds_toArray, List.set_cons_zero, List.set_cons_succ]
        refine wpAnyH_take (i := 16) (oi := _) (v := ?_) rfl (by kernel_rfl) (by kernel_rfl) (by kernel_rfl) (fun _ _ _ h => h) (Or.inl ⟨by rfl, ?_⟩) hHeld ?_
        rotate_left
        · intro w9 hSw; go_simp; (try with_reducible rfl)
        simp only [List.getElem_toArray, List.getElem_cons_zero, List.getElem_cons_succ, Act.put, List.setIfInBounds_toArray, List.set_cons_zero, List.set_cons_succ]
        refine wpAnyH_take (i := 17) (oi := _) (v := ?_) rfl (by kernel_rfl) (by kernel_rfl) (by kernel_rfl) (fun _ _ _ h => h) (Or.inl ⟨by rfl, ?_⟩) hHeld ?_
        rotate_left
        · intro w9 hSw; go_simp; (try with_reducible rfl)
        simp only [List.getElem_toArray, List.getElem_cons_zero, List.getElem_cons_succ, Act.put, List.setIfInBounds_toArray, List.set_cons_zero, List.set_cons_succ]
        refine wpAnyH_take (i := 18) (oi := _) (v := ?_) rfl (by kernel_rfl) (by kernel_rfl) (by kernel_rfl) (fun _ _ _ h => h) (Or.inl ⟨by rfl, ?_⟩) hHeld ?_
        rotate_left
        · intro w9 hSw; go_simp; (try with_reducible rfl)
        simp only [List.getElem_toArray, List.getElem_cons_zero, List.getElem_cons_succ, Act.put, List.setIfInBounds_toArray, List.set_cons_zero, List.set_cons_succ]
        refine wpAnyH_take (i := 19) (oi := _) (v := ?_) rfl (by kernel_rfl) (by kernel_rfl) (by kernel_rfl) (fun _ _ _ h => h) (Or.inl ⟨by rfl, ?_⟩) hHeld ?_
        rotate_left
        · intro w9 hSw; go_simp; (try with_reducible rfl)
        simp only [List.getElem_toArray, List.getElem_cons_zero, List.getElem_cons_succ, Act.put, List.setIfInBounds_toArray, List.set_cons_zero, List.set_cons_succ]
        refine wpAnyH_take (i := 20) (oi := _) (v := ?_) rfl (by kernel_rfl) (by kernel_rfl) (by kernel_rfl) (fun _ _ _ h => h) (Or.inl ⟨by rfl, ?_⟩) hHeld ?_
        rotate_left
        · intro w9 hSw; have s0 := (hSw.block w7.heap.size wa_t).trans wa_y.out; have s1 := (cells2 s0).1; have s2 := (cells2 s0).2; clear s0; go_simp; (try with_reducible rfl)
        simp only [List.getElem_toArray, List.getElem_cons_zero, List.getElem_cons_succ, Act.put, List.setIfInBounds_toArray, List.set_cons_zero, List.set_cons_succ]
        refine wpAnyH_take (i := 21) (oi := _) (v := ?_) rfl (by kernel_rfl) (by kernel_rfl) (by kernel_rfl) (fun _ _ _ h => h) (Or.inl ⟨by rfl, ?_⟩) hHeld ?_
        rotate_left
        · intro w9 hSw; go_simp; (try with_reducible rfl)
        simp only [List.getElem_toArray, List.getElem_cons_zero, List.getElem_cons_succ, Act.put, List.setIfInBounds_toArray, List.set_cons_zero, List.set_cons_succ]
        refine wpAnyH_take (i := 22) (oi := _) (v := ?_) rfl (by kernel_rfl) (by kernel_rfl) (by kernel_rfl) (fun _ _ _ h => h) (Or.inl ⟨by rfl, ?_⟩) hHeld ?_
        rotate_left
        · intro w9 hSw; have s0 := (hSw.block w7.heap.size wa_t).trans wa_y.out; have s1 := (cells2 s0).1; have s2 := (cells2 s0).2; clear s0; go_simp; (try with_reducible rfl)
        simp only [List.getElem_toArray, List.getElem_cons_zero, List.getElem_cons_succ, Act.put, List.setIfInBounds_toArray, List.set_cons_zero, List.set_cons_succ]
        refine wpAnyH_take (i := 23) (oi := _) (v := ?_) rfl (by kernel_rfl) (by kernel_rfl) (by kernel_rfl) (fun _ _ _ h => h) (Or.inl ⟨by rfl, ?_⟩) hHeld ?_
        rotate_left
        · intro w9 hSw; have s1 : te ≤ c9 := (by omega); go_simp; (try with_reducible rfl)
        simp only [List.getElem_toArray, List.getElem_cons_zero, List.getElem_cons_succ, Act.put, List.setIfInBounds_toArray, List.set_cons_zero, List.set_cons_succ]
        generalize (if c9 = fn then A9 else Option.map (fun x => x.add fn) A9) = A94 at wa_q ⊢
        refine wpAnyH_take (i := 24) (oi := _) (v := ?_) rfl (by kernel_rfl) (by kernel_rfl) (by kernel_rfl) (fun _ _ _ h => h) (Or.inl ⟨by rfl, ?_⟩) hHeld ?_
        rotate_left
        · intro w9 hSw; have s9 := run_str' (wa_q.below hSw); go_simp; (try with_reducible rfl)
        simp only [List.getElem_toArray, List.getElem_cons_zero, List.getElem_cons_succ, Act.put, List.setIfInBounds_toArray, List.set_cons_zero, List.set_cons_succ]
        refine wpAnyH_take (i := 25) (oi := _) (v := ?_) rfl (by kernel_rfl) (by kernel_rfl) (by kernel_rfl) (fun _ _ _ h => h) (Or.inl ⟨by rfl, ?_⟩) hHeld ?_
        rotate_left
        · intro w9 hSw; have s0 := (hSw.block wr.heap.size wa_s).trans wa_x.out; have s1 := (cells5 s0).1; have s2 := (cells5 s0).2.1; have s3 := (cells5 s0).2.2.1; have s4 := (cells5 s0).2.2.2.1; have s5 := (cells5 s0).2.2.2.2; clear s0; go_simp; (try with_reducible rfl)
        simp only [List.getElem_toArray, List.getElem_cons_zero, List.getElem_cons_succ, Act.put, List.setIfInBounds_toArray, List.set_cons_zero, List.set_cons_succ]
        refine wpAnyH_ready (rs := [26]) (by kernel_rfl) (by simp) ?_
        refine AllReadyH.cons (o := _) rfl (fun K hK => ?_) AllReadyH.nil
        go_simp
        refine (text45 _ _ _ _ _ _ _ _ (fun W hbW => print19_at (wa_h.out.arena.below hbW) hi HB8.out.ok (by omega))).mono ?_
        rintro e wb ⟨A8, c8, rfl, ho8, hb_wb⟩
        refine hK.out _ _ hb_wb (fun _ => ?_)
        clear hK
        refine wpAnyH_mono (S' := fun W => Below wb.heap.size wb W) (fun W h => Below.trans hb_wb (h.mono hb_wb.size)) _ _ _ _ ?_
        have hHeld1 : (fun W => Below wb.heap.size wb W) wb := Below.refl _ _
        have r8 := Rd.of_own ho8
        have wb_b := Lib.hid (wa_b.out.trans (hb_wb.mono wa_b.out.size))
        have HBw := Lib.hid (wa_h.out.below hb_wb)
        refine wpAnyH_take (i := 27) (oi := _) (v := ?_) rfl (by kernel_rfl) (by kernel_rfl) (by kernel_rfl) (fun _ _ _ h => h) (Or.inl ⟨by rfl, ?_⟩) hHeld1 ?_
        rotate_left
        · intro w9 hSw; have s9 := run_str' (r8.below hSw); go_simp; (try with_reducible rfl)
        simp only [List.getElem_toArray, List.getElem_cons_zero, List.getElem_cons_succ, Act.put, List.setIfInBounds_toArray, List.set_cons_zero, List.set_cons_succ]
        refine wpAnyH_take (i := 28) (oi := _) (v := ?_) rfl (by kernel_rfl) (by kernel_rfl) (by kernel_rfl) (fun _ _ _ h => h) (Or.inl ⟨by rfl, ?_⟩) hHeld1 ?_
        rotate_left
        · intro w9 hSw; go_simp; (try with_reducible rfl)
        simp only [List.getElem_toArray, List.getElem_cons_zero, List.getElem_cons_succ, Act.put, List.setIfInBounds_toArray, List.set_cons_zero, List.set_cons_succ]
        refine wpAnyH_take (i := 29) (oi := _) (v := ?_) rfl (by kernel_rfl) (by kernel_rfl) (by kernel_rfl) (fun _ _ _ h => h) (Or.inl ⟨by rfl, ?_⟩) hHeld1 ?_
        rotate_left
        · intro w9 hSw; go_simp; (try with_reducible rfl)
        simp only [List.getElem_toArray, List.getElem_cons_zero, List.getElem_cons_succ, Act.put, List.setIfInBounds_toArray, List.set_cons_zero, List.set_cons_succ]
        refine wpAnyH_done (by kernel_rfl) ?_ _
        go_wp2_with fail
        go_roundw
        case rel => exact ⟨k + 1, by omega, by go_num, Lib.hid (own_below HO.out wb_b.out), Lib.hid (HR.out.on wb_b.out), Lib.hid (fun x hx => (HX.out x hx).below wb_b.out), HBw, Lib.hid (HBl.out.trans (wb_b.out.mono HBl.out.size))⟩
        case measure => simp [intOf]; omega
      · obtain rfl : k = L.length := by omega
        go_wp2_with (go_at_call 33; refine (awake33 _).mono ?_; rintro e w9 ⟨rfl, b9⟩; have B9 := Lib.hid (HBl.out.trans (b9.mono HBl.out.size)); clear b9)
        go_ret
        exact ⟨rfl, B9.out⟩
  · have C32' : Calls Try.prog 32 #[.pointer (some ⟨w.heap.size, 0, none⟩), .int .i64 root] w1 fun e w' => e = .returned (.tuple #[.agg (cc none 0 0 0 none), .int .i64 6]) ∧ Below w1.heap.size w1 w' := C32.mono fun e w' ⟨hx, hb⟩ => ⟨by rw [if_neg hroot] at hx; exact hx, hb⟩
    rw [show decide (0 ≤ root ∧ root < (N.length : Nat)) = false from decide_eq_false hroot] at C24
    clear C32 hroot
    go_wp2_with (first
      | (go_at_call 32; refine C32'.mono ?_; rintro e w2 ⟨rfl, b2⟩; have hR := heap_alloc_new w2 (.cells (cc none 0 0 0 none) 59); have B2 := Lib.hid (B1.out.trans (b2.mono B1.out.size)); clear C32' b2)
      | (refine wpList_putc rfl _ _ rfl w2.heap.size none 0 0 0 none rfl rfl hR ?_; intro w3 hR3 hg3; have b3 := below_put hg3; have B3 := Lib.hid (B2.out.trans (b3.mono B2.out.size)); clear hR b3 hR3 hg3)
      | (go_at_call 24; refine (C24 _).mono ?_; rintro e w4 ⟨rfl, rfl⟩; clear C24)
      | (go_at_call 33; refine (awake33 _).mono ?_; rintro e w9 ⟨rfl, b9⟩; have B9 := Lib.hid (B3.out.trans (b9.mono B3.out.size)); clear b9))
    go_ret
    exact ⟨rfl, B9.out⟩
end Go.Proofs.Ytbmbiffhgdkpiaa
