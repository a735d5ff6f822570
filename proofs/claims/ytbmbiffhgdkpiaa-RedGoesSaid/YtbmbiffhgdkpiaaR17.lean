/- The walk of the law RedWalks. No condition. -/
import Derived.Test.YtbmbiffhgdkpiaaR15
import Derived.Test.YtbmbiffhgdkpiaaR16
namespace Go.Proofs.Ytbmbiffhgdkpiaa
open Go.RowKit

theorem Chain.len {X : Nat → Prop} {w : World} {ga : Nat} {N : List GN} {root : Nat} (hN : OkN N) (hr : root < N.length) : ∀ {Q : List Int} {n f k : Int} {u : Option Addr}, Chain X w ga N root Q n f k u → n + Q.length ≤ root
  | [], n, f, k, u, ⟨hn, _⟩ => by simp [hn]
  | q :: Q, n, f, k, u, ⟨b, n', f', k', u', _, _, _, hc, _, h0, h1, hn, _⟩ => by
    have ih := hc.len hN hr
    obtain ⟨p0, p1, -, -, -⟩ := hc.ok hN hr
    obtain ⟨i, rfl⟩ := Int.eq_ofNat_of_zero_le p0
    obtain ⟨j, rfl⟩ := Int.eq_ofNat_of_zero_le h0
    rw [show ((i : Nat) : Int).toNat = i from rfl] at h1 hn
    rw [show ((j : Nat) : Int).toNat = j from rfl] at hn
    have hk := good_kid hN.good (i := i) (by omega) (z := gz (gn N i).kids j) (by rw [gz_eq (by omega)]; exact List.getElem_mem _)
    rw [List.length_cons]
    omega
/-- Both Walks' answers, in a walk's words. -/
def WalkSaid' (ga : Nat) (N : List GN) (root : Nat) (L0 : List (List Int)) (w : World) (e : Ending) (w' : World) : Prop := ∃ A c L l, e = .returned (.slice A L.length c) ∧ w'.ownsRow w.heap.size 59 5 (.slice A L.length c) L.length (crow ga l) ∧ (∀ x ∈ l, x.at_ (fun _ => True) w' ga N root) ∧ l.map (·.P) = L ∧ L = L0 ∧ Below w.heap.size w w'
theorem WalkSaid.to {ga : Nat} {N : List GN} {root : Nat} {L0 : List (List Int)} {w w' : World} {e : Ending} (h : WalkSaid ga N root L0 w e w') : WalkSaid' ga N root L0 w e w' := by
  obtain ⟨A, c, l, rfl, ho, hx, hl, hb⟩ := h
  have hll : l.length = L0.length := by rw [← hl, List.length_map]
  exact ⟨A, c, L0, l, by rw [hll], by rw [hll] at ho; exact ho, hx, hl, rfl, hb⟩
theorem ccells {w : World} {B ga g c n : Nat} {l : List CE} (h : w.ownsRow B 59 5 (.slice (some ⟨g, 0, none⟩) n c) n (crow ga l)) {k : Nat} {x : CE} (hx : l[k]? = some x) :
    w.cell? ⟨g, k * 5, none⟩ = some (.pointer (some ⟨ga, 0, none⟩)) ∧ w.cell? ⟨g, k * 5 + 1, none⟩ = some (.int .i64 x.n) ∧ w.cell? ⟨g, k * 5 + 2, none⟩ = some (.int .i64 x.f) ∧ w.cell? ⟨g, k * 5 + 3, none⟩ = some (.int .i64 x.k) ∧ w.cell? ⟨g, k * 5 + 4, none⟩ = some (.pointer x.u) := by
  have hk := (List.getElem?_eq_some_iff.1 hx).1
  have hn : l.length * 5 = n * 5 := by rw [← crow_len ga l]; exact h.1
  have key : ∀ j, j < 5 → w.cell? ⟨g, k * 5 + j, none⟩ = (x.cells ga)[j]? := fun j hj => by
    rw [World.ownsRow.cellAt h (k * 5 + j) (by omega), crow_get ga l k x j hx hj]
  exact ⟨key 0 (by omega), key 1 (by omega), key 2 (by omega), key 3 (by omega), key 4 (by omega)⟩
set_option maxRecDepth 100000 in
set_option maxHeartbeats 4000000 in
theorem walk10 (A : Option Addr) (n c : Nat) (w : World) (h : OpsIn w w.heap.size A n) (root most : Int) : Calls Try.prog 10 #[.slice A n c, .int .i64 root, .int .i64 most] w fun e w' => e = .returned (.bool true) ∧ Below w.heap.size w w' := by
  have hcase : 120 < most ∨ (decide (120 < most) = false ∧ most ≤ 120) := by
    by_cases hx : 120 < most
    · exact .inl hx
    · exact .inr ⟨by simpa using hx, by omega⟩
  rcases hcase with hm | ⟨t0, hm⟩
  all_goals
    go_enter Try.func10, Try.ntmps10
    go_wp2_with (go_at_call 31; refine (made31 A n c w h).mono ?_; rintro e w1 ⟨A1, c1, N, rfl, hB1, hl1, b1⟩)
    have C32 := root32 hB1.arena root
    have C24 := has24 A1 N.length c1 root
    have HB1 := Lib.hid hB1
    have B1 := Lib.hid b1
    clear hB1 b1 h
    by_cases hroot : 0 ≤ root ∧ root < N.length
    · obtain ⟨r, rfl⟩ := Int.eq_ofNat_of_zero_le hroot.1
      have hr : r < N.length := by omega
      have C32' : Calls Try.prog 32 #[.pointer (some ⟨w.heap.size, 0, none⟩), .int .i64 (r : Nat)] w1 fun e w' => e = .returned (.tuple #[.agg (cc (some ⟨w.heap.size, 0, none⟩) (r : Nat) 0 0 none), .int .i64 0]) ∧ Below w1.heap.size w1 w' := C32.mono fun e w' ⟨hx, hb⟩ => ⟨by rw [if_pos hroot] at hx; exact hx, hb⟩
      clear C32 C24
      go_wp2_with (first
        | (go_at_call 32; refine C32'.mono ?_; rintro e w2 ⟨rfl, b2⟩; have hR := heap_alloc_new w2 (.cells (cc none 0 0 0 none) 59); have B2 := Lib.hid (B1.out.trans (b2.mono B1.out.size)); have HB2 := Lib.hid (HB1.out.below b2); clear C32' b2 HB1)
        | (refine wpList_putc rfl _ _ rfl w2.heap.size (some ⟨w.heap.size, 0, none⟩) (r : Nat) 0 0 none rfl rfl hR ?_; intro w3 hR3 hg3; have b3 := below_put hg3; have B3 := Lib.hid (B2.out.trans (b3.mono B2.out.size)); have HB3 := Lib.hid (HB2.out.below b3); have d0 := (cells5 hR3).1; have d1 := (cells5 hR3).2.1; have d2 := (cells5 hR3).2.2.1; have d3 := (cells5 hR3).2.2.2.1; have d4 := (cells5 hR3).2.2.2.2; clear hR b3 HB2 hR3 hg3)
        | (go_at_call 47; refine (walk47 HB3.out.arena HB3.out.ok (fun i hi => Nat.le_trans (HB3.out.wd i hi) (by omega)) r hr [] (r : Nat) 0 0 none ⟨rfl, rfl, rfl, rfl⟩ _ (by omega)).mono ?_; intro e w4 hs4; obtain ⟨A4, c4, L, l, rfl, ho4, hx4, hl4, hL, b4⟩ := WalkSaid.to hs4; have hLb : L.length ≤ 120 := (by rw [hL, List.length_take]; omega); have HL := Lib.hid hL; have HO4 := Lib.hid ho4; have HX4 := Lib.hid hx4; have HLL := Lib.hid hl4; have B4 := Lib.hid (B3.out.trans (b4.mono B3.out.size)); have HB4 := Lib.hid (HB3.out.below b4); clear hs4 ho4 hx4 hl4 hL b4 HB3 d0 d1 d2 d3 d4)
        | (go_at_call 48; refine (walk48 HB4.out.ok r hr (fun i hi => Nat.le_trans (HB4.out.ok.few i hi) (by omega)) r [] w4 none 0 _ HB4.out.doc (World.ownsRow_nil _ _ _ _) (by simp; omega) (by omega) rfl).mono ?_; intro e w5 hs5; rw [show (preP N r []).take _ = L from HL.out.symm] at hs5; obtain ⟨A5, c5, vs, rfl, ho5, hq5, b5⟩ := hs5; have HO5 := Lib.hid ho5; have HQ5 := Lib.hid hq5; have HO45 := Lib.hid (own_below HO4.out b5); have HX5 := Lib.hid (fun x hx => (HX4.out x hx).below b5); have B5 := Lib.hid (B4.out.trans (b5.mono B4.out.size)); have HB5 := Lib.hid (HB4.out.below b5); clear ho5 hq5 b5 HB4 HO4 HX4))
      go_loopw [60] (fun i wr => ∃ k : Nat, k ≤ L.length ∧ i = .int .i64 k ∧ Hid (wr.ownsRow w3.heap.size 59 5 (.slice A4 L.length c4) L.length (crow w.heap.size l)) ∧ Hid (wr.ownsRow w4.heap.size 27 1 (.slice A5 L.length c5) L.length vs) ∧ Hid (Rows wr L vs) ∧ Hid (∀ x ∈ l, x.at_ (fun _ => True) wr w.heap.size N r) ∧ Hid (Both wr w.heap.size w.heap.size (.slice A1 N.length c1) N) ∧ Hid (Below w.heap.size w wr))
        (fun i _ => L.length - (intOf i).toNat)
      case atStart => exact ⟨0, Nat.zero_le _, rfl, HO45, HO5, HQ5, HX5, HB5, B5⟩
      case round =>
        obtain ⟨k, hk, rfl, HO4, HO5, HQ, HX, HB, HBl⟩ := hrel
        by_cases hlt : k < L.length
        · obtain ⟨p, hp⟩ : ∃ p, L[k]? = some p := ⟨_, List.getElem?_eq_getElem hlt⟩
          have hll : l.length = L.length := by rw [← HLL.out, List.length_map]
          obtain ⟨x, hx⟩ : ∃ x, l[k]? = some x := ⟨_, List.getElem?_eq_getElem (by omega)⟩
          obtain ⟨xP, xn, xf, xk, xu⟩ := x
          have hpx : p = xP := by
            have := hp
            rw [← HLL.out, List.getElem?_map, hx] at this
            simpa using this.symm
          subst hpx
          obtain ⟨A7, c7, hvs, ho7⟩ := HQ.out.get k p hp
          obtain ⟨g5, rfl⟩ := own_head HO5.out (by omega)
          obtain ⟨g4, rfl⟩ := own_head HO4.out (by omega)
          have x5 := (World.ownsRow.cellAt HO5.out k (by omega)).trans hvs
          obtain ⟨y0, y1, y2, y3, y4⟩ := ccells HO4.out hx
          have hch : Chain (fun _ => True) wr w.heap.size N r p.reverse xn xf xk xu := HX.out _ (List.mem_of_getElem? hx)
          have hcl := hch.len HB.out.ok hr
          obtain ⟨p0, -, -, -, -⟩ := hch.ok HB.out.ok hr
          have C38 := stands38 HB.out (by omega) hr hch (by omega) A7 p.length c7 (by rw [List.reverse_reverse]; exact Rd.of_own ho7)
          clear hvs ho7 hch hcl p0 hp hx
          go_wp2_with (go_at_call 38; refine C38.mono ?_; rintro e w6 ⟨rfl, b6⟩; have HO46 := Lib.hid (own_below HO4.out b6); have HO56 := Lib.hid (own_below HO5.out b6); have HQ6 := Lib.hid (HQ.out.below b6); have HX6 := Lib.hid (fun x hx => (HX.out x hx).below b6); have HB6 := Lib.hid (HB.out.below b6); have HBl6 := Lib.hid (HBl.out.trans (b6.mono HBl.out.size)); clear C38 b6)
          go_roundw
          case rel => exact ⟨k + 1, by omega, by go_num, HO46, HO56, HQ6, HX6, HB6, HBl6⟩
          case measure => simp [intOf]; omega
        · obtain rfl : k = L.length := by omega
          go_wp2_with (go_at_call 33; refine (awake33 _).mono ?_; rintro e w9 ⟨rfl, b9⟩; have B9 := Lib.hid (HBl.out.trans (b9.mono HBl.out.size)); clear b9)
          go_ret
          exact ⟨rfl, B9.out⟩
    · have C32' : Calls Try.prog 32 #[.pointer (some ⟨w.heap.size, 0, none⟩), .int .i64 root] w1 fun e w' => e = .returned (.tuple #[.agg (cc none 0 0 0 none), .int .i64 6]) ∧ Below w1.heap.size w1 w' := C32.mono fun e w' ⟨hx, hb⟩ => ⟨by rw [if_neg hroot] at hx; exact hx, hb⟩
      rw [show decide (0 ≤ root ∧ root < (N.length : Nat)) = false from decide_eq_false hroot] at C24
      clear C32 hroot
      go_wp2_with (first
        | (go_at_call 32; refine C32'.mono ?_; rintro e w2 ⟨rfl, b2⟩; have hR := heap_alloc_new w2 (.cells (cc none 0 0 0 none) 59); have B2 := Lib.hid (B1.out.trans (b2.mono B1.out.size)); clear C32' b2)
        | (refine wpList_putc rfl _ _ rfl w2.heap.size none 0 0 0 none rfl rfl hR ?_; intro w3 hR3 hg3; have b3 := below_put hg3; have B3 := Lib.hid (B2.out.trans (b3.mono B2.out.size)); have d0 := (cells5 hR3).1; have d1 := (cells5 hR3).2.1; have d2 := (cells5 hR3).2.2.1; have d3 := (cells5 hR3).2.2.2.1; have d4 := (cells5 hR3).2.2.2.2; clear hR b3 hR3 hg3)
        | (go_at_call 24; refine (C24 _).mono ?_; rintro e w4 ⟨rfl, rfl⟩; clear C24)
        | (go_at_call 47; refine (walk47_nil 0 0 0 none _ _).mono ?_; rintro e w5 ⟨rfl, b5⟩; have B5 := Lib.hid (B3.out.trans (b5.mono B3.out.size)); clear b5)
        | (go_at_call 33; refine (awake33 _).mono ?_; rintro e w9 ⟨rfl, b9⟩; have B9 := Lib.hid (B5.out.trans (b9.mono B5.out.size)); clear b9))
      go_ret
      exact ⟨rfl, B9.out⟩
end Go.Proofs.Ytbmbiffhgdkpiaa
