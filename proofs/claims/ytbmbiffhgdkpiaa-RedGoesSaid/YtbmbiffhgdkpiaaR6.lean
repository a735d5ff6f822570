/- Cursors: the walk of kid. No condition. -/
import Derived.Test.YtbmbiffhgdkpiaaR5
namespace Go.Proofs.Ytbmbiffhgdkpiaa
open Go.RowKit

/-- Has the j-th kid a byte? -/
def hasK (N : List GN) (ks : List Int) (f at_ : Int) (j : Nat) : Prop := f + bW N ks j ≤ at_ ∧ at_ < f + bW N ks j + wd N (gz ks j)
instance (N : List GN) (ks : List Int) (f at_ : Int) (j : Nat) : Decidable (hasK N ks f at_ j) := by unfold hasK; infer_instance
/-- The first kid that has a byte. -/
def kidAt (N : List GN) (ks : List Int) (f at_ : Int) : Option Nat := (List.range ks.length).find? fun j => decide (hasK N ks f at_ j)
theorem kidAt_some {N : List GN} {ks : List Int} {f at_ : Int} {j : Nat} (hj : j < ks.length) (h : hasK N ks f at_ j) (hn : ∀ i, i < j → ¬ hasK N ks f at_ i) : kidAt N ks f at_ = some j := by
  unfold kidAt
  rw [List.find?_range_eq_some]
  refine ⟨by simpa using h, by simpa using hj, fun i hi => by simpa using hn i hi⟩
theorem kidAt_none {N : List GN} {ks : List Int} {f at_ : Int} (hn : ∀ i, i < ks.length → ¬ hasK N ks f at_ i) : kidAt N ks f at_ = none := by
  unfold kidAt
  rw [List.find?_eq_none]
  intro x hx
  have := hn x (by simpa using hx)
  simpa using this
/-- What kid hands back. -/
def KidSaid (ga : Nat) (N : List GN) (n : Nat) (f k : Int) (u : Option Addr) (at_ : Int) (w : World) (e : Ending) (w' : World) : Prop :=
  ((∃ j b, kidAt N (gn N n).kids f at_ = some j ∧ e = .returned (.tuple #[.agg (cc (some ⟨ga, 0, none⟩) (gz (gn N n).kids j) (f + bW N (gn N n).kids j) j (some ⟨b, 0, none⟩)), .bool true]) ∧ w.heap.size ≤ b ∧ w'.heap[b]? = some (.cells (cc (some ⟨ga, 0, none⟩) n f k u) 59 (0, 0)))
  ∨ (kidAt N (gn N n).kids f at_ = none ∧ e = .returned (.tuple #[.agg (cc none 0 0 0 none), .bool false]))) ∧ Below w.heap.size w w'
/-- How many kids are still to be asked. -/
def kidsLeft (len : Nat) (p ok : Value) (w : World) : Nat := match ok, p with
  | .bool true, .pointer (some a) => len + 1 - (intOf ((w.cell? ⟨a.block, 3, none⟩).getD undef)).toNat
  | _, _ => 0
theorem kidsLeft_eq {w : World} {b len : Nat} {j : Int} (h : w.cell? ⟨b, 3, none⟩ = some (.int .i64 j)) : kidsLeft len (.pointer (some ⟨b, 0, none⟩)) (.bool true) w = len + 1 - j.toNat := by
  show len + 1 - (intOf ((w.cell? ⟨b, 3, none⟩).getD undef)).toNat = _
  rw [h]
  rfl
set_option maxRecDepth 100000 in
set_option maxHeartbeats 4000000 in
theorem kid59 {w : World} {B ga : Nat} {N : List GN} (h : Arena w B ga N) (hN : OkN N) (hwd : ∀ i, i < N.length → (gn N i).w ≤ 100000) (n : Nat) (hn : n < N.length) (f k : Int) (u : Option Addr) (at_ : Int) (hf0 : 0 ≤ f) (hf1 : f ≤ 100000) :
    Calls Try.prog 59 #[.agg (cc (some ⟨ga, 0, none⟩) n f k u), .int .i64 at_] w (KidSaid ga N n f k u at_ w) := by
  unfold KidSaid
  have T := fun o o' => two_new w o o'
  have HT := Lib.hid T
  have hs := fun (o o' : Obj) => (by simp : w.heap.size + 1 < ((w.alloc o).alloc o').heap.size)
  have HS := Lib.hid hs
  have C40 := fun o o' => down40 (h.below (T o o').2) hN n hn f k u 0 hf0 (by omega) (Nat.le_trans (hwd n hn) (by omega))
  unfold DownSaid at C40
  have hlen := hN.few n hn
  have hwn := hwd n hn
  have HN := Lib.hid hN
  have HW := Lib.hid hwd
  obtain ⟨ks, hks⟩ : ∃ ks, ks = (gn N n).kids := ⟨_, rfl⟩
  have HKS := Lib.hid hks
  have HBK := Lib.hid (show ∀ j, j < ks.length → (0 ≤ gz ks j ∧ gz ks j < N.length) ∧ bW N ks j + wd N (gz ks j) ≤ 100000 from fun j hj => by
    rw [hks] at hj ⊢
    have h1 := good_kid hN.good hn (z := gz (gn N n).kids j) (by rw [gz_eq hj]; exact List.getElem_mem _)
    have h2 := bW_kid hN hn hj
    exact ⟨⟨h1.1, by omega⟩, by omega⟩)
  clear T hs hN hwd
  rw [← hks] at C40 hlen ⊢
  clear hks
  by_cases h0 : 0 < ks.length
  · have hq : (0 : Int) ≤ 0 ∧ (0 : Int) < ks.length := by omega
    simp only [if_pos hq] at C40
    clear hq
    simp only [Int.toNat_zero, bW, Int.natCast_zero, Int.add_zero] at C40
    go_enter Try.func59, Try.ntmps59
    go_wp2_with (go_at_call 40; refine (C40 _ _).mono ?_; rintro e w1 ⟨⟨b2, rfl, hb2g, hb2⟩, b1⟩; clear C40; obtain ⟨hX, hR, bw, hsw⟩ := two_blocks b1)
    go_loopw [6, 7] (fun p ok wr => ∃ bk : Nat, p = .pointer (some ⟨bk, 0, none⟩) ∧ Below w.heap.size w wr ∧ Hid (wr.heap[w.heap.size + 1]? = some (.cells (cc none 0 0 0 none) 59 (0, 0))) ∧ ((∃ (j bu : Nat), ok = .bool true ∧ j < ks.length ∧ Hid (wr.heap[bk]? = some (.cells (cc (some ⟨ga, 0, none⟩) (gz ks j) (f + bW N ks j) j (some ⟨bu, 0, none⟩)) 59 (0, 0))) ∧ Hid (wr.heap[bu]? = some (.cells (cc (some ⟨ga, 0, none⟩) n f k u) 59 (0, 0))) ∧ w.heap.size + 1 < bu ∧ Hid (∀ i, i < j → ¬ hasK N ks f at_ i)) ∨ (ok = .bool false ∧ Hid (∀ i, i < ks.length → ¬ hasK N ks f at_ i))))
      (fun p ok wr => kidsLeft ks.length p ok wr)
    case atStart =>
      have hal := fun o => (Below.refl w1.heap.size w1).alloc (Nat.le_refl _) o
      have hnew := heap_alloc_new w1 (.cells (cc (some ⟨ga, 0, none⟩) (gz ks 0) f 0 (some ⟨b2, 0, none⟩)) 59)
      exact ⟨w1.heap.size, rfl, bw.trans ((hal _).mono bw.size), Lib.hid (((hal _).block _ hsw).trans hR), .inl ⟨0, b2, rfl, h0, Lib.hid (by simpa [bW] using hnew), Lib.hid (((hal _).block _ (Array.getElem?_eq_some_iff.1 hb2).1).trans hb2), by simp at hb2g; omega, Lib.hid (fun i hi => absurd hi (by omega))⟩⟩
    case round =>
      obtain ⟨bk, rfl, hb, HR, ⟨j, bu, rfl, hj, HK, HU, hbu, HNO⟩ | ⟨rfl, HNO⟩⟩ := hrel
      · have hK := HK.out
        have hbk := (Array.getElem?_eq_some_iff.1 hK).1
        have hbub := (Array.getElem?_eq_some_iff.1 HU.out).1
        have hgr := (Array.getElem?_eq_some_iff.1 HR.out).1
        obtain ⟨⟨hz0, hz1⟩, hbd⟩ := HBK.out j hj
        have HM := Lib.hid (show kidsLeft ks.length (.pointer (some ⟨bk, 0, none⟩)) (.bool true) wr = ks.length + 1 - j from by rw [kidsLeft_eq (j := (j : Nat)) (cell_of_row wr bk 3 _ _ _ hK)]; rfl)
        obtain ⟨S, hS⟩ : ∃ S : Int, S = f + bW N ks j := ⟨_, rfl⟩
        have HS := Lib.hid hS
        have hS0 : 0 ≤ S := by omega
        have hS1 : S ≤ 200000 := by omega
        rw [← hS] at hK
        obtain ⟨y, hy⟩ := Int.eq_ofNat_of_zero_le hz0
        have HY := Lib.hid hy
        rw [hy] at hK hz1
        have hyl : y < N.length := by omega
        have hwy := HW.out y hyl
        have HH := Lib.hid (show hasK N ks f at_ j ↔ (S ≤ at_ ∧ at_ < S + ((gn N y).w : Nat)) from by unfold hasK wd; rw [← hS, hy]; rfl)
        clear hS hy hz0 hbd
        have y0 : wr.cell? ⟨bk, 0, none⟩ = some (.pointer (some ⟨ga, 0, none⟩)) := cell_of_row wr bk 0 _ _ _ hK
        have y1 : wr.cell? ⟨bk, 1, none⟩ = some (.int .i64 (y : Nat)) := cell_of_row wr bk 1 _ _ _ hK
        have y2 : wr.cell? ⟨bk, 2, none⟩ = some (.int .i64 S) := cell_of_row wr bk 2 _ _ _ hK
        have y3 : wr.cell? ⟨bk, 3, none⟩ = some (.int .i64 (j : Nat)) := cell_of_row wr bk 3 _ _ _ hK
        have y4 : wr.cell? ⟨bk, 4, none⟩ = some (.pointer (some ⟨bu, 0, none⟩)) := cell_of_row wr bk 4 _ _ _ hK
        have HK2 := Lib.hid hK
        clear hK
        have har := h.below hb
        have C46 := span46 (some ⟨ga, 0, none⟩) (y : Nat) S (j : Nat) (some ⟨bu, 0, none⟩) wr ((gn N y).w : Nat) (fun W hW => width18_at (har.below hW) hyl) hS0 (by omega) (by omega) (by omega)
        have C58 := fun W => has58 S (S + ((gn N y).w : Nat)) at_ W
        by_cases hh : S ≤ at_ ∧ at_ < S + ((gn N y).w : Nat)
        · rw [show decide (S ≤ at_ ∧ at_ < S + ((gn N y).w : Nat)) = true from decide_eq_true hh] at C58
          have HKA := Lib.hid (kidAt_some hj (HH.out.2 hh) HNO.out)
          clear hh
          go_wp2_with (first | (go_at_call 46; refine C46.mono ?_; rintro e w3 ⟨rfl, b3⟩; clear C46) | (go_at_call 58; refine (C58 _).mono ?_; rintro e w4 ⟨rfl, b4⟩; clear C58; have b34 := b3.trans (b4.mono b3.size); have z0 := (b34.cell (p := ⟨bk, 0, none⟩) hbk).trans y0; have z1 := (b34.cell (p := ⟨bk, 1, none⟩) hbk).trans y1; have z2 := (b34.cell (p := ⟨bk, 2, none⟩) hbk).trans y2; have z3 := (b34.cell (p := ⟨bk, 3, none⟩) hbk).trans y3; have z4 := (b34.cell (p := ⟨bk, 4, none⟩) hbk).trans y4; have hR4 := (b34.block (w.heap.size + 1) hgr).trans HR.out; have hU4 := (b34.block bu hbub).trans HU.out; have HU4 := Lib.hid hU4; clear hU4 ) | (refine wpList_putc rfl _ _ rfl (w.heap.size + 1) (some ⟨ga, 0, none⟩) (y : Nat) S (j : Nat) (some ⟨bu, 0, none⟩) rfl rfl hR4 ?_; intro w5 hR5 hg5))
          refine bodyPost_ret (v := .tuple #[.agg (cc (some ⟨ga, 0, none⟩) (y : Nat) S (j : Nat) (some ⟨bu, 0, none⟩)), .bool true]) (results_row2 rfl _ _ (w.heap.size + 1) 59 _ (0, 0) _ _ rfl rfl hR5 Try.underlying59 rfl (by kernel_rfl)) rfl ⟨.inl ⟨j, bu, HKA.out, by rw [HY.out, HS.out], by omega, ?_⟩, Below.put (hb.trans (b34.mono hb.size)) (Nat.le_succ _) hg5 (Nat.le_trans hb.size b34.size)⟩
          exact (hg5.block bu (Nat.lt_of_lt_of_le hbub b34.size) (fun e => by injection e with e; omega)).trans HU4.out
        · rw [show decide (S ≤ at_ ∧ at_ < S + ((gn N y).w : Nat)) = false from decide_eq_false hh] at C58
          have HNO' := Lib.hid (fun (i : Nat) (hi : i < j + 1) => if e : i = j then (fun hx : hasK N ks f at_ i => hh (HH.out.1 (by rw [← e]; exact hx))) else HNO.out i (by omega))
          clear hh
          have C42 := fun (w4 : World) (b34 : Below wr.heap.size wr w4) (o : Obj) => next42 ((har.below b34).below ((Below.refl w4.heap.size w4).alloc (Nat.le_refl _) o)) HN.out (y : Nat) S (j : Nat) bu n f k u ((heap_alloc_old w4 o (Nat.lt_of_lt_of_le hbub b34.size)).trans ((b34.block bu hbub).trans HU.out)) hn hf0 (by omega) (Nat.le_trans (HW.out n hn) (by omega)) (by omega) (by omega)
          unfold DownSaid at C42
          rw [← HKS.out] at C42
          by_cases hj1 : j + 1 < ks.length
          · have hq : (0 : Int) ≤ (j : Int) + 1 ∧ (j : Int) + 1 < ks.length := by omega
            simp only [if_pos hq] at C42
            clear hq
            rw [show ((j : Int) + 1).toNat = j + 1 by omega] at C42
            obtain ⟨z, hz⟩ : ∃ z, z = gz ks (j + 1) := ⟨_, rfl⟩
            obtain ⟨S1, hS1'⟩ : ∃ S1 : Int, S1 = f + bW N ks (j + 1) := ⟨_, rfl⟩
            rw [← hz, ← hS1'] at C42
            have HZ := Lib.hid hz
            have HS1 := Lib.hid hS1'
            clear hz hS1'
            go_wp2_with (first | (go_at_call 46; refine C46.mono ?_; rintro e w3 ⟨rfl, b3⟩; clear C46) | (go_at_call 58; refine (C58 _).mono ?_; rintro e w4 ⟨rfl, b4⟩; clear C58; have b34 := b3.trans (b4.mono b3.size); have z0 := (b34.cell (p := ⟨bk, 0, none⟩) hbk).trans y0; have z1 := (b34.cell (p := ⟨bk, 1, none⟩) hbk).trans y1; have z2 := (b34.cell (p := ⟨bk, 2, none⟩) hbk).trans y2; have z3 := (b34.cell (p := ⟨bk, 3, none⟩) hbk).trans y3; have z4 := (b34.cell (p := ⟨bk, 4, none⟩) hbk).trans y4; have hR4 := (b34.block (w.heap.size + 1) hgr).trans HR.out; have hU4 := (b34.block bu hbub).trans HU.out; have HU4 := Lib.hid hU4; clear hU4 ) | (go_at_call 42; go_loud (refine (C42 w4 b34 _).mono ?_); rintro e w6 ⟨⟨b6, rfl, hb6g, hb6⟩, hw6⟩; clear C42; have hal := Lib.hid (fun o => (Below.refl w4.heap.size w4).alloc (Nat.le_refl _) o); have hnw := (hw6.block w4.heap.size (by simp)).trans (heap_alloc_new w4 _)) | (refine wpList_putc rfl _ _ rfl w4.heap.size (some ⟨ga, 0, none⟩) z S1 ((j : Int) + 1) (some ⟨b6, 0, none⟩) rfl rfl hnw ?_; intro w7 hN7 hg7; have HG7 := Lib.hid hg7; have HN7 := Lib.hid hN7; clear hnw hN7 hg7))
            have b46 := (hal.out _).trans (hw6.mono (hal.out _).size)
            have hb7 := Below.put ((hb.trans (b34.mono hb.size)).trans (b46.mono (Nat.le_trans hb.size b34.size))) (Nat.le_trans hb.size b34.size) HG7.out (Nat.le_trans (Nat.le_trans hb.size b34.size) b46.size)
            have hb6l := (Array.getElem?_eq_some_iff.1 hb6).1
            have h6 : w4.heap.size < b6 := by simp at hb6g; omega
            have hgr4 : w.heap.size + 1 < w4.heap.size := Nat.lt_of_lt_of_le hgr b34.size
            go_roundw
            case rel => exact ⟨w4.heap.size, rfl, hb7, Lib.hid ((HG7.out.block _ (Nat.lt_of_lt_of_le hgr4 b46.size) (fun e => by injection e with e; omega)).trans ((b46.block _ hgr4).trans hR4)), .inl ⟨j + 1, b6, rfl, hj1, Lib.hid (by rw [HN7.out, HZ.out, HS1.out]; rfl), Lib.hid ((HG7.out.block b6 hb6l (fun e => by injection e with e; omega)).trans hb6), by omega, HNO'⟩⟩
            case measure =>
              rw [HM.out]
              show kidsLeft ks.length (.pointer (some ⟨w4.heap.size, 0, none⟩)) (.bool true) w7 < _
              rw [kidsLeft_eq (j := (j : Int) + 1) (cell_of_row w7 w4.heap.size 3 _ _ _ HN7.out)]
              omega
          · have hq : ¬ ((0 : Int) ≤ (j : Int) + 1 ∧ (j : Int) + 1 < ks.length) := by omega
            simp only [if_neg hq] at C42
            clear hq
            go_wp2_with (first | (go_at_call 46; refine C46.mono ?_; rintro e w3 ⟨rfl, b3⟩; clear C46) | (go_at_call 58; refine (C58 _).mono ?_; rintro e w4 ⟨rfl, b4⟩; clear C58; have b34 := b3.trans (b4.mono b3.size); have z0 := (b34.cell (p := ⟨bk, 0, none⟩) hbk).trans y0; have z1 := (b34.cell (p := ⟨bk, 1, none⟩) hbk).trans y1; have z2 := (b34.cell (p := ⟨bk, 2, none⟩) hbk).trans y2; have z3 := (b34.cell (p := ⟨bk, 3, none⟩) hbk).trans y3; have z4 := (b34.cell (p := ⟨bk, 4, none⟩) hbk).trans y4; have hR4 := (b34.block (w.heap.size + 1) hgr).trans HR.out; have hU4 := (b34.block bu hbub).trans HU.out; have HU4 := Lib.hid hU4; clear hU4 ) | (go_at_call 42; go_loud (refine (C42 w4 b34 _).mono ?_); rintro e w6 ⟨rfl, hw6⟩; clear C42; have hal := Lib.hid (fun o => (Below.refl w4.heap.size w4).alloc (Nat.le_refl _) o); have hnw := (hw6.block w4.heap.size (by simp)).trans (heap_alloc_new w4 _)) | (refine wpList_putc rfl _ _ rfl w4.heap.size none 0 0 0 none rfl rfl hnw ?_; intro w7 hN7 hg7; have HG7 := Lib.hid hg7; clear hnw hN7 hg7))
            have b46 := (hal.out _).trans (hw6.mono (hal.out _).size)
            have hb7 := Below.put ((hb.trans (b34.mono hb.size)).trans (b46.mono (Nat.le_trans hb.size b34.size))) (Nat.le_trans hb.size b34.size) HG7.out (Nat.le_trans (Nat.le_trans hb.size b34.size) b46.size)
            have hgr4 : w.heap.size + 1 < w4.heap.size := Nat.lt_of_lt_of_le hgr b34.size
            go_roundw
            case rel => exact ⟨w4.heap.size, rfl, hb7, Lib.hid ((HG7.out.block _ (Nat.lt_of_lt_of_le hgr4 b46.size) (fun e => by injection e with e; omega)).trans ((b46.block _ hgr4).trans hR4)), .inr ⟨rfl, Lib.hid (fun i hi => HNO'.out i (by omega))⟩⟩
            case measure => rw [HM.out]; show 0 < _; omega
      · have hR' := HR.out
        go_wp2_with (refine wpList_putc rfl _ _ rfl (w.heap.size + 1) none 0 0 0 none rfl rfl hR' ?_; intro w5 hR5 hg5)
        exact bodyPost_ret (v := .tuple #[.agg (cc none 0 0 0 none), .bool false]) (results_row2 rfl _ _ (w.heap.size + 1) 59 _ (0, 0) _ _ rfl rfl hR5 Try.underlying59 rfl (by kernel_rfl)) rfl ⟨.inr ⟨kidAt_none HNO.out, rfl⟩, Below.put hb (Nat.le_succ _) hg5 hb.size⟩
  · have hq : ¬ ((0 : Int) ≤ 0 ∧ (0 : Int) < ks.length) := by omega
    simp only [if_neg hq] at C40
    clear hq
    go_enter Try.func59, Try.ntmps59
    go_wp2_with (go_at_call 40; refine (C40 _ _).mono ?_; rintro e w1 ⟨rfl, b1⟩; clear C40; obtain ⟨hX, hR, bw, hsw⟩ := two_blocks b1)
    go_loopw [6, 7] (fun p ok wr => ∃ bk : Nat, p = .pointer (some ⟨bk, 0, none⟩) ∧ Below w.heap.size w wr ∧ Hid (wr.heap[w.heap.size + 1]? = some (.cells (cc none 0 0 0 none) 59 (0, 0))) ∧ ((∃ (j bu : Nat), ok = .bool true ∧ j < ks.length ∧ Hid (wr.heap[bk]? = some (.cells (cc (some ⟨ga, 0, none⟩) (gz ks j) (f + bW N ks j) j (some ⟨bu, 0, none⟩)) 59 (0, 0))) ∧ Hid (wr.heap[bu]? = some (.cells (cc (some ⟨ga, 0, none⟩) n f k u) 59 (0, 0))) ∧ w.heap.size + 1 < bu ∧ Hid (∀ i, i < j → ¬ hasK N ks f at_ i)) ∨ (ok = .bool false ∧ Hid (∀ i, i < ks.length → ¬ hasK N ks f at_ i))))
      (fun p ok wr => kidsLeft ks.length p ok wr)
    case atStart =>
      have hal := fun o => (Below.refl w1.heap.size w1).alloc (Nat.le_refl _) o
      exact ⟨w1.heap.size, rfl, bw.trans ((hal _).mono bw.size), Lib.hid (((hal _).block _ hsw).trans hR), .inr ⟨rfl, Lib.hid (fun i hi => absurd hi (by omega))⟩⟩
    case round =>
      obtain ⟨bk, rfl, hb, HR, ⟨j, bu, rfl, hj, HK, HU, hbu, HNO⟩ | ⟨rfl, HNO⟩⟩ := hrel
      · exact absurd (Nat.lt_of_le_of_lt (Nat.zero_le _) hj) h0
      · have hR' := HR.out
        go_wp2_with (refine wpList_putc rfl _ _ rfl (w.heap.size + 1) none 0 0 0 none rfl rfl hR' ?_; intro w5 hR5 hg5)
        exact bodyPost_ret (v := .tuple #[.agg (cc none 0 0 0 none), .bool false]) (results_row2 rfl _ _ (w.heap.size + 1) 59 _ (0, 0) _ _ rfl rfl hR5 Try.underlying59 rfl (by kernel_rfl)) rfl ⟨.inr ⟨kidAt_none HNO.out, rfl⟩, Below.put hb (Nat.le_succ _) hg5 hb.size⟩
end Go.Proofs.Ytbmbiffhgdkpiaa
