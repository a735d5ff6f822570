/- The walk of Step. No condition. -/
import Derived.Test.YtbmbiffhgdkpiaaN20
namespace Go.Proofs.Ytbmbiffhgdkpiaa
open Go.RowKit

theorem bW_le {N : List GN} {M : Nat} (hM : ∀ i, i < N.length → (gn N i).w ≤ M) (ks : List Int) : ∀ k, bW N ks k ≤ k * M := by
  intro k
  induction k with
  | zero => simp [bW]
  | succ k ih =>
    simp only [bW]
    have : (gn N (gz ks k).toNat).w ≤ M := by
      rcases Nat.lt_or_ge (gz ks k).toNat N.length with h | h
      · exact hM _ h
      · simp [gn, List.getD_eq_getElem?_getD, List.getElem?_eq_none h]
    rw [Nat.succ_mul]
    omega
theorem mem_sum_le (f : Int → Nat) : ∀ (l : List Int) (z : Int), z ∈ l → f z ≤ (l.map f).sum
  | [], z, h => by cases h
  | a :: l, z, h => by
    rw [List.map_cons, List.sum_cons]
    rcases List.mem_cons.1 h with rfl | h
    · omega
    · have := mem_sum_le f l z h
      omega
theorem kid_le {N : List GN} (hN : OkN N) {i : Nat} (hi : i < N.length) {z : Int} (hz : z ∈ (gn N i).kids) : (gn N z.toNat).w ≤ (gn N i).w := by
  rw [hN.wid i hi]
  have := mem_sum_le (wd N) _ z hz
  unfold wd at this ⊢
  omega
theorem repN_wd' {N : List GN} (hN : OkN N) {M : Nat} (hM : ∀ i, i < N.length → (gn N i).w ≤ M) : ∀ (P : List Int) (root wth : Nat), root < N.length → wth < N.length → (gatL N root P).isSome → (gn N root).w + (gn N wth).w ≤ M → ∀ i, i < (repN N root P wth).1.length → (gn (repN N root P wth).1 i).w ≤ M
  | [], root, wth, _, _, _, _, i, hi => hM i hi
  | p :: P, root, wth, hr, hw, hg, hb, i, hi => by
    obtain ⟨hp, hg⟩ := gatL_cons hg
    have hmem : gz (gn N root).kids p.toNat ∈ (gn N root).kids := by rw [gz_eq (by omega)]; exact List.getElem_mem _
    have hkid := good_kid hN.good hr hmem
    have hle := kid_le hN hr hmem
    have hok := repN_ok hN P (gz (gn N root).kids p.toNat).toNat wth (by omega) hw hg
    have ih := repN_wd' hN hM P (gz (gn N root).kids p.toNat).toNat wth (by omega) hw hg (by omega)
    have hst := rep_step hN hr hp hok
    rw [repN_cons] at hi ⊢
    simp only [gbr_len] at hi
    simp only [gbr]
    rcases Nat.lt_or_ge i (repN N (gz (gn N root).kids p.toNat).toNat P wth).1.length with h | h
    · rw [gn_snoc_lt _ _ h]
      exact ih i h
    · obtain rfl : i = (repN N (gz (gn N root).kids p.toNat).toNat P wth).1.length := by omega
      rw [gn_snoc_at]
      have := hst.2.1
      show bW _ _ _ ≤ _
      omega
/-- What both are good for, between two steps. -/
structure Both (w : World) (B ga : Nat) (v : Value) (N : List GN) : Prop where
  lo : B ≤ w.heap.size
  arena : Arena w B ga N
  doc : DocN w v N
  ok : OkN N
  wd : ∀ i, i < N.length → (gn N i).w ≤ 3000
/-- A step's end. -/
def StepSaid (B ga : Nat) (N : List GN) (w : World) (e : Ending) (w' : World) : Prop := ∃ (v : Value) (N' : List GN), e = .returned (.tuple #[v, .bool true]) ∧ Both w' B ga v N' ∧ N.length ≤ N'.length ∧ N'.length ≤ N.length + 5 ∧ Kept9 w w' ∧ Below B w w'
/-- A step's arguments. -/
structure OpIn (w : World) (B : Nat) (AB : Option Addr) (nB cB : Nat) (AK : Option Addr) (nK cK : Nat) (AP : Option Addr) (nP cP : Nat) : Prop where
  b : ∃ zs, Rd w B 1 AB nB cB (ints .u8 zs)
  k : ∃ zs, Rd w B 1 AK nK cK (ints .i64 zs)
  p : ∃ zs, Rd w B 1 AP nP cP (ints .i64 zs)
set_option maxRecDepth 100000 in
set_option maxHeartbeats 8000000 in
theorem step13 {w : World} {B ga : Nat} {A : Option Addr} {n c : Nat} {N : List GN} (h : Both w B ga (.slice A n c) N) (hn : N.length ≤ 4096) (o0 o1 o4 o5 : Int) (AB : Option Addr) (nB cB : Nat) (AK : Option Addr) (nK cK : Nat) (AP : Option Addr) (nP cP : Nat) (back : Bool) (ho : OpIn w B AB nB cB AK nK cK AP nP cP) :
    Calls Try.prog 13 #[.pointer (some ⟨ga, 0, none⟩), .slice A n c, .agg #[.int .i64 o0, .int .i64 o1, .slice AB nB cB, .slice AK nK cK, .int .i64 o4, .int .i64 o5, .slice AP nP cP, .bool back]] w (StepSaid B ga N w) := by
  unfold StepSaid
  obtain ⟨⟨zB, hrB⟩, ⟨zK, hrK⟩, ⟨zP, hrP⟩⟩ := ho
  obtain ⟨hlo, ha, hd, hN, hwd⟩ := h
  obtain ⟨rfl, _⟩ := hd.node
  have HN := Lib.hid hN
  have HWD := Lib.hid hwd
  have HA := Lib.hid ha
  have HD := Lib.hid hd
  clear ha hd hN hwd
  have hcB := hrB.cap
  go_enter Try.func13, Try.ntmps13
  go_upto_if 22 with (fail)
  go_cut [] from 23 to 26 (fun wx => ∃ (n2 : Nat) (zs2 : List Int), n2 ≤ 20 ∧ Rd w B 1 AB n2 cB (ints .u8 zs2) ∧ wx = w.alloc (.cells #[.int .i64 o0, .int .i64 o1, .slice AB n2 cB, .slice AK nK cK, .int .i64 o4, .int .i64 o5, .slice AP nP cP, .bool back] 29))
  case first =>
    by_cases hB : 20 < nB
    · obtain ⟨b, off, rfl, _, _⟩ := hrB.int_form (by omega)
      have j20 : 20 ≤ cB := by omega
      have hr2 := hrB.take (k := 20) (by omega)
      rw [Nat.mul_one, ← List.map_take] at hr2
      go_wp2_with fail
      go_meet
      exact ⟨20, _, Nat.le_refl _, hr2, rfl⟩
    · go_wp2_with fail
      go_meet
      exact ⟨nB, _, by omega, hrB, rfl⟩
  case rest =>
    obtain ⟨n2, zs2, hn2, hr2, rfl⟩ := hcut
    clear hrB hcB
    have hX0 : (w.alloc (.cells #[.int .i64 o0, .int .i64 o1, .slice AB n2 cB, .slice AK nK cK, .int .i64 o4, .int .i64 o5, .slice AP nP cP, .bool back] 29)).heap[w.heap.size]? = _ := heap_alloc_new w _
    have hb0 := (Below.refl w.heap.size w).alloc (Nat.le_refl _) (.cells #[.int .i64 o0, .int .i64 o1, .slice AB n2 cB, .slice AK nK cK, .int .i64 o4, .int .i64 o5, .slice AP nP cP, .bool back] 29)
    have HX0 := Lib.hid hX0
    have hs0 : w.heap.size < (w.alloc (.cells #[.int .i64 o0, .int .i64 o1, .slice AB n2 cB, .slice AK nK cK, .int .i64 o4, .int .i64 o5, .slice AP nP cP, .bool back] 29)).heap.size := by simp
    have hrK0 := (hrK.alloc hlo (.cells #[.int .i64 o0, .int .i64 o1, .slice AB n2 cB, .slice AK nK cK, .int .i64 o4, .int .i64 o5, .slice AP nP cP, .bool back] 29)).more (Nat.le_of_lt (Nat.lt_of_le_of_lt hlo hs0))
    have hrP0 := (hrP.alloc hlo (.cells #[.int .i64 o0, .int .i64 o1, .slice AB n2 cB, .slice AK nK cK, .int .i64 o4, .int .i64 o5, .slice AP nP cP, .bool back] 29))
    clear hX0
    go_upto_if 38 with (first
      | (go_at_call 16; refine (few16 AK nK cK zK back _ _ hrK0).mono ?_; rintro e w1 ⟨A1, c1, ks, rfl, hks, ho1, hb1⟩; have hX1 := (hb1.block w.heap.size hs0).trans HX0.out; have p6 := cell_of_row w1 _ 6 _ _ _ hX1; simp only [List.getElem?_toArray, List.getElem?_cons_zero, List.getElem?_cons_succ] at p6; have HX1 := Lib.hid hX1; have hrP1 := (hrP0.belowAt hb1 (Nat.le_of_lt (Nat.lt_of_le_of_lt hlo hs0))).more (Nat.le_of_lt (Nat.lt_of_le_of_lt hlo (Nat.lt_of_lt_of_le hs0 hb1.size))); clear hrK0 hX1)
      | (go_at_call 16; refine (few16 AP nP cP zP false _ _ hrP1).mono ?_; rintro e w2 ⟨A2, c2, ps, rfl, hps, ho2, hb2⟩; have hX2 := (hb2.block w.heap.size (Nat.lt_of_lt_of_le hs0 hb1.size)).trans HX1.out; have q7 := cell_of_row w2 _ 7 _ _ _ hX2; simp only [List.getElem?_toArray, List.getElem?_cons_zero, List.getElem?_cons_succ] at q7; have HX2 := Lib.hid hX2; clear hrP1 hX2))
    have hbw2 := hb0.trans ((hb1.mono (Nat.le_of_lt hs0)).trans (hb2.mono (Nat.le_trans (Nat.le_of_lt hs0) hb1.size)))
    have ho1' := own_below ho1 hb2
    have hsz2 := hbw2.size
    go_cut [] from 39 to 54 (fun wx => ∃ (z4 z5 : Int), Hid (wx.heap[w.heap.size]? = some (.cells #[.int .i64 o0, .int .i64 o1, .slice AB n2 cB, .slice AK nK cK, .int .i64 z4, .int .i64 z5, .slice AP nP cP, .bool back] 29 (0, 0))) ∧ Below w.heap.size w wx ∧ wx.ownsRow w.heap.size 3 1 (.slice A1 ks.length c1) ks.length (ints .i64 ks) ∧ wx.ownsRow w.heap.size 3 1 (.slice A2 ps.length c2) ps.length (ints .i64 ps))
    case first =>
      cases back
      · go_wp2_with fail
        go_meet
        exact ⟨o4, o5, HX2, hbw2, own_mono ho1' (Nat.le_of_lt hs0), own_mono ho2 (Nat.le_trans (Nat.le_of_lt hs0) hb1.size)⟩
      · have hX2 := HX2.out
        have q4 : w2.cell? ⟨w.heap.size, 4, none⟩ = some (.int .i64 o4) := cell_of_row w2 _ 4 _ _ _ hX2
        have f4 := frozen_of_row w2 w.heap.size 4 _ _ hX2
        have q5 : ∀ v, (w2.setCell ⟨w.heap.size, 4, none⟩ v).cell? ⟨w.heap.size, 5, none⟩ = some (.int .i64 o5) := fun v => cell_of_row _ _ 5 _ _ _ (heap_setCell_same w2 w.heap.size 4 _ _ v hX2)
        have f5 := fun v => frozen_of_row (w2.setCell ⟨w.heap.size, 4, none⟩ v) w.heap.size 5 _ _ (heap_setCell_same w2 w.heap.size 4 _ _ v hX2)
        have HX4 := Lib.hid (fun v u => heap_setCell_same (w2.setCell ⟨w.heap.size, 4, none⟩ v) w.heap.size 5 _ _ u (heap_setCell_same w2 w.heap.size 4 _ _ v hX2))
        have HB4 := Lib.hid (fun v u => (hbw2.setCell (p := ⟨w.heap.size, 4, none⟩) (Nat.le_refl _) v).setCell (p := ⟨w.heap.size, 5, none⟩) (Nat.le_refl _) u)
        have HO : ∀ {x : Value} {m : Nat} {xs : List Value} (v u : Value), w2.ownsRow w.heap.size 3 1 x m xs → ((w2.setCell ⟨w.heap.size, 4, none⟩ v).setCell ⟨w.heap.size, 5, none⟩ u).ownsRow w.heap.size 3 1 x m xs := fun v u h => by
          have h1 := ownsRow_setCell_other h (a := ⟨w.heap.size, 4, none⟩) (fun e => own_not h hX2 (by decide) e.symm) v
          exact ownsRow_setCell_other h1 (a := ⟨w.heap.size, 5, none⟩) (fun e => own_not h1 (heap_setCell_same w2 w.heap.size 4 _ _ v hX2) (by decide) e.symm) u
        have HO1 := Lib.hid (fun v u => HO v u (own_mono ho1' (Nat.le_of_lt hs0)))
        have HO2 := Lib.hid (fun v u => HO v u (own_mono ho2 (Nat.le_trans (Nat.le_of_lt hs0) hb1.size)))
        clear hX2 HO
        go_wp2_with fail
        go_meet
        exact ⟨_, _, Lib.hid (HX4.out _ _), HB4.out _ _, HO1.out _ _, HO2.out _ _⟩
    case rest =>
      obtain ⟨z4, z5, HX, hb, hK, hP⟩ := hcut
      have hX := HX.out
      have r0 : wc.cell? ⟨w.heap.size, 0, none⟩ = some (.int .i64 o0) := cell_of_row wc _ 0 _ _ _ hX
      have r1 : wc.cell? ⟨w.heap.size, 1, none⟩ = some (.int .i64 o1) := cell_of_row wc _ 1 _ _ _ hX
      have r4 : wc.cell? ⟨w.heap.size, 4, none⟩ = some (.int .i64 z4) := cell_of_row wc _ 4 _ _ _ hX
      have r5 : wc.cell? ⟨w.heap.size, 5, none⟩ = some (.int .i64 z5) := cell_of_row wc _ 5 _ _ _ hX
      have hA := HA.out.below hb
      have hD := HD.out.below hb
      have hgo : w.heap.size < wc.heap.size := (Array.getElem?_eq_some_iff.1 hX).1
      have hBc : B ≤ wc.heap.size := by omega
      have hr2c := (hr2.belowAt hb hlo).more hBc
      have hk9 := Kept9.of_below hb
      have hbB := hb.mono hlo
      have hn2l := hr2.int_len
      clear hX hb0 HX0 hs0 hrP0 ho1 hb1 p6 HX1 ho2 hb2 q7 HX2 hbw2 ho1' hsz2
      by_cases e0 : o0 = 0
      · subst e0
        go_wp2_with fail
        refine wp_region_held_drew (S := fun W => W.heap[w.heap.size]? = some (.cells #[.int .i64 0, .int .i64 o1, .slice AB n2 cB, .slice AK nK cK, .int .i64 z4, .int .i64 z5, .slice AP nP cP, .bool back] 29 (0, 0))) (by kernel_rfl) HX.out (fun hHeld => ?_)
        change wpAnyH _ _ _ _ _ 17 #[false, false, false, false, false, false, false, false, false, false, false, false, false, false, false, false, false] _ _
        refine wpAnyH_take (i := 0) (oi := _) (v := ?_) rfl (by kernel_rfl) (by kernel_rfl) (by kernel_rfl) (fun _ _ _ h => h) (Or.inl ⟨by rfl, ?_⟩) hHeld ?_
        rotate_left
        · intro w9 hSw; go_simp; (try with_reducible rfl)
        simp only [List.getElem_toArray, List.getElem_cons_zero, Act.put, List.setIfInBounds_toArray, List.set_cons_zero, List.set_cons_succ]
        refine wpAnyH_take (i := 1) (oi := _) (v := ?_) rfl (by kernel_rfl) (by kernel_rfl) (by kernel_rfl) (fun _ _ _ h => h) (Or.inl ⟨by rfl, ?_⟩) hHeld ?_
        rotate_left
        · intro w9 hSw; go_simp; (try with_reducible rfl)
        simp only [List.getElem_toArray, List.getElem_cons_zero, List.getElem_cons_succ, Act.put, List.setIfInBounds_toArray, List.set_cons_zero, List.set_cons_succ]
        refine wpAnyH_take (i := 2) (oi := _) (v := ?_) rfl (by kernel_rfl) (by kernel_rfl) (by kernel_rfl) (fun _ _ _ h => h) (Or.inl ⟨by rfl, ?_⟩) hHeld ?_
        rotate_left
        · intro w9 hSw; have s1 := (cell_of_row w9 w.heap.size 1 _ _ _ hSw).trans (show _ = some (Value.int .i64 o1) from rfl); have s2 := (cell_of_row w9 w.heap.size 2 _ _ _ hSw).trans (show _ = some (Value.slice AB n2 cB) from rfl); go_simp; (try with_reducible rfl)
        simp only [List.getElem_toArray, List.getElem_cons_zero, List.getElem_cons_succ, Act.put, List.setIfInBounds_toArray, List.set_cons_zero, List.set_cons_succ]
        refine wpAnyH_take (i := 3) (oi := _) (v := ?_) rfl (by kernel_rfl) (by kernel_rfl) (by kernel_rfl) (fun _ _ _ h => h) (Or.inl ⟨by rfl, ?_⟩) hHeld ?_
        rotate_left
        · intro w9 hSw; go_simp; (try with_reducible rfl)
        simp only [List.getElem_toArray, List.getElem_cons_zero, List.getElem_cons_succ, Act.put, List.setIfInBounds_toArray, List.set_cons_zero, List.set_cons_succ]
        refine wpAnyH_take (i := 4) (oi := _) (v := ?_) rfl (by kernel_rfl) (by kernel_rfl) (by kernel_rfl) (fun _ _ _ h => h) (Or.inl ⟨by rfl, ?_⟩) hHeld ?_
        rotate_left
        · intro w9 hSw; have s1 := (cell_of_row w9 w.heap.size 1 _ _ _ hSw).trans (show _ = some (Value.int .i64 o1) from rfl); have s2 := (cell_of_row w9 w.heap.size 2 _ _ _ hSw).trans (show _ = some (Value.slice AB n2 cB) from rfl); go_simp; (try with_reducible rfl)
        simp only [List.getElem_toArray, List.getElem_cons_zero, List.getElem_cons_succ, Act.put, List.setIfInBounds_toArray, List.set_cons_zero, List.set_cons_succ]
        refine wpAnyH_take (i := 6) (oi := _) (v := ?_) rfl (by kernel_rfl) (by kernel_rfl) (by kernel_rfl) (fun _ _ _ h => h) (Or.inl ⟨by rfl, ?_⟩) hHeld ?_
        rotate_left
        · intro w9 hSw; go_simp; (try with_reducible rfl)
        simp only [List.getElem_toArray, List.getElem_cons_zero, List.getElem_cons_succ, Act.put, List.setIfInBounds_toArray, List.set_cons_zero, List.set_cons_succ]
        refine wpAnyH_take (i := 7) (oi := _) (v := ?_) rfl (by kernel_rfl) (by kernel_rfl) (by kernel_rfl) (fun _ _ _ h => h) (Or.inl ⟨by rfl, ?_⟩) hHeld ?_
        rotate_left
        · intro w9 hSw; go_simp; (try with_reducible rfl)
        simp only [List.getElem_toArray, List.getElem_cons_zero, List.getElem_cons_succ, Act.put, List.setIfInBounds_toArray, List.set_cons_zero, List.set_cons_succ]
        refine wpAnyH_take (i := 8) (oi := _) (v := ?_) rfl (by kernel_rfl) (by kernel_rfl) (by kernel_rfl) (fun _ _ _ h => h) (Or.inl ⟨by rfl, ?_⟩) hHeld ?_
        rotate_left
        · intro w9 hSw; have s1 := (cell_of_row w9 w.heap.size 1 _ _ _ hSw).trans (show _ = some (Value.int .i64 o1) from rfl); have s2 := (cell_of_row w9 w.heap.size 2 _ _ _ hSw).trans (show _ = some (Value.slice AB n2 cB) from rfl); go_simp; (try with_reducible rfl)
        simp only [List.getElem_toArray, List.getElem_cons_zero, List.getElem_cons_succ, Act.put, List.setIfInBounds_toArray, List.set_cons_zero, List.set_cons_succ]
        refine wpAnyH_take (i := 9) (oi := _) (v := ?_) rfl (by kernel_rfl) (by kernel_rfl) (by kernel_rfl) (fun _ _ _ h => h) (Or.inl ⟨by rfl, ?_⟩) hHeld ?_
        rotate_left
        · intro w9 hSw; go_simp; (try with_reducible rfl)
        simp only [List.getElem_toArray, List.getElem_cons_zero, List.getElem_cons_succ, Act.put, List.setIfInBounds_toArray, List.set_cons_zero, List.set_cons_succ]
        refine wpAnyH_take (i := 10) (oi := _) (v := ?_) rfl (by kernel_rfl) (by kernel_rfl) (by kernel_rfl) (fun _ _ _ h => h) (Or.inl ⟨by rfl, ?_⟩) hHeld ?_
        rotate_left
        · intro w9 hSw; have s1 := (cell_of_row w9 w.heap.size 1 _ _ _ hSw).trans (show _ = some (Value.int .i64 o1) from rfl); have s2 := (cell_of_row w9 w.heap.size 2 _ _ _ hSw).trans (show _ = some (Value.slice AB n2 cB) from rfl); go_simp; (try with_reducible rfl)
        simp only [List.getElem_toArray, List.getElem_cons_zero, List.getElem_cons_succ, Act.put, List.setIfInBounds_toArray, List.set_cons_zero, List.set_cons_succ]
        refine wpAnyH_take (i := 12) (oi := _) (v := ?_) rfl (by kernel_rfl) (by kernel_rfl) (by kernel_rfl) (fun _ _ _ h => h) (Or.inl ⟨by rfl, ?_⟩) hHeld ?_
        rotate_left
        · intro w9 hSw; go_simp; (try with_reducible rfl)
        simp only [List.getElem_toArray, List.getElem_cons_zero, List.getElem_cons_succ, Act.put, List.setIfInBounds_toArray, List.set_cons_zero, List.set_cons_succ]
        refine wpAnyH_take (i := 13) (oi := _) (v := ?_) rfl (by kernel_rfl) (by kernel_rfl) (by kernel_rfl) (fun _ _ _ h => h) (Or.inl ⟨by rfl, ?_⟩) hHeld ?_
        rotate_left
        · intro w9 hSw; go_simp; (try with_reducible rfl)
        simp only [List.getElem_toArray, List.getElem_cons_zero, List.getElem_cons_succ, Act.put, List.setIfInBounds_toArray, List.set_cons_zero, List.set_cons_succ]
        refine wpAnyH_ready (rs := [5]) (by kernel_rfl) (by simp) ?_
        refine AllReadyH.cons (o := _) rfl (fun K hK => ?_) AllReadyH.nil
        go_simp
        refine (leaf50 hD.drew HN.out.good o1 AB n2 cB zs2 (hr2c.drew) (by omega) (by omega)).mono ?_
        rintro e w5 ⟨A5, c5, rfl, hd5, hb5⟩
        have hX5 := (hb5.block w.heap.size hgo).trans hHeld
        refine hK.out _ _ hX5 (fun _ => ?_)
        clear hK
        refine wpAnyH_ready (rs := [11]) (by kernel_rfl) (by simp) ?_
        refine AllReadyH.cons (o := _) rfl (fun K hK => ?_) AllReadyH.nil
        go_simp
        refine (leaf26 (hA.drew.below hb5) o1 AB n2 cB zs2 ((hr2c.drew.below hb5).more hb5.size) (by omega) (by omega) (Nat.le_trans hBc hb5.size)).mono ?_
        rintro e w6 ⟨rfl, ha6, k6, b6⟩
        have hX6 := k6.blk _ _ hX5 (fun cs fr e => by cases e) (fun cs fr e => by cases e)
        refine hK.out _ _ hX6 (fun hHeld6 => ?_)
        clear hK
        refine wpAnyH_take (i := 14) (oi := _) (v := ?_) rfl (by kernel_rfl) (by kernel_rfl) (by kernel_rfl) (fun _ _ _ h => h) (Or.inl ⟨by rfl, ?_⟩) hHeld6 ?_
        rotate_left
        · intro w9 hSw; go_simp; (try with_reducible rfl)
        simp only [List.getElem_toArray, List.getElem_cons_zero, List.getElem_cons_succ, Act.put, List.setIfInBounds_toArray, List.set_cons_zero, List.set_cons_succ]
        refine wpAnyH_take (i := 15) (oi := _) (v := ?_) rfl (by kernel_rfl) (by kernel_rfl) (by kernel_rfl) (fun _ _ _ h => h) (Or.inl ⟨by rfl, ?_⟩) hHeld6 ?_
        rotate_left
        · intro w9 hSw; go_simp; (try with_reducible rfl)
        simp only [List.getElem_toArray, List.getElem_cons_zero, List.getElem_cons_succ, Act.put, List.setIfInBounds_toArray, List.set_cons_zero, List.set_cons_succ]
        refine wpAnyH_take (i := 16) (oi := _) (v := ?_) rfl (by kernel_rfl) (by kernel_rfl) (by kernel_rfl) (fun _ _ _ h => h) (Or.inl ⟨by rfl, ?_⟩) hHeld6 ?_
        rotate_left
        · intro w9 hSw; go_simp; (try with_reducible rfl)
        simp only [List.getElem_toArray, List.getElem_cons_zero, List.getElem_cons_succ, Act.put, List.setIfInBounds_toArray, List.set_cons_zero, List.set_cons_succ]
        refine wpAnyH_done (by kernel_rfl) ?_ _
        have HD6 := Lib.hid (hd5.kept k6)
        have HK6 := Lib.hid ((Kept9.of_below hb5).trans k6)
        have HB6 := Lib.hid ((hb5.mono hBc).trans b6)
        clear hX5 hX6 hHeld6 hHeld hd5
        go_wp2_with fail
        go_ret2
        refine ⟨_, _, rfl, ⟨Nat.le_trans hlo (Nat.le_trans hb.size (Nat.le_trans hb5.size b6.size)), ha6, by simpa using HD6.out, by rw [← hn2l]; exact HN.out.lf o1 zs2, ?_⟩, by simp, by simp, hk9.trans ⟨HK6.out.os, HK6.out.tape, HK6.out.output, HK6.out.size, HK6.out.blk⟩, hbB.trans ⟨HB6.out.os, HB6.out.tape, HB6.out.output, HB6.out.size, HB6.out.block⟩⟩
        intro i hi
        rw [List.length_append, List.length_singleton] at hi
        rcases Nat.lt_or_ge i N.length with h1 | h1
        · rw [gn_snoc_lt _ _ h1]; exact HWD.out i h1
        · obtain rfl : i = N.length := by omega
          rw [gn_snoc_at]; show n2 ≤ 3000; omega
      by_cases e1 : o0 = 1
      · subst e1
        go_wp2_with fail
        refine wp_region_held_drew (S := fun W => W.heap[w.heap.size]? = some (.cells #[.int .i64 1, .int .i64 o1, .slice AB n2 cB, .slice AK nK cK, .int .i64 z4, .int .i64 z5, .slice AP nP cP, .bool back] 29 (0, 0))) (by kernel_rfl) HX.out (fun hHeld => ?_)
        change wpAnyH _ _ _ _ _ 17 #[false, false, false, false, false, false, false, false, false, false, false, false, false, false, false, false, false] _ _
        refine wpAnyH_take (i := 0) (oi := _) (v := ?_) rfl (by kernel_rfl) (by kernel_rfl) (by kernel_rfl) (fun _ _ _ h => h) (Or.inl ⟨by rfl, ?_⟩) hHeld ?_
        rotate_left
        · intro w9 hSw; go_simp; (try with_reducible rfl)
        simp only [List.getElem_toArray, List.getElem_cons_zero, Act.put, List.setIfInBounds_toArray, List.set_cons_zero, List.set_cons_succ]
        refine wpAnyH_take (i := 1) (oi := _) (v := ?_) rfl (by kernel_rfl) (by kernel_rfl) (by kernel_rfl) (fun _ _ _ h => h) (Or.inl ⟨by rfl, ?_⟩) hHeld ?_
        rotate_left
        · intro w9 hSw; go_simp; (try with_reducible rfl)
        simp only [List.getElem_toArray, List.getElem_cons_zero, List.getElem_cons_succ, Act.put, List.setIfInBounds_toArray, List.set_cons_zero, List.set_cons_succ]
        refine wpAnyH_take (i := 2) (oi := _) (v := ?_) rfl (by kernel_rfl) (by kernel_rfl) (by kernel_rfl) (fun _ _ _ h => h) (Or.inl ⟨by rfl, ?_⟩) hHeld ?_
        rotate_left
        · intro w9 hSw; have s1 := (cell_of_row w9 w.heap.size 1 _ _ _ hSw).trans (show _ = some (Value.int .i64 o1) from rfl); have s2 := (cell_of_row w9 w.heap.size 2 _ _ _ hSw).trans (show _ = some (Value.slice AB n2 cB) from rfl); go_simp; (try with_reducible rfl)
        simp only [List.getElem_toArray, List.getElem_cons_zero, List.getElem_cons_succ, Act.put, List.setIfInBounds_toArray, List.set_cons_zero, List.set_cons_succ]
        refine wpAnyH_take (i := 3) (oi := _) (v := ?_) rfl (by kernel_rfl) (by kernel_rfl) (by kernel_rfl) (fun _ _ _ h => h) (Or.inl ⟨by rfl, ?_⟩) hHeld ?_
        rotate_left
        · intro w9 hSw; go_simp; (try with_reducible rfl)
        simp only [List.getElem_toArray, List.getElem_cons_zero, List.getElem_cons_succ, Act.put, List.setIfInBounds_toArray, List.set_cons_zero, List.set_cons_succ]
        refine wpAnyH_take (i := 4) (oi := _) (v := ?_) rfl (by kernel_rfl) (by kernel_rfl) (by kernel_rfl) (fun _ _ _ h => h) (Or.inl ⟨by rfl, ?_⟩) hHeld ?_
        rotate_left
        · intro w9 hSw; have s1 := (cell_of_row w9 w.heap.size 1 _ _ _ hSw).trans (show _ = some (Value.int .i64 o1) from rfl); have s2 := (cell_of_row w9 w.heap.size 2 _ _ _ hSw).trans (show _ = some (Value.slice AB n2 cB) from rfl); go_simp; (try with_reducible rfl)
        simp only [List.getElem_toArray, List.getElem_cons_zero, List.getElem_cons_succ, Act.put, List.setIfInBounds_toArray, List.set_cons_zero, List.set_cons_succ]
        refine wpAnyH_take (i := 6) (oi := _) (v := ?_) rfl (by kernel_rfl) (by kernel_rfl) (by kernel_rfl) (fun _ _ _ h => h) (Or.inl ⟨by rfl, ?_⟩) hHeld ?_
        rotate_left
        · intro w9 hSw; go_simp; (try with_reducible rfl)
        simp only [List.getElem_toArray, List.getElem_cons_zero, List.getElem_cons_succ, Act.put, List.setIfInBounds_toArray, List.set_cons_zero, List.set_cons_succ]
        refine wpAnyH_take (i := 7) (oi := _) (v := ?_) rfl (by kernel_rfl) (by kernel_rfl) (by kernel_rfl) (fun _ _ _ h => h) (Or.inl ⟨by rfl, ?_⟩) hHeld ?_
        rotate_left
        · intro w9 hSw; go_simp; (try with_reducible rfl)
        simp only [List.getElem_toArray, List.getElem_cons_zero, List.getElem_cons_succ, Act.put, List.setIfInBounds_toArray, List.set_cons_zero, List.set_cons_succ]
        refine wpAnyH_take (i := 8) (oi := _) (v := ?_) rfl (by kernel_rfl) (by kernel_rfl) (by kernel_rfl) (fun _ _ _ h => h) (Or.inl ⟨by rfl, ?_⟩) hHeld ?_
        rotate_left
        · intro w9 hSw; have s1 := (cell_of_row w9 w.heap.size 1 _ _ _ hSw).trans (show _ = some (Value.int .i64 o1) from rfl); have s2 := (cell_of_row w9 w.heap.size 2 _ _ _ hSw).trans (show _ = some (Value.slice AB n2 cB) from rfl); go_simp; (try with_reducible rfl)
        simp only [List.getElem_toArray, List.getElem_cons_zero, List.getElem_cons_succ, Act.put, List.setIfInBounds_toArray, List.set_cons_zero, List.set_cons_succ]
        refine wpAnyH_take (i := 9) (oi := _) (v := ?_) rfl (by kernel_rfl) (by kernel_rfl) (by kernel_rfl) (fun _ _ _ h => h) (Or.inl ⟨by rfl, ?_⟩) hHeld ?_
        rotate_left
        · intro w9 hSw; go_simp; (try with_reducible rfl)
        simp only [List.getElem_toArray, List.getElem_cons_zero, List.getElem_cons_succ, Act.put, List.setIfInBounds_toArray, List.set_cons_zero, List.set_cons_succ]
        refine wpAnyH_take (i := 10) (oi := _) (v := ?_) rfl (by kernel_rfl) (by kernel_rfl) (by kernel_rfl) (fun _ _ _ h => h) (Or.inl ⟨by rfl, ?_⟩) hHeld ?_
        rotate_left
        · intro w9 hSw; have s1 := (cell_of_row w9 w.heap.size 1 _ _ _ hSw).trans (show _ = some (Value.int .i64 o1) from rfl); have s2 := (cell_of_row w9 w.heap.size 2 _ _ _ hSw).trans (show _ = some (Value.slice AB n2 cB) from rfl); go_simp; (try with_reducible rfl)
        simp only [List.getElem_toArray, List.getElem_cons_zero, List.getElem_cons_succ, Act.put, List.setIfInBounds_toArray, List.set_cons_zero, List.set_cons_succ]
        refine wpAnyH_take (i := 12) (oi := _) (v := ?_) rfl (by kernel_rfl) (by kernel_rfl) (by kernel_rfl) (fun _ _ _ h => h) (Or.inl ⟨by rfl, ?_⟩) hHeld ?_
        rotate_left
        · intro w9 hSw; go_simp; (try with_reducible rfl)
        simp only [List.getElem_toArray, List.getElem_cons_zero, List.getElem_cons_succ, Act.put, List.setIfInBounds_toArray, List.set_cons_zero, List.set_cons_succ]
        refine wpAnyH_take (i := 13) (oi := _) (v := ?_) rfl (by kernel_rfl) (by kernel_rfl) (by kernel_rfl) (fun _ _ _ h => h) (Or.inl ⟨by rfl, ?_⟩) hHeld ?_
        rotate_left
        · intro w9 hSw; go_simp; (try with_reducible rfl)
        simp only [List.getElem_toArray, List.getElem_cons_zero, List.getElem_cons_succ, Act.put, List.setIfInBounds_toArray, List.set_cons_zero, List.set_cons_succ]
        refine wpAnyH_ready (rs := [5]) (by kernel_rfl) (by simp) ?_
        refine AllReadyH.cons (o := _) rfl (fun K hK => ?_) AllReadyH.nil
        go_simp
        refine (leaf50 hD.drew HN.out.good o1 AB n2 cB zs2 (hr2c.drew) (by omega) (by omega)).mono ?_
        rintro e w5 ⟨A5, c5, rfl, hd5, hb5⟩
        have hX5 := (hb5.block w.heap.size hgo).trans hHeld
        refine hK.out _ _ hX5 (fun _ => ?_)
        clear hK
        refine wpAnyH_ready (rs := [11]) (by kernel_rfl) (by simp) ?_
        refine AllReadyH.cons (o := _) rfl (fun K hK => ?_) AllReadyH.nil
        go_simp
        refine (leaf26 (hA.drew.below hb5) o1 AB n2 cB zs2 ((hr2c.drew.below hb5).more hb5.size) (by omega) (by omega) (Nat.le_trans hBc hb5.size)).mono ?_
        rintro e w6 ⟨rfl, ha6, k6, b6⟩
        have hX6 := k6.blk _ _ hX5 (fun cs fr e => by cases e) (fun cs fr e => by cases e)
        refine hK.out _ _ hX6 (fun hHeld6 => ?_)
        clear hK
        refine wpAnyH_take (i := 14) (oi := _) (v := ?_) rfl (by kernel_rfl) (by kernel_rfl) (by kernel_rfl) (fun _ _ _ h => h) (Or.inl ⟨by rfl, ?_⟩) hHeld6 ?_
        rotate_left
        · intro w9 hSw; go_simp; (try with_reducible rfl)
        simp only [List.getElem_toArray, List.getElem_cons_zero, List.getElem_cons_succ, Act.put, List.setIfInBounds_toArray, List.set_cons_zero, List.set_cons_succ]
        refine wpAnyH_take (i := 15) (oi := _) (v := ?_) rfl (by kernel_rfl) (by kernel_rfl) (by kernel_rfl) (fun _ _ _ h => h) (Or.inl ⟨by rfl, ?_⟩) hHeld6 ?_
        rotate_left
        · intro w9 hSw; go_simp; (try with_reducible rfl)
        simp only [List.getElem_toArray, List.getElem_cons_zero, List.getElem_cons_succ, Act.put, List.setIfInBounds_toArray, List.set_cons_zero, List.set_cons_succ]
        refine wpAnyH_take (i := 16) (oi := _) (v := ?_) rfl (by kernel_rfl) (by kernel_rfl) (by kernel_rfl) (fun _ _ _ h => h) (Or.inl ⟨by rfl, ?_⟩) hHeld6 ?_
        rotate_left
        · intro w9 hSw; go_simp; (try with_reducible rfl)
        simp only [List.getElem_toArray, List.getElem_cons_zero, List.getElem_cons_succ, Act.put, List.setIfInBounds_toArray, List.set_cons_zero, List.set_cons_succ]
        refine wpAnyH_done (by kernel_rfl) ?_ _
        have HD6 := Lib.hid (hd5.kept k6)
        have HK6 := Lib.hid ((Kept9.of_below hb5).trans k6)
        have HB6 := Lib.hid ((hb5.mono hBc).trans b6)
        clear hX5 hX6 hHeld6 hHeld hd5
        go_wp2_with fail
        go_ret2
        refine ⟨_, _, rfl, ⟨Nat.le_trans hlo (Nat.le_trans hb.size (Nat.le_trans hb5.size b6.size)), ha6, by simpa using HD6.out, by rw [← hn2l]; exact HN.out.lf o1 zs2, ?_⟩, by simp, by simp, hk9.trans ⟨HK6.out.os, HK6.out.tape, HK6.out.output, HK6.out.size, HK6.out.blk⟩, hbB.trans ⟨HB6.out.os, HB6.out.tape, HB6.out.output, HB6.out.size, HB6.out.block⟩⟩
        intro i hi
        rw [List.length_append, List.length_singleton] at hi
        rcases Nat.lt_or_ge i N.length with h1 | h1
        · rw [gn_snoc_lt _ _ h1]; exact HWD.out i h1
        · obtain rfl : i = N.length := by omega
          rw [gn_snoc_at]; show n2 ≤ 3000; omega
      by_cases e2 : o0 = 2
      · subst e2
        have hfl : ∀ i : Nat, i < N.length → (pr N i).length ≤ 8192 := fun i hi => by rw [← HN.out.wide i hi]; have := HWD.out i hi; omega
        have C51 := branch51 hD HN.out.good o1 A1 ks.length c1 ks (Rd.of_own hK) (by omega) (by omega) HN.out.cnt hfl
        by_cases hko : kidsOk N ks ks.length
        · have C51 := C51.mono (R' := fun e w' => ∃ A' c', e = .returned (.tuple #[.slice A' (N.length + 1) c', .int .i64 0]) ∧ DocN w' (.slice A' (N.length + 1) c') (gbr N o1 ks) ∧ Below wc.heap.size wc w') (by
            rintro e w' ⟨⟨A', c', rfl, _, hd⟩ | ⟨_, hk⟩, hb⟩
            · exact ⟨A', c', rfl, hd, hb⟩
            · exact absurd hko hk)
          have hok2 := HN.out.br o1 hko (by omega)
          have hPL : (pr (gbr N o1 ks) (N.length : Nat)).length = bW N ks ks.length := by rw [← hok2.wide N.length (by simp only [gbr_len]; omega)]; unfold gbr; rw [gn_snoc_at]
          have hbw := bW_le HWD.out ks ks.length
          have hbwM : ks.length * 3000 ≤ 15000 := by omega
          have HOK2 := Lib.hid hok2
          have HKO := Lib.hid hko
          clear hok2 hko hfl
          by_cases hbig : 3000 < (pr (gbr N o1 ks) (N.length : Nat)).length
          · go_wp2_with (go_at_call 51; refine C51.mono ?_; rintro e w5 ⟨A5, c5, rfl, hd5, hb5⟩; obtain ⟨-, g5, bv5, kv5, hg5, hn5⟩ := hd5.node; obtain rfl := hg5 (by simp only [gbr_len]; omega); obtain ⟨-, -, m2, -, -, o5', -⟩ := hn5 N.length (by simp only [gbr_len]; omega); obtain ⟨A7, c7, hv7, _⟩ := own_form o5'; rw [hv7] at m2; clear C51 hn5 hg5 hv7 o5')
            go_ret2
            exact ⟨_, _, rfl, ⟨by have := hb5.size; omega, hA.below hb5, hD.below hb5, HN.out, HWD.out⟩, Nat.le_refl _, by omega, hk9.trans (Kept9.of_below hb5), hbB.trans (hb5.mono hBc)⟩
          · have C25 := fun w5 (hb5 : Below wc.heap.size wc w5) => (branch25 (hA.below hb5) o1 A1 ks.length c1 ks (((Rd.of_own hK).below hb5).more hb5.size) (by omega) (by omega) (Nat.le_trans hBc hb5.size) (by omega) HN.out.cnt).mono (R' := fun e w' => e = .returned (.tuple #[.int .i64 N.length, .int .i64 0]) ∧ Arena w' B ga (gbr N o1 ks) ∧ Kept9 w5 w' ∧ Below B w5 w') (by
              rintro e w' ⟨⟨rfl, _, ha⟩ | ⟨_, hk, _⟩, k, b⟩
              · exact ⟨rfl, ha, k, b⟩
              · exact absurd HKO.out hk)
            go_wp2_with (first | (go_at_call 51; refine C51.mono ?_; rintro e w5 ⟨A5, c5, rfl, hd5, hb5⟩; obtain ⟨-, g5, bv5, kv5, hg5, hn5⟩ := hd5.node; obtain rfl := hg5 (by simp only [gbr_len]; omega); obtain ⟨-, -, m2, -, -, o5', -⟩ := hn5 N.length (by simp only [gbr_len]; omega); obtain ⟨A7, c7, hv7, _⟩ := own_form o5'; rw [hv7] at m2; clear C51 hn5 hg5 hv7 o5'; have r1' := (hb5.cell (p := ⟨w.heap.size, 1, none⟩) hgo).trans r1) | (go_at_call 25; refine (C25 _ hb5).mono ?_; rintro e w6 ⟨rfl, ha6, k6, b6⟩; clear C25))
            go_ret2
            refine ⟨_, _, rfl, ⟨Nat.le_trans hlo (Nat.le_trans hb.size (Nat.le_trans hb5.size b6.size)), ha6, hd5.kept k6, HOK2.out, ?_⟩, by simp only [gbr_len]; omega, by simp only [gbr_len]; omega, hk9.trans ((Kept9.of_below hb5).trans k6), hbB.trans ((hb5.mono hBc).trans b6)⟩
            intro i hi
            simp only [gbr_len] at hi
            unfold gbr
            rcases Nat.lt_or_ge i N.length with h1 | h1
            · rw [gn_snoc_lt _ _ h1]; exact HWD.out i h1
            · obtain rfl : i = N.length := by omega
              rw [gn_snoc_at]; show bW N ks ks.length ≤ 3000; omega
        · have C51 := C51.mono (R' := fun e w' => e = .returned (.tuple #[.slice A N.length c, .int .i64 6]) ∧ Below wc.heap.size wc w') (by
            rintro e w' ⟨⟨A', c', _, hk, _⟩ | ⟨rfl, _⟩, hb⟩
            · exact absurd hk hko
            · exact ⟨rfl, hb⟩)
          have hbw := bW_le HWD.out ks ks.length
          have hbwM : ks.length * 3000 ≤ 15000 := by omega
          have C25 := fun w5 (hb5 : Below wc.heap.size wc w5) => (branch25 (hA.below hb5) o1 A1 ks.length c1 ks (((Rd.of_own hK).below hb5).more hb5.size) (by omega) (by omega) (Nat.le_trans hBc hb5.size) (by omega) HN.out.cnt).mono (R' := fun e w' => e = .returned (.tuple #[.int .i64 0, .int .i64 6]) ∧ Arena w' B ga N ∧ Kept9 w5 w' ∧ Below B w5 w') (by
            rintro e w' ⟨⟨_, hk, _⟩ | ⟨rfl, _, ha⟩, k, b⟩
            · exact absurd hk hko
            · exact ⟨rfl, ha, k, b⟩)
          clear hko hfl
          by_cases hpos : 0 < N.length
          · obtain ⟨-, g, bv, kv, hg, hn5⟩ := hD.node
            obtain rfl := hg hpos
            obtain ⟨-, -, m2, -, -, o5', -⟩ := hn5 (N.length - 1) (by omega)
            obtain ⟨A7, c7, hv7, _⟩ := own_form o5'
            rw [hv7] at m2
            have hlast : (pr N ((N.length - 1 : Nat) : Int)).length ≤ 3000 := by rw [← HN.out.wide _ (by omega)]; exact HWD.out _ (by omega)
            clear hn5 hg hv7 o5'
            go_wp2_with (first | (go_at_call 51; refine C51.mono ?_; rintro e w5 ⟨rfl, hb5⟩; clear C51; have m2' := (hb5.cell (p := ⟨g, (N.length - 1) * 5 + 2, none⟩) (World.block_lt_of_cell? _ _ m2)).trans m2; have r1' := (hb5.cell (p := ⟨w.heap.size, 1, none⟩) hgo).trans r1) | (go_at_call 25; refine (C25 _ hb5).mono ?_; rintro e w6 ⟨rfl, ha6, k6, b6⟩; clear C25))
            go_ret2
            exact ⟨_, _, rfl, ⟨Nat.le_trans hlo (Nat.le_trans hb.size (Nat.le_trans hb5.size b6.size)), ha6, (hD.below hb5).kept k6, HN.out, HWD.out⟩, Nat.le_refl _, by omega, hk9.trans ((Kept9.of_below hb5).trans k6), hbB.trans ((hb5.mono hBc).trans b6)⟩
          · go_wp2_with (first | (go_at_call 51; refine C51.mono ?_; rintro e w5 ⟨rfl, hb5⟩; clear C51; have r1' := (hb5.cell (p := ⟨w.heap.size, 1, none⟩) hgo).trans r1) | (go_at_call 25; refine (C25 _ hb5).mono ?_; rintro e w6 ⟨rfl, ha6, k6, b6⟩; clear C25))
            go_ret2
            exact ⟨_, _, rfl, ⟨Nat.le_trans hlo (Nat.le_trans hb.size (Nat.le_trans hb5.size b6.size)), ha6, (hD.below hb5).kept k6, HN.out, HWD.out⟩, Nat.le_refl _, by omega, hk9.trans ((Kept9.of_below hb5).trans k6), hbB.trans ((hb5.mono hBc).trans b6)⟩
      by_cases e3 : o0 = 3
      · subst e3
        have hfl : ∀ i : Nat, i < N.length → (pr N i).length ≤ 8192 := fun i hi => by rw [← HN.out.wide i hi]; have := HWD.out i hi; omega
        have C51 := branch51 hD HN.out.good o1 A1 ks.length c1 ks (Rd.of_own hK) (by omega) (by omega) HN.out.cnt hfl
        by_cases hko : kidsOk N ks ks.length
        · have C51 := C51.mono (R' := fun e w' => ∃ A' c', e = .returned (.tuple #[.slice A' (N.length + 1) c', .int .i64 0]) ∧ DocN w' (.slice A' (N.length + 1) c') (gbr N o1 ks) ∧ Below wc.heap.size wc w') (by
            rintro e w' ⟨⟨A', c', rfl, _, hd⟩ | ⟨_, hk⟩, hb⟩
            · exact ⟨A', c', rfl, hd, hb⟩
            · exact absurd hko hk)
          have hok2 := HN.out.br o1 hko (by omega)
          have hPL : (pr (gbr N o1 ks) (N.length : Nat)).length = bW N ks ks.length := by rw [← hok2.wide N.length (by simp only [gbr_len]; omega)]; unfold gbr; rw [gn_snoc_at]
          have hbw := bW_le HWD.out ks ks.length
          have hbwM : ks.length * 3000 ≤ 15000 := by omega
          have HOK2 := Lib.hid hok2
          have HKO := Lib.hid hko
          clear hok2 hko hfl
          by_cases hbig : 3000 < (pr (gbr N o1 ks) (N.length : Nat)).length
          · go_wp2_with (go_at_call 51; refine C51.mono ?_; rintro e w5 ⟨A5, c5, rfl, hd5, hb5⟩; obtain ⟨-, g5, bv5, kv5, hg5, hn5⟩ := hd5.node; obtain rfl := hg5 (by simp only [gbr_len]; omega); obtain ⟨-, -, m2, -, -, o5', -⟩ := hn5 N.length (by simp only [gbr_len]; omega); obtain ⟨A7, c7, hv7, _⟩ := own_form o5'; rw [hv7] at m2; clear C51 hn5 hg5 hv7 o5')
            go_ret2
            exact ⟨_, _, rfl, ⟨by have := hb5.size; omega, hA.below hb5, hD.below hb5, HN.out, HWD.out⟩, Nat.le_refl _, by omega, hk9.trans (Kept9.of_below hb5), hbB.trans (hb5.mono hBc)⟩
          · have C25 := fun w5 (hb5 : Below wc.heap.size wc w5) => (branch25 (hA.below hb5) o1 A1 ks.length c1 ks (((Rd.of_own hK).below hb5).more hb5.size) (by omega) (by omega) (Nat.le_trans hBc hb5.size) (by omega) HN.out.cnt).mono (R' := fun e w' => e = .returned (.tuple #[.int .i64 N.length, .int .i64 0]) ∧ Arena w' B ga (gbr N o1 ks) ∧ Kept9 w5 w' ∧ Below B w5 w') (by
              rintro e w' ⟨⟨rfl, _, ha⟩ | ⟨_, hk, _⟩, k, b⟩
              · exact ⟨rfl, ha, k, b⟩
              · exact absurd HKO.out hk)
            go_wp2_with (first | (go_at_call 51; refine C51.mono ?_; rintro e w5 ⟨A5, c5, rfl, hd5, hb5⟩; obtain ⟨-, g5, bv5, kv5, hg5, hn5⟩ := hd5.node; obtain rfl := hg5 (by simp only [gbr_len]; omega); obtain ⟨-, -, m2, -, -, o5', -⟩ := hn5 N.length (by simp only [gbr_len]; omega); obtain ⟨A7, c7, hv7, _⟩ := own_form o5'; rw [hv7] at m2; clear C51 hn5 hg5 hv7 o5'; have r1' := (hb5.cell (p := ⟨w.heap.size, 1, none⟩) hgo).trans r1) | (go_at_call 25; refine (C25 _ hb5).mono ?_; rintro e w6 ⟨rfl, ha6, k6, b6⟩; clear C25))
            go_ret2
            refine ⟨_, _, rfl, ⟨Nat.le_trans hlo (Nat.le_trans hb.size (Nat.le_trans hb5.size b6.size)), ha6, hd5.kept k6, HOK2.out, ?_⟩, by simp only [gbr_len]; omega, by simp only [gbr_len]; omega, hk9.trans ((Kept9.of_below hb5).trans k6), hbB.trans ((hb5.mono hBc).trans b6)⟩
            intro i hi
            simp only [gbr_len] at hi
            unfold gbr
            rcases Nat.lt_or_ge i N.length with h1 | h1
            · rw [gn_snoc_lt _ _ h1]; exact HWD.out i h1
            · obtain rfl : i = N.length := by omega
              rw [gn_snoc_at]; show bW N ks ks.length ≤ 3000; omega
        · have C51 := C51.mono (R' := fun e w' => e = .returned (.tuple #[.slice A N.length c, .int .i64 6]) ∧ Below wc.heap.size wc w') (by
            rintro e w' ⟨⟨A', c', _, hk, _⟩ | ⟨rfl, _⟩, hb⟩
            · exact absurd hk hko
            · exact ⟨rfl, hb⟩)
          have hbw := bW_le HWD.out ks ks.length
          have hbwM : ks.length * 3000 ≤ 15000 := by omega
          have C25 := fun w5 (hb5 : Below wc.heap.size wc w5) => (branch25 (hA.below hb5) o1 A1 ks.length c1 ks (((Rd.of_own hK).below hb5).more hb5.size) (by omega) (by omega) (Nat.le_trans hBc hb5.size) (by omega) HN.out.cnt).mono (R' := fun e w' => e = .returned (.tuple #[.int .i64 0, .int .i64 6]) ∧ Arena w' B ga N ∧ Kept9 w5 w' ∧ Below B w5 w') (by
            rintro e w' ⟨⟨_, hk, _⟩ | ⟨rfl, _, ha⟩, k, b⟩
            · exact absurd hk hko
            · exact ⟨rfl, ha, k, b⟩)
          clear hko hfl
          by_cases hpos : 0 < N.length
          · obtain ⟨-, g, bv, kv, hg, hn5⟩ := hD.node
            obtain rfl := hg hpos
            obtain ⟨-, -, m2, -, -, o5', -⟩ := hn5 (N.length - 1) (by omega)
            obtain ⟨A7, c7, hv7, _⟩ := own_form o5'
            rw [hv7] at m2
            have hlast : (pr N ((N.length - 1 : Nat) : Int)).length ≤ 3000 := by rw [← HN.out.wide _ (by omega)]; exact HWD.out _ (by omega)
            clear hn5 hg hv7 o5'
            go_wp2_with (first | (go_at_call 51; refine C51.mono ?_; rintro e w5 ⟨rfl, hb5⟩; clear C51; have m2' := (hb5.cell (p := ⟨g, (N.length - 1) * 5 + 2, none⟩) (World.block_lt_of_cell? _ _ m2)).trans m2; have r1' := (hb5.cell (p := ⟨w.heap.size, 1, none⟩) hgo).trans r1) | (go_at_call 25; refine (C25 _ hb5).mono ?_; rintro e w6 ⟨rfl, ha6, k6, b6⟩; clear C25))
            go_ret2
            exact ⟨_, _, rfl, ⟨Nat.le_trans hlo (Nat.le_trans hb.size (Nat.le_trans hb5.size b6.size)), ha6, (hD.below hb5).kept k6, HN.out, HWD.out⟩, Nat.le_refl _, by omega, hk9.trans ((Kept9.of_below hb5).trans k6), hbB.trans ((hb5.mono hBc).trans b6)⟩
          · go_wp2_with (first | (go_at_call 51; refine C51.mono ?_; rintro e w5 ⟨rfl, hb5⟩; clear C51; have r1' := (hb5.cell (p := ⟨w.heap.size, 1, none⟩) hgo).trans r1) | (go_at_call 25; refine (C25 _ hb5).mono ?_; rintro e w6 ⟨rfl, ha6, k6, b6⟩; clear C25))
            go_ret2
            exact ⟨_, _, rfl, ⟨Nat.le_trans hlo (Nat.le_trans hb.size (Nat.le_trans hb5.size b6.size)), ha6, (hD.below hb5).kept k6, HN.out, HWD.out⟩, Nat.le_refl _, by omega, hk9.trans ((Kept9.of_below hb5).trans k6), hbB.trans ((hb5.mono hBc).trans b6)⟩
      by_cases e4 : o0 = 4
      · subst e4
        by_cases in4 : 0 ≤ z4 ∧ z4 < N.length
        · by_cases in5 : 0 ≤ z5 ∧ z5 < N.length
          · obtain ⟨i, rfl⟩ := Int.eq_ofNat_of_zero_le in4.1
            obtain ⟨j, rfl⟩ := Int.eq_ofNat_of_zero_le in5.1
            have hiN : i < N.length := by omega
            have hjN : j < N.length := by omega
            have C24a : ∀ W, Calls Try.prog 24 #[.slice A N.length c, .int .i64 (i : Nat)] W fun e w' => e = .returned (.bool true) ∧ W = w' := fun W => by have := has24 A N.length c (i : Nat) W; rwa [show decide (0 ≤ (i : Int) ∧ (i : Int) < N.length) = true by simpa using hiN] at this
            have C24b : ∀ W, Calls Try.prog 24 #[.slice A N.length c, .int .i64 (j : Nat)] W fun e w' => e = .returned (.bool true) ∧ W = w' := fun W => by have := has24 A N.length c (j : Nat) W; rwa [show decide (0 ≤ (j : Int) ∧ (j : Int) < N.length) = true by simpa using hjN] at this
            obtain ⟨-, g, bv, kv, hg, hn5⟩ := hD.node
            obtain rfl := hg (by omega)
            obtain ⟨-, -, m4, -, -, o4', -⟩ := hn5 i hiN
            obtain ⟨A7, c7, hv7, _⟩ := own_form o4'
            rw [hv7] at m4
            obtain ⟨-, -, m5, -, -, o5', -⟩ := hn5 j hjN
            obtain ⟨A8, c8, hv8, _⟩ := own_form o5'
            rw [hv8] at m5
            have hpi : (pr N (i : Nat)).length ≤ 3000 := by rw [← HN.out.wide _ hiN]; exact HWD.out _ hiN
            have hpj : (pr N (j : Nat)).length ≤ 3000 := by rw [← HN.out.wide _ hjN]; exact HWD.out _ hjN
            have HWI := Lib.hid (HN.out.wide i hiN)
            have HWJ := Lib.hid (HN.out.wide j hjN)
            clear hn5 hg hv7 hv8 o4' o5' in4 in5
            by_cases hbig : 3000 < (pr N (i : Nat)).length + (pr N (j : Nat)).length
            · have t1 : IntKind.i64.wrap (((pr N (i : Nat)).length : Int) + ((pr N (j : Nat)).length : Int)) = ((pr N (i : Nat)).length : Int) + ((pr N (j : Nat)).length : Int) := IntWalk.i64_in _ (by omega)
              have t2 : decide ((3000 : Int) < ((pr N (i : Nat)).length : Int) + ((pr N (j : Nat)).length : Int)) = true := by simp; omega
              go_wp2_with fail
              go_quiet ((first | (go_at_call 24; with_reducible exact quiet_left (C24a _)) | (go_at_call 24; with_reducible exact quiet_left (C24b _))))
              have hbd : Below wc.heap.size wc (wc.drewN nq) := ⟨rfl, rfl, rfl, Nat.le_refl _, fun _ _ => rfl⟩
              have hb3 := hb.trans (hbd.mono (Nat.le_of_lt hgo))
              have hA3 := hA.below hbd
              have hD3 := hD.below hbd
              have hP3 := own_below hP hbd
              have q4 : (wc.drewN nq).cell? ⟨w.heap.size, 4, none⟩ = _ := r4
              have q5 : (wc.drewN nq).cell? ⟨w.heap.size, 5, none⟩ = _ := r5
              clear hbd
              generalize wc.drewN nq = W3 at *
              have hB3 : B ≤ W3.heap.size := Nat.le_trans hlo hb3.size
              have hgo3 : w.heap.size < W3.heap.size := World.block_lt_of_cell? _ _ q4
              go_wp2_with fail
              go_ret2
              exact ⟨_, _, rfl, ⟨hB3, hA3, hD3, HN.out, HWD.out⟩, Nat.le_refl _, by omega, Kept9.of_below hb3, hb3.mono hlo⟩
            · by_cases hv : (gatR N (i : Nat) ps).isSome ∧ 0 ≤ ((j : Nat) : Int) ∧ ((j : Nat) : Int) < N.length
              · have hgl : (gatL N i ps).isSome := by have := hv.1; rwa [gatR_in hiN] at this
                have HV := Lib.hid hv
                have HGL := Lib.hid hgl
                have HSO := Lib.hid (repN_ok HN.out ps i j hiN hjN hgl)
                have HSW := Lib.hid (repN_wd' HN.out HWD.out ps i j hiN hjN hgl (by rw [HWI.out, HWJ.out]; omega))
                clear hv hgl
                obtain ⟨S, hS⟩ : ∃ S, repN N i ps j = S := ⟨_, rfl⟩
                rw [hS] at HSO HSW
                have HS := Lib.hid hS
                clear hS
                have t1 : IntKind.i64.wrap (((pr N (i : Nat)).length : Int) + ((pr N (j : Nat)).length : Int)) = ((pr N (i : Nat)).length : Int) + ((pr N (j : Nat)).length : Int) := IntWalk.i64_in _ (by omega)
                have t2 : decide ((3000 : Int) < ((pr N (i : Nat)).length : Int) + ((pr N (j : Nat)).length : Int)) = false := by simp; omega
                go_wp2_with fail
                go_quiet ((first | (go_at_call 24; with_reducible exact quiet_left (C24a _)) | (go_at_call 24; with_reducible exact quiet_left (C24b _))))
                have hbd : Below wc.heap.size wc (wc.drewN nq) := ⟨rfl, rfl, rfl, Nat.le_refl _, fun _ _ => rfl⟩
                have hb3 := hb.trans (hbd.mono (Nat.le_of_lt hgo))
                have hA3 := hA.below hbd
                have hD3 := hD.below hbd
                have hP3 := own_below hP hbd
                have q4 : (wc.drewN nq).cell? ⟨w.heap.size, 4, none⟩ = _ := r4
                have q5 : (wc.drewN nq).cell? ⟨w.heap.size, 5, none⟩ = _ := r5
                clear hbd
                generalize wc.drewN nq = W3 at *
                have hB3 : B ≤ W3.heap.size := Nat.le_trans hlo hb3.size
                have hgo3 : w.heap.size < W3.heap.size := World.block_lt_of_cell? _ _ q4
                have C52 := replace52 HN.out (fun i hi => Nat.le_trans (HWD.out i hi) (by omega)) ps (i : Nat) (j : Nat) _ A2 N.length c ps.length c2 W3 (by omega) (by omega) hD3 (Rd.of_own hP3)
                have C52 := C52.mono (R' := fun e w' => ∃ A' c', e = .returned (.tuple #[.slice A' S.1.length c', .int .i64 S.2, .int .i64 0]) ∧ DocN w' (.slice A' S.1.length c') S.1 ∧ Below W3.heap.size W3 w') (fun e w' h => by unfold RepD at h; rw [if_pos HV.out] at h; rw [← HS.out]; exact h)
                have C22 := fun w5 (hb5 : Below W3.heap.size W3 w5) => (replace22 (hA3.below hb5) HN.out (i : Nat) (j : Nat) A2 ps.length c2 ps (own_mono (own_below hP3 hb5) (Nat.zero_le _)) (by omega) (Nat.le_trans hB3 hb5.size) (by omega) (fun i hi => Nat.le_trans (HWD.out i hi) (by omega))).mono (R' := fun e w' => e = .returned (.tuple #[.int .i64 S.2, .int .i64 0]) ∧ Arena w' B ga S.1 ∧ Kept9 w5 w' ∧ Below B w5 w') (fun e w' h => by unfold RepSaid at h; rw [if_pos ⟨⟨by omega, by omega, HGL.out⟩, HV.out.2⟩] at h; rw [← HS.out]; exact h)
                go_wp2_with (first | (go_at_call 52; refine C52.mono ?_; rintro e w5 ⟨A5, c5, rfl, hd5, hb5⟩; clear C52; have q4' := (hb5.cell (p := ⟨w.heap.size, 4, none⟩) hgo3).trans q4; have q5' := (hb5.cell (p := ⟨w.heap.size, 5, none⟩) hgo3).trans q5) | (go_at_call 22; refine (C22 _ hb5).mono ?_; rintro e w6 ⟨rfl, ha6, k6, b6⟩; clear C22))
                go_ret2
                exact ⟨_, _, rfl, ⟨Nat.le_trans hB3 (Nat.le_trans hb5.size b6.size), ha6, hd5.kept k6, HSO.out.ok, HSW.out⟩, by have := HSO.out.len; omega, by have := HSO.out.len; omega, (Kept9.of_below hb3).trans ((Kept9.of_below hb5).trans k6), (hb3.mono hlo).trans ((hb5.mono hB3).trans b6)⟩
              · have HV := Lib.hid hv
                clear hv
                have t1 : IntKind.i64.wrap (((pr N (i : Nat)).length : Int) + ((pr N (j : Nat)).length : Int)) = ((pr N (i : Nat)).length : Int) + ((pr N (j : Nat)).length : Int) := IntWalk.i64_in _ (by omega)
                have t2 : decide ((3000 : Int) < ((pr N (i : Nat)).length : Int) + ((pr N (j : Nat)).length : Int)) = false := by simp; omega
                go_wp2_with fail
                go_quiet ((first | (go_at_call 24; with_reducible exact quiet_left (C24a _)) | (go_at_call 24; with_reducible exact quiet_left (C24b _))))
                have hbd : Below wc.heap.size wc (wc.drewN nq) := ⟨rfl, rfl, rfl, Nat.le_refl _, fun _ _ => rfl⟩
                have hb3 := hb.trans (hbd.mono (Nat.le_of_lt hgo))
                have hA3 := hA.below hbd
                have hD3 := hD.below hbd
                have hP3 := own_below hP hbd
                have q4 : (wc.drewN nq).cell? ⟨w.heap.size, 4, none⟩ = _ := r4
                have q5 : (wc.drewN nq).cell? ⟨w.heap.size, 5, none⟩ = _ := r5
                clear hbd
                generalize wc.drewN nq = W3 at *
                have hB3 : B ≤ W3.heap.size := Nat.le_trans hlo hb3.size
                have hgo3 : w.heap.size < W3.heap.size := World.block_lt_of_cell? _ _ q4
                have C52 := replace52 HN.out (fun i hi => Nat.le_trans (HWD.out i hi) (by omega)) ps (i : Nat) (j : Nat) _ A2 N.length c ps.length c2 W3 (by omega) (by omega) hD3 (Rd.of_own hP3)
                have C22 := replace22 hA3 HN.out (i : Nat) (j : Nat) A2 ps.length c2 ps (own_mono hP3 (Nat.zero_le _)) (by omega) hB3 (by omega) (fun i hi => Nat.le_trans (HWD.out i hi) (by omega))
                have C52 := C52.mono (R' := fun e w' => e = .returned (.tuple #[.slice (some ⟨g, 0, none⟩) N.length c, .int .i64 0, .int .i64 6]) ∧ W3 = w') (fun e w' h => by unfold RepD at h; rw [if_neg HV.out] at h; exact h)
                have C22 := C22.mono (R' := fun e w' => e = .returned (.tuple #[.int .i64 0, .int .i64 6]) ∧ Below W3.heap.size W3 w') (fun e w' h => by unfold RepSaid at h; rw [if_neg (fun hh => HV.out ⟨by unfold gatR; rw [if_pos ⟨hh.1.1, hh.1.2.1⟩]; exact hh.1.2.2, hh.2⟩)] at h; exact h)
                go_wp2_with (first | (go_at_call 52; refine C52.mono ?_; rintro e w5 ⟨rfl, rfl⟩; clear C52) | (go_at_call 22; refine C22.mono ?_; rintro e w6 ⟨rfl, hb6⟩; clear C22))
                go_ret2
                exact ⟨_, _, rfl, ⟨Nat.le_trans hB3 hb6.size, hA3.below hb6, hD3.below hb6, HN.out, HWD.out⟩, Nat.le_refl _, by omega, (Kept9.of_below hb3).trans (Kept9.of_below hb6), (hb3.mono hlo).trans (hb6.mono hB3)⟩
          · have C24a : ∀ W, Calls Try.prog 24 #[.slice A N.length c, .int .i64 z4] W fun e w' => e = .returned (.bool true) ∧ W = w' := fun W => by have := has24 A N.length c z4 W; rwa [show decide (0 ≤ z4 ∧ z4 < N.length) = true by simpa using in4] at this
            have C24b : ∀ W, Calls Try.prog 24 #[.slice A N.length c, .int .i64 z5] W fun e w' => e = .returned (.bool false) ∧ W = w' := fun W => by have := has24 A N.length c z5 W; rwa [show decide (0 ≤ z5 ∧ z5 < N.length) = false by simpa using in5] at this
            have HV := Lib.hid (show ¬ ((gatR N z4 ps).isSome ∧ 0 ≤ z5 ∧ z5 < N.length) from fun hh => in5 hh.2)
            clear in4 in5
            go_wp2_with fail
            go_quiet ((first | (go_at_call 24; with_reducible exact quiet_left (C24a _)) | (go_at_call 24; with_reducible exact quiet_left (C24b _))))
            have hbd : Below wc.heap.size wc (wc.drewN nq) := ⟨rfl, rfl, rfl, Nat.le_refl _, fun _ _ => rfl⟩
            have hb3 := hb.trans (hbd.mono (Nat.le_of_lt hgo))
            have hA3 := hA.below hbd
            have hD3 := hD.below hbd
            have hP3 := own_below hP hbd
            have q4 : (wc.drewN nq).cell? ⟨w.heap.size, 4, none⟩ = _ := r4
            have q5 : (wc.drewN nq).cell? ⟨w.heap.size, 5, none⟩ = _ := r5
            clear hbd
            generalize wc.drewN nq = W3 at *
            have hB3 : B ≤ W3.heap.size := Nat.le_trans hlo hb3.size
            have hgo3 : w.heap.size < W3.heap.size := World.block_lt_of_cell? _ _ q4
            have C52 := replace52 HN.out (fun i hi => Nat.le_trans (HWD.out i hi) (by omega)) ps z4 z5 _ A2 N.length c ps.length c2 W3 (by omega) (by omega) hD3 (Rd.of_own hP3)
            have C22 := replace22 hA3 HN.out z4 z5 A2 ps.length c2 ps (own_mono hP3 (Nat.zero_le _)) (by omega) hB3 (by omega) (fun i hi => Nat.le_trans (HWD.out i hi) (by omega))
            have C52 := C52.mono (R' := fun e w' => e = .returned (.tuple #[.slice A N.length c, .int .i64 0, .int .i64 6]) ∧ W3 = w') (fun e w' h => by unfold RepD at h; rw [if_neg HV.out] at h; exact h)
            have C22 := C22.mono (R' := fun e w' => e = .returned (.tuple #[.int .i64 0, .int .i64 6]) ∧ Below W3.heap.size W3 w') (fun e w' h => by unfold RepSaid at h; rw [if_neg (fun hh => HV.out ⟨by unfold gatR; rw [if_pos ⟨hh.1.1, hh.1.2.1⟩]; exact hh.1.2.2, hh.2⟩)] at h; exact h)
            go_wp2_with (first | (go_at_call 52; refine C52.mono ?_; rintro e w5 ⟨rfl, rfl⟩; clear C52) | (go_at_call 22; refine C22.mono ?_; rintro e w6 ⟨rfl, hb6⟩; clear C22))
            go_ret2
            exact ⟨_, _, rfl, ⟨Nat.le_trans hB3 hb6.size, hA3.below hb6, hD3.below hb6, HN.out, HWD.out⟩, Nat.le_refl _, by omega, (Kept9.of_below hb3).trans (Kept9.of_below hb6), (hb3.mono hlo).trans (hb6.mono hB3)⟩
        · have C24a : ∀ W, Calls Try.prog 24 #[.slice A N.length c, .int .i64 z4] W fun e w' => e = .returned (.bool false) ∧ W = w' := fun W => by have := has24 A N.length c z4 W; rwa [show decide (0 ≤ z4 ∧ z4 < N.length) = false by simpa using in4] at this
          have C24b := C24a
          have HV := Lib.hid (show ¬ ((gatR N z4 ps).isSome ∧ 0 ≤ z5 ∧ z5 < N.length) from fun hh => in4 (by have h1 := hh.1; unfold gatR at h1; split at h1; assumption; cases h1))
          clear in4
          go_wp2_with fail
          go_quiet ((first | (go_at_call 24; with_reducible exact quiet_left (C24a _)) | (go_at_call 24; with_reducible exact quiet_left (C24b _))))
          have hbd : Below wc.heap.size wc (wc.drewN nq) := ⟨rfl, rfl, rfl, Nat.le_refl _, fun _ _ => rfl⟩
          have hb3 := hb.trans (hbd.mono (Nat.le_of_lt hgo))
          have hA3 := hA.below hbd
          have hD3 := hD.below hbd
          have hP3 := own_below hP hbd
          have q4 : (wc.drewN nq).cell? ⟨w.heap.size, 4, none⟩ = _ := r4
          have q5 : (wc.drewN nq).cell? ⟨w.heap.size, 5, none⟩ = _ := r5
          clear hbd
          generalize wc.drewN nq = W3 at *
          have hB3 : B ≤ W3.heap.size := Nat.le_trans hlo hb3.size
          have hgo3 : w.heap.size < W3.heap.size := World.block_lt_of_cell? _ _ q4
          have C52 := replace52 HN.out (fun i hi => Nat.le_trans (HWD.out i hi) (by omega)) ps z4 z5 _ A2 N.length c ps.length c2 W3 (by omega) (by omega) hD3 (Rd.of_own hP3)
          have C22 := replace22 hA3 HN.out z4 z5 A2 ps.length c2 ps (own_mono hP3 (Nat.zero_le _)) (by omega) hB3 (by omega) (fun i hi => Nat.le_trans (HWD.out i hi) (by omega))
          have C52 := C52.mono (R' := fun e w' => e = .returned (.tuple #[.slice A N.length c, .int .i64 0, .int .i64 6]) ∧ W3 = w') (fun e w' h => by unfold RepD at h; rw [if_neg HV.out] at h; exact h)
          have C22 := C22.mono (R' := fun e w' => e = .returned (.tuple #[.int .i64 0, .int .i64 6]) ∧ Below W3.heap.size W3 w') (fun e w' h => by unfold RepSaid at h; rw [if_neg (fun hh => HV.out ⟨by unfold gatR; rw [if_pos ⟨hh.1.1, hh.1.2.1⟩]; exact hh.1.2.2, hh.2⟩)] at h; exact h)
          go_wp2_with (first | (go_at_call 52; refine C52.mono ?_; rintro e w5 ⟨rfl, rfl⟩; clear C52) | (go_at_call 22; refine C22.mono ?_; rintro e w6 ⟨rfl, hb6⟩; clear C22))
          go_ret2
          exact ⟨_, _, rfl, ⟨Nat.le_trans hB3 hb6.size, hA3.below hb6, hD3.below hb6, HN.out, HWD.out⟩, Nat.le_refl _, by omega, (Kept9.of_below hb3).trans (Kept9.of_below hb6), (hb3.mono hlo).trans (hb6.mono hB3)⟩
      have t0 : (o0 == 0) = false := by simpa using e0
      have t1 : (o0 == 1) = false := by simpa using e1
      have t2 : (o0 == 2) = false := by simpa using e2
      have t3 : (o0 == 3) = false := by simpa using e3
      have t4 : (o0 == 4) = false := by simpa using e4
      clear e0 e1 e2 e3 e4
      go_wp2_with fail
      go_ret2
      exact ⟨_, _, rfl, ⟨hBc, hA, hD, HN.out, HWD.out⟩, Nat.le_refl _, by omega, hk9, hbB⟩
end Go.Proofs.Ytbmbiffhgdkpiaa
