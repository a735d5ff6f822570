/- The walk of Parse. No condition. -/
import Derived.Test.YtibakihcicfeoaaGreatTv
import Derived.Test.YtibakihcicfeoaaGreatTw
namespace Go.Proofs.YtibakihcicfeoaaGreat
open Go.RowKit

/-- What Parse goes by. -/
def mkP (g1 gt : Nat) (A : Option Addr) (n c : Nat) (zs : List Int) (A1 : Option Addr) (c1 : Nat) (A2 : Option Addr) (c2 : Nat) : PC :=
  ⟨g1, gt + 1 + 1, gt, g1, A, n, c, zs, (pKind zs).1, (dBom zs : Nat), A1, (dItems zs).length, c1, runesOf (dItems zs), A2, c2, offsOf (dBom zs) (dItems zs) ++ [(n : Int)]⟩
def se0 : SE := ⟨none, 0, 0, .slice none 0 0, []⟩
/-- What Parse hands back. -/
def ParseSaid (n : Nat) (zs : List Int) (w : World) (e : Ending) (w' : World) : Prop := ∃ (kd bom : Int) (AR : Option Addr) (nR cR : Nat) (rs : List Int) (AO : Option Addr) (nO cO B ga root : Nat) (N : List GN) (AD : Option Addr) (nD cD : Nat),
  e = .returned (.agg (tcs kd bom AR nR cR AO nO cO ga (root : Nat) AD nD cD)) ∧ Rd w' w'.heap.size 1 AR nR cR (ints .i32 rs) ∧ nR ≤ 400 ∧ Arena w' B ga N ∧ OkN N ∧ root < N.length ∧ pr N (root : Nat) = zs ∧ (gn N root).cnt ≤ 4 * n + 4 ∧ (gn N root).w = n ∧ nds N root ≤ 4096 ∧ Below w.heap.size w w'
theorem parse_start {w1 w2 : World} {A : Option Addr} {n c : Nat} {zs : List Int} {A1 : Option Addr} {c1 : Nat} {A2 : Option Addr} {c2 : Nat} (ha : Arena w2 w1.heap.size w1.heap.size []) (b2 : Below w1.heap.size w1 w2) (hA : Rd w1 w1.heap.size 1 A n c (ints .u8 zs))
    (hR : Rd w1 w1.heap.size 1 A1 (dItems zs).length c1 (ints .i32 (runesOf (dItems zs)))) (hO : Rd w1 w1.heap.size 1 A2 ((dItems zs).length + 1) c2 (ints .i64 (offsOf (dBom zs) (dItems zs) ++ [(n : Int)]))) :
    MS (mkP w1.heap.size w2.heap.size A n c zs A1 c1 A2 c2) (((w2.alloc (.cells #[.int .i64 (pKind zs).1, .int .i64 (dBom zs : Nat), .slice A1 (dItems zs).length c1, .slice A2 ((dItems zs).length + 1) c2, .pointer (some ⟨w1.heap.size, 0, none⟩), .int .i64 0, .slice none 0 0] 31)).alloc (.cells #[.slice none 0 0, .slice none 0 0] 42)).alloc (.cells #[.slice A n c, .pointer (some ⟨w2.heap.size, 0, none⟩), .slice (some ⟨w2.heap.size + 1, 0, none⟩) 1 1] 45)) [] [se0] 0 ∧
    Below w1.heap.size w1 (((w2.alloc (.cells #[.int .i64 (pKind zs).1, .int .i64 (dBom zs : Nat), .slice A1 (dItems zs).length c1, .slice A2 ((dItems zs).length + 1) c2, .pointer (some ⟨w1.heap.size, 0, none⟩), .int .i64 0, .slice none 0 0] 31)).alloc (.cells #[.slice none 0 0, .slice none 0 0] 42)).alloc (.cells #[.slice A n c, .pointer (some ⟨w2.heap.size, 0, none⟩), .slice (some ⟨w2.heap.size + 1, 0, none⟩) 1 1] 45)) := by
  obtain ⟨o1, ho1⟩ : ∃ o : Obj, .cells #[.int .i64 (pKind zs).1, .int .i64 (dBom zs : Nat), .slice A1 (dItems zs).length c1, .slice A2 ((dItems zs).length + 1) c2, .pointer (some ⟨w1.heap.size, 0, none⟩), .int .i64 0, .slice none 0 0] 31 = o := ⟨_, rfl⟩
  have e2 := World.ownsRow_lit (base := w1.heap.size) (e := 42) (size := 2) (w2.alloc o1) #[.slice none 0 0, .slice none 0 0] 1 (by have := b2.size; simp; omega) (by simp [maxLen]) rfl
  have hs := b2.size
  obtain ⟨Y1, hY1⟩ : ∃ Y, w2.alloc o1 = Y := ⟨_, rfl⟩
  have hs1 : Y1.heap.size = w2.heap.size + 1 := by rw [← hY1]; simp
  have k1 : Y1.heap[w2.heap.size]? = some o1 := by rw [← hY1]; exact heap_alloc_new w2 _
  have b3 : Below w2.heap.size w2 Y1 := by rw [← hY1]; exact (Below.refl _ _).alloc (Nat.le_refl _) _
  rw [hY1, hs1] at e2
  obtain ⟨o2, ho2⟩ : ∃ o : Obj, .cells #[.slice none 0 0, .slice none 0 0] 42 = o := ⟨_, rfl⟩
  rw [ho1, hY1, ho2]
  rw [ho2] at e2
  obtain ⟨Y2, hY2⟩ : ∃ Y, Y1.alloc o2 = Y := ⟨_, rfl⟩
  have hs2 : Y2.heap.size = w2.heap.size + 1 + 1 := by rw [← hY2]; simp [hs1]
  have b4 : Below Y1.heap.size Y1 Y2 := by rw [← hY2]; exact (Below.refl _ _).alloc (Nat.le_refl _) _
  rw [hY2] at e2 ⊢
  have b5 : Below Y2.heap.size Y2 (Y2.alloc (.cells #[.slice A n c, .pointer (some ⟨w2.heap.size, 0, none⟩), .slice (some ⟨w2.heap.size + 1, 0, none⟩) 1 1] 45)) := (Below.refl _ _).alloc (Nat.le_refl _) _
  have k5 := heap_alloc_new Y2 (.cells #[.slice A n c, .pointer (some ⟨w2.heap.size, 0, none⟩), .slice (some ⟨w2.heap.size + 1, 0, none⟩) 1 1] 45)
  obtain ⟨Y, hY⟩ : ∃ Y, Y2.alloc (.cells #[.slice A n c, .pointer (some ⟨w2.heap.size, 0, none⟩), .slice (some ⟨w2.heap.size + 1, 0, none⟩) 1 1] 45) = Y := ⟨_, rfl⟩
  rw [hY] at b5 k5 ⊢
  rw [hs2] at k5
  have bAll : Below w2.heap.size w2 Y := b3.trans ((b4.mono b3.size).trans (b5.mono (Nat.le_trans b3.size b4.size)))
  have bB : Below w1.heap.size w1 Y := b2.trans (bAll.mono hs)
  have kt : Y.heap[w2.heap.size]? = some (.cells #[.int .i64 (pKind zs).1, .int .i64 (dBom zs : Nat), .slice A1 (dItems zs).length c1, .slice A2 ((dItems zs).length + 1) c2, .pointer (some ⟨w1.heap.size, 0, none⟩), .int .i64 0, .slice none 0 0] 31) := by
    rw [ho1]
    exact (b5.block _ (by omega)).trans ((b4.block _ (by omega)).trans k1)
  obtain ⟨-, v, bv, kv, a1, a2, a3⟩ := ha.below bAll
  refine ⟨⟨⟨.slice (some ⟨w2.heap.size + 1, 0, none⟩) 1 1, .slice none 0 0, [], k5, kt, own_below e2 b5, World.ownsRow_nil _ _ _ _⟩, ⟨⟨Nat.le_refl _, v, bv, kv, a1, a2, a3, fun i hi => absurd hi (by simp)⟩, ?_, by simp, ?_, hA.below bB, hR.below bB, hO.below bB, by show w1.heap.size ≤ w2.heap.size + 1 + 1; omega, hs, bB.size⟩⟩, bB⟩
  · intro x hx
    rw [List.mem_singleton] at hx; subst hx
    exact World.ownsRow_nil _ _ _ _
  · intro x hx
    rw [List.mem_singleton] at hx; subst hx
    exact ⟨Nat.zero_le _, [], Rd.nil_⟩
theorem Arena.under {w w' : World} {B ga g : Nat} {N : List GN} (h : Arena w B ga N) (hg : w.grownBy w' (some g)) (hB : g < B) : Arena w' B ga N := by
  obtain ⟨hB', v, bv, kv, h1, h2, h3⟩ := h
  have key : ∀ {e : TypeId} {sz n : Nat} {v : Value} {xs : List Value}, w.ownsRow B e sz v n xs → w'.ownsRow B e sz v n xs := fun {e sz n v xs} ho => by
    refine ho.kept hg ?_
    rcases hv : v.ownBlock with _ | b
    · exact .inl rfl
    · exact .inr fun e => by injection e with e; have := (ho.lt b hv).1; omega
  exact ⟨hB', v, bv, kv, (hg.block ga (Array.getElem?_eq_some_iff.1 h1).1 (fun e => by injection e with e; omega)).trans h1, key h2, fun i hi => ⟨key (h3 i hi).1, key (h3 i hi).2⟩⟩
theorem not_res {w : World} {a : Addr} {z : Int} {g : Nat} (h : w.heap[g]? = some (.cells #[.int .i64 0, .int .i64 0, .slice none 0 0, .slice none 0 0, .pointer none, .int .i64 0, .slice none 0 0] 31 (0, 0))) (ha : a.block = g) (hc : w.cell? a = some (.int .i32 z)) : False := by
  obtain ⟨b, i, s⟩ := a
  subst ha
  cases s with
  | none =>
    rw [cell_of_row w b i _ 31 _ h] at hc
    rcases i with _ | _ | _ | _ | _ | _ | _ | i <;> simp at hc
  | some s => simp [World.cell?, h] at hc
/-- While Parse makes a mark's leaf. -/
def SomeMS (p : PC) (W : World) : Prop := ∃ N S nd, MS p W N S nd
theorem SomeMS.cells {p : PC} {W : World} (h : SomeMS p W) : W.cell? ⟨p.gt, 1, none⟩ = some (.int .i64 p.bom) ∧ W.cell? ⟨p.gt, 4, none⟩ = some (.pointer (some ⟨p.ga, 0, none⟩)) := by
  obtain ⟨N, S, nd, h⟩ := h
  obtain ⟨_, _, _, -, k2, -, -⟩ := h.ex
  exact ⟨cell_of_row _ p.gt 1 _ _ _ k2, cell_of_row _ p.gt 4 _ _ _ k2⟩
set_option maxRecDepth 100000 in
set_option maxHeartbeats 8000000 in
theorem parse5 {w : World} (A : Option Addr) (n c : Nat) (zs : List Int) (h : Rd w w.heap.size 1 A n c (ints .u8 zs)) (hz : Bytes8 zs) (hn : n ≤ 400) :
    Calls Tryz.prog 5 #[.slice A n c] w (ParseSaid n zs w) := by
  have hb0 := (Below.refl w.heap.size w).alloc (Nat.le_refl _) (.cells #[.int .i64 0, .int .i64 0, .slice none 0 0, .slice none 0 0, .pointer none, .int .i64 0, .slice none 0 0] 31)
  have hr0 := heap_alloc_new w (.cells #[.int .i64 0, .int .i64 0, .slice none 0 0, .slice none 0 0, .pointer none, .int .i64 0, .slice none 0 0] 31)
  obtain ⟨X, hX⟩ : ∃ X, w.alloc (.cells #[.int .i64 0, .int .i64 0, .slice none 0 0, .slice none 0 0, .pointer none, .int .i64 0, .slice none 0 0] 31) = X := ⟨_, rfl⟩
  have hlt : w.heap.size < X.heap.size := by rw [← hX]; simp
  rw [hX] at hb0 hr0
  have hl := h.int_len
  have hcap := h.cap
  have HX := Lib.hid (h.on hb0)
  have HB0 := Lib.hid hb0
  have HR0 := Lib.hid hr0
  have C11 := decode42 A n c zs X HX.out hz (by omega)
  unfold DecIs at C11
  have HL := Lib.hid hl
  have HZ := Lib.hid hz
  have hbm := dBom_le zs
  rw [hl] at hbm
  unfold ParseSaid
  clear h hb0 hr0 hl hz
  go_enter Tryz.func5, Tryz.ntmps5
  go_upto_region 3 with (first
    | (go_at_call 11; refine C11.mono ?_; rintro e w1 ⟨A1, c1, A2, c2, rfl, hR1, hO1, b1⟩; have HR1 := Lib.hid hR1; have HO1 := Lib.hid hO1; have B1 := Lib.hid b1; clear C11 hR1 hO1 b1)
    | (go_at_call 12; refine (new12 w1).mono ?_; rintro e w2 ⟨rfl, ha, b2⟩; have HA := Lib.hid ha; have B2 := Lib.hid b2; clear ha b2))
  have hst := parse_start (n := n) (c := c) (c1 := c1) (c2 := c2) HA.out B2.out (HX.out.on B1.out) HR1.out HO1.out
  obtain ⟨Y, hY⟩ : ∃ Y, ((w2.alloc (.cells #[.int .i64 (pKind zs).1, .int .i64 (dBom zs : Nat), .slice A1 (dItems zs).length c1, .slice A2 ((dItems zs).length + 1) c2, .pointer (some ⟨w1.heap.size, 0, none⟩), .int .i64 0, .slice none 0 0] 31)).alloc (.cells #[.slice none 0 0, .slice none 0 0] 42)).alloc (.cells #[.slice A n c, .pointer (some ⟨w2.heap.size, 0, none⟩), .slice (some ⟨w2.heap.size + 1, 0, none⟩) 1 1] 45) = Y := ⟨_, rfl⟩
  rw [hY] at hst ⊢
  have hs2 := B2.out.size
  have hs1 := B1.out.size
  obtain ⟨gt, hgt⟩ : ∃ g, w2.heap.size = g := ⟨_, rfl⟩
  obtain ⟨g1, hg1⟩ : ∃ g, w1.heap.size = g := ⟨_, rfl⟩
  rw [hgt, hg1] at hst
  rw [hgt]
  have HMS := Lib.hid hst.1
  have HBY := Lib.hid hst.2
  have hD : PD (mkP g1 gt A n c zs A1 c1 A2 c2) := ⟨HZ.out, HL.out, hn, rfl, rfl, rfl⟩
  have HD := Lib.hid hD
  have hnR : (dItems zs).length ≤ 400 := by have : (dItems zs).length + dBom zs ≤ n := hD.nR_le; omega
  have y1 : Y.cell? ⟨gt, 1, none⟩ = some (.int .i64 (dBom zs : Nat)) := (SomeMS.cells (p := mkP g1 gt A n c zs A1 c1 A2 c2) ⟨_, _, _, HMS.out⟩).1
  have HG1 := Lib.hid hg1
  have HR3 := Lib.hid ((HBY.out.block w.heap.size (by omega)).trans ((B1.out.block w.heap.size hlt).trans HR0.out))
  have HBW := Lib.hid (HB0.out.trans ((B1.out.mono (Nat.le_of_lt hlt)).trans (HBY.out.mono (by omega))))
  have q0 : (0 : Int) ≤ (dBom zs : Int) := by omega
  clear hst hD hY hX
  by_cases hb0 : dBom zs = 0

  · have HPS : Hid (PS (mkP g1 gt A n c zs A1 c1 A2 c2) Y (doneTo (mkP g1 gt A n c zs A1 c1 A2 c2) 0) 0) := Lib.hid ⟨[], [se0], 0, HMS.out, by
      have : doneTo (mkP g1 gt A n c zs A1 c1 A2 c2) 0 = [] := by
        unfold doneTo
        rw [HD.out.off0]
        show zs.take (dBom zs) = []
        rw [hb0]; rfl
      rw [this]
      exact Forest.start, by simp⟩
    have hT0 : 0 ≤ dBom zs := Nat.zero_le _
    have q1 : decide ((0 : Int) < (dBom zs : Int)) = false := by simp; omega
    have q2 : decide (0 < dBom zs) = false := by simp; omega
    have HRW := HR3
    have hWs : g1 ≤ Y.heap.size := by have := HG1.out; have := HBY.out.size; omega
    have HBX := HBW
    clear HMS hb0
    have C15 : Calls Tryz.prog 15 #[.pointer (some ⟨gt + 1 + 1, 0, none⟩)] Y fun e w' => e = .returned (.tuple #[]) ∧ TreeSaid (mkP g1 gt A n c zs A1 c1 A2 c2) w' ∧ Below g1 Y w' := all15 (p := mkP g1 gt A n c zs A1 c1 A2 c2) HPS.out hT0 HD.out
    go_wp2_with fail
    refine C15.mono ?_
    rintro e w5 ⟨rfl, ht5, b5⟩
    clear C15
    obtain ⟨N, root, nd, cD, AD, ds, t1, -, t3, t4, t5, t6, t7, t8, t9, t10⟩ := ht5
    have t1 : w5.heap[gt]? = some (.cells #[.int .i64 (pKind zs).1, .int .i64 (dBom zs : Nat), .slice A1 (dItems zs).length c1, .slice A2 ((dItems zs).length + 1) c2, .pointer (some ⟨g1, 0, none⟩), .int .i64 (root : Nat), .slice AD nd cD] 31 (0, 0)) := t1
    have z0 := cell_of_row w5 gt 0 _ _ _ t1
    have z1 := cell_of_row w5 gt 1 _ _ _ t1
    have z2 := cell_of_row w5 gt 2 _ _ _ t1
    have z3 := cell_of_row w5 gt 3 _ _ _ t1
    have z4 := cell_of_row w5 gt 4 _ _ _ t1
    have z5 := cell_of_row w5 gt 5 _ _ _ t1
    have z6 := cell_of_row w5 gt 6 _ _ _ t1
    simp only [List.getElem?_toArray, List.getElem?_cons_zero, List.getElem?_cons_succ] at z0 z1 z2 z3 z4 z5 z6
    have HB5s := b5.size
    have hR5 := (b5.block w.heap.size (by omega)).trans HRW.out
    have T3_ := Lib.hid t3
    have T10_ := Lib.hid t10
    have TT := Lib.hid (And.intro t4 (And.intro t5 (And.intro t6 (And.intro t7 (And.intro t8 t9)))))
    have HB5 := Lib.hid (HBX.out.trans (b5.mono (by omega)))
    have HR5 := Lib.hid hR5
    clear t1 t3 t4 t5 t6 t7 t8 t9 t10 b5 hR5
    go_wp2_with (refine wpList_put rfl 31 _ _ rfl w.heap.size (tcs (pKind zs).1 (dBom zs : Nat) A1 (dItems zs).length c1 A2 ((dItems zs).length + 1) c2 g1 (root : Nat) AD nd cD) rfl rfl 31 _ HR5.out (by kernel_rfl) rfl (by simp [Value.oneCell']) ?_; go_loud (intro w6 hR6 hg6))
    refine bodyPost_ret (results_cell_row rfl _ _ w.heap.size 31 _ (0, 0) _ rfl hR6 Tryz.underlying31 rfl (by kernel_rfl)) rfl ?_
    refine ⟨(pKind zs).1, (dBom zs : Nat), A1, (dItems zs).length, c1, runesOf (dItems zs), A2, (dItems zs).length + 1, c2, g1, g1, root, N, AD, nd, cD, rfl, ?_, hnR, T3_.out.under hg6 (show w.heap.size < g1 by omega), TT.out.1, TT.out.2.1, TT.out.2.2.1, TT.out.2.2.2.1, TT.out.2.2.2.2.1, TT.out.2.2.2.2.2, Below.put HB5.out (Nat.le_refl _) hg6 HB5.out.size⟩
    have hr := T10_.out.more (B' := w6.heap.size) (show g1 ≤ w6.heap.size from Nat.le_trans hWs (Nat.le_trans HB5s hg6.size))
    refine Rd.ints_keep hr fun a z hc => ?_
    by_cases ha : a.block = w.heap.size
    · exact (not_res HR5.out ha hc).elim
    · exact hg6.cell hc (fun e => ha (by injection e))
  · have q1 : decide ((0 : Int) < (dBom zs : Int)) = true := by simp; omega
    have q2 : decide (0 < dBom zs) = true := by simp; omega
    go_wp2_with fail
    have HRT := Lib.hid (show Rd Y.drew Y.drew.heap.size 1 A (dBom zs) c (ints .u8 (zs.take (dBom zs))) from by
      have := (HX.out.on B1.out).take (k := dBom zs) hbm.1
      have this : Rd w1 w1.heap.size 1 A (dBom zs) c (ints .u8 (zs.take (dBom zs))) := by simpa [ints, List.map_take] using this
      have hb : Below w1.heap.size w1 Y := by rw [HG1.out]; exact HBY.out
      exact (this.on hb).drew)
    have hDr : Below Y.heap.size Y Y.drew := Below.drew (Below.refl _ _)
    refine wp_region_held_drew (S := fun W => SomeMS (mkP g1 gt A n c zs A1 c1 A2 c2) W) (by kernel_rfl) ⟨_, _, _, HMS.out.below hDr⟩ (fun hHeld => ?_)
    change wpAnyH _ _ _ _ _ 14 #[false, false, false, false, false, false, false, false, false, false, false, false, false, false] _ _
    refine wpAnyH_take (i := 0) (oi := _) (v := ?_) rfl (by kernel_rfl) (by kernel_rfl) (by kernel_rfl) (fun _ _ _ h => h) (Or.inl ⟨by rfl, ?_⟩) hHeld ?_
    rotate_left
    · intro w9 hSw; go_simp; (try with_reducible rfl)
    simp only [List.getElem_toArray, List.getElem_cons_zero, Act.put, List.setIfInBounds_toArray, List.set_cons_zero, List.set_cons_succ]
    refine wpAnyH_take (i := 1) (oi := _) (v := ?_) rfl (by kernel_rfl) (by kernel_rfl) (by kernel_rfl) (fun _ _ _ h => h) (Or.inl ⟨by rfl, ?_⟩) hHeld ?_
    rotate_left
    · intro w9 hSw; go_simp; (try with_reducible rfl)
    simp only [List.getElem_toArray, List.getElem_cons_zero, List.getElem_cons_succ, Act.put, List.setIfInBounds_toArray, List.set_cons_zero, List.set_cons_succ]
    refine wpAnyH_take (i := 2) (oi := _) (v := ?_) rfl (by kernel_rfl) (by kernel_rfl) (by kernel_rfl) (fun _ _ _ h => h) (Or.inl ⟨by rfl, ?_⟩) hHeld ?_
    rotate_left
    · intro w9 hSw; go_simp; (try with_reducible rfl)
    simp only [List.getElem_toArray, List.getElem_cons_zero, List.getElem_cons_succ, Act.put, List.setIfInBounds_toArray, List.set_cons_zero, List.set_cons_succ]
    refine wpAnyH_take (i := 3) (oi := _) (v := ?_) rfl (by kernel_rfl) (by kernel_rfl) (by kernel_rfl) (fun _ _ _ h => h) (Or.inl ⟨by rfl, ?_⟩) hHeld ?_
    rotate_left
    · intro w9 hSw; go_simp; (try with_reducible rfl)
    simp only [List.getElem_toArray, List.getElem_cons_zero, List.getElem_cons_succ, Act.put, List.setIfInBounds_toArray, List.set_cons_zero, List.set_cons_succ]
    refine wpAnyH_take (i := 4) (oi := _) (v := ?_) rfl (by kernel_rfl) (by kernel_rfl) (by kernel_rfl) (fun _ _ _ h => h) (Or.inl ⟨by rfl, ?_⟩) hHeld ?_
    rotate_left
    · intro w9 hSw; have s1 : w9.cell? ⟨gt, 1, none⟩ = some (.int .i64 (dBom zs : Nat)) := hSw.cells.1; have s2 : w9.cell? ⟨gt, 4, none⟩ = some (.pointer (some ⟨g1, 0, none⟩)) := hSw.cells.2; go_simp; (try with_reducible rfl)
    simp only [List.getElem_toArray, List.getElem_cons_zero, List.getElem_cons_succ, Act.put, List.setIfInBounds_toArray, List.set_cons_zero, List.set_cons_succ]
    refine wpAnyH_take (i := 5) (oi := _) (v := ?_) rfl (by kernel_rfl) (by kernel_rfl) (by kernel_rfl) (fun _ _ _ h => h) (Or.inl ⟨by rfl, ?_⟩) hHeld ?_
    rotate_left
    · intro w9 hSw; go_simp; (try with_reducible rfl)
    simp only [List.getElem_toArray, List.getElem_cons_zero, List.getElem_cons_succ, Act.put, List.setIfInBounds_toArray, List.set_cons_zero, List.set_cons_succ]
    refine wpAnyH_take (i := 6) (oi := _) (v := ?_) rfl (by kernel_rfl) (by kernel_rfl) (by kernel_rfl) (fun _ _ _ h => h) (Or.inl ⟨by rfl, ?_⟩) hHeld ?_
    rotate_left
    · intro w9 hSw; go_simp; (try with_reducible rfl)
    simp only [List.getElem_toArray, List.getElem_cons_zero, List.getElem_cons_succ, Act.put, List.setIfInBounds_toArray, List.set_cons_zero, List.set_cons_succ]
    refine wpAnyH_take (i := 7) (oi := _) (v := ?_) rfl (by kernel_rfl) (by kernel_rfl) (by kernel_rfl) (fun _ _ _ h => h) (Or.inl ⟨by rfl, ?_⟩) hHeld ?_
    rotate_left
    · intro w9 hSw; go_simp; (try with_reducible rfl)
    simp only [List.getElem_toArray, List.getElem_cons_zero, List.getElem_cons_succ, Act.put, List.setIfInBounds_toArray, List.set_cons_zero, List.set_cons_succ]
    refine wpAnyH_take (i := 8) (oi := _) (v := ?_) rfl (by kernel_rfl) (by kernel_rfl) (by kernel_rfl) (fun _ _ _ h => h) (Or.inl ⟨by rfl, ?_⟩) hHeld ?_
    rotate_left
    · intro w9 hSw; go_simp; (try with_reducible rfl)
    simp only [List.getElem_toArray, List.getElem_cons_zero, List.getElem_cons_succ, Act.put, List.setIfInBounds_toArray, List.set_cons_zero, List.set_cons_succ]
    refine wpAnyH_take (i := 9) (oi := _) (v := ?_) rfl (by kernel_rfl) (by kernel_rfl) (by kernel_rfl) (fun _ _ _ h => h) (Or.inl ⟨by rfl, ?_⟩) hHeld ?_
    rotate_left
    · intro w9 hSw; go_simp; (try with_reducible rfl)
    simp only [List.getElem_toArray, List.getElem_cons_zero, List.getElem_cons_succ, Act.put, List.setIfInBounds_toArray, List.set_cons_zero, List.set_cons_succ]
    refine wpAnyH_take (i := 10) (oi := _) (v := ?_) rfl (by kernel_rfl) (by kernel_rfl) (by kernel_rfl) (fun _ _ _ h => h) (Or.inl ⟨by rfl, ?_⟩) hHeld ?_
    rotate_left
    · intro w9 hSw; have s1 : w9.cell? ⟨gt, 1, none⟩ = some (.int .i64 (dBom zs : Nat)) := hSw.cells.1; have s2 : w9.cell? ⟨gt, 4, none⟩ = some (.pointer (some ⟨g1, 0, none⟩)) := hSw.cells.2; go_simp; (try with_reducible rfl)
    simp only [List.getElem_toArray, List.getElem_cons_zero, List.getElem_cons_succ, Act.put, List.setIfInBounds_toArray, List.set_cons_zero, List.set_cons_succ]
    refine wpAnyH_take (i := 11) (oi := _) (v := ?_) rfl (by kernel_rfl) (by kernel_rfl) (by kernel_rfl) (fun _ _ _ h => h) (Or.inl ⟨by rfl, ?_⟩) hHeld ?_
    rotate_left
    · intro w9 hSw; have s1 : dBom zs ≤ c := (by omega); go_simp; (try with_reducible rfl)
    simp only [List.getElem_toArray, List.getElem_cons_zero, List.getElem_cons_succ, Act.put, List.setIfInBounds_toArray, List.set_cons_zero, List.set_cons_succ]
    refine wpAnyH_ready (rs := [12]) (by kernel_rfl) (by simp) ?_
    refine AllReadyH.cons (o := _) rfl (fun K hK => ?_) AllReadyH.nil
    go_simp
    have hMD := HMS.out.below hDr
    refine (leaf26 hMD.mb.ar 23 A (dBom zs) c (zs.take (dBom zs)) HRT.out (by simp) (by omega) hMD.mb.lo.2.2).mono ?_
    rintro e x2 ⟨rfl, a2, hk2, b2⟩
    have m2 : MS (mkP g1 gt A n c zs A1 c1 A2 c2) x2 ([] ++ [gleaf 23 (zs.take (dBom zs))]) ([] ++ [se0]) 0 := by
      have hlen : (zs.take (dBom zs)).length = dBom zs := by rw [List.length_take, HL.out]; omega
      unfold gleaf
      rw [hlen]
      exact hMD.arena a2 hk2 b2
    have HM2 := Lib.hid m2
    have B2_ := Lib.hid b2
    refine hK.out _ _ ⟨_, _, _, m2⟩ (fun _ => ?_)
    clear hK hMD a2 hk2 m2 b2
    refine wpAnyH_ready (rs := [13]) (by kernel_rfl) (by simp) ?_
    refine AllReadyH.cons (o := _) rfl (fun K hK => ?_) AllReadyH.nil
    go_simp
    refine (kid13 HM2.out 0 (by simp) (by simp [se0])).mono ?_
    rintro e x3 ⟨rfl, ⟨v3, m3⟩, k3⟩
    refine hK.out _ _ ⟨_, _, _, m3⟩ (fun _ => ?_)
    clear hK
    refine wpAnyH_done (by kernel_rfl) ?_ _
    have HPS : Hid (PS (mkP g1 gt A n c zs A1 c1 A2 c2) x3 (doneTo (mkP g1 gt A n c zs A1 c1 A2 c2) 0) 1) := Lib.hid (by
      have : doneTo (mkP g1 gt A n c zs A1 c1 A2 c2) 0 = zs.take (dBom zs) := by
        unfold doneTo
        rw [HD.out.off0]; rfl
      rw [this]
      exact PS.leaf (P := []) (x := se0) (N := []) (done := []) (T := 0) Forest.start (by simp) m3)
    have HBX3 := Lib.hid ((hDr.mono HMS.out.mb.lo.2.2).trans (B2_.out.trans k3.b))
    have HBX := Lib.hid (HBW.out.trans (HBX3.out.mono (show w.heap.size ≤ g1 by omega)))
    have HRW := Lib.hid ((HBX3.out.block w.heap.size (show w.heap.size < g1 by omega)).trans HR3.out)
    have hT0 : 1 ≤ dBom zs := by omega
    have hWs : g1 ≤ x3.heap.size := by have := HG1.out; have := HBY.out.size; have := HBX3.out.size; omega
    clear hHeld hDr k3 m3 HM2 B2_ HBX3 HMS y1
    have C15 : Calls Tryz.prog 15 #[.pointer (some ⟨gt + 1 + 1, 0, none⟩)] x3 fun e w' => e = .returned (.tuple #[]) ∧ TreeSaid (mkP g1 gt A n c zs A1 c1 A2 c2) w' ∧ Below g1 x3 w' := all15 (p := mkP g1 gt A n c zs A1 c1 A2 c2) HPS.out hT0 HD.out
    go_wp2_with fail
    refine C15.mono ?_
    rintro e w5 ⟨rfl, ht5, b5⟩
    clear C15
    obtain ⟨N, root, nd, cD, AD, ds, t1, -, t3, t4, t5, t6, t7, t8, t9, t10⟩ := ht5
    have t1 : w5.heap[gt]? = some (.cells #[.int .i64 (pKind zs).1, .int .i64 (dBom zs : Nat), .slice A1 (dItems zs).length c1, .slice A2 ((dItems zs).length + 1) c2, .pointer (some ⟨g1, 0, none⟩), .int .i64 (root : Nat), .slice AD nd cD] 31 (0, 0)) := t1
    have z0 := cell_of_row w5 gt 0 _ _ _ t1
    have z1 := cell_of_row w5 gt 1 _ _ _ t1
    have z2 := cell_of_row w5 gt 2 _ _ _ t1
    have z3 := cell_of_row w5 gt 3 _ _ _ t1
    have z4 := cell_of_row w5 gt 4 _ _ _ t1
    have z5 := cell_of_row w5 gt 5 _ _ _ t1
    have z6 := cell_of_row w5 gt 6 _ _ _ t1
    simp only [List.getElem?_toArray, List.getElem?_cons_zero, List.getElem?_cons_succ] at z0 z1 z2 z3 z4 z5 z6
    have HB5s := b5.size
    have hR5 := (b5.block w.heap.size (by omega)).trans HRW.out
    have T3_ := Lib.hid t3
    have T10_ := Lib.hid t10
    have TT := Lib.hid (And.intro t4 (And.intro t5 (And.intro t6 (And.intro t7 (And.intro t8 t9)))))
    have HB5 := Lib.hid (HBX.out.trans (b5.mono (by omega)))
    have HR5 := Lib.hid hR5
    clear t1 t3 t4 t5 t6 t7 t8 t9 t10 b5 hR5
    go_wp2_with (refine wpList_put rfl 31 _ _ rfl w.heap.size (tcs (pKind zs).1 (dBom zs : Nat) A1 (dItems zs).length c1 A2 ((dItems zs).length + 1) c2 g1 (root : Nat) AD nd cD) rfl rfl 31 _ HR5.out (by kernel_rfl) rfl (by simp [Value.oneCell']) ?_; go_loud (intro w6 hR6 hg6))
    refine bodyPost_ret (results_cell_row rfl _ _ w.heap.size 31 _ (0, 0) _ rfl hR6 Tryz.underlying31 rfl (by kernel_rfl)) rfl ?_
    refine ⟨(pKind zs).1, (dBom zs : Nat), A1, (dItems zs).length, c1, runesOf (dItems zs), A2, (dItems zs).length + 1, c2, g1, g1, root, N, AD, nd, cD, rfl, ?_, hnR, T3_.out.under hg6 (show w.heap.size < g1 by omega), TT.out.1, TT.out.2.1, TT.out.2.2.1, TT.out.2.2.2.1, TT.out.2.2.2.2.1, TT.out.2.2.2.2.2, Below.put HB5.out (Nat.le_refl _) hg6 HB5.out.size⟩
    have hr := T10_.out.more (B' := w6.heap.size) (show g1 ≤ w6.heap.size from Nat.le_trans hWs (Nat.le_trans HB5s hg6.size))
    refine Rd.ints_keep hr fun a z hc => ?_
    by_cases ha : a.block = w.heap.size
    · exact (not_res HR5.out ha hc).elim
    · exact hg6.cell hc (fun e => ha (by injection e))
end Go.Proofs.YtibakihcicfeoaaGreat
/- The walk of audit's covered. No condition. -/
namespace Go.Proofs.YtibakihcicfeoaaGreat
open Go.RowKit

set_option maxRecDepth 100000 in
set_option maxHeartbeats 4000000 in
theorem covered17 {w : World} (A : Option Addr) (n c : Nat) (l : List Int) (h : Rd w w.heap.size 1 A n c (ints .i32 l)) (hn : n ≤ 65536) :
    Calls Tryz.prog 17 #[.slice A n c] w fun e w' => e = .returned (.bool true) ∧ Below w.heap.size w w' := by
  have HL := Lib.hid h.int_len
  have C32 := tokens32 A n c l h hn
  unfold ToksSaid at C32
  clear h
  go_enter Tryz.func17, Tryz.ntmps17
  go_wp2_with (go_at_call 32; refine C32.mono ?_; rintro e w1 ⟨A1, c1, ts, rfl, ho1, hv, he, b1⟩; have HO1 := Lib.hid ho1; have HV := Lib.hid hv; have HE := Lib.hid he; have B1 := Lib.hid b1; have hlen := hv.len.1; rw [he] at hlen; clear C32 ho1 hv he b1)
  have hts : ts.length ≤ 65536 := by have := HL.out; omega
  clear hlen
  go_loopw [3, 9] (fun a i wr => ∃ k : Nat, k ≤ ts.length ∧ i = .int .i64 k ∧ a = .int .i64 (endOf 0 (ts.take k) : Nat) ∧ Hid (Below w1.heap.size w1 wr)) (fun _ i _ => ts.length - (intOf i).toNat)
  case atStart => exact ⟨0, Nat.zero_le _, rfl, by simp [endOf], Lib.hid (Below.refl _ _)⟩
  case round =>
    obtain ⟨k, hk, rfl, rfl, HB⟩ := hrel
    by_cases hlt : k < ts.length
    · obtain ⟨t, ht⟩ : ∃ t, ts[k]? = some t := ⟨_, List.getElem?_eq_getElem hlt⟩
      obtain ⟨g1, rfl⟩ := own_head HO1.out (by omega)
      obtain ⟨q0, q1, q2, q3⟩ := tkcells (own_below HO1.out HB.out) ht
      have hva := HV.out.at_ ht
      have HET := Lib.hid (endOf_take ts 0 k t ht)
      obtain ⟨tk_, te, wh⟩ := t
      have hva : endOf 0 (ts.take k) < te ∧ te ≤ l.length := hva
      rw [HL.out] at hva
      have HET : Hid (endOf 0 (ts.take (k + 1)) = te) := HET
      obtain ⟨a, ha⟩ : ∃ a, endOf 0 (ts.take k) = a := ⟨_, rfl⟩
      rw [ha] at hva q1 ⊢
      have s1 : decide (te ≤ a) = false := by simp; omega
      clear ht ha
      go_wp2_with fail
      go_roundw
      case rel => exact ⟨k + 1, by omega, by go_num, by rw [HET.out], Lib.hid (HB.out.alloc HB.out.size _)⟩
      case measure => simp [intOf]; omega
    · obtain rfl : k = ts.length := by omega
      rw [List.take_length, HE.out, HL.out]
      go_wp2_with fail
      go_ret
      exact ⟨rfl, B1.out.trans (HB.out.mono B1.out.size)⟩
end Go.Proofs.YtibakihcicfeoaaGreat
