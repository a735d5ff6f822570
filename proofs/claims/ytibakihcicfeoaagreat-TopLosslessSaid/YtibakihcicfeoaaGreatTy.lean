/- Rows of cursors: what a walk over a tree keeps of its stack and of its answer. No condition. -/
import Derived.Test.YtibakihcicfeoaaGreatTr
import Derived.Test.YtibakihcicfeoaaGreatTw
import Derived.Test.YtibakihcicfeoaaGreatTo
namespace Go.Proofs.YtibakihcicfeoaaGreat
open Go.RowKit

/-- A cursor of the arena, and the path that it stands at. -/
structure CE where
  P : List Int
  n : Int
  f : Int
  k : Int
  u : Option Addr
def CE.cells (ga : Nat) (x : CE) : List Value := [.pointer (some ⟨ga, 0, none⟩), .int .i64 x.n, .int .i64 x.f, .int .i64 x.k, .pointer x.u]
def crow (ga : Nat) (l : List CE) : List Value := l.flatMap (CE.cells ga)
theorem crow_snoc (ga : Nat) (l : List CE) (x : CE) : crow ga (l ++ [x]) = crow ga l ++ x.cells ga := by simp [crow]
theorem crow_len (ga : Nat) : ∀ l : List CE, (crow ga l).length = l.length * 5
  | [] => rfl
  | x :: l => by
    have := crow_len ga l
    simp only [crow, List.flatMap_cons, List.length_append, List.length_cons] at this ⊢
    rw [this, Nat.succ_mul, show (x.cells ga).length = 5 from rfl]
    omega
theorem crow_get (ga : Nat) : ∀ (l : List CE) (i : Nat) (x : CE) (j : Nat), l[i]? = some x → j < 5 → (crow ga l)[i * 5 + j]? = (x.cells ga)[j]?
  | [], i, x, j, h, _ => by simp at h
  | y :: l, 0, x, j, h, hj => by
    simp at h
    subst h
    simp only [crow, List.flatMap_cons, Nat.zero_mul, Nat.zero_add]
    rw [List.getElem?_append_left (by show j < 5; exact hj)]
  | y :: l, i + 1, x, j, h, hj => by
    simp at h
    have := crow_get ga l i x j h hj
    simp only [crow, List.flatMap_cons] at this ⊢
    rw [List.getElem?_append_right (by show 5 ≤ _; omega), ← this]
    congr 1
    show (i + 1) * 5 + j - 5 = _
    omega
theorem CE.one (ga : Nat) (x : CE) : ∀ u ∈ x.cells ga, u.oneCell' = true := by
  intro u hu
  simp only [CE.cells, List.mem_cons, List.not_mem_nil, or_false] at hu
  rcases hu with rfl | rfl | rfl | rfl | rfl <;> rfl
theorem st51 : ST Tryz.prog 51 54 5 40 := ST.mk' (z := .agg #[.pointer none, .int .i64 0, .int .i64 0, .int .i64 0, .pointer none]) Tryz.underlying51 (by kernel_rfl) rfl (by decide)
/-- A block that is neither the one's nor the other's. -/
def Off (out st : Value) (b : Nat) : Prop := some b ≠ out.ownBlock ∧ some b ≠ st.ownBlock
/-- A cursor stands at its path. -/
def CE.at_ (X : Nat → Prop) (w : World) (ga : Nat) (N : List GN) (root : Nat) (x : CE) : Prop := Chain X w ga N root x.P.reverse x.n x.f x.k x.u
/-- The answer and the stack of a walk. -/
structure WSt (B ga : Nat) (N : List GN) (root : Nat) (w : World) (out st : Value) (ol sl : List CE) : Prop where
  own_o : w.ownsRow B 54 5 out ol.length (crow ga ol)
  own_s : w.ownsRow B 54 5 st sl.length (crow ga sl)
  ap : out.ownBlock = none ∨ out.ownBlock ≠ st.ownBlock
  ch_o : ∀ x ∈ ol, x.at_ (Off out st) w ga N root
  ch_s : ∀ x ∈ sl, x.at_ (Off out st) w ga N root
section
variable {B ga : Nat} {N : List GN} {root : Nat} {w w' : World} {out st v' : Value} {ol sl : List CE} {x : CE}
theorem CE.at_.below {X : Nat → Prop} (h : x.at_ X w ga N root) (hb : Below w.heap.size w w') : x.at_ X w' ga N root := Chain.below h hb
theorem WSt.below (h : WSt B ga N root w out st ol sl) (hb : Below w.heap.size w w') : WSt B ga N root w' out st ol sl :=
  ⟨own_below h.own_o hb, own_below h.own_s hb, h.ap, fun x hx => (h.ch_o x hx).below hb, fun x hx => (h.ch_s x hx).below hb⟩
theorem WSt.swap (h : WSt B ga N root w out st ol sl) : WSt B ga N root w st out sl ol :=
  ⟨h.own_s, h.own_o, by
    rcases h.ap with h1 | h1
    · by_cases h2 : st.ownBlock = none
      · exact .inl h2
      · exact .inr (by rw [h1]; exact h2)
    · exact .inr (Ne.symm h1), fun x hx => Chain.keep (fun _ _ hX hg => ⟨⟨hX.2, hX.1⟩, hg⟩) (h.ch_s x hx), fun x hx => Chain.keep (fun _ _ hX hg => ⟨⟨hX.2, hX.1⟩, hg⟩) (h.ch_o x hx)⟩
/-- What a push onto the answer keeps. -/
theorem WSt.keepO (hg : w.grownBy w' out.ownBlock) (hat : v'.ownBlock = out.ownBlock ∨ ∃ g', v'.ownBlock = some g' ∧ w.heap.size ≤ g') {b : Nat} {ob : Obj} (hb : Off out st b) (h : w.heap[b]? = some ob) : Off v' st b ∧ w'.heap[b]? = some ob := by
  have hl := (Array.getElem?_eq_some_iff.1 h).1
  refine ⟨⟨?_, hb.2⟩, (hg.block b hl hb.1).trans h⟩
  rcases hat with e | ⟨g', e, hg'⟩
  · rw [e]; exact hb.1
  · rw [e]; intro e2; injection e2 with e2; omega
theorem WSt.pushO (h : WSt B ga N root w out st ol sl) (hx : x.at_ (Off out st) w ga N root) (ho : w'.ownsRow B 54 5 v' (ol.length + 1) (crow ga ol ++ x.cells ga)) (hg : w.grownBy w' out.ownBlock) (hat : v'.ownBlock = out.ownBlock ∨ ∃ g', v'.ownBlock = some g' ∧ w.heap.size ≤ g') : WSt B ga N root w' v' st (ol ++ [x]) sl := by
  have hap : st.ownBlock = none ∨ st.ownBlock ≠ out.ownBlock := h.swap.ap
  refine ⟨own_as ho (by simp) (crow_snoc ga ol x).symm, h.own_s.kept hg hap, ?_, fun y hy => ?_, fun y hy => Chain.keep (fun _ _ hX hq => WSt.keepO hg hat hX hq) (h.ch_s y hy)⟩
  · rcases hat with e | ⟨g', e, hg'⟩
    · rw [e]; exact h.ap
    · rw [e]
      exact .inr fun e2 => by have := (h.own_s.lt g' e2.symm).2; omega
  · rcases List.mem_append.1 hy with h1 | h1
    · exact Chain.keep (fun _ _ hX hq => WSt.keepO hg hat hX hq) (h.ch_o y h1)
    · simp only [List.mem_singleton] at h1
      subst h1
      exact Chain.keep (fun _ _ hX hq => WSt.keepO hg hat hX hq) hx
theorem WSt.keepS (hg : w.grownBy w' st.ownBlock) (hat : v'.ownBlock = st.ownBlock ∨ ∃ g', v'.ownBlock = some g' ∧ w.heap.size ≤ g') {b : Nat} {ob : Obj} (hb : Off out st b) (h : w.heap[b]? = some ob) : Off out v' b ∧ w'.heap[b]? = some ob := by
  have := WSt.keepO (st := out) hg hat ⟨hb.2, hb.1⟩ h
  exact ⟨⟨this.1.2, this.1.1⟩, this.2⟩
theorem WSt.pushS (h : WSt B ga N root w out st ol sl) (hx : x.at_ (Off out st) w ga N root) (ho : w'.ownsRow B 54 5 v' (sl.length + 1) (crow ga sl ++ x.cells ga)) (hg : w.grownBy w' st.ownBlock) (hat : v'.ownBlock = st.ownBlock ∨ ∃ g', v'.ownBlock = some g' ∧ w.heap.size ≤ g') : WSt B ga N root w' out v' ol (sl ++ [x]) :=
  (h.swap.pushO (Chain.keep (fun _ _ hX hg => ⟨⟨hX.2, hX.1⟩, hg⟩) hx) ho hg hat).swap
/-- The topmost cursor taken off. -/
theorem WSt.pop (h : WSt B ga N root w out st ol (sl ++ [x])) : ∃ gs cap, st = .slice (some ⟨gs, 0, none⟩) (sl.length + 1) cap ∧ sl.length + 1 ≤ cap ∧ cap ≤ maxLen ∧ (∀ j u, (x.cells ga)[j]? = some u → w.cell? ⟨gs, sl.length * 5 + j, none⟩ = some u) ∧
    WSt B ga N root w out (.slice (some ⟨gs, 0, none⟩) sl.length cap) ol sl ∧ x.at_ (Off out (.slice (some ⟨gs, 0, none⟩) sl.length cap)) w ga N root := by
  have ho : w.ownsRow B 54 5 st (sl.length + 1) (crow ga sl ++ x.cells ga) := own_as h.own_s (by simp) (crow_snoc ga sl x)
  obtain ⟨gs, cap, cur, hv, r⟩ : ∃ gs cap cur, st = .slice (some ⟨gs, 0, none⟩) (sl.length + 1) cap ∧ B ≤ gs ∧ w.heap[gs]? = some (.cells cur 54 (0, 0)) ∧ sl.length + 1 ≤ cap ∧ cap ≤ maxLen ∧ cur.size = cap * 5 ∧ cur.toList.take ((sl.length + 1) * 5) = crow ga sl ++ x.cells ga := by
    rcases ho.2 with ⟨_, hz⟩ | ⟨gs, cap, cur, hv, r⟩
    · omega
    · exact ⟨gs, cap, cur, hv, r⟩
  subst hv
  refine ⟨gs, cap, rfl, r.2.2.1, r.2.2.2.1, fun j u hu => ?_, ⟨h.own_o, ownsRow_pop (crow_len ga sl) ho, h.ap, h.ch_o, fun y hy => h.ch_s y (by simp [hy])⟩, h.ch_s x (by simp)⟩
  have hj : j < 5 := (List.getElem?_eq_some_iff.1 hu).1
  have := World.ownsRow.cells ho (g := gs) rfl (sl.length * 5 + j) u (by
    rw [List.getElem?_append_right (by rw [crow_len]; omega), crow_len, show sl.length * 5 + j - sl.length * 5 = j by omega]
    exact hu)
  rw [add_none, Nat.zero_add] at this
  exact this
/-- How many are still to be met, by what the stack holds. -/
def szS (N : List GN) (sl : List CE) : Nat := (sl.map fun x => nds N x.n.toNat).sum
theorem szS_snoc (N : List GN) (sl : List CE) (x : CE) : szS N (sl ++ [x]) = szS N sl + nds N x.n.toNat := by simp [szS]
theorem szS_app (N : List GN) (sl tl : List CE) : szS N (sl ++ tl) = szS N sl + szS N tl := by simp [szS]
theorem szS_len (N : List GN) : ∀ sl : List CE, sl.length ≤ szS N sl
  | [] => Nat.zero_le _
  | x :: sl => by
    have := szS_len N sl
    have := nds_pos N x.n.toNat
    simp only [szS, List.length_cons, List.map_cons, List.sum_cons] at *
    omega
theorem WSt.offO (h : WSt B ga N root w out st ol sl) {b : Nat} (hb : w.heap.size ≤ b) : Off out st b :=
  ⟨fun e => by have := (h.own_o.lt b e.symm).2; omega, fun e => by have := (h.own_s.lt b e.symm).2; omega⟩
end
/-- What Walk hands back. -/
def WalkSaid (ga : Nat) (N : List GN) (root : Nat) (w : World) (e : Ending) (w' : World) : Prop := ∃ A c l, e = .returned (.slice A l.length c) ∧ w'.ownsRow w.heap.size 54 5 (.slice A l.length c) l.length (crow ga l) ∧ l.length ≤ 4096 ∧ (∀ x ∈ l, x.at_ (fun _ => True) w' ga N root) ∧ Below w.heap.size w w'
end Go.Proofs.YtibakihcicfeoaaGreat
/- The walk of a cursor's Walk. No condition. -/
namespace Go.Proofs.YtibakihcicfeoaaGreat
open Go.RowKit

set_option maxRecDepth 100000 in
set_option maxHeartbeats 8000000 in
theorem walk20 {w : World} {B ga : Nat} {N : List GN} (h : Arena w B ga N) (hN : OkN N) (root : Nat) (hwd : (gn N root).w ≤ 100000) (hr : root < N.length) (Q0 : List Int) (n f k : Int) (u : Option Addr) (hc : Chain (fun _ => True) w ga N root Q0 n f k u) (most : Int) (hmo : 4096 < most) (hmo2 : most ≤ 2147483648) (hsz : nds N n.toNat ≤ 4096) :
    Calls Tryz.prog 20 #[.agg (cc (some ⟨ga, 0, none⟩) n f k u), .int .i64 most] w (WalkSaid ga N root w) := by
  unfold WalkSaid
  have HN := Lib.hid hN
  have HW := Lib.hid hwd
  have HA := Lib.hid h
  have hT := two_new w (.cells (cc (some ⟨ga, 0, none⟩) n f k u) 54) (.cells (cc (some ⟨ga, 0, none⟩) n f k u) 54)
  have hX0 : ((w.alloc (.cells (cc (some ⟨ga, 0, none⟩) n f k u) 54)).alloc (.cells (cc (some ⟨ga, 0, none⟩) n f k u) 54)).heap[w.heap.size]? = some (.cells (cc (some ⟨ga, 0, none⟩) n f k u) 54 (0, 0)) := (heap_alloc_old _ _ (by simp)).trans (heap_alloc_new w _)
  have HX0 := Lib.hid hX0
  have HB0 := Lib.hid hT.2
  have HS0 : Hid (WSt w.heap.size ga N root ((w.alloc (.cells (cc (some ⟨ga, 0, none⟩) n f k u) 54)).alloc (.cells (cc (some ⟨ga, 0, none⟩) n f k u) 54)) (.slice none 0 0) (.slice (some ⟨w.heap.size + 1, 0, none⟩) 1 1) [] [⟨Q0.reverse, n, f, k, u⟩]) := Lib.hid (by
    refine ⟨World.ownsRow_nil _ _ _ _, ?_, .inl rfl, fun x hx => (by cases hx), fun x hx => ?_⟩
    · have := World.ownsRow_lit (base := w.heap.size) (e := 54) (size := 5) (w.alloc (.cells (cc (some ⟨ga, 0, none⟩) n f k u) 54)) (cc (some ⟨ga, 0, none⟩) n f k u) 1 (by simp) (by simp [maxLen]) rfl
      simpa [crow, CE.cells] using this
    · simp only [List.mem_singleton] at hx
      subst hx
      show Chain _ _ ga N root Q0.reverse.reverse n f k u
      rw [List.reverse_reverse]
      exact hc.keep fun b ob _ hg => by
        have hl := (Array.getElem?_eq_some_iff.1 hg).1
        exact ⟨⟨by simp [Value.ownBlock], by simp [Value.ownBlock]; omega⟩, (hT.2.block b hl).trans hg⟩)
  obtain ⟨S0, hS0⟩ : ∃ S0, nds N n.toNat = S0 := ⟨_, rfl⟩
  rw [hS0] at hsz
  have HSZ := Lib.hid hS0
  clear h hN hwd hc hT hX0 hS0
  go_enter Tryz.func20, Tryz.ntmps20
  go_wp2_with fail
  go_loopw [5, 6] (fun out st wr => ∃ ol sl : List CE, Hid (WSt w.heap.size ga N root wr out st ol sl) ∧ Hid (ol.length + szS N sl = S0) ∧ Hid (Off out st w.heap.size) ∧ Hid (wr.heap[w.heap.size]? = some (.cells (cc (some ⟨ga, 0, none⟩) n f k u) 54 (0, 0))) ∧ Below w.heap.size w wr)
    (fun out _ _ => 4096 - slen out)
  case atStart => exact ⟨[], [⟨Q0.reverse, n, f, k, u⟩], HS0, Lib.hid (by simp [szS]; exact HSZ.out), Lib.hid ⟨by simp [Value.ownBlock], by simp [Value.ownBlock]⟩, HX0, HB0.out⟩
  case round =>
    obtain ⟨ol, sl, HS, HT, HF, HX, hb⟩ := hrel
    have hbd := HT.out
    have hbl := szS_len N sl
    obtain ⟨A5, c5, rfl, -⟩ := own_form HS.out.own_o
    have hsz := hb.size
    rcases List.eq_nil_or_concat sl with rfl | ⟨sl', x, rfl⟩
    · obtain ⟨A6, c6, rfl, -⟩ := own_form HS.out.own_s
      have HE := Lib.hid (show ol.length ≤ 4096 by omega)
      clear hbd hbl
      go_wp2_with fail
      go_ret
      exact ⟨A5, c5, ol, rfl, HS.out.own_o, HE.out, fun x hx => Chain.imp (HS.out.ch_o x hx) (fun _ _ _ => trivial), hb⟩
    · rw [List.concat_eq_append] at HS HT hbd hbl
      rw [szS_snoc] at hbd hbl
      obtain ⟨gs, cap, rfl, hcap, hcm, hz, hS1, hx1⟩ := HS.out.pop
      have hlt : (ol.length : Int) < most := by omega
      have hsl' := szS_len N sl'
      obtain ⟨xP, xn, xf, xk, xu⟩ := x
      have hxc : Chain (Off (.slice A5 ol.length c5) (.slice (some ⟨gs, 0, none⟩) sl'.length cap)) wr ga N root xP.reverse xn xf xk xu := hx1
      obtain ⟨p0, p1, p2, p3, p4⟩ := hxc.ok HN.out hr
      obtain ⟨i, rfl⟩ := Int.eq_ofNat_of_zero_le p0
      have hi : i < N.length := by omega
      have hkl := HN.out.few i hi
      have hwr := HW.out
      have hwi : (gn N i).w ≤ 100000 := by have : wd N (i : Nat) = (gn N i).w := rfl; omega
      have hxf : xf ≤ 1000000 := by have : 0 ≤ wd N (i : Nat) := by { unfold wd; omega }; omega
      have z0 : wr.cell? ⟨gs, sl'.length * 5, none⟩ = some (.pointer (some ⟨ga, 0, none⟩)) := hz 0 _ rfl
      have z1 : wr.cell? ⟨gs, sl'.length * 5 + 1, none⟩ = some (.int .i64 (i : Nat)) := hz 1 _ rfl
      have z2 : wr.cell? ⟨gs, sl'.length * 5 + 2, none⟩ = some (.int .i64 xf) := hz 2 _ rfl
      have z3 : wr.cell? ⟨gs, sl'.length * 5 + 3, none⟩ = some (.int .i64 xk) := hz 3 _ rfl
      have z4 : wr.cell? ⟨gs, sl'.length * 5 + 4, none⟩ = some (.pointer xu) := hz 4 _ rfl
      have t1 : IntKind.i64.wrap ((sl'.length : Int) + 1 - 1) = (sl'.length : Int) := by rw [show (sl'.length : Int) + 1 - 1 = sl'.length by omega]; exact IntWalk.i64_in _ (by omega)
      have t2 : IntKind.i64.wrap (sl'.length : Int) = (sl'.length : Int) := IntWalk.i64_in _ (by omega)
      have hlc : sl'.length ≤ cap := by omega
      have t3 : (sl'.length : Int) < (sl'.length : Int) + 1 := by omega
      have hR := heap_alloc_new wr (.cells (cc none 0 0 0 none) 54)
      have hbd' : ol.length + (szS N sl' + nds N i) = S0 := hbd
      have hpos := nds_pos N i
      have hoM : ol.length < 4096 := by omega
      have HS1 := Lib.hid hS1
      have HXC := Lib.hid hxc
      have HFx := Lib.hid (hS1.offO (Nat.le_refl _))
      have HF1 : Hid (Off (.slice A5 ol.length c5) (.slice (some ⟨gs, 0, none⟩) sl'.length cap) w.heap.size) := Lib.hid ⟨HF.out.1, HF.out.2⟩
      have hsz0 := nds_eq HN.out.good hi
      have HT1 := Lib.hid (show ol.length + 1 + szS N sl' + ndk N (gn N i).kids = S0 by
        have hbd : ol.length + (szS N sl' + nds N i) = S0 := hbd
        omega)
      have hsl4 : sl'.length ≤ 4096 := by omega
      have t9 : decide ((ol.length : Int) < most) = true := by simpa using hlt
      clear hz hS1 hx1 hxc HS HF HT p0 hbd hbd' hbl hsl' hpos hsz0
      go_wp2_with (first
        | (go_at_call 38; refine (kids28_at (HA.out.below hb5) hi (by omega)).mono ?_; rintro e w6 ⟨A6, c6, rfl, -, b6⟩; have HS6 := Lib.hid (HS5.out.below b6); have HXC6 := Lib.hid (HXC5.out.below b6); have HX6 := Lib.hid ((b6.block _ (Array.getElem?_eq_some_iff.1 HX5.out).1).trans HX5.out); have HY6 := Lib.hid ((b6.block _ (Array.getElem?_eq_some_iff.1 HY5.out).1).trans HY5.out); have hb6 := hb5.trans (b6.mono hs5); clear b6 e0 e1 HS5 HXC5 HX5 HY5)
        | (at_builtin; go_loud (refine wpList_pushA st51 rfl _ _ rfl _ rfl HS3.out.own_o (CE.cells ga ⟨xP, (i : Nat), xf, xk, xu⟩) _ rfl rfl rfl (CE.one ga _) (by omega) (by omega) hs3 ?_); intro v5 w5 ho5 hg5 hat5; obtain ⟨A9, c9, rfl, -⟩ := own_form ho5; have HS5 := Lib.hid (HS3.out.pushO (x := ⟨xP, (i : Nat), xf, xk, xu⟩) HXC3.out ho5 hg5 hat5); have HXC5 := Lib.hid (HXC3.out.keep (fun b ob hX hq => WSt.keepO hg5 hat5 hX hq)); have kY := WSt.keepO hg5 hat5 HFx.out HY3.out; have kX := WSt.keepO hg5 hat5 HF1.out HX3.out; have HFx5 := Lib.hid kY.1; have HF5 := Lib.hid kX.1; have hY5 := kY.2; have hX5 := kX.2; have HY5 := Lib.hid hY5; have HX5 := Lib.hid hX5; have e0 := (cells5 hX5).1; have e1 := (cells5 hY5).2.1; have hb5 := hb3.grown hg5 hs3 (fun k hk => (HS3.out.own_o.lt k hk).1); have hs5 := hb5.size; clear ho5 hg5 hat5 kX kY hY5 hX5 d0 d1 d2 d3 d4 HS3 HXC3 HX3 HY3)
        | (refine wpList_putc rfl _ _ rfl wr.heap.size (some ⟨ga, 0, none⟩) (i : Nat) xf xk xu rfl rfl hR ?_; go_loud (intro w3 hR3 hg3; have b3 := Below.put ((Below.refl wr.heap.size wr).alloc (Nat.le_refl _) _) (Nat.le_refl _) hg3 (by simp); have hb3 := hb.trans (b3.mono hsz); have hs3 := hb3.size; have HS3 := Lib.hid (HS1.out.below b3); have HXC3 := Lib.hid (HXC.out.below b3); have HX3 := Lib.hid ((b3.block w.heap.size (Array.getElem?_eq_some_iff.1 HX.out).1).trans HX.out); have HY3 := Lib.hid hR3; have d0 := (cells5 hR3).1; have d1 := (cells5 hR3).2.1; have d2 := (cells5 hR3).2.2.1; have d3 := (cells5 hR3).2.2.2.1; have d4 := (cells5 hR3).2.2.2.2; clear hR hR3 hg3 b3 z0 z1 z2 z3 z4 HS1 HXC HX)))
      have hK : IntKind.i64.wrap (((gn N i).kids.length : Int) - 1) = ((gn N i).kids.length : Int) - 1 := IntWalk.i64_in _ (by omega)
      clear HFx
      go_loopw [6, 8] (fun st kk wx => ∃ (q : Nat) (tl : List CE), q ≤ (gn N i).kids.length ∧ kk = .int .i64 ((q : Int) - 1) ∧ tl.length + q = (gn N i).kids.length ∧ Hid (ndk N ((gn N i).kids.take q) + szS N tl = ndk N (gn N i).kids) ∧ Hid (WSt w.heap.size ga N root wx (.slice A9 (ol.length + 1) c9) st (ol ++ [⟨xP, (i : Nat), xf, xk, xu⟩]) (sl' ++ tl)) ∧ Hid (Off (.slice A9 (ol.length + 1) c9) st w.heap.size) ∧ Hid (Off (.slice A9 (ol.length + 1) c9) st wr.heap.size) ∧ Hid (wx.heap[w.heap.size]? = some (.cells (cc (some ⟨ga, 0, none⟩) n f k u) 54 (0, 0))) ∧ Hid (wx.heap[wr.heap.size]? = some (.cells (cc (some ⟨ga, 0, none⟩) (i : Nat) xf xk xu) 54 (0, 0))) ∧ Hid (Chain (Off (.slice A9 (ol.length + 1) c9) st) wx ga N root xP.reverse (i : Nat) xf xk xu) ∧ Below w.heap.size w wx)
        (fun _ kk _ => (intOf kk + 1).toNat)
      case atStart => exact ⟨(gn N i).kids.length, [], Nat.le_refl _, rfl, by simp, Lib.hid (by simp [szS]), by rw [List.append_nil]; exact HS6, HF5, HFx5, HX6, HY6, HXC6, hb6⟩
      case round =>
        obtain ⟨q, tl, hq, rfl, htl, HTD, HSx, HFc, HFg, HXx, HYx, HXCx, hbx⟩ := hrel
        have hsx := hbx.size
        by_cases hq0 : q = 0
        · subst hq0
          have HE := Lib.hid (show (ol ++ [(⟨xP, (i : Nat), xf, xk, xu⟩ : CE)]).length + szS N (sl' ++ tl) = S0 by
            have h1 := HTD.out
            rw [List.take_zero, show ndk N [] = 0 from rfl] at h1
            rw [szS_app, ← HT1.out, List.length_append, List.length_singleton]
            omega)
          go_wp2_with fail
          go_roundw
          case rel => exact ⟨ol ++ [⟨xP, (i : Nat), xf, xk, xu⟩], sl' ++ tl, by simpa using HSx, HE, HFc, HXx, hbx⟩
          case measure => show 4096 - (ol.length + 1) < 4096 - ol.length; omega
        · obtain ⟨p, rfl⟩ : ∃ p, q = p + 1 := ⟨q - 1, by omega⟩
          rw [show ((p + 1 : Nat) : Int) - 1 = (p : Int) by omega]
          have hpk : p < (gn N i).kids.length := by omega
          have C40 : Calls Tryz.prog 39 #[.agg (cc (some ⟨ga, 0, none⟩) (i : Nat) xf xk xu), .int .i64 (p : Nat)] wr fun e w' => (∃ b, e = .returned (.tuple #[.agg (cc (some ⟨ga, 0, none⟩) (gz (gn N i).kids p) (xf + (bW N (gn N i).kids p : Nat)) (p : Nat) (some ⟨b, 0, none⟩)), .bool true]) ∧ wr.heap.size ≤ b ∧ w'.heap[b]? = some (.cells (cc (some ⟨ga, 0, none⟩) (i : Nat) xf xk xu) 54 (0, 0))) ∧ Below wr.heap.size wr w' := by
            refine (down40 (HA.out.below hbx) HN.out i hi xf xk xu (p : Nat) p2 hxf (by omega)).mono ?_
            rintro e w' ⟨h, hb⟩
            rw [if_pos ⟨by omega, by omega⟩] at h
            exact ⟨h, hb⟩
          have f0 := (cells5 HYx.out).1
          have f1 := (cells5 HYx.out).2.1
          have f2 := (cells5 HYx.out).2.2.1
          have f3 := (cells5 HYx.out).2.2.2.1
          have f4 := (cells5 HYx.out).2.2.2.2
          have u1 : IntKind.i64.wrap ((p : Int) - 1) = (p : Int) - 1 := IntWalk.i64_in _ (by omega)
          have HPK := Lib.hid (ndk_take N hpk)
          have HPI := Lib.hid (show (p : Int) < (gn N ((i : Nat) : Int).toNat).kids.length by rw [show ((i : Nat) : Int).toNat = i from rfl]; omega)
          obtain ⟨z, hz⟩ : ∃ z : Int, gz (gn N i).kids p = z := ⟨_, rfl⟩
          obtain ⟨fz, hfz⟩ : ∃ fz : Int, xf + (bW N (gn N i).kids p : Nat) = fz := ⟨_, rfl⟩
          rw [hz, hfz] at C40
          rw [hz] at HPK
          have HZ := Lib.hid hz
          have HFZ := Lib.hid hfz
          clear hz hfz
          obtain ⟨sl2, hs2⟩ : ∃ sl2, sl' ++ tl = sl2 := ⟨_, rfl⟩
          rw [hs2] at HSx
          have hl2 : sl2.length ≤ 400000 := by rw [← hs2, List.length_append]; have := HN.out.few i hi; omega
          have HS2 := Lib.hid hs2
          clear hs2
          obtain ⟨A6', c6', rfl, -⟩ := own_form HSx.out.own_s
          go_wp2_with (first
            | (go_at_call 39; refine C40.mono ?_; rintro e w7 ⟨⟨bk, rfl, hbk, hgk⟩, b7⟩; have hR := heap_alloc_new w7 (.cells (cc none 0 0 0 none) 54); have HGK := Lib.hid hgk; have B7 := Lib.hid b7; clear C40 f0 f1 f2 f3 f4 hgk b7)
            | (refine wpList_putc rfl _ _ rfl w7.heap.size (some ⟨ga, 0, none⟩) z fz (p : Nat) (some ⟨bk, 0, none⟩) rfl rfl hR ?_; intro w8 hR8 hg8; have b8 := B7.out.trans ((Below.put ((Below.refl w7.heap.size w7).alloc (Nat.le_refl _) _) (Nat.le_refl _) hg8 (by simp)).mono B7.out.size); have hs8 := (hbx.trans (b8.mono hsx)).size; have HS8 := Lib.hid (HSx.out.below b8); have HGK8 := Lib.hid ((hg8.block bk (by have := (Array.getElem?_eq_some_iff.1 HGK.out).1; simp; omega) (by have := (Array.getElem?_eq_some_iff.1 HGK.out).1; intro e; injection e with e; omega)).trans ((heap_alloc_old w7 _ (Array.getElem?_eq_some_iff.1 HGK.out).1).trans HGK.out)); have HXC8 := Lib.hid (HXCx.out.below b8); have HX8 := Lib.hid ((b8.block _ (Array.getElem?_eq_some_iff.1 HXx.out).1).trans HXx.out); have HY8 := Lib.hid ((b8.block _ (Array.getElem?_eq_some_iff.1 HYx.out).1).trans HYx.out); have HB8 := Lib.hid (hbx.trans (b8.mono hsx)); have d0 := (cells5 hR8).1; have d1 := (cells5 hR8).2.1; have d2 := (cells5 hR8).2.2.1; have d3 := (cells5 hR8).2.2.2.1; have d4 := (cells5 hR8).2.2.2.2; clear hR hR8 hg8 b8)
            | (at_builtin; go_loud (refine wpList_pushA st51 rfl _ _ rfl _ rfl HS8.out.own_s (CE.cells ga ⟨xP ++ [(p : Int)], z, fz, (p : Nat), some ⟨bk, 0, none⟩⟩) _ rfl rfl rfl (CE.one ga _) (by omega) (by omega) hs8 ?_; intro v9 w9 ho9 hg9 hat9; have HS9 := Lib.hid (HS8.out.pushS (x := ⟨xP ++ [(p : Int)], z, fz, (p : Nat), some ⟨bk, 0, none⟩⟩) (by show Chain _ _ ga N root (xP ++ [(p : Int)]).reverse z fz (p : Nat) (some ⟨bk, 0, none⟩); rw [List.reverse_append]; exact ⟨bk, (i : Nat), xf, xk, xu, rfl, HSx.out.offO hbk, HGK8.out, HXC8.out, rfl, by omega, HPI.out, HZ.out.symm, HFZ.out.symm⟩) ho9 hg9 hat9); have kc := WSt.keepS hg9 hat9 HFc.out HX8.out; have kg := WSt.keepS hg9 hat9 HFg.out HY8.out; have HFc9 := Lib.hid kc.1; have HX9 := Lib.hid kc.2; have HFg9 := Lib.hid kg.1; have HY9 := Lib.hid kg.2; have HXC9 := Lib.hid (HXC8.out.keep (fun b ob hX hq => WSt.keepS hg9 hat9 hX hq)); have HB9 := Lib.hid (HB8.out.grown hg9 hs8 (fun k hk => (HS8.out.own_s.lt k hk).1)); clear ho9 hg9 hat9 kc kg d0 d1 d2 d3 d4 HS8 HXC8 HX8 HY8 HB8)))
          go_roundw
          case rel =>
            exact ⟨p, tl ++ [⟨xP ++ [(p : Int)], z, fz, (p : Nat), some ⟨bk, 0, none⟩⟩], by omega, (by first | rfl | rw [u1]), by simp; omega, Lib.hid (by rw [szS_snoc, ← HTD.out, HPK.out]; show _ + (_ + nds N z.toNat) = _; omega), by rw [← List.append_assoc, HS2.out]; exact HS9, HFc9, HFg9, HX9, HY9, HXC9, HB9.out⟩
          case measure => simp [intOf]
end Go.Proofs.YtibakihcicfeoaaGreat
