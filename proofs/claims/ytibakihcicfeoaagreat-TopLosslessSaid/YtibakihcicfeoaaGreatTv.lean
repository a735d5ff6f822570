/- Where a decoded text's runes begin; the bytes of tokens that lie one behind the other. No condition. -/
import Derived.Test.YtibakihcicfeoaaGreatTs
import Derived.Test.YtibakihcicfeoaaGreatTf
import Derived.Test.YtibakihcicfeoaaGreatTu
namespace Go.Proofs.YtibakihcicfeoaaGreat
open Go.RowKit

/-- The text of a parse is what its bytes are. -/
structure PD (p : PC) : Prop where
  b8 : Bytes8 p.zs
  n : p.zs.length = p.n
  few : p.n ≤ 400
  nR : p.nR = (dItems p.zs).length
  rs : p.rs = runesOf (dItems p.zs)
  os : p.os = offsOf (dBom p.zs) (dItems p.zs) ++ [(p.n : Int)]
theorem PD.chain {p : PC} (h : PD p) : ∃ G : Nat → Nat, G 0 = dBom p.zs ∧ G p.nR = p.n ∧ (∀ i, i ≤ p.nR → gz p.os i = (G i : Nat) ∧ G i ≤ p.n) ∧ ∀ i, i < p.nR → G i < G (i + 1) := by
  have hk := pKind_bd p.zs
  have hbm := dBom_le p.zs
  obtain ⟨G, g0, g1, g2⟩ := pItems_chain (pKind p.zs).1 ⟨hk.1, hk.2.1⟩ (h.b8.drop (dBom p.zs))
  rw [List.length_drop] at g1 g2
  have hL : (pItems (pKind p.zs).1 (p.zs.drop (dBom p.zs))).length = p.nR := h.nR.symm
  have hd : dItems p.zs = pItems (pKind p.zs).1 (p.zs.drop (dBom p.zs)) := rfl
  rw [hL] at g1
  have hn := h.n
  have hL2 := h.nR
  refine ⟨fun i => G i + dBom p.zs, by simp [g0], by show G p.nR + _ = _; omega, fun i hi => ?_, fun i hi => ?_⟩
  · rw [h.os]
    rcases Nat.lt_or_ge i p.nR with hlt | hge
    · have hlt' : i < (pItems (pKind p.zs).1 (p.zs.drop (dBom p.zs))).length := by omega
      obtain ⟨q1, q2, q3, q4⟩ := g2 i hlt'
      have e : gz (offsOf (dBom p.zs) (dItems p.zs) ++ [(p.n : Int)]) i = (((dItems p.zs)[i]'(by rw [hd]; exact hlt')).2.1 + dBom p.zs : Nat) := by
        rw [gz_eq (by simp [offsOf]; omega), List.getElem_append_left (by simp [offsOf, hd]; omega)]
        simp [offsOf]
      rw [e]
      have e2 : ((dItems p.zs)[i]'(by rw [hd]; exact hlt')).2.1 = G i := q1
      rw [e2]
      exact ⟨rfl, by show G i + _ ≤ _; omega⟩
    · obtain rfl : i = p.nR := by omega
      have e : gz (offsOf (dBom p.zs) (dItems p.zs) ++ [(p.n : Int)]) p.nR = p.n := by
        rw [gz_eq (by simp [offsOf, hd]; omega), List.getElem_append_right (by simp [offsOf, hd]; omega)]
        simp
      rw [e]
      exact ⟨by show _ = ((G p.nR + dBom p.zs : Nat) : Int); omega, by show G p.nR + _ ≤ _; omega⟩
  · obtain ⟨q1, q2, q3, q4⟩ := g2 i (by omega)
    show G i + _ < G (i + 1) + _
    omega
theorem chain_mono {G : Nat → Nat} {m : Nat} (h : ∀ i, i < m → G i < G (i + 1)) {i j : Nat} (hij : i ≤ j) (hj : j ≤ m) : G i + (j - i) ≤ G j := by
  obtain ⟨d, rfl⟩ : ∃ d, j = i + d := ⟨j - i, by omega⟩
  clear hij
  induction d with
  | zero => simp
  | succ d ih =>
    have := ih (by omega)
    have h2 := h (i + d) (by omega)
    have e : i + (d + 1) = i + d + 1 := rfl
    rw [e]
    omega
theorem PD.nR_le {p : PC} (h : PD p) : p.nR + dBom p.zs ≤ p.n := by
  obtain ⟨G, g0, g1, g2, g3⟩ := h.chain
  have := chain_mono g3 (Nat.zero_le p.nR) (Nat.le_refl _)
  omega
theorem PD.po {p : PC} (h : PD p) : PO p := by
  obtain ⟨G, g0, g1, g2, g3⟩ := h.chain
  have := h.few
  have := h.nR_le
  refine ⟨fun i hi => ?_, fun i j hij hj => ?_, by omega, by omega⟩
  · rw [(g2 i hi).1]
    have := (g2 i hi).2
    omega
  · rw [(g2 i (by omega)).1, (g2 j hj).1]
    have := chain_mono g3 hij hj
    omega
theorem PD.off0 {p : PC} (h : PD p) : offN p 0 = dBom p.zs := by
  obtain ⟨G, g0, g1, g2, g3⟩ := h.chain
  unfold offN
  rw [(g2 0 (Nat.zero_le _)).1, g0]; rfl
theorem PD.offE {p : PC} (h : PD p) : offN p p.nR = p.n := by
  obtain ⟨G, g0, g1, g2, g3⟩ := h.chain
  unfold offN
  rw [(g2 p.nR (Nat.le_refl _)).1, g1]; rfl
theorem PO.off_mono {p : PC} (h : PO p) {i j : Nat} (hij : i ≤ j) (hj : j ≤ p.nR) : offN p i ≤ offN p j := by
  have := h.mono i j hij hj
  unfold offN; omega
/-- A token's bytes behind those that were. -/
theorem PO.step {p : PC} (h : PO p) {i j : Nat} (hij : i ≤ j) (hj : j ≤ p.nR) : p.zs.take (offN p i) ++ tkB p i j = p.zs.take (offN p j) := by
  have hm := h.off_mono hij hj
  obtain ⟨d, hd⟩ : ∃ d, offN p j = offN p i + d := ⟨offN p j - offN p i, by omega⟩
  unfold tkB
  rw [hd, Nat.add_sub_cancel_left, List.take_add]
end Go.Proofs.YtibakihcicfeoaaGreat
/- The tokens' rows; the walk of a maker's all. No condition. -/
namespace Go.Proofs.YtibakihcicfeoaaGreat
open Go.RowKit

theorem trow_get : ∀ (ts : List Tk) (at_ k : Nat) (t : Tk) (j : Nat), ts[k]? = some t → j < 4 → (trow at_ ts)[k * 4 + j]? = (tkV (endOf at_ (ts.take k)) t)[j]?
  | [], _, k, t, j, h, _ => by simp at h
  | s :: ts, at_, 0, t, j, h, hj => by
    simp at h; subst h
    simp only [trow, Nat.zero_mul, Nat.zero_add, List.take_zero, endOf]
    rw [List.getElem?_append_left (by show j < 4; exact hj)]
  | s :: ts, at_, k + 1, t, j, h, hj => by
    have := trow_get ts s.2.1 k t j (by simpa using h) hj
    simp only [trow, List.take_succ_cons, endOf]
    rw [List.getElem?_append_right (by show 4 ≤ _; omega), ← this]
    congr 1
    show (k + 1) * 4 + j - 4 = _
    omega
theorem endOf_take : ∀ (ts : List Tk) (at_ k : Nat) (t : Tk), ts[k]? = some t → endOf at_ (ts.take (k + 1)) = t.2.1
  | [], _, k, t, h => by simp at h
  | s :: ts, at_, 0, t, h => by simp at h; subst h; simp [endOf]
  | s :: ts, at_, k + 1, t, h => by
    rw [List.take_succ_cons]
    exact endOf_take ts s.2.1 k t (by simpa using h)
theorem Val.at_ {l : List Int} : ∀ {ts : List Tk} {a k : Nat} {t : Tk}, Val l a ts → ts[k]? = some t → endOf a (ts.take k) < t.2.1 ∧ t.2.1 ≤ l.length
  | [], _, k, t, _, h => by simp at h
  | s :: ts, a, 0, t, hv, h => by simp at h; subst h; exact ⟨hv.1, hv.2.1⟩
  | s :: ts, a, k + 1, t, hv, h => by
    rw [List.take_succ_cons]
    exact Val.at_ hv.2.2.2 (by simpa using h)
/-- What a token's cells hold. -/
theorem tkcells {w : World} {B g c n : Nat} {ts : List Tk} (h : w.ownsRow B 87 4 (.slice (some ⟨g, 0, none⟩) n c) n (trow 0 ts)) {k : Nat} {t : Tk} (ht : ts[k]? = some t) :
    w.cell? ⟨g, k * 4, none⟩ = some (.int .i64 t.1) ∧ w.cell? ⟨g, k * 4 + 1, none⟩ = some (.int .i64 (endOf 0 (ts.take k) : Nat)) ∧ w.cell? ⟨g, k * 4 + 2, none⟩ = some (.int .i64 (t.2.1 : Nat)) ∧ w.cell? ⟨g, k * 4 + 3, none⟩ = some (.bool t.2.2) := by
  have hk := (List.getElem?_eq_some_iff.1 ht).1
  have hn : ts.length * 4 = n * 4 := by rw [← trow_len ts 0]; exact h.1
  have key : ∀ j, j < 4 → w.cell? ⟨g, k * 4 + j, none⟩ = (tkV (endOf 0 (ts.take k)) t)[j]? := fun j hj => by
    rw [World.ownsRow.cellAt h (k * 4 + j) (by omega), trow_get ts 0 k t j ht hj]
  exact ⟨key 0 (by omega), key 1 (by omega), key 2 (by omega), key 3 (by omega)⟩
theorem Kp.own87 {p : PC} {w w' : World} (h : Kp p w w') {B n sz : Nat} {v : Value} {xs : List Value} (ho : w.ownsRow B 87 sz v n xs) : w'.ownsRow B 87 sz v n xs := by
  obtain ⟨hl, hn | ⟨g, cap, cur, hv, hb, hg, r⟩⟩ := ho
  · exact ⟨hl, .inl hn⟩
  · exact ⟨hl, .inr ⟨g, cap, cur, hv, hb, h.k _ _ _ hg, r⟩⟩
/-- The parser stands behind a token's end. -/
def doneTo (p : PC) (i : Nat) : List Int := p.zs.take (offN p i)
/-- What a parse leaves: a tree in memory that prints the bytes. -/
def TreeSaid (p : PC) (w' : World) : Prop := ∃ (N : List GN) (root nd cD : Nat) (AD : Option Addr) (ds : List Value), w'.heap[p.gt]? = some (p.tree (.slice AD nd cD) (root : Nat)) ∧ w'.ownsRow p.B 191 3 (.slice AD nd cD) nd ds ∧ Arena w' p.B p.ga N ∧ OkN N ∧ root < N.length ∧
  pr N (root : Nat) = p.zs ∧ (gn N root).cnt ≤ 4 * p.n + 4 ∧ (gn N root).w = p.n ∧ nds N root ≤ 4096 ∧ Rd w' p.B 1 p.AR p.nR p.cR (ints .i32 p.rs)
theorem MS.root {p : PC} {w : World} {N : List GN} {S : List SE} {nd : Nat} (h : MS p w N S nd) (r : Int) : ∃ AD cD ds, (w.setCell ⟨p.gt, 5, none⟩ (.int .i64 r)).heap[p.gt]? = some (p.tree (.slice AD nd cD) r) ∧ (w.setCell ⟨p.gt, 5, none⟩ (.int .i64 r)).ownsRow p.B 191 3 (.slice AD nd cD) nd ds ∧
    Arena (w.setCell ⟨p.gt, 5, none⟩ (.int .i64 r)) p.B p.ga N ∧ Rd (w.setCell ⟨p.gt, 5, none⟩ (.int .i64 r)) p.B 1 p.AR p.nR p.cR (ints .i32 p.rs) ∧ Below p.B w (w.setCell ⟨p.gt, 5, none⟩ (.int .i64 r)) := by
  obtain ⟨SV, DV, ds, h1, h2, h3, h4⟩ := h.ex
  obtain ⟨AD, cD, rfl, h4⟩ := own_form h4
  have hrm : RowT p.B w (some p.gt) 31 := RowT.of_blk h2 h.mb.lo.2.1
  have hgs := grownBy_set w p.gt 5 (.int .i64 r)
  have hMB := h.mb.keep hgs hrm (by decide) (by decide) (by decide) (by decide)
  refine ⟨AD, cD, ds, ?_, keep_own hgs hrm h4 (by decide), hMB.ar.arena, hMB.R, below_of hgs hrm h.mb.lo.2.2⟩
  rw [heap_setCell_same w p.gt 5 _ _ _ h2]; rfl
/-- What stays of a parser while its root is made. -/
def Keeps (p : PC) (SV DV : Value) (gs : Nat) (x : SE) (W : World) : Prop := W.cell? ⟨p.gm, 1, none⟩ = some (.pointer (some ⟨p.gt, 0, none⟩)) ∧ W.cell? ⟨p.gt, 4, none⟩ = some (.pointer (some ⟨p.ga, 0, none⟩)) ∧ W.cell? ⟨p.gm, 2, none⟩ = some SV ∧ W.cell? ⟨gs, 1, none⟩ = some x.kv ∧
  W.heap[p.gm]? = some (p.mk_ SV) ∧ ∃ r cur, W.heap[p.gt]? = some (p.tree DV r) ∧ W.heap[gs]? = some (.cells cur 42 (0, 0)) ∧ cur[1]? = some x.kv
theorem Keeps.mk {p : PC} {SV DV : Value} {gs : Nat} {x : SE} {W : World} {r : Int} {cur : Array Value} (h1 : W.heap[p.gm]? = some (p.mk_ SV)) (h2 : W.heap[p.gt]? = some (p.tree DV r)) (h3 : W.heap[gs]? = some (.cells cur 42 (0, 0))) (h4 : cur[1]? = some x.kv) : Keeps p SV DV gs x W :=
  ⟨cell_of_row _ p.gm 1 _ _ _ h1, cell_of_row _ p.gt 4 _ _ _ h2, cell_of_row _ p.gm 2 _ _ _ h1, (cell_of_row _ gs 1 _ _ _ h3).trans h4, h1, r, cur, h2, h3, h4⟩
theorem Keeps.below {p : PC} {SV DV : Value} {gs : Nat} {x : SE} {W W' : World} (h : Keeps p SV DV gs x W) (hb : Below W.heap.size W W') : Keeps p SV DV gs x W' := by
  obtain ⟨-, -, -, -, h1, r, cur, h2, h3, h4⟩ := h
  exact Keeps.mk ((hb.block _ (Array.getElem?_eq_some_iff.1 h1).1).trans h1) ((hb.block _ (Array.getElem?_eq_some_iff.1 h2).1).trans h2) ((hb.block _ (Array.getElem?_eq_some_iff.1 h3).1).trans h3) h4
theorem Keeps.kept {p : PC} {SV DV : Value} {gs : Nat} {x : SE} {W W' : World} (h : Keeps p SV DV gs x W) (hk : Kept9 W W') : Keeps p SV DV gs x W' := by
  obtain ⟨-, -, -, -, h1, r, cur, h2, h3, h4⟩ := h
  refine Keeps.mk (hk.blk _ _ h1 (fun cs fr e => ?_) (fun cs fr e => ?_)) (hk.blk _ _ h2 (fun cs fr e => ?_) (fun cs fr e => ?_)) (hk.blk _ _ h3 (fun cs fr e => ?_) (fun cs fr e => ?_)) h4
  all_goals
    injection e with _ e _
    exact absurd e (by decide)
theorem Keeps.set {p : PC} {SV DV : Value} {gs : Nat} {x : SE} {W : World} (h : Keeps p SV DV gs x W) (v : Int) : Keeps p SV DV gs x (W.setCell ⟨p.gt, 5, none⟩ (.int .i64 v)) := by
  obtain ⟨-, -, -, -, h1, r, cur, h2, h3, h4⟩ := h
  have hg := grownBy_set W p.gt 5 (.int .i64 v)
  have h2' : (W.setCell ⟨p.gt, 5, none⟩ (.int .i64 v)).heap[p.gt]? = some (p.tree DV v) := by rw [heap_setCell_same W p.gt 5 _ _ _ h2]; rfl
  refine Keeps.mk ((hg.block _ (Array.getElem?_eq_some_iff.1 h1).1 (fun e => ?_)).trans h1) h2' ((hg.block _ (Array.getElem?_eq_some_iff.1 h3).1 (fun e => ?_)).trans h3) h4
  · injection e with e; rw [e, h2] at h1; injection h1 with h1; injection h1 with _ h1 _; exact absurd h1 (by decide)
  · injection e with e; rw [e, h2] at h3; injection h3 with h3; injection h3 with _ h3 _; exact absurd h3 (by decide)
set_option maxRecDepth 100000 in
set_option maxHeartbeats 8000000 in
theorem all15 {p : PC} {w : World} {T0 : Nat} (h : PS p w (doneTo p 0) T0) (hT0 : T0 ≤ dBom p.zs) (hD : PD p) :
    Calls Tryz.prog 15 #[.pointer (some ⟨p.gm, 0, none⟩)] w fun e w' => e = .returned (.tuple #[]) ∧ TreeSaid p w' ∧ Below p.B w w' := by
  obtain ⟨N, S, nd, h, F, hd⟩ := h
  have hloB := h.mb.lo.2.2
  have hnR := hD.nR_le
  have hfew := hD.few
  have hPO := hD.po
  obtain ⟨SV, DV, ds, hm, ht, -, -⟩ := h.ex
  have y1 : w.cell? ⟨p.gm, 1, none⟩ = some (.pointer (some ⟨p.gt, 0, none⟩)) := cell_of_row _ p.gm 1 _ _ _ hm
  have z2 : w.cell? ⟨p.gt, 2, none⟩ = some (.slice p.AR p.nR p.cR) := cell_of_row _ p.gt 2 _ _ _ ht
  have C32 := tokens32 p.AR p.nR p.cR p.rs (h.mb.R.more hloB) (by omega)
  have hrl := h.mb.R.int_len
  unfold ToksSaid at C32
  have HM := Lib.hid h
  have FF := Lib.hid F
  have HPP := Lib.hid hPO
  have HPD := Lib.hid hD
  have HZ := Lib.hid hD.n
  have HRL := Lib.hid hrl
  clear hm ht h F hPO hD hrl
  go_enter Tryz.func15, Tryz.ntmps15
  go_wp2_with (go_at_call 32; refine C32.mono ?_; rintro e w1 ⟨A1, c1, ts, rfl, ho1, hv, he, b1⟩; have HO1 := Lib.hid ho1; have HV := Lib.hid hv; have HE := Lib.hid he; have hlen := hv.len.1; rw [he] at hlen; have K1 := Lib.hid (Kp.below (p := p) b1 hloB); have HM1 := Lib.hid (HM.out.below b1); clear C32 ho1 hv he b1 y1 z2)
  have hts : ts.length ≤ p.nR := by have := HRL.out; omega
  clear hlen
  go_loopw [14] (fun i wr => ∃ k : Nat, k ≤ ts.length ∧ i = .int .i64 k ∧ Hid (PS p wr (doneTo p (endOf 0 (ts.take k))) (T0 + 4 * k)) ∧ Hid (Kp p w1 wr)) (fun i _ => ts.length - (intOf i).toNat)
  case atStart => exact ⟨0, Nat.zero_le _, rfl, Lib.hid ⟨N, S, nd, HM1.out, FF.out, hd⟩, Lib.hid (Kp.below (Below.refl _ _) HM1.out.mb.lo.2.2)⟩
  case round =>
    obtain ⟨k, hk, rfl, HPS, HKP⟩ := hrel
    obtain ⟨N, S, nd, hM, hF, hd⟩ := HPS.out
    have hloR := hM.mb.lo.2.2
    have HM' := Lib.hid hM
    have HF' := Lib.hid hF
    have hnl := hF.nLen
    rw [kidsOf_len] at hnl
    clear HPS hM hF
    by_cases hlt : k < ts.length
    · obtain ⟨t, ht⟩ : ∃ t, ts[k]? = some t := ⟨_, List.getElem?_eq_getElem hlt⟩
      obtain ⟨g1, rfl⟩ := own_head HO1.out (by omega)
      obtain ⟨q0, q1, q2, q3⟩ := tkcells (HKP.out.own87 HO1.out) ht
      have hva := HV.out.at_ ht
      have HET := Lib.hid (endOf_take ts 0 k t ht)
      obtain ⟨tk_, te, wh⟩ := t
      have hva : endOf 0 (ts.take k) < te ∧ te ≤ p.rs.length := hva
      rw [HRL.out] at hva
      have HET : Hid (endOf 0 (ts.take (k + 1)) = te) := HET
      obtain ⟨a, ha⟩ : ∃ a, endOf 0 (ts.take k) = a := ⟨_, rfl⟩
      rw [ha] at hva q1 HF'
      have hdl : (doneTo p a).length ≤ 4096 := by
        have := HZ.out
        unfold doneTo
        rw [List.length_take]; omega
      have C33 := Lib.hid (fun W (hb : Below wr.heap.size wr W) => token33 (HM'.out.below hb) HF'.out hd HPP.out (by omega) hdl tk_ a te wh (by omega) (by omega))
      clear ht ha
      go_wp2_with (go_at_call 33; refine (C33.out _ ((Below.refl wr.heap.size wr).alloc (Nat.le_refl _) _)).mono ?_; rintro e w2 ⟨rfl, p2, k2⟩; have HP2 := Lib.hid p2; have HK2 := Lib.hid (HKP.out.trans ((Kp.below ((Below.refl wr.heap.size wr).alloc (Nat.le_refl _) _) hloR).trans k2)); clear C33 p2 k2 q0 q1 q2 q3)
      have HST := Lib.hid (HPP.out.step (i := a) (j := te) (by omega) (by omega))
      go_roundw
      case rel => exact ⟨k + 1, by omega, by go_num, Lib.hid (by rw [HET.out]; have := HP2.out; rw [show doneTo p a ++ tkB p a te = doneTo p te from HST.out] at this; exact this), HK2⟩
      case measure => simp [intOf]; omega
    · obtain rfl : k = ts.length := by omega
      rw [List.take_length, HE.out, HRL.out] at HF'
      have hdn : doneTo p p.nR = p.zs := by
        unfold doneTo
        rw [HPD.out.offE, List.take_of_length_le (by rw [HZ.out]; exact Nat.le_refl _)]
      rw [hdn] at HF'
      obtain ⟨T, hT⟩ : ∃ T, T0 + 4 * ts.length = T := ⟨_, rfl⟩
      have hTb : T ≤ 4 * p.n := by omega
      rw [hT] at HF' hnl hd
      clear hdn hT
      have hdl : p.zs.length ≤ 4096 := by rw [HZ.out]; omega
      go_upto_block 2 with fail
      go_wp2_with fail
      go_loopw [] (fun wx => ∃ N' S' nd', Hid (MS p wx N' S' nd') ∧ Hid (Forest N' (kidsOf S') p.zs T) ∧ nd' + S'.length ≤ T + 1 ∧ 1 ≤ S'.length ∧ Hid (Kp p w1 wx)) (fun wx => stkLen p wx)
      case atStart => exact ⟨N, S, nd, HM', HF', hd, by have := HF'.out.one; rwa [kidsOf_len] at this, HKP⟩
      case round =>
        obtain ⟨N', S', nd', HM2, HF2, hd', hk', HK2⟩ := hrel
        have hloX := HM2.out.mb.lo.2.2
        obtain ⟨SV', DV', ds', l1, l2, l3, -⟩ := HM2.out.ex
        obtain ⟨AS', cS', rfl, l4⟩ := own_form l3
        have y2 : wr.cell? ⟨p.gm, 2, none⟩ = some (.slice AS' S'.length cS') := cell_of_row wr p.gm 2 _ _ _ l1
        have y1 : wr.cell? ⟨p.gm, 1, none⟩ = some (.pointer (some ⟨p.gt, 0, none⟩)) := cell_of_row _ p.gm 1 _ _ _ l1
        have z2 : wr.cell? ⟨p.gt, 2, none⟩ = some (.slice p.AR p.nR p.cR) := cell_of_row _ p.gt 2 _ _ _ l2
        have HST := Lib.hid HM2.out.stkLen
        by_cases hmore : 1 < S'.length
        · clear l1 l2 l3 l4
          obtain ⟨Pp, y, x, rfl⟩ := two_last (S := S') (by omega)
          have C34 := missing34 HM2.out HF2.out (by omega) hdl p.nR (by omega) (by omega)
          obtain ⟨s', hs'⟩ : ∃ s', (Pp ++ [y, x]).length = s' + 1 := ⟨Pp.length + 1, by simp⟩
          have hPs : Pp.length + 1 = s' := by simp at hs'; omega
          rw [hs'] at y2 hmore hk' hd'
          have HS' := Lib.hid hs'
          have v2 : decide ((1 : Int) < (s' : Int) + 1) = true := by simp; omega
          have HPS := Lib.hid hPs
          clear hs' hPs
          go_wp2_with fail
          refine C34.mono ?_
          rintro e w2 ⟨rfl, ⟨N2, y', m2, F2⟩, r2⟩
          clear C34
          have HM3 := Lib.hid m2
          have HF3 := Lib.hid F2
          have HK3 := Lib.hid (HK2.out.trans r2)
          have hL2 : (Pp ++ [y']).length = s' := by rw [← HPS.out]; simp
          have HL2 := Lib.hid hL2
          clear m2 F2 r2 hL2
          go_wp2_with fail
          go_roundw
          case rel => exact ⟨N2, Pp ++ [y'], nd' + 1, HM3, HF3, by rw [HL2.out]; omega, by rw [HL2.out]; omega, HK3⟩
          case measure => rw [HM3.out.stkLen, HST.out, HL2.out, HS'.out]; omega
        · obtain ⟨x, rfl⟩ : ∃ x, S' = [x] := by
            rcases S' with _ | ⟨x, _ | ⟨y, l⟩⟩
            · simp at hk'
            · exact ⟨x, rfl⟩
            · simp at hmore
          have hF2 : Forest N' [x.kids] p.zs T := HF2.out
          have hn2 := hF2.nLen
          have hxk : x.kids.length ≤ T := hF2.fewK (by simp)
          obtain ⟨w1_, w2_, w3_, w4_, w5_, w6_⟩ := hF2.whole (by omega) 20
          have hbw := hF2.width (ks := x.kids) (by simp)
          obtain ⟨Ax, cx, hkv, ok⟩ := own_form (HM2.out.mb.kids x (by simp))
          obtain ⟨gs, cap, cur, hv, hbs, hks, r1, r2, r3, r4⟩ : ∃ gs cap cur, (Value.slice AS' [x].length cS') = .slice (some ⟨gs, 0, none⟩) 1 cap ∧ p.B ≤ gs ∧ wr.heap[gs]? = some (.cells cur 42 (0, 0)) ∧ 1 ≤ cap ∧ cap ≤ maxLen ∧ cur.size = cap * 2 ∧ cur.toList.take (1 * 2) = srow [x] := by
            rcases l4.2 with ⟨_, h0⟩ | ⟨gs, cap, cur, hv, r⟩
            · simp at h0
            · exact ⟨gs, cap, cur, hv, r⟩
          injection hv with e1_ e2_ e3_
          subst e1_; subst e3_
          have hc1 : cur[1]? = some x.kv := by
            have : (cur.toList.take (1 * 2))[1]? = some x.kv := by rw [r4]; rfl
            rw [List.getElem?_take] at this
            simpa using this
          have HKE := Lib.hid (Keeps.mk (p := p) (x := x) l1 l2 hks hc1)
          have C35 := Lib.hid (fun W (hb : Below wr.heap.size wr W) => branch25 (HM2.out.below hb).mb.ar (kvX_lt (HM2.out.below hb)) 20 Ax x.kids.length cx x.kids (Rd.on (Rd.of_own ok) hb) (by omega) (by omega) (HM2.out.below hb).mb.lo.2.2 (by rw [HZ.out] at hbw; omega) hF2.ok.cnt)
          have W1 := Lib.hid w1_
          have W2 := Lib.hid w2_
          have W3 := Lib.hid w3_
          have W4 := Lib.hid w4_
          have W5 := Lib.hid w5_
          have W6 := Lib.hid w6_
          have y2 : wr.cell? ⟨p.gm, 2, none⟩ = some (.slice (some ⟨gs, 0, none⟩) 1 cS') := y2
          clear l1 l2 l3 l4 hks r2 r3 r4 hc1 ok hF2 w1_ w2_ w3_ w4_ w5_ w6_ hmore HF2
          go_wp2_with fail
          have hDr : Below wr.heap.size wr wr.drew := Below.drew (Below.refl _ _)
          have HDK := Lib.hid (HKE.out.below hDr)
          refine wp_region_held_drew (S := fun W => Keeps p (.slice (some ⟨gs, 0, none⟩) 1 cS') DV' gs x W) (by kernel_rfl) HDK.out (fun hHeld => ?_)
          change wpAnyH _ _ _ _ _ 25 #[false, false, false, false, false, false, false, false, false, false, false, false, false, false, false, false, false, false, false, false, false, false, false, false, false] _ _
          refine wpAnyH_take (i := 0) (oi := _) (v := ?_) rfl (by kernel_rfl) (by kernel_rfl) (by kernel_rfl) (fun _ _ _ h => h) (Or.inl ⟨by rfl, ?_⟩) hHeld ?_
          rotate_left
          · intro w9 hSw; go_simp; (try with_reducible rfl)
          simp only [List.getElem_toArray, List.getElem_cons_zero, Act.put, List.setIfInBounds_toArray, List.set_cons_zero, List.set_cons_succ]
          refine wpAnyH_take (i := 1) (oi := _) (v := ?_) rfl (by kernel_rfl) (by kernel_rfl) (by kernel_rfl) (fun _ _ _ h => h) (Or.inl ⟨by rfl, ?_⟩) hHeld ?_
          rotate_left
          · intro w9 hSw; go_simp; (try with_reducible rfl)
          simp only [List.getElem_toArray, List.getElem_cons_zero, List.getElem_cons_succ, Act.put, List.setIfInBounds_toArray, List.set_cons_zero, List.set_cons_succ]
          refine wpAnyH_take (i := 2) (oi := _) (v := ?_) rfl (by kernel_rfl) (by kernel_rfl) (by kernel_rfl) (fun _ _ _ h => h) (Or.inl ⟨by rfl, ?_⟩) hHeld ?_
          rotate_left
          · intro w9 hSw; go_simp; (try with_reducible rfl)
          simp only [List.getElem_toArray, List.getElem_cons_zero, List.getElem_cons_succ, Act.put, List.setIfInBounds_toArray, List.set_cons_zero, List.set_cons_succ]
          refine wpAnyH_take (i := 3) (oi := _) (v := ?_) rfl (by kernel_rfl) (by kernel_rfl) (by kernel_rfl) (fun _ _ _ h => h) (Or.inl ⟨by rfl, ?_⟩) hHeld ?_
          rotate_left
          · intro w9 hSw; obtain ⟨s1, s2, s3, s4, -, -⟩ := hSw; rw [hkv] at s4; go_simp; (try with_reducible rfl)
          simp only [List.getElem_toArray, List.getElem_cons_zero, List.getElem_cons_succ, Act.put, List.setIfInBounds_toArray, List.set_cons_zero, List.set_cons_succ]
          refine wpAnyH_take (i := 4) (oi := _) (v := ?_) rfl (by kernel_rfl) (by kernel_rfl) (by kernel_rfl) (fun _ _ _ h => h) (Or.inl ⟨by rfl, ?_⟩) hHeld ?_
          rotate_left
          · intro w9 hSw; go_simp; (try with_reducible rfl)
          simp only [List.getElem_toArray, List.getElem_cons_zero, List.getElem_cons_succ, Act.put, List.setIfInBounds_toArray, List.set_cons_zero, List.set_cons_succ]
          refine wpAnyH_take (i := 5) (oi := _) (v := ?_) rfl (by kernel_rfl) (by kernel_rfl) (by kernel_rfl) (fun _ _ _ h => h) (Or.inl ⟨by rfl, ?_⟩) hHeld ?_
          rotate_left
          · intro w9 hSw; go_simp; (try with_reducible rfl)
          simp only [List.getElem_toArray, List.getElem_cons_zero, List.getElem_cons_succ, Act.put, List.setIfInBounds_toArray, List.set_cons_zero, List.set_cons_succ]
          refine wpAnyH_take (i := 6) (oi := _) (v := ?_) rfl (by kernel_rfl) (by kernel_rfl) (by kernel_rfl) (fun _ _ _ h => h) (Or.inl ⟨by rfl, ?_⟩) hHeld ?_
          rotate_left
          · intro w9 hSw; go_simp; (try with_reducible rfl)
          simp only [List.getElem_toArray, List.getElem_cons_zero, List.getElem_cons_succ, Act.put, List.setIfInBounds_toArray, List.set_cons_zero, List.set_cons_succ]
          refine wpAnyH_take (i := 7) (oi := _) (v := ?_) rfl (by kernel_rfl) (by kernel_rfl) (by kernel_rfl) (fun _ _ _ h => h) (Or.inl ⟨by rfl, ?_⟩) hHeld ?_
          rotate_left
          · intro w9 hSw; obtain ⟨s1, s2, s3, s4, -, -⟩ := hSw; rw [hkv] at s4; go_simp; (try with_reducible rfl)
          simp only [List.getElem_toArray, List.getElem_cons_zero, List.getElem_cons_succ, Act.put, List.setIfInBounds_toArray, List.set_cons_zero, List.set_cons_succ]
          refine wpAnyH_take (i := 8) (oi := _) (v := ?_) rfl (by kernel_rfl) (by kernel_rfl) (by kernel_rfl) (fun _ _ _ h => h) (Or.inl ⟨by rfl, ?_⟩) hHeld ?_
          rotate_left
          · intro w9 hSw; go_simp; (try with_reducible rfl)
          simp only [List.getElem_toArray, List.getElem_cons_zero, List.getElem_cons_succ, Act.put, List.setIfInBounds_toArray, List.set_cons_zero, List.set_cons_succ]
          refine wpAnyH_take (i := 9) (oi := _) (v := ?_) rfl (by kernel_rfl) (by kernel_rfl) (by kernel_rfl) (fun _ _ _ h => h) (Or.inl ⟨by rfl, ?_⟩) hHeld ?_
          rotate_left
          · intro w9 hSw; go_simp; (try with_reducible rfl)
          simp only [List.getElem_toArray, List.getElem_cons_zero, List.getElem_cons_succ, Act.put, List.setIfInBounds_toArray, List.set_cons_zero, List.set_cons_succ]
          refine wpAnyH_take (i := 10) (oi := _) (v := ?_) rfl (by kernel_rfl) (by kernel_rfl) (by kernel_rfl) (fun _ _ _ h => h) (Or.inl ⟨by rfl, ?_⟩) hHeld ?_
          rotate_left
          · intro w9 hSw; obtain ⟨s1, s2, s3, s4, -, -⟩ := hSw; rw [hkv] at s4; go_simp; (try with_reducible rfl)
          simp only [List.getElem_toArray, List.getElem_cons_zero, List.getElem_cons_succ, Act.put, List.setIfInBounds_toArray, List.set_cons_zero, List.set_cons_succ]
          refine wpAnyH_take (i := 11) (oi := _) (v := ?_) rfl (by kernel_rfl) (by kernel_rfl) (by kernel_rfl) (fun _ _ _ h => h) (Or.inl ⟨by rfl, ?_⟩) hHeld ?_
          rotate_left
          · intro w9 hSw; go_simp; (try with_reducible rfl)
          simp only [List.getElem_toArray, List.getElem_cons_zero, List.getElem_cons_succ, Act.put, List.setIfInBounds_toArray, List.set_cons_zero, List.set_cons_succ]
          refine wpAnyH_take (i := 12) (oi := _) (v := ?_) rfl (by kernel_rfl) (by kernel_rfl) (by kernel_rfl) (fun _ _ _ h => h) (Or.inl ⟨by rfl, ?_⟩) hHeld ?_
          rotate_left
          · intro w9 hSw; go_simp; (try with_reducible rfl)
          simp only [List.getElem_toArray, List.getElem_cons_zero, List.getElem_cons_succ, Act.put, List.setIfInBounds_toArray, List.set_cons_zero, List.set_cons_succ]
          refine wpAnyH_take (i := 13) (oi := _) (v := ?_) rfl (by kernel_rfl) (by kernel_rfl) (by kernel_rfl) (fun _ _ _ h => h) (Or.inl ⟨by rfl, ?_⟩) hHeld ?_
          rotate_left
          · intro w9 hSw; go_simp; (try with_reducible rfl)
          simp only [List.getElem_toArray, List.getElem_cons_zero, List.getElem_cons_succ, Act.put, List.setIfInBounds_toArray, List.set_cons_zero, List.set_cons_succ]
          refine wpAnyH_take (i := 14) (oi := _) (v := ?_) rfl (by kernel_rfl) (by kernel_rfl) (by kernel_rfl) (fun _ _ _ h => h) (Or.inl ⟨by rfl, ?_⟩) hHeld ?_
          rotate_left
          · intro w9 hSw; obtain ⟨s1, s2, s3, s4, -, -⟩ := hSw; rw [hkv] at s4; go_simp; (try with_reducible rfl)
          simp only [List.getElem_toArray, List.getElem_cons_zero, List.getElem_cons_succ, Act.put, List.setIfInBounds_toArray, List.set_cons_zero, List.set_cons_succ]
          refine wpAnyH_take (i := 15) (oi := _) (v := ?_) rfl (by kernel_rfl) (by kernel_rfl) (by kernel_rfl) (fun _ _ _ h => h) (Or.inl ⟨by rfl, ?_⟩) hHeld ?_
          rotate_left
          · intro w9 hSw; go_simp; (try with_reducible rfl)
          simp only [List.getElem_toArray, List.getElem_cons_zero, List.getElem_cons_succ, Act.put, List.setIfInBounds_toArray, List.set_cons_zero, List.set_cons_succ]
          refine wpAnyH_take (i := 16) (oi := _) (v := ?_) rfl (by kernel_rfl) (by kernel_rfl) (by kernel_rfl) (fun _ _ _ h => h) (Or.inl ⟨by rfl, ?_⟩) hHeld ?_
          rotate_left
          · intro w9 hSw; go_simp; (try with_reducible rfl)
          simp only [List.getElem_toArray, List.getElem_cons_zero, List.getElem_cons_succ, Act.put, List.setIfInBounds_toArray, List.set_cons_zero, List.set_cons_succ]
          refine wpAnyH_take (i := 17) (oi := _) (v := ?_) rfl (by kernel_rfl) (by kernel_rfl) (by kernel_rfl) (fun _ _ _ h => h) (Or.inl ⟨by rfl, ?_⟩) hHeld ?_
          rotate_left
          · intro w9 hSw; obtain ⟨s1, s2, s3, s4, -, -⟩ := hSw; rw [hkv] at s4; go_simp; (try with_reducible rfl)
          simp only [List.getElem_toArray, List.getElem_cons_zero, List.getElem_cons_succ, Act.put, List.setIfInBounds_toArray, List.set_cons_zero, List.set_cons_succ]
          refine wpAnyH_ready (rs := [18]) (by kernel_rfl) (by simp) ?_
          refine AllReadyH.cons (o := _) rfl (fun K hK => ?_) AllReadyH.nil
          go_simp
          refine (C35.out _ hDr).mono ?_
          rintro e x2 ⟨hres, hk9, hb9⟩
          rcases hres with ⟨rfl, -, hax⟩ | ⟨-, hno, -⟩
          · have HKX := Lib.hid (HDK.out.kept hk9)
            have HMX := Lib.hid ((HM2.out.below hDr).arena hax hk9 hb9)
            have HKP2 := Lib.hid (HK2.out.b.trans ((hDr.mono hloX).trans hb9))
            refine hK.out _ _ HKX.out (fun hHeld2 => ?_)
            clear hK hk9 hb9 hax
            refine wpAnyH_take (i := 19) (oi := _) (v := ?_) rfl (by kernel_rfl) (by kernel_rfl) (by kernel_rfl) (fun _ _ _ h => h) (Or.inl ⟨by rfl, ?_⟩) hHeld2 ?_
            rotate_left
            · intro w9 hSw; go_simp; (try with_reducible rfl)
            simp only [List.getElem_toArray, List.getElem_cons_zero, List.getElem_cons_succ, Act.put, List.setIfInBounds_toArray, List.set_cons_zero, List.set_cons_succ]
            refine wpAnyH_take (i := 20) (oi := _) (v := ?_) rfl (by kernel_rfl) (by kernel_rfl) (by kernel_rfl) (fun _ _ _ h => h) (Or.inl ⟨by rfl, ?_⟩) hHeld2 ?_
            rotate_left
            · intro w9 hSw; go_simp; (try with_reducible rfl)
            simp only [List.getElem_toArray, List.getElem_cons_zero, List.getElem_cons_succ, Act.put, List.setIfInBounds_toArray, List.set_cons_zero, List.set_cons_succ]
            refine wpAnyH_take (i := 21) (oi := _) (v := ?_) rfl (by kernel_rfl) (by kernel_rfl) (by kernel_rfl) (fun _ _ _ h => h) (Or.inl ⟨by rfl, ?_⟩) hHeld2 ?_
            rotate_left
            · intro w9 hSw; go_simp; (try with_reducible rfl)
            simp only [List.getElem_toArray, List.getElem_cons_zero, List.getElem_cons_succ, Act.put, List.setIfInBounds_toArray, List.set_cons_zero, List.set_cons_succ]
            refine wpAnyH_take (i := 22) (oi := _) (v := ?_) rfl (by kernel_rfl) (by kernel_rfl) (by kernel_rfl) (fun _ _ _ h => h) (Or.inl ⟨by rfl, ?_⟩) hHeld2 ?_
            rotate_left
            · intro w9 hSw; go_simp; (try with_reducible rfl)
            simp only [List.getElem_toArray, List.getElem_cons_zero, List.getElem_cons_succ, Act.put, List.setIfInBounds_toArray, List.set_cons_zero, List.set_cons_succ]
            refine wpAnyH_take (i := 23) (oi := _) (v := ?_) rfl (by kernel_rfl) (by kernel_rfl) (by kernel_rfl) (fun _ _ _ h => h) (Or.inl ⟨by rfl, ?_⟩) hHeld2 ?_
            rotate_left
            · intro w9 hSw; go_simp; (try with_reducible rfl)
            simp only [List.getElem_toArray, List.getElem_cons_zero, List.getElem_cons_succ, Act.put, List.setIfInBounds_toArray, List.set_cons_zero, List.set_cons_succ]
            have hHeld3 := HKX.out
            obtain ⟨-, -, -, -, -, r9, cur9, k2, -, -⟩ := hHeld3
            have f5 := frozen_of_row x2 p.gt 5 _ _ k2
            have c5 : x2.cell? ⟨p.gt, 5, none⟩ = some (.int .i64 r9) := cell_of_row _ p.gt 5 _ _ _ k2
            clear k2
            refine wpAnyH_ready (rs := [24]) (by kernel_rfl) (by simp) ?_
            refine AllReadyH.cons (o := _) rfl (fun K hK => ?_) AllReadyH.nil
            go_simp
            refine hK.out _ _ (HKX.out.set _) (fun _ => ?_)
            clear hK
            refine wpAnyH_done (by kernel_rfl) ?_ _
            obtain ⟨AD, cD, ds9, a1, a2, a3, a4, a5⟩ := HMX.out.root (N'.length : Nat)
            have A1_ := Lib.hid a1
            have A2_ := Lib.hid a2
            have A3_ := Lib.hid a3
            have A4_ := Lib.hid a4
            have A5_ := Lib.hid a5
            clear a1 a2 a3 a4 a5 c5 f5 hHeld hHeld2
            go_wp2_with fail
            first | go_end0 | (refine bodyPost_ret (results_none rfl _ _ _) rfl ?_)
            refine ⟨rfl, ⟨gbr N' 20 x.kids, N'.length, nd', cD, AD, ds9, A1_.out, A2_.out, A3_.out, W2.out, by rw [gbr_len]; omega, W3.out, ?_, ?_, ?_, A4_.out⟩, K1.out.b.trans (HKP2.out.trans A5_.out)⟩
            · have := W4.out; omega
            · rw [W5.out, HZ.out]
            · have := W6.out; omega
          · exact absurd W1.out hno
end Go.Proofs.YtibakihcicfeoaaGreat
