/- Cursors: the walk of Seek. No condition. -/
import Derived.Test.YtbmbiffhgdkpiaaR6
namespace Go.Proofs.Ytbmbiffhgdkpiaa
open Go.RowKit

/-- The path of the deepest node that has a byte. -/
def seekL (N : List GN) (at_ : Int) : Nat → Nat → Int → List Int
  | 0, _, _ => []
  | d + 1, n, f => match kidAt N (gn N n).kids f at_ with
    | none => []
    | some j => (j : Int) :: seekL N at_ d (gz (gn N n).kids j).toNat (f + bW N (gn N n).kids j)
theorem kidAt_lt {N : List GN} {ks : List Int} {f at_ : Int} {j : Nat} (h : kidAt N ks f at_ = some j) : j < ks.length := by
  unfold kidAt at h
  have := List.mem_of_find?_eq_some h
  simpa using this
theorem kidAt_has {N : List GN} {ks : List Int} {f at_ : Int} {j : Nat} (h : kidAt N ks f at_ = some j) : hasK N ks f at_ j := by
  unfold kidAt at h
  have := List.find?_some h
  simpa using this
theorem seekL_stable {N : List GN} (hN : OkN N) (at_ : Int) : ∀ (n : Nat), n < N.length → ∀ (d e : Nat) (f : Int), n < d → n < e → seekL N at_ d n f = seekL N at_ e n f := by
  intro n
  induction n using Nat.strongRecOn with
  | ind n ih =>
    intro hn d e f hd he
    obtain ⟨d, rfl⟩ : ∃ d', d = d' + 1 := ⟨d - 1, by omega⟩
    obtain ⟨e, rfl⟩ : ∃ e', e = e' + 1 := ⟨e - 1, by omega⟩
    simp only [seekL]
    cases hk : kidAt N (gn N n).kids f at_ with
    | none => rfl
    | some j =>
      have hj := kidAt_lt hk
      have hg := good_kid hN.good hn (z := gz (gn N n).kids j) (by rw [gz_eq hj]; exact List.getElem_mem _)
      simp only
      rw [ih _ (by omega) (by omega) d e _ (by omega) (by omega)]
def seekP (N : List GN) (n : Nat) (f at_ : Int) : List Int := seekL N at_ (n + 1) n f
theorem seekP_none {N : List GN} {n : Nat} {f at_ : Int} (h : kidAt N (gn N n).kids f at_ = none) : seekP N n f at_ = [] := by simp only [seekP, seekL, h]
theorem seekP_some {N : List GN} (hN : OkN N) {n : Nat} (hn : n < N.length) {f at_ : Int} {j : Nat} (h : kidAt N (gn N n).kids f at_ = some j) : seekP N n f at_ = (j : Int) :: seekP N (gz (gn N n).kids j).toNat (f + bW N (gn N n).kids j) at_ := by
  have hj := kidAt_lt h
  have hg := good_kid hN.good hn (z := gz (gn N n).kids j) (by rw [gz_eq hj]; exact List.getElem_mem _)
  simp only [seekP]
  rw [seekL]
  simp only [h]
  rw [seekL_stable hN at_ _ (by omega) n _ _ (by omega) (Nat.lt_succ_self _)]
set_option maxRecDepth 100000 in
theorem seek34_nil (n k : Int) (u : Option Addr) (at_ : Int) (w : World) : Calls Try.prog 34 #[.agg (cc none n 0 k u), .int .i64 at_] w (NoCur w) := by
  unfold NoCur
  have C46 := fun W => span46 none n 0 k u W 0 (fun W' _ => width18_nil n W') (by omega) (by omega) (by omega) (by omega)
  have C58 := fun W => has58 0 (0 + 0) at_ W
  rw [show decide ((0 : Int) ≤ at_ ∧ at_ < 0 + 0) = false from decide_eq_false (by omega)] at C58
  go_enter Try.func34, Try.ntmps34
  go_wp2_with (first
    | (go_at_call 46; refine (C46 _).mono ?_; rintro e w1 ⟨rfl, b1⟩; clear C46)
    | (go_at_call 58; refine (C58 _).mono ?_; rintro e w2 ⟨rfl, b2⟩; clear C58; obtain ⟨-, hR, bw, hsw⟩ := two_blocks (b1.trans (b2.mono b1.size)))
    | (refine wpList_putc rfl _ _ rfl (w.heap.size + 1) none 0 0 0 none rfl rfl hR ?_; intro w3 hR3 hg3))
  exact bodyPost_ret (v := .tuple #[.agg (cc none 0 0 0 none), .bool false]) (results_row2 rfl _ _ (w.heap.size + 1) 59 _ (0, 0) _ _ rfl rfl hR3 Try.underlying59 rfl (by kernel_rfl)) rfl ⟨rfl, Below.put bw (Nat.le_succ _) hg3 bw.size⟩
/-- What Seek hands back. -/
def SeekSaid (ga : Nat) (N : List GN) (root : Nat) (Q0 : List Int) (n : Nat) (f at_ : Int) (w : World) (e : Ending) (w' : World) : Prop :=
  (if f ≤ at_ ∧ at_ < f + (gn N n).w then ∃ n' f' k' u', e = .returned (.tuple #[.agg (cc (some ⟨ga, 0, none⟩) n' f' k' u'), .bool true]) ∧ Chain (fun _ => True) w' ga N root ((seekP N n f at_).reverse ++ Q0) n' f' k' u'
  else e = .returned (.tuple #[.agg (cc none 0 0 0 none), .bool false])) ∧ Below w.heap.size w w'
/-- What kid found, as a state of two slots. -/
def KidSt (ga : Nat) (N : List GN) (w : World) (n : Nat) (f k : Int) (u : Option Addr) (at_ : Int) (X : Nat → Prop) (a1 : Option Addr) (n1 f1 k1 : Int) (u1 : Option Addr) (ok : Bool) : Prop :=
  (ok = true ∧ ∃ j b, kidAt N (gn N n).kids f at_ = some j ∧ a1 = some ⟨ga, 0, none⟩ ∧ n1 = gz (gn N n).kids j ∧ f1 = f + bW N (gn N n).kids j ∧ k1 = j ∧ u1 = some ⟨b, 0, none⟩ ∧ X b ∧ w.heap[b]? = some (.cells (cc (some ⟨ga, 0, none⟩) n f k u) 59 (0, 0)))
  ∨ (ok = false ∧ kidAt N (gn N n).kids f at_ = none)
theorem KidSaid.st {ga : Nat} {N : List GN} {n : Nat} {f k : Int} {u : Option Addr} {at_ : Int} {w w' : World} {e : Ending} (h : KidSaid ga N n f k u at_ w e w') :
    ∃ a1 n1 f1 k1 u1 ok, e = .returned (.tuple #[.agg (cc a1 n1 f1 k1 u1), .bool ok]) ∧ KidSt ga N w' n f k u at_ (fun b => w.heap.size ≤ b) a1 n1 f1 k1 u1 ok ∧ Below w.heap.size w w' := by
  obtain ⟨⟨j, b, hk, rfl, hb, hg⟩ | ⟨hk, rfl⟩, hw⟩ := h
  · exact ⟨_, _, _, _, _, true, rfl, .inl ⟨rfl, j, b, hk, rfl, rfl, rfl, rfl, rfl, hb, hg⟩, hw⟩
  · exact ⟨_, _, _, _, _, false, rfl, .inr ⟨rfl, hk⟩, hw⟩
theorem KidSt.keep {ga : Nat} {N : List GN} {w w' : World} {n : Nat} {f k : Int} {u : Option Addr} {at_ : Int} {X X' : Nat → Prop} {a1 : Option Addr} {n1 f1 k1 : Int} {u1 : Option Addr} {ok : Bool} (h : KidSt ga N w n f k u at_ X a1 n1 f1 k1 u1 ok) (hk : ∀ b ob, X b → w.heap[b]? = some ob → X' b ∧ w'.heap[b]? = some ob) : KidSt ga N w' n f k u at_ X' a1 n1 f1 k1 u1 ok := by
  rcases h with ⟨h1, j, b, h2, h3, h4, h5, h6, h7, h8, h9⟩ | h
  · exact .inl ⟨h1, j, b, h2, h3, h4, h5, h6, h7, (hk b _ h8 h9).1, (hk b _ h8 h9).2⟩
  · exact .inr h
def seekLeft (g : Nat) (ok : Value) (w : World) : Nat := match ok with
  | .bool true => (intOf ((w.cell? ⟨g, 1, none⟩).getD undef)).toNat + 1
  | _ => 0
theorem seekLeft_eq {w : World} {g : Nat} {n : Nat} (h : w.cell? ⟨g, 1, none⟩ = some (.int .i64 (n : Nat))) : seekLeft g (.bool true) w = n + 1 := by
  show (intOf ((w.cell? ⟨g, 1, none⟩).getD undef)).toNat + 1 = _
  rw [h]
  rfl
set_option maxRecDepth 100000 in
set_option maxHeartbeats 4000000 in
theorem seek34 {w : World} {B ga : Nat} {N : List GN} (h : Arena w B ga N) (hN : OkN N) (hwd : ∀ i, i < N.length → (gn N i).w ≤ 100000) (root : Nat) (hr : root < N.length) (Q0 : List Int) (n : Nat) (f k : Int) (u : Option Addr) (hc : Chain (fun _ => True) w ga N root Q0 n f k u) (at_ : Int) :
    Calls Try.prog 34 #[.agg (cc (some ⟨ga, 0, none⟩) n f k u), .int .i64 at_] w (SeekSaid ga N root Q0 n f at_ w) := by
  unfold SeekSaid
  have ok := hc.ok hN hr
  have hn : n < N.length := by omega
  have hf0 := ok.2.2.1
  have hf1 : f ≤ 100000 := by have := ok.2.2.2.1; have := hwd root hr; omega
  have hwn := hwd n hn
  have T := fun o o' => two_new w o o'
  have C46 := fun o o' => span46 (some ⟨ga, 0, none⟩) (n : Nat) f k u ((w.alloc o).alloc o') ((gn N n).w : Nat) (fun W hW => width18_at ((h.below (T o o').2).below hW) hn) hf0 (by omega) (by omega) (by omega)
  have C58 := fun W => has58 f (f + ((gn N n).w : Nat)) at_ W
  have hc0 : Chain (fun b => b ≠ w.heap.size ∧ b ≠ w.heap.size + 1) w ga N root Q0 n f k u := hc.imp fun b _ hb => by omega
  have HC := Lib.hid hc0
  have HN := Lib.hid hN
  have HW := Lib.hid hwd
  clear ok hc hc0 T hN hwd
  by_cases hh : f ≤ at_ ∧ at_ < f + ((gn N n).w : Nat)
  · rw [show decide (f ≤ at_ ∧ at_ < f + ((gn N n).w : Nat)) = true from decide_eq_true hh] at C58
    simp only [if_pos hh]
    clear hh
    go_enter Try.func34, Try.ntmps34
    have C59 := fun (W : World) (hW : Below w.heap.size w W) => kid59 (h.below hW) HN.out HW.out n hn f k u at_ hf0 hf1
    unfold KidSaid at C59
    go_wp2_with (first
      | (go_at_call 46; refine (C46 _ _).mono ?_; rintro e w1 ⟨rfl, b1⟩; clear C46)
      | (go_at_call 58; refine (C58 _).mono ?_; rintro e w2 ⟨rfl, b2⟩; clear C58; obtain ⟨hX, hR, bw, hsw⟩ := two_blocks (b1.trans (b2.mono b1.size)); have x0 := cell_of_row w2 _ 0 _ _ _ hX; have x1 := cell_of_row w2 _ 1 _ _ _ hX; have x2 := cell_of_row w2 _ 2 _ _ _ hX; have x3 := cell_of_row w2 _ 3 _ _ _ hX; have x4 := cell_of_row w2 _ 4 _ _ _ hX; simp only [List.getElem?_toArray, List.getElem?_cons_zero, List.getElem?_cons_succ] at x0 x1 x2 x3 x4))
    refine (C59 w2 bw).mono ?_
    intro e w3 hsaid
    obtain ⟨a1, n1, f1, k1, u1, ok, rfl, hst, b3⟩ := KidSaid.st hsaid
    clear hsaid C59
    have HST := Lib.hid hst
    have hX3 := (b3.block w.heap.size (Nat.lt_of_succ_lt hsw)).trans hX
    have hR3 := (b3.block (w.heap.size + 1) hsw).trans hR
    have bw3 := bw.trans (b3.mono bw.size)
    clear hst x0 x1 x2 x3 x4 hX hR
    go_wp2_with fail
    go_loopw [6, 7] (fun p okv wr => ∃ (bk : Nat) (a1 : Option Addr) (n1 f1 k1 : Int) (u1 : Option Addr) (ok : Bool) (PP : List Int) (n' : Nat) (f' k' : Int) (u' : Option Addr), p = .pointer (some ⟨bk, 0, none⟩) ∧ okv = .bool ok ∧ Below w.heap.size w wr ∧ w.heap.size + 1 < bk ∧ Hid (wr.heap[w.heap.size + 1]? = some (.cells (cc none 0 0 0 none) 59 (0, 0))) ∧ Hid (wr.heap[w.heap.size]? = some (.cells (cc (some ⟨ga, 0, none⟩) n' f' k' u') 59 (0, 0))) ∧ Hid (wr.heap[bk]? = some (.cells (cc a1 n1 f1 k1 u1) 59 (0, 0))) ∧ Hid (KidSt ga N wr n' f' k' u' at_ (fun b => b ≠ w.heap.size ∧ b ≠ w.heap.size + 1) a1 n1 f1 k1 u1 ok) ∧ Hid (Chain (fun b => b ≠ w.heap.size ∧ b ≠ w.heap.size + 1) wr ga N root (PP.reverse ++ Q0) n' f' k' u') ∧ Hid (seekP N n f at_ = PP ++ seekP N n' f' at_))
      (fun _ okv wr => seekLeft w.heap.size okv wr)
    case atStart =>
      have hal := fun o => (Below.refl w3.heap.size w3).alloc (Nat.le_refl _) o
      have hs3 := (Array.getElem?_eq_some_iff.1 hR3).1
      exact ⟨w3.heap.size, a1, n1, f1, k1, u1, ok, [], n, f, k, u, rfl, rfl, bw3.trans ((hal _).mono bw3.size), by omega, Lib.hid (((hal _).block _ hs3).trans hR3), Lib.hid (((hal _).block _ (Nat.lt_of_succ_lt hs3)).trans hX3), Lib.hid (heap_alloc_new w3 _), Lib.hid (HST.out.keep fun b ob hb hg => ⟨by omega, ((hal _).block _ (Array.getElem?_eq_some_iff.1 hg).1).trans hg⟩), Lib.hid (HC.out.keep fun b ob hb hg => ⟨hb, ((hal _).block _ (Nat.lt_of_lt_of_le (Array.getElem?_eq_some_iff.1 hg).1 bw3.size)).trans ((bw3.block _ (Array.getElem?_eq_some_iff.1 hg).1).trans hg)⟩), Lib.hid rfl⟩
    case round =>
      obtain ⟨bk, a1, n1, f1, k1, u1, ok, PP, n', f', k', u', rfl, rfl, hb, hbk0, HR, HX, HK, HST, HCH, HSP⟩ := hrel
      have hgr := (Array.getElem?_eq_some_iff.1 HR.out).1
      have hbkl := (Array.getElem?_eq_some_iff.1 HK.out).1
      have ch := HCH.out.ok HN.out hr
      have hnl : n' < N.length := by omega
      have hX := HX.out
      have v0 : wr.cell? ⟨w.heap.size, 0, none⟩ = some (.pointer (some ⟨ga, 0, none⟩)) := cell_of_row wr _ 0 _ _ _ hX
      have v1 : wr.cell? ⟨w.heap.size, 1, none⟩ = some (.int .i64 (n' : Nat)) := cell_of_row wr _ 1 _ _ _ hX
      have v2 : wr.cell? ⟨w.heap.size, 2, none⟩ = some (.int .i64 f') := cell_of_row wr _ 2 _ _ _ hX
      have v3 : wr.cell? ⟨w.heap.size, 3, none⟩ = some (.int .i64 k') := cell_of_row wr _ 3 _ _ _ hX
      have v4 : wr.cell? ⟨w.heap.size, 4, none⟩ = some (.pointer u') := cell_of_row wr _ 4 _ _ _ hX
      have hK := HK.out
      have y0 : wr.cell? ⟨bk, 0, none⟩ = some (.pointer a1) := cell_of_row wr bk 0 _ _ _ hK
      have y1 : wr.cell? ⟨bk, 1, none⟩ = some (.int .i64 n1) := cell_of_row wr bk 1 _ _ _ hK
      have y2 : wr.cell? ⟨bk, 2, none⟩ = some (.int .i64 f1) := cell_of_row wr bk 2 _ _ _ hK
      have y3 : wr.cell? ⟨bk, 3, none⟩ = some (.int .i64 k1) := cell_of_row wr bk 3 _ _ _ hK
      have y4 : wr.cell? ⟨bk, 4, none⟩ = some (.pointer u1) := cell_of_row wr bk 4 _ _ _ hK
      clear hX hK
      rcases HST.out with ⟨rfl, j, b, hka, rfl, hn1, hf1', rfl, rfl, hXb, hgb⟩ | ⟨rfl, hka⟩
      · have hjl := kidAt_lt hka
        have hg := good_kid HN.out.good hnl (z := gz (gn N n').kids j) (by rw [gz_eq hjl]; exact List.getElem_mem _)
        obtain ⟨y, hy⟩ := Int.eq_ofNat_of_zero_le hg.1
        have hyl : y < N.length := by omega
        have hyn : y < n' := by omega
        have hbwk := bW_kid HN.out hnl hjl
        have hwn' := HW.out n' hnl
        have hF0 : 0 ≤ f1 := by omega
        have hF1 : f1 ≤ 100000 := by have h1 := HW.out root hr; have h2 := ch.2.2.2.1; unfold wd at h2 hbwk; rw [show ((n' : Nat) : Int).toNat = n' from rfl] at h2; omega
        have HSP2 := Lib.hid (seekP_some HN.out hnl hka)
        have HN1 := Lib.hid hn1
        have HF := Lib.hid hf1'
        have HY := Lib.hid hy
        have HGB := Lib.hid hgb
        have HM := Lib.hid (seekLeft_eq v1)
        rw [hn1, hy] at y1 HK
        have HJL := Lib.hid hjl
        have HXB := Lib.hid hXb
        clear hn1 hf1' hy hka hg hgb hbwk ch v0 v1 v2 v3 v4
        have C59 := fun (W : World) (hW : Below w.heap.size w W) => kid59 (h.below hW) HN.out HW.out y hyl f1 (j : Nat) (some ⟨b, 0, none⟩) at_ hF0 hF1
        have hX' := HX.out
        have hne : (some bk : Option Nat) ≠ some w.heap.size := by simp; omega
        go_wp2_with (refine wpList_putc rfl _ _ rfl w.heap.size (some ⟨ga, 0, none⟩) (y : Nat) f1 (j : Nat) (some ⟨b, 0, none⟩) rfl rfl hX' ?_; intro w4 hX4 hg4; have z0 := (hg4.cell y0 hne); have z1 := (hg4.cell y1 hne); have z2 := (hg4.cell y2 hne); have z3 := (hg4.cell y3 hne); have z4 := (hg4.cell y4 hne); have d0 : ∀ o, (w4.alloc o).cell? ⟨w.heap.size, 0, none⟩ = some (.pointer (some ⟨ga, 0, none⟩)) := fun o => cell_old w4 _ _ o _ (cell_of_row w4 _ 0 _ _ _ hX4); have d1 : ∀ o, (w4.alloc o).cell? ⟨w.heap.size, 1, none⟩ = some (.int .i64 (y : Nat)) := fun o => cell_old w4 _ _ o _ (cell_of_row w4 _ 1 _ _ _ hX4); have d2 : ∀ o, (w4.alloc o).cell? ⟨w.heap.size, 2, none⟩ = some (.int .i64 f1) := fun o => cell_old w4 _ _ o _ (cell_of_row w4 _ 2 _ _ _ hX4); have d3 : ∀ o, (w4.alloc o).cell? ⟨w.heap.size, 3, none⟩ = some (.int .i64 (j : Nat)) := fun o => cell_old w4 _ _ o _ (cell_of_row w4 _ 3 _ _ _ hX4); have d4 : ∀ o, (w4.alloc o).cell? ⟨w.heap.size, 4, none⟩ = some (.pointer (some ⟨b, 0, none⟩)) := fun o => cell_old w4 _ _ o _ (cell_of_row w4 _ 4 _ _ _ hX4); have HX4 := Lib.hid hX4; have HG4 := Lib.hid hg4; clear hX' hX4 hg4)
        have b4 := Below.put hb (Nat.le_refl _) HG4.out hb.size
        have hal := fun o => (Below.refl w4.heap.size w4).alloc (Nat.le_refl _) o
        refine (C59 _ (b4.trans ((hal _).mono b4.size))).mono ?_
        intro e w5 hsaid
        obtain ⟨a2, n2, f2, k2, u2, ok2, rfl, hst2, b5⟩ := KidSaid.st hsaid
        have HST2 := Lib.hid hst2
        have hnw := (b5.block w4.heap.size (by simp)).trans (heap_alloc_new w4 _)
        clear hsaid C59 hst2 z0 z1 z2 z3 z4 d0 d1 d2 d3 d4
        go_wp2_with (refine wpList_putc rfl _ _ rfl w4.heap.size a2 n2 f2 k2 u2 rfl rfl hnw ?_; intro w6 hK6 hg6; have HK6 := Lib.hid hK6; have HG6 := Lib.hid hg6; clear hnw hK6 hg6)
        have b45 := (hal _).trans (b5.mono (hal _).size)
        have hs4 := HG4.out.size
        have kp : ∀ (i : Nat) (ob : Obj), i ≠ w.heap.size → wr.heap[i]? = some ob → w6.heap[i]? = some ob := fun i ob hne hi => by
          have hil := (Array.getElem?_eq_some_iff.1 hi).1
          have hil4 := Nat.lt_of_lt_of_le hil hs4
          exact (HG6.out.block i (Nat.lt_of_lt_of_le hil4 b45.size) (fun e => by injection e with e; omega)).trans ((b45.block i hil4).trans ((HG4.out.block i hil (fun e => by injection e with e; exact hne e)).trans hi))
        have hgc4 := (Array.getElem?_eq_some_iff.1 HX4.out).1
        have hX6 := (HG6.out.block w.heap.size (Nat.lt_of_lt_of_le hgc4 b45.size) (fun e => by injection e with e; omega)).trans ((b45.block w.heap.size hgc4).trans HX4.out)
        have hb6 := Below.put (b4.trans (b45.mono b4.size)) b4.size HG6.out (Nat.le_trans b4.size b45.size)
        have HX6 := Lib.hid hX6
        clear hX6
        go_roundw
        case rel => exact ⟨w4.heap.size, a2, n2, f2, k2, u2, ok2, PP ++ [(j : Int)], y, f1, j, some ⟨b, 0, none⟩, rfl, rfl, hb6, by omega, Lib.hid (kp _ _ (by omega) HR.out), HX6, HK6, Lib.hid (HST2.out.keep fun i ob hi hg => by have hil := (Array.getElem?_eq_some_iff.1 hg).1; have hi' : w4.heap.size + 1 ≤ i := (by simpa using hi); exact ⟨by omega, (HG6.out.block i hil (fun e => by injection e with e; omega)).trans hg⟩), Lib.hid (by rw [List.reverse_append]; exact ⟨b, n', f', k', u', rfl, HXB.out, kp _ _ HXB.out.1 HGB.out, HCH.out.keep (fun i ob hi hg => ⟨hi, kp _ _ hi.1 hg⟩), rfl, by omega, by have := HJL.out; rw [show ((n' : Nat) : Int).toNat = n' from rfl]; omega, HY.out.symm, HF.out⟩), Lib.hid (by rw [HSP.out, HSP2.out, HY.out, ← HF.out]; simp)⟩
        case measure =>
          show seekLeft w.heap.size (.bool ok2) w6 < seekLeft w.heap.size (.bool true) wr
          rw [HM.out]
          cases ok2
          · show 0 < _; omega
          · rw [seekLeft_eq (n := y) (cell_of_row w6 w.heap.size 1 _ _ _ HX6.out)]; omega
      · have HSP2 := Lib.hid (seekP_none hka)
        have hR := HR.out
        go_wp2_with (refine wpList_putc rfl _ _ rfl (w.heap.size + 1) (some ⟨ga, 0, none⟩) (n' : Nat) f' k' u' rfl rfl hR ?_; intro w5 hR5 hg5)
        exact bodyPost_ret (v := .tuple #[.agg (cc (some ⟨ga, 0, none⟩) (n' : Nat) f' k' u'), .bool true]) (results_row2 rfl _ _ (w.heap.size + 1) 59 _ (0, 0) _ _ rfl rfl hR5 Try.underlying59 rfl (by kernel_rfl)) rfl ⟨⟨n', f', k', u', rfl, by rw [HSP.out, HSP2.out, List.append_nil]; exact HCH.out.keep (fun i ob hi hg => ⟨trivial, (hg5.block i (Array.getElem?_eq_some_iff.1 hg).1 (fun e => by injection e with e; omega)).trans hg⟩)⟩, Below.put hb (Nat.le_succ _) hg5 hb.size⟩
  · rw [show decide (f ≤ at_ ∧ at_ < f + ((gn N n).w : Nat)) = false from decide_eq_false hh] at C58
    simp only [if_neg hh]
    clear hh
    go_enter Try.func34, Try.ntmps34
    go_wp2_with (first
      | (go_at_call 46; refine (C46 _ _).mono ?_; rintro e w1 ⟨rfl, b1⟩; clear C46)
      | (go_at_call 58; refine (C58 _).mono ?_; rintro e w2 ⟨rfl, b2⟩; clear C58; obtain ⟨-, hR, bw, hsw⟩ := two_blocks (b1.trans (b2.mono b1.size)))
      | (refine wpList_putc rfl _ _ rfl (w.heap.size + 1) none 0 0 0 none rfl rfl hR ?_; intro w3 hR3 hg3))
    exact bodyPost_ret (v := .tuple #[.agg (cc none 0 0 0 none), .bool false]) (results_row2 rfl _ _ (w.heap.size + 1) 59 _ (0, 0) _ _ rfl rfl hR3 Try.underlying59 rfl (by kernel_rfl)) rfl ⟨rfl, Below.put bw (Nat.le_succ _) hg3 bw.size⟩
end Go.Proofs.Ytbmbiffhgdkpiaa
