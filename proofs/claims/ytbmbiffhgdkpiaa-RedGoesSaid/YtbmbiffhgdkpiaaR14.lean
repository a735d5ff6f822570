/- Rows of cursors: what a walk over a tree keeps of its stack and of its answer. No condition. -/
import Derived.Test.YtbmbiffhgdkpiaaR13
import Derived.Maps.AppendAt
namespace Go.Proofs.Ytbmbiffhgdkpiaa
open Go.RowKit

/-- A cursor of the arena, and the path that it stands at. -/
structure CE where
  P : List Int
  n : Int
  f : Int
  k : Int
  u : Option Addr
def CE.cells (ga : Nat) (x : CE) : List Value := [.pointer (some ⟨ga, 0, none⟩), .int .i64 x.n, .int .i64 x.f, .int .i64 x.k, .pointer x.u]
def crow (ga : Nat) (l : List CE) : List Value := l.flatMap (CE.cells ga)
theorem crow_snoc (ga : Nat) (l : List CE) (x : CE) : crow ga (l ++ [x]) = crow ga l ++ x.cells ga := by simp [crow]
theorem crow_len (ga : Nat) : ∀ l : List CE, (crow ga l).length = l.length * 5
  | [] => rfl
  | x :: l => by
    have := crow_len ga l
    simp only [crow, List.flatMap_cons, List.length_append, List.length_cons] at this ⊢
    rw [this, Nat.succ_mul, show (x.cells ga).length = 5 from rfl]
    omega
theorem crow_get (ga : Nat) : ∀ (l : List CE) (i : Nat) (x : CE) (j : Nat), l[i]? = some x → j < 5 → (crow ga l)[i * 5 + j]? = (x.cells ga)[j]?
  | [], i, x, j, h, _ => by simp at h
  | y :: l, 0, x, j, h, hj => by
    simp at h
    subst h
    simp only [crow, List.flatMap_cons, Nat.zero_mul, Nat.zero_add]
    rw [List.getElem?_append_left (by show j < 5; exact hj)]
  | y :: l, i + 1, x, j, h, hj => by
    simp at h
    have := crow_get ga l i x j h hj
    simp only [crow, List.flatMap_cons] at this ⊢
    rw [List.getElem?_append_right (by show 5 ≤ _; omega), ← this]
    congr 1
    show (i + 1) * 5 + j - 5 = _
    omega
theorem CE.one (ga : Nat) (x : CE) : ∀ u ∈ x.cells ga, u.oneCell' = true := by
  intro u hu
  simp only [CE.cells, List.mem_cons, List.not_mem_nil, or_false] at hu
  rcases hu with rfl | rfl | rfl | rfl | rfl <;> rfl
theorem st74 : ST Try.prog 74 59 5 40 := ST.mk' (z := .agg #[.pointer none, .int .i64 0, .int .i64 0, .int .i64 0, .pointer none]) Try.underlying74 (by kernel_rfl) rfl (by decide)
/-- As wpList_pushG, and where the new slice lies. -/
theorem wpList_pushA {P : Program} {ops : Array Oper} {rest : List Oper} {o : Oper} {a : Act} {Q : Exit → Act → World → Prop} {t e : TypeId} {sz bytes : Nat} (T : ST P t e sz bytes) (hgd : o.guard = none) (s x : Operand)
    (ho : o.op = .call { callee := .builtin .append, args := #[s, x], argTypes := #[t, t] })
    {B : Nat} {W0 : World} (v : Value) {n : Nat} {xs : List Value} (hs : a.eval s = v) (hown : W0.ownsRow B e sz v n xs)
    (cs : List Value) (g : Nat) (hx : a.eval x = .slice (some ⟨g, 0, none⟩) 1 1) (hg : g = W0.heap.size) (hl : cs.length = sz) (h1 : ∀ u ∈ cs, u.oneCell' = true)
    (hn : n + 1 ≤ 1048576) (hby : bytes ≤ 1048576) (hB : B ≤ W0.heap.size)
    (h : ∀ v' w', w'.ownsRow B e sz v' (n + 1) (xs ++ cs) → W0.grownBy w' v.ownBlock → (v'.ownBlock = v.ownBlock ∨ ∃ g', v'.ownBlock = some g' ∧ W0.heap.size ≤ g') → wpList P ops Q rest (a.put o.dst v') w') :
    wpList P ops Q (o :: rest) a (W0.alloc (.cells cs.toArray e)) := by
  obtain ⟨i, z, hi, hz0, hz1, hz2, hz3⟩ := T.ex
  refine wpList_append_own_at _ hgd s x t ho B e i z sz bytes T.ht hi hz0 hz1 hz2 hz3 T.pos v n xs hs (hown.alloc _) ⟨g, 0, none⟩ 1 1 cs hx (by omega) (cells_at W0 g cs e hg) h1 (by unfold maxLen; omega) ?_ (by simp; omega) ?_
  · have : (n + 1) * bytes ≤ 1048576 * 1048576 := Nat.mul_le_mul hn hby
    omega
  · intro v' w' ho' hgr _ hat
    refine h v' w' ho' ((World.grownBy_alloc W0 _ _).trans hgr) (hat.imp id fun e => ⟨_, e, by simp⟩)

/-- A block that is neither the one's nor the other's. -/
def Off (out st : Value) (b : Nat) : Prop := some b ≠ out.ownBlock ∧ some b ≠ st.ownBlock
/-- A cursor stands at its path. -/
def CE.at_ (X : Nat → Prop) (w : World) (ga : Nat) (N : List GN) (root : Nat) (x : CE) : Prop := Chain X w ga N root x.P.reverse x.n x.f x.k x.u
/-- The answer and the stack of a walk. -/
structure WSt (B ga : Nat) (N : List GN) (root : Nat) (w : World) (out st : Value) (ol sl : List CE) : Prop where
  own_o : w.ownsRow B 59 5 out ol.length (crow ga ol)
  own_s : w.ownsRow B 59 5 st sl.length (crow ga sl)
  ap : out.ownBlock = none ∨ out.ownBlock ≠ st.ownBlock
  ch_o : ∀ x ∈ ol, x.at_ (Off out st) w ga N root
  ch_s : ∀ x ∈ sl, x.at_ (Off out st) w ga N root
section
variable {B ga : Nat} {N : List GN} {root : Nat} {w w' : World} {out st v' : Value} {ol sl : List CE} {x : CE}
theorem CE.at_.below {X : Nat → Prop} (h : x.at_ X w ga N root) (hb : Below w.heap.size w w') : x.at_ X w' ga N root := Chain.below h hb
theorem WSt.below (h : WSt B ga N root w out st ol sl) (hb : Below w.heap.size w w') : WSt B ga N root w' out st ol sl :=
  ⟨own_below h.own_o hb, own_below h.own_s hb, h.ap, fun x hx => (h.ch_o x hx).below hb, fun x hx => (h.ch_s x hx).below hb⟩
theorem WSt.swap (h : WSt B ga N root w out st ol sl) : WSt B ga N root w st out sl ol :=
  ⟨h.own_s, h.own_o, by
    rcases h.ap with h1 | h1
    · by_cases h2 : st.ownBlock = none
      · exact .inl h2
      · exact .inr (by rw [h1]; exact h2)
    · exact .inr (Ne.symm h1), fun x hx => Chain.keep (fun _ _ hX hg => ⟨⟨hX.2, hX.1⟩, hg⟩) (h.ch_s x hx), fun x hx => Chain.keep (fun _ _ hX hg => ⟨⟨hX.2, hX.1⟩, hg⟩) (h.ch_o x hx)⟩
/-- What a push onto the answer keeps. -/
theorem WSt.keepO (hg : w.grownBy w' out.ownBlock) (hat : v'.ownBlock = out.ownBlock ∨ ∃ g', v'.ownBlock = some g' ∧ w.heap.size ≤ g') {b : Nat} {ob : Obj} (hb : Off out st b) (h : w.heap[b]? = some ob) : Off v' st b ∧ w'.heap[b]? = some ob := by
  have hl := (Array.getElem?_eq_some_iff.1 h).1
  refine ⟨⟨?_, hb.2⟩, (hg.block b hl hb.1).trans h⟩
  rcases hat with e | ⟨g', e, hg'⟩
  · rw [e]; exact hb.1
  · rw [e]; intro e2; injection e2 with e2; omega
theorem WSt.pushO (h : WSt B ga N root w out st ol sl) (hx : x.at_ (Off out st) w ga N root) (ho : w'.ownsRow B 59 5 v' (ol.length + 1) (crow ga ol ++ x.cells ga)) (hg : w.grownBy w' out.ownBlock) (hat : v'.ownBlock = out.ownBlock ∨ ∃ g', v'.ownBlock = some g' ∧ w.heap.size ≤ g') : WSt B ga N root w' v' st (ol ++ [x]) sl := by
  have hap : st.ownBlock = none ∨ st.ownBlock ≠ out.ownBlock := h.swap.ap
  refine ⟨own_as ho (by simp) (crow_snoc ga ol x).symm, h.own_s.kept hg hap, ?_, fun y hy => ?_, fun y hy => Chain.keep (fun _ _ hX hq => WSt.keepO hg hat hX hq) (h.ch_s y hy)⟩
  · rcases hat with e | ⟨g', e, hg'⟩
    · rw [e]; exact h.ap
    · rw [e]
      exact .inr fun e2 => by have := (h.own_s.lt g' e2.symm).2; omega
  · rcases List.mem_append.1 hy with h1 | h1
    · exact Chain.keep (fun _ _ hX hq => WSt.keepO hg hat hX hq) (h.ch_o y h1)
    · simp only [List.mem_singleton] at h1
      subst h1
      exact Chain.keep (fun _ _ hX hq => WSt.keepO hg hat hX hq) hx
theorem WSt.keepS (hg : w.grownBy w' st.ownBlock) (hat : v'.ownBlock = st.ownBlock ∨ ∃ g', v'.ownBlock = some g' ∧ w.heap.size ≤ g') {b : Nat} {ob : Obj} (hb : Off out st b) (h : w.heap[b]? = some ob) : Off out v' b ∧ w'.heap[b]? = some ob := by
  have := WSt.keepO (st := out) hg hat ⟨hb.2, hb.1⟩ h
  exact ⟨⟨this.1.2, this.1.1⟩, this.2⟩
theorem WSt.pushS (h : WSt B ga N root w out st ol sl) (hx : x.at_ (Off out st) w ga N root) (ho : w'.ownsRow B 59 5 v' (sl.length + 1) (crow ga sl ++ x.cells ga)) (hg : w.grownBy w' st.ownBlock) (hat : v'.ownBlock = st.ownBlock ∨ ∃ g', v'.ownBlock = some g' ∧ w.heap.size ≤ g') : WSt B ga N root w' out v' ol (sl ++ [x]) :=
  (h.swap.pushO (Chain.keep (fun _ _ hX hg => ⟨⟨hX.2, hX.1⟩, hg⟩) hx) ho hg hat).swap
/-- The topmost cursor taken off. -/
theorem WSt.pop (h : WSt B ga N root w out st ol (sl ++ [x])) : ∃ gs cap, st = .slice (some ⟨gs, 0, none⟩) (sl.length + 1) cap ∧ sl.length + 1 ≤ cap ∧ cap ≤ maxLen ∧ (∀ j u, (x.cells ga)[j]? = some u → w.cell? ⟨gs, sl.length * 5 + j, none⟩ = some u) ∧
    WSt B ga N root w out (.slice (some ⟨gs, 0, none⟩) sl.length cap) ol sl ∧ x.at_ (Off out (.slice (some ⟨gs, 0, none⟩) sl.length cap)) w ga N root := by
  have ho : w.ownsRow B 59 5 st (sl.length + 1) (crow ga sl ++ x.cells ga) := own_as h.own_s (by simp) (crow_snoc ga sl x)
  obtain ⟨gs, cap, cur, hv, r⟩ : ∃ gs cap cur, st = .slice (some ⟨gs, 0, none⟩) (sl.length + 1) cap ∧ B ≤ gs ∧ w.heap[gs]? = some (.cells cur 59 (0, 0)) ∧ sl.length + 1 ≤ cap ∧ cap ≤ maxLen ∧ cur.size = cap * 5 ∧ cur.toList.take ((sl.length + 1) * 5) = crow ga sl ++ x.cells ga := by
    rcases ho.2 with ⟨_, hz⟩ | ⟨gs, cap, cur, hv, r⟩
    · omega
    · exact ⟨gs, cap, cur, hv, r⟩
  subst hv
  refine ⟨gs, cap, rfl, r.2.2.1, r.2.2.2.1, fun j u hu => ?_, ⟨h.own_o, ownsRow_pop (crow_len ga sl) ho, h.ap, h.ch_o, fun y hy => h.ch_s y (by simp [hy])⟩, h.ch_s x (by simp)⟩
  have hj : j < 5 := (List.getElem?_eq_some_iff.1 hu).1
  have := World.ownsRow.cells ho (g := gs) rfl (sl.length * 5 + j) u (by
    rw [List.getElem?_append_right (by rw [crow_len]; omega), crow_len, show sl.length * 5 + j - sl.length * 5 = j by omega]
    exact hu)
  rw [add_none, Nat.zero_add] at this
  exact this
/-- What is still to be met, by what the stack holds. -/
def todoC (N : List GN) (sl : List CE) : List (List Int) := sl.reverse.flatMap fun x => preP N x.n.toNat x.P
theorem todoC_snoc (N : List GN) (sl : List CE) (x : CE) : todoC N (sl ++ [x]) = preP N x.n.toNat x.P ++ todoC N sl := by simp [todoC]
theorem todoC_app (N : List GN) (sl tl : List CE) : todoC N (sl ++ tl) = todoC N tl ++ todoC N sl := by simp [todoC]
def slen : Value → Nat
  | .slice _ n _ => n
  | _ => 0
theorem WSt.offO (h : WSt B ga N root w out st ol sl) {b : Nat} (hb : w.heap.size ≤ b) : Off out st b :=
  ⟨fun e => by have := (h.own_o.lt b e.symm).2; omega, fun e => by have := (h.own_s.lt b e.symm).2; omega⟩
end
/-- What Walk hands back. -/
def WalkSaid (ga : Nat) (N : List GN) (root : Nat) (L : List (List Int)) (w : World) (e : Ending) (w' : World) : Prop := ∃ A c l, e = .returned (.slice A l.length c) ∧ w'.ownsRow w.heap.size 59 5 (.slice A l.length c) l.length (crow ga l) ∧ (∀ x ∈ l, x.at_ (fun _ => True) w' ga N root) ∧ l.map (·.P) = L ∧ Below w.heap.size w w'
end Go.Proofs.Ytbmbiffhgdkpiaa
