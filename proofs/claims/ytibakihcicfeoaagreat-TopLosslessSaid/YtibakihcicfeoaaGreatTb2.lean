/- More words for memory: an append that keeps whole blocks, a string's iterator. No condition. -/
import Derived.Test.YtibakihcicfeoaaGreatTa
import Derived.Lib.OthersKept
import Derived.WalkSmall
namespace Go.Proofs.YtibakihcicfeoaaGreat
open Go.RowKit

/-- As wpList_push, and every other block stands as it stood. -/
theorem wpList_pushB {P : Program} {ops : Array Oper} {rest : List Oper} {o : Oper} {a : Act} {Q : Exit → Act → World → Prop} {t e : TypeId} {sz bytes : Nat} (T : ST P t e sz bytes) (hgd : o.guard = none) (s x : Operand)
    (ho : o.op = .call { callee := .builtin .append, args := #[s, x], argTypes := #[t, t] })
    {B C : Nat} {w W0 : World} (v : Value) {n : Nat} {xs : List Value} (hs : a.eval s = v) (hown : W0.ownsRow B e sz v n xs)
    (cs : List Value) (g : Nat) (hx : a.eval x = .slice (some ⟨g, 0, none⟩) 1 1) (hg : g = W0.heap.size) (hl : cs.length = sz) (h1 : ∀ u ∈ cs, u.oneCell' = true)
    (hn : n + 1 ≤ 1048576) (hby : bytes ≤ 1048576) (hb : Below C w W0) (hB : B ≤ W0.heap.size) (hC : C ≤ B)
    (h : ∀ v' w', w'.ownsRow B e sz v' (n + 1) (xs ++ cs) → Below C w w' → (∀ k ob, W0.heap[k]? = some ob → some k ≠ v.ownBlock → w'.heap[k]? = some ob) → wpList P ops Q rest (a.put o.dst v') w') :
    wpList P ops Q (o :: rest) a (W0.alloc (.cells cs.toArray e)) := by
  obtain ⟨i, z, hi, hz0, hz1, hz2, hz3⟩ := T.ex
  refine wpList_append_own _ hgd s x t ho B e i z sz bytes T.ht hi hz0 hz1 hz2 hz3 T.pos v n xs hs (hown.alloc _) ⟨g, 0, none⟩ 1 1 cs hx (by omega) (cells_at W0 g cs e hg) h1 (by unfold maxLen; omega) ?_ (by simp; omega) ?_
  · have : (n + 1) * bytes ≤ 1048576 * 1048576 := Nat.mul_le_mul hn hby
    omega
  · intro v' w' ho' hgr _
    have hsz := hb.size
    refine h v' w' ho' ((hb.alloc (by omega) _).grown hgr (by simp; omega) fun k hk => ?_) ?_
    · have := (hown.lt k hk).1; omega
    · intro k ob hk hne
      have hlt : k < W0.heap.size := (Array.getElem?_eq_some_iff.1 hk).1
      rw [hgr.block k (by simp; omega) hne, Below.heap_alloc W0 _ k hlt, hk]

/-- As wpList_pushes, and every other block stands as it stood. -/
theorem wpList_pushesB {P : Program} {ops : Array Oper} {rest : List Oper} {o : Oper} {a : Act} {Q : Exit → Act → World → Prop} {t e : TypeId} {sz bytes : Nat} (T : ST P t e sz bytes) (hgd : o.guard = none) (s x : Operand)
    (ho : o.op = .call { callee := .builtin .append, args := #[s, x], argTypes := #[t, t] })
    {B C : Nat} {w W : World} (v : Value) {n : Nat} {xs : List Value} (hs : a.eval s = v) (hown : W.ownsRow B e sz v n xs)
    {B' m c : Nat} {A : Option Addr} {ys : List Value} (hx : a.eval x = .slice A m c) (hr : Rd W B' sz A m c ys) (h1 : ∀ u ∈ ys, u.oneCell' = true)
    (hn : n + m ≤ 1048576) (hby : bytes ≤ 1048576) (hb : Below C w W) (hB : B ≤ W.heap.size) (hC : C ≤ B)
    (h : ∀ v' w', w'.ownsRow B e sz v' (n + m) (xs ++ ys) → Below C w w' → (∀ k ob, W.heap[k]? = some ob → some k ≠ v.ownBlock → w'.heap[k]? = some ob) → wpList P ops Q rest (a.put o.dst v') w') :
    wpList P ops Q (o :: rest) a W := by
  obtain ⟨i, z, hi, hz0, hz1, hz2, hz3⟩ := T.ex
  have hbyt : (n + m) * bytes ≤ 140737488355328 := by
    have : (n + m) * bytes ≤ 1048576 * 1048576 := Nat.mul_le_mul hn hby
    omega
  have key : ∃ v' w', (Builtin.append_ #[t, t] o.type #[v, .slice A m c]).run P W = .ok v' w' ∧ w'.ownsRow B e sz v' (n + m) (xs ++ ys) ∧ W.grownBy w' v.ownBlock := by
    by_cases hm : m = 0
    · subst hm
      have hy : ys = [] := List.eq_nil_of_length_eq_zero (by simpa using hr.len)
      subst hy
      rcases A with _ | ad
      · refine ⟨v, W, ?_, by simpa using hown, World.grownBy.refl W _⟩
        rcases hown.2 with ⟨rfl, rfl⟩ | ⟨g, cap, cur, rfl, _, _, hnc, _⟩
        · simp [Builtin.append_, run_underlying T.ht, sizeOf, typeInfo, hi, Builtin.lenOf, Builtin.firstCells]
        · simp [Builtin.append_, run_underlying T.ht, sizeOf, typeInfo, hi, Builtin.lenOf, Builtin.firstCells, hnc, storeCells]
      · obtain ⟨v', w', hr', h2, h3, _⟩ := run_append_own (P := P) W B t o.type e i z sz bytes T.ht hi hz0 hz1 hz2 hz3 T.pos v n xs hown ad 0 c [] (by simp) (by simp) (by simp) (by unfold maxLen; omega) hbyt hB
        exact ⟨v', w', hr', h2, h3⟩
    · obtain ⟨b, off, rfl, hbb, hc⟩ := hr.at_ (by omega)
      obtain ⟨v', w', hr', h2, h3, _⟩ := run_append_own (P := P) W B t o.type e i z sz bytes T.ht hi hz0 hz1 hz2 hz3 T.pos v n xs hown ⟨b, off, none⟩ m c ys hr.len (fun j u hu => by rw [add_none]; exact hc j u hu) h1 (by unfold maxLen; omega) hbyt hB
      exact ⟨v', w', hr', h2, h3⟩
  obtain ⟨v', w', hrun, ho', hgr⟩ := key
  refine wpList_plain hgd fun K hK => ?_
  unfold Oper.wp execOp
  simp only [ho, resolve, invoke, builtin, Sem.run_bind, Sem.run_pure, Result.andThen_ok, List.map_toArray, List.map_cons, List.map_nil, hs, hx, hrun]
  refine hK _ _ (h v' w' ho' (hb.grown hgr (by have := hb.size; omega) fun k hk => ?_) fun k ob hk hne => ?_)
  · have := (hown.lt k hk).1; omega
  · rw [hgr.block k (Array.getElem?_eq_some_iff.1 hk).1 hne, hk]

/-- A string's iterator in block g, one round on: its run, and what the world is good for behind it. -/
theorem iter_on {P : Program} {w wr : World} {g B C : Nat} {s : ByteArray} {p : Nat} {e : TypeId} {sz n : Nat} {v : Value} {xs : List Value} (hk : wr.heap[g]? = some (.stringIter s p)) (hp : p < s.size)
    (hown : wr.ownsRow B e sz v n xs) (hg : g < B) (hb : Below C w wr) (hC : C ≤ g) :
    ∃ W1 : World, (∀ ty, (Instr.next (.pointer (some ⟨g, 0, none⟩)) true ty).run P wr = .ok (.tuple #[.bool true, .int .i64 p, .int .i32 (Utf8.decode s p).1]) W1) ∧
      W1.heap[g]? = some (.stringIter s (p + (Utf8.decode s p).2)) ∧ W1.ownsRow B e sz v n xs ∧ Below C w W1 ∧ W1.heap.size = wr.heap.size :=
  ⟨_, fun ty => Lib.run_next_any_at wr g s p ty hk hp, Lib.iterAt_heap wr g s p _ hk, ownsRow_iterAt hown hg s _, Lib.below_iterAt hb hC s _, Lib.iterAt_size wr g s _⟩
end Go.Proofs.YtibakihcicfeoaaGreat
/- More words for memory: two rows of the call's own side by side, a struct in a block. No condition. -/
namespace Go.Proofs.YtibakihcicfeoaaGreat
open Go.RowKit

/-- As wpList_push; what is kept comes as 'grownBy'. -/
theorem wpList_pushG {P : Program} {ops : Array Oper} {rest : List Oper} {o : Oper} {a : Act} {Q : Exit → Act → World → Prop} {t e : TypeId} {sz bytes : Nat} (T : ST P t e sz bytes) (hgd : o.guard = none) (s x : Operand)
    (ho : o.op = .call { callee := .builtin .append, args := #[s, x], argTypes := #[t, t] })
    {B : Nat} {W0 : World} (v : Value) {n : Nat} {xs : List Value} (hs : a.eval s = v) (hown : W0.ownsRow B e sz v n xs)
    (cs : List Value) (g : Nat) (hx : a.eval x = .slice (some ⟨g, 0, none⟩) 1 1) (hg : g = W0.heap.size) (hl : cs.length = sz) (h1 : ∀ u ∈ cs, u.oneCell' = true)
    (hn : n + 1 ≤ 1048576) (hby : bytes ≤ 1048576) (hB : B ≤ W0.heap.size)
    (h : ∀ v' w', w'.ownsRow B e sz v' (n + 1) (xs ++ cs) → W0.grownBy w' v.ownBlock → wpList P ops Q rest (a.put o.dst v') w') :
    wpList P ops Q (o :: rest) a (W0.alloc (.cells cs.toArray e)) := by
  obtain ⟨i, z, hi, hz0, hz1, hz2, hz3⟩ := T.ex
  refine wpList_append_own _ hgd s x t ho B e i z sz bytes T.ht hi hz0 hz1 hz2 hz3 T.pos v n xs hs (hown.alloc _) ⟨g, 0, none⟩ 1 1 cs hx (by omega) (cells_at W0 g cs e hg) h1 (by unfold maxLen; omega) ?_ (by simp; omega) ?_
  · have : (n + 1) * bytes ≤ 1048576 * 1048576 := Nat.mul_le_mul hn hby
    omega
  · intro v' w' ho' hgr _
    exact h v' w' ho' ((World.grownBy_alloc W0 _ _).trans hgr)

/-- As wpList_pushes; what is kept comes as 'grownBy'. -/
theorem wpList_pushesG {P : Program} {ops : Array Oper} {rest : List Oper} {o : Oper} {a : Act} {Q : Exit → Act → World → Prop} {t e : TypeId} {sz bytes : Nat} (T : ST P t e sz bytes) (hgd : o.guard = none) (s x : Operand)
    (ho : o.op = .call { callee := .builtin .append, args := #[s, x], argTypes := #[t, t] })
    {B : Nat} {W : World} (v : Value) {n : Nat} {xs : List Value} (hs : a.eval s = v) (hown : W.ownsRow B e sz v n xs)
    {B' m c : Nat} {A : Option Addr} {ys : List Value} (hx : a.eval x = .slice A m c) (hr : Rd W B' sz A m c ys) (h1 : ∀ u ∈ ys, u.oneCell' = true)
    (hn : n + m ≤ 1048576) (hby : bytes ≤ 1048576) (hB : B ≤ W.heap.size)
    (h : ∀ v' w', w'.ownsRow B e sz v' (n + m) (xs ++ ys) → W.grownBy w' v.ownBlock → wpList P ops Q rest (a.put o.dst v') w') :
    wpList P ops Q (o :: rest) a W := by
  obtain ⟨i, z, hi, hz0, hz1, hz2, hz3⟩ := T.ex
  have hbyt : (n + m) * bytes ≤ 140737488355328 := by
    have : (n + m) * bytes ≤ 1048576 * 1048576 := Nat.mul_le_mul hn hby
    omega
  have key : ∃ v' w', (Builtin.append_ #[t, t] o.type #[v, .slice A m c]).run P W = .ok v' w' ∧ w'.ownsRow B e sz v' (n + m) (xs ++ ys) ∧ W.grownBy w' v.ownBlock := by
    by_cases hm : m = 0
    · subst hm
      have hy : ys = [] := List.eq_nil_of_length_eq_zero (by simpa using hr.len)
      subst hy
      rcases A with _ | ad
      · refine ⟨v, W, ?_, by simpa using hown, World.grownBy.refl W _⟩
        rcases hown.2 with ⟨rfl, rfl⟩ | ⟨g, cap, cur, rfl, _, _, hnc, _⟩
        · simp [Builtin.append_, run_underlying T.ht, sizeOf, typeInfo, hi, Builtin.lenOf, Builtin.firstCells]
        · simp [Builtin.append_, run_underlying T.ht, sizeOf, typeInfo, hi, Builtin.lenOf, Builtin.firstCells, hnc, storeCells]
      · obtain ⟨v', w', hr', h2, h3, _⟩ := run_append_own (P := P) W B t o.type e i z sz bytes T.ht hi hz0 hz1 hz2 hz3 T.pos v n xs hown ad 0 c [] (by simp) (by simp) (by simp) (by unfold maxLen; omega) hbyt hB
        exact ⟨v', w', hr', h2, h3⟩
    · obtain ⟨b, off, rfl, hbb, hc⟩ := hr.at_ (by omega)
      obtain ⟨v', w', hr', h2, h3, _⟩ := run_append_own (P := P) W B t o.type e i z sz bytes T.ht hi hz0 hz1 hz2 hz3 T.pos v n xs hown ⟨b, off, none⟩ m c ys hr.len (fun j u hu => by rw [add_none]; exact hc j u hu) h1 (by unfold maxLen; omega) hbyt hB
      exact ⟨v', w', hr', h2, h3⟩
  obtain ⟨v', w', hrun, ho', hgr⟩ := key
  refine wpList_plain hgd fun K hK => ?_
  unfold Oper.wp execOp
  simp only [ho, resolve, invoke, builtin, Sem.run_bind, Sem.run_pure, Result.andThen_ok, List.map_toArray, List.map_cons, List.map_nil, hs, hx, hrun]
  exact hK _ _ (h v' w' ho' hgr)
/-- 'append', where its run is known. -/
theorem wp_append {P : Program} {o : Oper} {a : Act} {W : World} {K : Act → World → Prop} {Q : Exit → Act → World → Prop} (t : TypeId) (ty : TypeId) (s x : Operand) (ho : o.op = .call { callee := .builtin .append, args := #[s, x], argTypes := #[t, t] } ∧ o.type = ty) (v xv : Value) (hs : a.eval s = v) (hx : a.eval x = xv) (v' : Value) (w' : World)
    (hrun : (Builtin.append_ #[t, t] ty #[v, xv]).run P W = .ok v' w') (h : K (a.put o.dst v') w') : o.wp P a W K Q := by
  obtain ⟨h1, rfl⟩ := ho
  unfold Oper.wp execOp
  simp only [h1, resolve, invoke, builtin, Sem.run_bind, Sem.run_pure, Result.andThen_ok, List.map_toArray, List.map_cons, List.map_nil, hs, hx, hrun]
  exact h
/-- The same as a run. -/
theorem run_pushG {P : Program} {t e : TypeId} {sz bytes : Nat} (T : ST P t e sz bytes) (ty : TypeId) {B : Nat} {W0 : World} (v : Value) {n : Nat} {xs : List Value} (hown : W0.ownsRow B e sz v n xs)
    (cs : List Value) (g : Nat) (hg : g = W0.heap.size) (hl : cs.length = sz) (h1 : ∀ u ∈ cs, u.oneCell' = true) (hn : n + 1 ≤ 1048576) (hby : bytes ≤ 1048576) (hB : B ≤ W0.heap.size) :
    ∃ v' w', (Builtin.append_ #[t, t] ty #[v, .slice (some ⟨g, 0, none⟩) 1 1]).run P (W0.alloc (.cells cs.toArray e)) = .ok v' w' ∧ w'.ownsRow B e sz v' (n + 1) (xs ++ cs) ∧ W0.grownBy w' v.ownBlock := by
  obtain ⟨i, z, hi, hz0, hz1, hz2, hz3⟩ := T.ex
  have hbyt : (n + 1) * bytes ≤ 140737488355328 := by
    have : (n + 1) * bytes ≤ 1048576 * 1048576 := Nat.mul_le_mul hn hby
    omega
  obtain ⟨v', w', hr', h2, h3, _⟩ := run_append_own (P := P) (W0.alloc (.cells cs.toArray e)) B t ty e i z sz bytes T.ht hi hz0 hz1 hz2 hz3 T.pos v n xs (hown.alloc _) ⟨g, 0, none⟩ 1 1 cs (by omega) (cells_at W0 g cs e hg) h1 (by unfold maxLen; omega) hbyt (by simp; omega)
  exact ⟨v', w', hr', h2, (World.grownBy_alloc W0 _ _).trans h3⟩
/-- Rows of different element types lie apart. -/
theorem own_apart {w : World} {B1 B2 : Nat} {e1 e2 : TypeId} {s1 s2 n1 n2 : Nat} {v1 v2 : Value} {xs ys : List Value} (h1 : w.ownsRow B1 e1 s1 v1 n1 xs) (h2 : w.ownsRow B2 e2 s2 v2 n2 ys) (he : e1 ≠ e2) : v2.ownBlock = none ∨ v2.ownBlock ≠ v1.ownBlock := by
  rcases h2.2 with ⟨rfl, _⟩ | ⟨g2, c2, cur2, rfl, _, hk2, _⟩
  · exact .inl rfl
  · refine .inr fun e => ?_
    rcases h1.2 with ⟨rfl, _⟩ | ⟨g1, c1, cur1, rfl, _, hk1, _⟩
    · cases e
    · have : g2 = g1 := by simpa [Value.ownBlock] using e
      subst this
      rw [hk1] at hk2
      simp only [Option.some.injEq, Obj.cells.injEq] at hk2
      exact he hk2.2.1
/-- A row's block is none of another element type. -/
theorem own_not {w : World} {B : Nat} {e t : TypeId} {s n g : Nat} {v : Value} {xs : List Value} {cs : Array Value} {fr : Nat × Nat} (h : w.ownsRow B e s v n xs) (hg : w.heap[g]? = some (.cells cs t fr)) (he : e ≠ t) : some g ≠ v.ownBlock := by
  rcases h.2 with ⟨rfl, _⟩ | ⟨g1, c1, cur1, rfl, _, hk1, _⟩
  · intro e; cases e
  · intro e
    have : g = g1 := by simpa [Value.ownBlock] using e
    subst this
    rw [hk1] at hg
    simp only [Option.some.injEq, Obj.cells.injEq] at hg
    exact he hg.2.1
/-- A row of the call's own, behind a part that turns nothing that was there. -/
theorem own_below {w w' : World} {B : Nat} {e : TypeId} {sz n : Nat} {v : Value} {xs : List Value} (h : w.ownsRow B e sz v n xs) (hb : Below w.heap.size w w') : w'.ownsRow B e sz v n xs :=
  h.kept (row := none) ⟨hb.os, hb.tape, hb.output, hb.size, fun k hk _ => hb.block k hk⟩ (by cases hv : v.ownBlock <;> simp)
theorem grownBy_set (W : World) (b i : Nat) (v : Value) : W.grownBy (W.setCell ⟨b, i, none⟩ v) (some b) :=
  ⟨rfl, rfl, rfl, by simp [World.setCell], fun k _ hne => heap_setCell_other W ⟨b, i, none⟩ k v (fun e => hne (by rw [e]))⟩
/-- A struct of four cells in a block, its third and its fourth cell set. -/
theorem blk_set2 {w : World} {g : Nat} {a b c d : Value} {t : TypeId} (h : w.heap[g]? = some (.cells #[a, b, c, d] t (0, 0))) (v : Value) : (w.setCell ⟨g, 2, none⟩ v).heap[g]? = some (.cells #[a, b, v, d] t (0, 0)) := heap_setCell_same w g 2 _ t v h
theorem blk_set3 {w : World} {g : Nat} {a b c d : Value} {t : TypeId} (h : w.heap[g]? = some (.cells #[a, b, c, d] t (0, 0))) (v : Value) : (w.setCell ⟨g, 3, none⟩ v).heap[g]? = some (.cells #[a, b, c, v] t (0, 0)) := heap_setCell_same w g 3 _ t v h
theorem blk_set0 {w : World} {g : Nat} {a b c d : Value} {t : TypeId} (h : w.heap[g]? = some (.cells #[a, b, c, d] t (0, 0))) (v : Value) : (w.setCell ⟨g, 0, none⟩ v).heap[g]? = some (.cells #[v, b, c, d] t (0, 0)) := heap_setCell_same w g 0 _ t v h
theorem blk_set1 {w : World} {g : Nat} {a b c d : Value} {t : TypeId} (h : w.heap[g]? = some (.cells #[a, b, c, d] t (0, 0))) (v : Value) : (w.setCell ⟨g, 1, none⟩ v).heap[g]? = some (.cells #[a, v, c, d] t (0, 0)) := heap_setCell_same w g 1 _ t v h
end Go.Proofs.YtibakihcicfeoaaGreat
