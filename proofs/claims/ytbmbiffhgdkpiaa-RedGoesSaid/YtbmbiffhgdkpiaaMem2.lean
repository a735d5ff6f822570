/- More words for memory: an append that keeps whole blocks, a string's iterator. No condition. -/
import Derived.Test.YtbmbiffhgdkpiaaMem
import Derived.Lib.OthersKept
import Derived.WalkSmall
namespace Go.Proofs.Ytbmbiffhgdkpiaa
open Go.RowKit

/-- As wpList_push, and every other block stands as it stood. -/
theorem wpList_pushB {P : Program} {ops : Array Oper} {rest : List Oper} {o : Oper} {a : Act} {Q : Exit → Act → World → Prop} {t e : TypeId} {sz bytes : Nat} (T : ST P t e sz bytes) (hgd : o.guard = none) (s x : Operand)
    (ho : o.op = .call { callee := .builtin .append, args := #[s, x], argTypes := #[t, t] })
    {B C : Nat} {w W0 : World} (v : Value) {n : Nat} {xs : List Value} (hs : a.eval s = v) (hown : W0.ownsRow B e sz v n xs)
    (cs : List Value) (g : Nat) (hx : a.eval x = .slice (some ⟨g, 0, none⟩) 1 1) (hg : g = W0.heap.size) (hl : cs.length = sz) (h1 : ∀ u ∈ cs, u.oneCell' = true)
    (hn : n + 1 ≤ 1048576) (hby : bytes ≤ 1048576) (hb : Below C w W0) (hB : B ≤ W0.heap.size) (hC : C ≤ B)
    (h : ∀ v' w', w'.ownsRow B e sz v' (n + 1) (xs ++ cs) → Below C w w' → (∀ k ob, W0.heap[k]? = some ob → some k ≠ v.ownBlock → w'.heap[k]? = some ob) → wpList P ops Q rest (a.put o.dst v') w') :
    wpList P ops Q (o :: rest) a (W0.alloc (.cells cs.toArray e)) := by
  obtain ⟨i, z, hi, hz0, hz1, hz2, hz3⟩ := T.ex
  refine wpList_append_own _ hgd s x t ho B e i z sz bytes T.ht hi hz0 hz1 hz2 hz3 T.pos v n xs hs (hown.alloc _) ⟨g, 0, none⟩ 1 1 cs hx (by omega) (cells_at W0 g cs e hg) h1 (by unfold maxLen; omega) ?_ (by simp; omega) ?_
  · have : (n + 1) * bytes ≤ 1048576 * 1048576 := Nat.mul_le_mul hn hby
    omega
  · intro v' w' ho' hgr _
    have hsz := hb.size
    refine h v' w' ho' ((hb.alloc (by omega) _).grown hgr (by simp; omega) fun k hk => ?_) ?_
    · have := (hown.lt k hk).1; omega
    · intro k ob hk hne
      have hlt : k < W0.heap.size := (Array.getElem?_eq_some_iff.1 hk).1
      rw [hgr.block k (by simp; omega) hne, Below.heap_alloc W0 _ k hlt, hk]

/-- As wpList_pushes, and every other block stands as it stood. -/
theorem wpList_pushesB {P : Program} {ops : Array Oper} {rest : List Oper} {o : Oper} {a : Act} {Q : Exit → Act → World → Prop} {t e : TypeId} {sz bytes : Nat} (T : ST P t e sz bytes) (hgd : o.guard = none) (s x : Operand)
    (ho : o.op = .call { callee := .builtin .append, args := #[s, x], argTypes := #[t, t] })
    {B C : Nat} {w W : World} (v : Value) {n : Nat} {xs : List Value} (hs : a.eval s = v) (hown : W.ownsRow B e sz v n xs)
    {B' m c : Nat} {A : Option Addr} {ys : List Value} (hx : a.eval x = .slice A m c) (hr : Rd W B' sz A m c ys) (h1 : ∀ u ∈ ys, u.oneCell' = true)
    (hn : n + m ≤ 1048576) (hby : bytes ≤ 1048576) (hb : Below C w W) (hB : B ≤ W.heap.size) (hC : C ≤ B)
    (h : ∀ v' w', w'.ownsRow B e sz v' (n + m) (xs ++ ys) → Below C w w' → (∀ k ob, W.heap[k]? = some ob → some k ≠ v.ownBlock → w'.heap[k]? = some ob) → wpList P ops Q rest (a.put o.dst v') w') :
    wpList P ops Q (o :: rest) a W := by
  obtain ⟨i, z, hi, hz0, hz1, hz2, hz3⟩ := T.ex
  have hbyt : (n + m) * bytes ≤ 140737488355328 := by
    have : (n + m) * bytes ≤ 1048576 * 1048576 := Nat.mul_le_mul hn hby
    omega
  have key : ∃ v' w', (Builtin.append_ #[t, t] o.type #[v, .slice A m c]).run P W = .ok v' w' ∧ w'.ownsRow B e sz v' (n + m) (xs ++ ys) ∧ W.grownBy w' v.ownBlock := by
    by_cases hm : m = 0
    · subst hm
      have hy : ys = [] := List.eq_nil_of_length_eq_zero (by simpa using hr.len)
      subst hy
      rcases A with _ | ad
      · refine ⟨v, W, ?_, by simpa using hown, World.grownBy.refl W _⟩
        rcases hown.2 with ⟨rfl, rfl⟩ | ⟨g, cap, cur, rfl, _, _, hnc, _⟩
        · simp [Builtin.append_, run_underlying T.ht, sizeOf, typeInfo, hi, Builtin.lenOf, Builtin.firstCells]
        · simp [Builtin.append_, run_underlying T.ht, sizeOf, typeInfo, hi, Builtin.lenOf, Builtin.firstCells, hnc, storeCells]
      · obtain ⟨v', w', hr', h2, h3, _⟩ := run_append_own (P := P) W B t o.type e i z sz bytes T.ht hi hz0 hz1 hz2 hz3 T.pos v n xs hown ad 0 c [] (by simp) (by simp) (by simp) (by unfold maxLen; omega) hbyt hB
        exact ⟨v', w', hr', h2, h3⟩
    · obtain ⟨b, off, rfl, hbb, hc⟩ := hr.at_ (by omega)
      obtain ⟨v', w', hr', h2, h3, _⟩ := run_append_own (P := P) W B t o.type e i z sz bytes T.ht hi hz0 hz1 hz2 hz3 T.pos v n xs hown ⟨b, off, none⟩ m c ys hr.len (fun j u hu => by rw [add_none]; exact hc j u hu) h1 (by unfold maxLen; omega) hbyt hB
      exact ⟨v', w', hr', h2, h3⟩
  obtain ⟨v', w', hrun, ho', hgr⟩ := key
  refine wpList_plain hgd fun K hK => ?_
  unfold Oper.wp execOp
  simp only [ho, resolve, invoke, builtin, Sem.run_bind, Sem.run_pure, Result.andThen_ok, List.map_toArray, List.map_cons, List.map_nil, hs, hx, hrun]
  refine hK _ _ (h v' w' ho' (hb.grown hgr (by have := hb.size; omega) fun k hk => ?_) fun k ob hk hne => ?_)
  · have := (hown.lt k hk).1; omega
  · rw [hgr.block k (Array.getElem?_eq_some_iff.1 hk).1 hne, hk]

/-- A string's iterator in block g, one round on: its run, and what the world is good for behind it. -/
theorem iter_on {P : Program} {w wr : World} {g B C : Nat} {s : ByteArray} {p : Nat} {e : TypeId} {sz n : Nat} {v : Value} {xs : List Value} (hk : wr.heap[g]? = some (.stringIter s p)) (hp : p < s.size)
    (hown : wr.ownsRow B e sz v n xs) (hg : g < B) (hb : Below C w wr) (hC : C ≤ g) :
    ∃ W1 : World, (∀ ty, (Instr.next (.pointer (some ⟨g, 0, none⟩)) true ty).run P wr = .ok (.tuple #[.bool true, .int .i64 p, .int .i32 (Utf8.decode s p).1]) W1) ∧
      W1.heap[g]? = some (.stringIter s (p + (Utf8.decode s p).2)) ∧ W1.ownsRow B e sz v n xs ∧ Below C w W1 ∧ W1.heap.size = wr.heap.size :=
  ⟨_, fun ty => Lib.run_next_any_at wr g s p ty hk hp, Lib.iterAt_heap wr g s p _ hk, ownsRow_iterAt hown hg s _, Lib.below_iterAt hb hC s _, Lib.iterAt_size wr g s _⟩
end Go.Proofs.Ytbmbiffhgdkpiaa
