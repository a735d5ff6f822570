/- Words for memory that the walks of this seat share: a slice that reads as a list of cells ('Rd'), what keeps it, and small laws on rows that the call owns. No condition. -/
import Derived.WalkKit
import Derived.WalkSpells
import Derived.WalkLawsBesides
import Derived.Deep.QuietTactic
import Derived.BigQuiet
import Derived.StillTailTactics
import Derived.Deep.DeepFit
import Derived.Deep.DeepCutAuto
import Derived.Deep.AppendLies
import Derived.Deep.RegionHeld3
import Derived.Deep.Draws
import Derived.Lib.Hide
namespace Go.Proofs.Ytbmbiffhgdkpiaa
open Go.RowKit

@[go_sem] theorem setCell_drewN_ (w : World) (n : Nat) (a : Addr) (v : Value) : (w.drewN n).setCell a v = (w.setCell a v).drewN n := rfl
theorem block_of_add (a : Addr) (n : Nat) : (a.add n).block = a.block := by unfold Addr.add; split <;> rfl
theorem add_none (b off i : Nat) : (⟨b, off, none⟩ : Addr).add i = ⟨b, off + i, none⟩ := by
  unfold Addr.add
  by_cases hi : i = 0 <;> simp [hi]

/-- The slice value '.slice A n c' holds the cells xs (n elements of sz cells each) and lies below block B. -/
structure Rd (w : World) (B sz : Nat) (A : Option Addr) (n c : Nat) (xs : List Value) : Prop where
  len : xs.length = n * sz
  cap : n ≤ c
  max : c ≤ maxLen
  at_ : 0 < n → ∃ b off, A = some ⟨b, off, none⟩ ∧ b < B ∧ ∀ j u, xs[j]? = some u → w.cell? ⟨b, off + j, none⟩ = some u

section
variable {w w' : World} {B B' sz n c : Nat} {A : Option Addr} {xs : List Value}
theorem Rd.keep (h : Rd w B sz A n c xs) (hk : ∀ p : Addr, p.block < B → w'.cell? p = w.cell? p) : Rd w' B sz A n c xs :=
  ⟨h.len, h.cap, h.max, fun hn => by
    obtain ⟨b, off, e, hb, hc⟩ := h.at_ hn
    exact ⟨b, off, e, hb, fun j u hu => (hk _ hb).trans (hc j u hu)⟩⟩
theorem Rd.more (h : Rd w B sz A n c xs) (hB : B ≤ B') : Rd w B' sz A n c xs :=
  ⟨h.len, h.cap, h.max, fun hn => by
    obtain ⟨b, off, e, hb, hc⟩ := h.at_ hn
    exact ⟨b, off, e, by omega, hc⟩⟩
theorem Rd.below (h : Rd w B sz A n c xs) (hb : Below B w w') : Rd w' B sz A n c xs := h.keep fun _ hp => hb.cell hp
theorem Rd.belowAt (h : Rd w B sz A n c xs) (hb : Below B' w w') (hB : B ≤ B') : Rd w' B sz A n c xs := h.below (hb.mono hB)
/-- Kept over a part that turns nothing that was there, read anew at the new world's end. -/
theorem Rd.on (h : Rd w w.heap.size sz A n c xs) (hb : Below w.heap.size w w') : Rd w' w'.heap.size sz A n c xs := (h.below hb).more hb.size
theorem Rd.drew (h : Rd w B sz A n c xs) : Rd w.drew B sz A n c xs := h.keep fun _ _ => rfl
theorem Rd.drewN (h : Rd w B sz A n c xs) (k : Nat) : Rd (w.drewN k) B sz A n c xs := h.keep fun _ _ => rfl
theorem Rd.alloc (h : Rd w B sz A n c xs) (hB : B ≤ w.heap.size) (o : Obj) : Rd (w.alloc o) B sz A n c xs := h.keep fun p hp => World.cell?_alloc_lt w o p (by omega)
theorem Rd.setCell (h : Rd w B sz A n c xs) {p : Addr} (hB : B ≤ p.block) (u : Value) : Rd (w.setCell p u) B sz A n c xs :=
  h.keep fun q hq => World.cell?_setCell_other w p q u (fun e => by subst e; omega)
theorem Rd.of_own {base : Nat} {e : TypeId} (h : w.ownsRow base e sz (.slice A n c) n xs) : Rd w w.heap.size sz A n c xs := by
  obtain ⟨hl, hn | ⟨g, cap, cur, hv, hb, hg, hnc, hcm, hcs, htk⟩⟩ := h
  · obtain ⟨hv, rfl⟩ := hn
    injection hv with h1 h2 h3
    subst h1; subst h3
    exact ⟨hl, by omega, by simp only [maxLen]; omega, fun h => absurd h (by omega)⟩
  · injection hv with h1 h2 h3
    subst h1; subst h3
    refine ⟨hl, hnc, hcm, fun _ => ⟨g, 0, rfl, (Array.getElem?_eq_some_iff.1 hg).1, fun j u hu => ?_⟩⟩
    have := World.ownsRow.cells (w := w) (base := base) (e := e) (size := sz) (v := .slice (some ⟨g, 0, none⟩) n c) (n := n) (xs := xs)
      ⟨hl, .inr ⟨g, c, cur, rfl, hb, hg, hnc, hcm, hcs, htk⟩⟩ (g := g) rfl j u hu
    rw [add_none] at this
    exact this
/-- What an owned row looks like as a value. -/
theorem own_form {base : Nat} {e : TypeId} {v : Value} (h : w.ownsRow base e sz v n xs) : ∃ A c, v = .slice A n c ∧ w.ownsRow base e sz (.slice A n c) n xs := by
  obtain ⟨hl, hn | ⟨g, cap, cur, hv, rest⟩⟩ := id h
  · obtain ⟨rfl, rfl⟩ := hn
    exact ⟨none, 0, rfl, h⟩
  · subst hv
    exact ⟨_, _, rfl, h⟩
theorem Rd.nil_ : Rd w B sz none 0 0 [] := ⟨by simp, by omega, by simp only [maxLen]; omega, fun h => absurd h (by omega)⟩
theorem Rd.take {k : Nat} (h : Rd w B sz A n c xs) (hk : k ≤ n) : Rd w B sz A k c (xs.take (k * sz)) :=
  ⟨by rw [List.length_take, h.len]; have := Nat.mul_le_mul_right sz hk; omega, by have := h.cap; omega, h.max, fun hn => by
    obtain ⟨b, off, e, hb, hc⟩ := h.at_ (by omega)
    refine ⟨b, off, e, hb, fun j u hu => hc j u ?_⟩
    rw [List.getElem?_take] at hu
    split at hu
    · exact hu
    · cases hu⟩
/-- A cut, as the model spells it. -/
theorem Rd.cut {l k m : Nat} (h : Rd w B sz A n c xs) (hl : l ≤ k) (hk : k ≤ n) (hm : m ≤ c) (hkm : k ≤ m) :
    Rd w B sz (if m = l then A else A.map (·.add (l * sz))) (k - l) (m - l) ((xs.drop (l * sz)).take ((k - l) * sz)) := by
  refine ⟨?_, by omega, by have := h.max; omega, fun hn => ?_⟩
  · rw [List.length_take, List.length_drop, h.len, ← Nat.sub_mul]
    have := Nat.mul_le_mul_right sz (show k - l ≤ n - l by omega)
    omega
  · obtain ⟨b, off, rfl, hb, hc⟩ := h.at_ (by omega)
    rw [if_neg (by omega)]
    refine ⟨b, off + l * sz, by simp [add_none], hb, fun j u hu => ?_⟩
    rw [Nat.add_assoc]
    refine hc _ u ?_
    rw [List.getElem?_take] at hu
    split at hu
    · rw [List.getElem?_drop] at hu; exact hu
    · cases hu
end

/-- The number at a place; a name that simp does not open. -/
def gz (zs : List Int) (j : Nat) : Int := zs.getD j 0

/-- A list of integers as cells. -/
abbrev ints (k : IntKind) (zs : List Int) : List Value := zs.map (Value.int k)

theorem ints_get (k : IntKind) (zs : List Int) (j : Nat) (h : j < zs.length) : (ints k zs)[j]? = some (.int k (gz zs j)) := by
  simp [gz, ints, List.getElem?_map, List.getElem?_eq_getElem h, List.getD_eq_getElem?_getD]

/-- An integer slice with an element: where it lies, and each cell. -/
theorem Rd.int_form {w : World} {B n c : Nat} {A : Option Addr} {k : IntKind} {zs : List Int} (h : Rd w B 1 A n c (ints k zs)) (hn : 0 < n) :
    ∃ b off, A = some ⟨b, off, none⟩ ∧ b < B ∧ ∀ j, j < n → w.cell? ⟨b, off + j, none⟩ = some (.int k (gz zs j)) := by
  obtain ⟨b, off, e, hb, hc⟩ := h.at_ hn
  refine ⟨b, off, e, hb, fun j hj => hc j _ (ints_get k zs j ?_)⟩
  have := h.len
  simp at this
  omega
theorem Rd.int_len {w : World} {B n c : Nat} {A : Option Addr} {k : IntKind} {zs : List Int} (h : Rd w B 1 A n c (ints k zs)) : zs.length = n := by
  have := h.len
  simpa using this
theorem ret_int {k : IntKind} {a b : Int} (h : a = b) : Ending.returned (.int k a) = .returned (.int k b) := by rw [h]
theorem ret_bool {a b : Bool} (h : a = b) : Ending.returned (.bool a) = .returned (.bool b) := by rw [h]

theorem cells_at (W : World) (g : Nat) (cs : List Value) (t : TypeId) (hg : g = W.heap.size) : ∀ (j : Nat) (u : Value), cs[j]? = some u → (W.alloc (.cells cs.toArray t)).cell? ((⟨g, 0, none⟩ : Addr).add j) = some u := by
  subst hg
  intro j u hu
  rw [add_none, cell_of_row (W.alloc (.cells cs.toArray t)) W.heap.size (0 + j) cs.toArray t (0, 0) (heap_alloc_new W _)]
  simpa using hu
theorem Below.drewN_ {B : Nat} {a w : World} (h : Below B a w) (k : Nat) : Below B a (w.drewN k) := ⟨h.os, h.tape, h.output, h.size, h.block⟩
theorem own_drewN {w : World} {base : Nat} {e : TypeId} {sz n : Nat} {v : Value} {xs : List Value} (h : w.ownsRow base e sz v n xs) (k : Nat) : (w.drewN k).ownsRow base e sz v n xs := h
/-- Behind an append onto a row of the call's own. -/
theorem below_append {B : Nat} {w W w1 : World} {e : TypeId} {sz n : Nat} {v : Value} {xs : List Value} (hb : Below B w W) (hB : B ≤ W.heap.size) (hown : W.ownsRow B e sz v n xs) (hg : W.grownBy w1 v.ownBlock) : Below B w w1 :=
  hb.grown hg hB fun k hk => (hown.lt k hk).1
theorem own_as {w : World} {base : Nat} {e : TypeId} {sz n m : Nat} {v : Value} {xs ys : List Value} (h : w.ownsRow base e sz v n xs) (hn : n = m) (hx : xs = ys) : w.ownsRow base e sz v m ys := by subst hn; subst hx; exact h

/-- A cell of a block that is not the row's, behind an append onto the row. -/
theorem cell_grown {w0 W w1 : World} {base : Nat} {e : TypeId} {sz n : Nat} {v : Value} {xs : List Value} {g i : Nat} {u : Value} (hown : w0.ownsRow base e sz v n xs) (hg : W.grownBy w1 v.ownBlock) (hgt : w0.heap.size ≤ g) (hc : W.cell? ⟨g, i, none⟩ = some u) : w1.cell? ⟨g, i, none⟩ = some u :=
  hg.cell hc fun h => by have := (hown.lt g h.symm).2; omega
theorem cell_in (W : World) (g i : Nat) (cs : Array Value) (t : TypeId) (hg : g = W.heap.size) : (W.alloc (.cells cs t)).cell? ⟨g, i, none⟩ = cs[i]? := by
  subst hg
  exact cell_of_row (W.alloc (.cells cs t)) W.heap.size i cs t (0, 0) (heap_alloc_new W _)
theorem cell_old (W : World) (g i : Nat) (o : Obj) (u : Value) (hc : W.cell? ⟨g, i, none⟩ = some u) : (W.alloc o).cell? ⟨g, i, none⟩ = some u := by
  rw [World.cell?_alloc_lt W o ⟨g, i, none⟩ (World.block_lt_of_cell? W _ hc)]; exact hc

/-- What the laws on append ask of a slice type t over e: e's cells and bytes. -/
structure ST (P : Program) (t e : TypeId) (sz bytes : Nat) : Prop where
  ht : P.underlying t = some (.slice e)
  ex : ∃ (i : TypeInfo) (z : Value), P.info? e = some i ∧ i.zero = some z ∧ i.size = sz ∧ i.bytes = bytes ∧ z.cells.size = sz
  pos : 0 < sz
theorem ST.mk' {P : Program} {t e : TypeId} {sz bytes : Nat} {z : Value} (ht : P.underlying t = some (.slice e)) (h : (P.info? e).map (fun i => (i.zero, i.size, i.bytes)) = some (some z, sz, bytes)) (hz : z.cells.size = sz) (pos : 0 < sz) : ST P t e sz bytes := by
  obtain ⟨i, h1, h2, h3, h4⟩ := info_parts h
  exact ⟨ht, ⟨i, z, h1, h2, h3, h4, hz⟩, pos⟩

/-- 'append(out, x)', one element of whatever cells, onto a row of the call's own. -/
theorem wpList_push {P : Program} {ops : Array Oper} {rest : List Oper} {o : Oper} {a : Act} {Q : Exit → Act → World → Prop} {t e : TypeId} {sz bytes : Nat} (T : ST P t e sz bytes) (hgd : o.guard = none) (s x : Operand)
    (ho : o.op = .call { callee := .builtin .append, args := #[s, x], argTypes := #[t, t] })
    {B : Nat} {w W0 : World} (v : Value) {n : Nat} {xs : List Value} (hs : a.eval s = v) (hown : W0.ownsRow B e sz v n xs)
    (cs : List Value) (g : Nat) (hx : a.eval x = .slice (some ⟨g, 0, none⟩) 1 1) (hg : g = W0.heap.size) (hl : cs.length = sz) (h1 : ∀ u ∈ cs, u.oneCell' = true)
    (hn : n + 1 ≤ 1048576) (hby : bytes ≤ 1048576) (hb : Below B w W0) (hB : B ≤ W0.heap.size)
    (h : ∀ v' w', w'.ownsRow B e sz v' (n + 1) (xs ++ cs) → Below B w w' → (∀ p u, W0.cell? p = some u → some p.block ≠ v.ownBlock → w'.cell? p = some u) → wpList P ops Q rest (a.put o.dst v') w') :
    wpList P ops Q (o :: rest) a (W0.alloc (.cells cs.toArray e)) := by
  obtain ⟨i, z, hi, hz0, hz1, hz2, hz3⟩ := T.ex
  refine wpList_append_own _ hgd s x t ho B e i z sz bytes T.ht hi hz0 hz1 hz2 hz3 T.pos v n xs hs (hown.alloc _) ⟨g, 0, none⟩ 1 1 cs hx (by omega) (cells_at W0 g cs e hg) h1 (by unfold maxLen; omega) ?_ (by simp; omega) ?_
  · have : (n + 1) * bytes ≤ 1048576 * 1048576 := Nat.mul_le_mul hn hby
    omega
  · intro v' w' ho' hgr _
    refine h v' w' ho' (below_append (hb.alloc hB _) (by simp; omega) (hown.alloc _) hgr) ?_
    intro p u hu hne
    refine hgr.cell ?_ hne
    rw [World.cell?_alloc_lt W0 _ p (World.block_lt_of_cell? W0 _ hu)]
    exact hu

/-- 'append(out, xs...)', the source a slice that reads so: nil, empty or not. -/
theorem wpList_pushes {P : Program} {ops : Array Oper} {rest : List Oper} {o : Oper} {a : Act} {Q : Exit → Act → World → Prop} {t e : TypeId} {sz bytes : Nat} (T : ST P t e sz bytes) (hgd : o.guard = none) (s x : Operand)
    (ho : o.op = .call { callee := .builtin .append, args := #[s, x], argTypes := #[t, t] })
    {B : Nat} {w W : World} (v : Value) {n : Nat} {xs : List Value} (hs : a.eval s = v) (hown : W.ownsRow B e sz v n xs)
    {B' m c : Nat} {A : Option Addr} {ys : List Value} (hx : a.eval x = .slice A m c) (hr : Rd W B' sz A m c ys) (h1 : ∀ u ∈ ys, u.oneCell' = true)
    (hn : n + m ≤ 1048576) (hby : bytes ≤ 1048576) (hb : Below B w W) (hB : B ≤ W.heap.size)
    (h : ∀ v' w', w'.ownsRow B e sz v' (n + m) (xs ++ ys) → Below B w w' → (∀ p u, W.cell? p = some u → some p.block ≠ v.ownBlock → w'.cell? p = some u) → wpList P ops Q rest (a.put o.dst v') w') :
    wpList P ops Q (o :: rest) a W := by
  obtain ⟨i, z, hi, hz0, hz1, hz2, hz3⟩ := T.ex
  have hbyt : (n + m) * bytes ≤ 140737488355328 := by
    have : (n + m) * bytes ≤ 1048576 * 1048576 := Nat.mul_le_mul hn hby
    omega
  have key : ∃ v' w', (Builtin.append_ #[t, t] o.type #[v, .slice A m c]).run P W = .ok v' w' ∧ w'.ownsRow B e sz v' (n + m) (xs ++ ys) ∧ W.grownBy w' v.ownBlock := by
    by_cases hm : m = 0
    · subst hm
      have hy : ys = [] := List.eq_nil_of_length_eq_zero (by simpa using hr.len)
      subst hy
      rcases A with _ | ad
      · refine ⟨v, W, ?_, by simpa using hown, World.grownBy.refl W _⟩
        rcases hown.2 with ⟨rfl, rfl⟩ | ⟨g, cap, cur, rfl, _, _, hnc, _⟩
        · simp [Builtin.append_, run_underlying T.ht, sizeOf, typeInfo, hi, Builtin.lenOf, Builtin.firstCells]
        · simp [Builtin.append_, run_underlying T.ht, sizeOf, typeInfo, hi, Builtin.lenOf, Builtin.firstCells, hnc, storeCells]
      · obtain ⟨v', w', hr', h2, h3, _⟩ := run_append_own (P := P) W B t o.type e i z sz bytes T.ht hi hz0 hz1 hz2 hz3 T.pos v n xs hown ad 0 c [] (by simp) (by simp) (by simp) (by unfold maxLen; omega) hbyt hB
        exact ⟨v', w', hr', h2, h3⟩
    · obtain ⟨b, off, rfl, hbb, hc⟩ := hr.at_ (by omega)
      obtain ⟨v', w', hr', h2, h3, _⟩ := run_append_own (P := P) W B t o.type e i z sz bytes T.ht hi hz0 hz1 hz2 hz3 T.pos v n xs hown ⟨b, off, none⟩ m c ys hr.len (fun j u hu => by rw [add_none]; exact hc j u hu) h1 (by unfold maxLen; omega) hbyt hB
      exact ⟨v', w', hr', h2, h3⟩
  obtain ⟨v', w', hrun, ho', hgr⟩ := key
  refine wpList_plain hgd fun K hK => ?_
  unfold Oper.wp execOp
  simp only [ho, resolve, invoke, builtin, Sem.run_bind, Sem.run_pure, Result.andThen_ok, List.map_toArray, List.map_cons, List.map_nil, hs, hx, hrun]
  exact hK _ _ (h v' w' ho' (below_append hb hB hown hgr) fun p u hu hne => hgr.cell hu hne)
/-- The row's block is none that was laid later than the row. -/
theorem own_ne {w : World} {B : Nat} {e : TypeId} {sz n : Nat} {v : Value} {xs : List Value} (hown : w.ownsRow B e sz v n xs) {g : Nat} (hg : w.heap.size ≤ g) : some g ≠ v.ownBlock := fun h => by have := (hown.lt g h.symm).2; omega

theorem quiet_add_left {P : Program} {f : FuncId} {args : Array Value} {w : World} {a n : Nat} {v : Value}
    (h : Calls P f args (w.drewN (a + n)) fun e w' => e = .returned v ∧ w.drewN (a + n) = w') :
    Calls P f args (w.drewN (a + n)) fun e w'' => e = .returned v ∧ ∃ m, w'' = w.drewN (a + m) :=
  h.mono fun _ _ ⟨he, hm⟩ => ⟨he, n, hm.symm⟩
theorem quiet_left {P : Program} {f : FuncId} {args : Array Value} {w : World} {n : Nat} {v : Value}
    (h : Calls P f args (w.drewN n) fun e w' => e = .returned v ∧ w.drewN n = w') : Calls P f args (w.drewN n) fun e w'' => e = .returned v ∧ ∃ m, w'' = w.drewN m :=
  h.mono fun _ _ ⟨he, hm⟩ => ⟨he, n, hm.symm⟩
theorem quiet_add {P : Program} {f : FuncId} {args : Array Value} {w : World} {a n : Nat} {v : Value}
    (h : Calls P f args (w.drewN (a + n)) fun e w' => e = .returned v ∧ ∃ m, w' = (w.drewN (a + n)).drewN m) :
    Calls P f args (w.drewN (a + n)) fun e w'' => e = .returned v ∧ ∃ m, w'' = w.drewN (a + m) :=
  h.mono fun _ _ ⟨he, m, hm⟩ => ⟨he, n + m, by rw [hm, World.drewN_drewN, Nat.add_assoc]⟩

/-- A region that draws: its first n operations only read (or call what only reads), the rest comes in one order: walked once, the world under one name. -/
theorem region_tail {P : Program} {id : Nat} {Q : Exit → Act → World → Prop} {a : Act} {w : World} {l : List Oper} (n : Nat) (hm : P.follows .mixedOrders = true) (hB : Region.lexTailB .any l.toArray n = true)
    (h : ∀ W : World, Hid (W = w.drew) → wpStill P l.toArray W (fun a' => wpList P l.toArray Q (l.drop n) a' W) (l.take n) a) : (Code.region id l.toArray true).wp P Q a w :=
  wp_region_still_tail n hm hB (h _ rfl)

/-- Laid at one world ('have hD := fun q o => alloc_drewN w q o'), the walk puts the draws outermost. -/
theorem alloc_drewN (w : World) (q : Nat) (o : Obj) : (w.drewN q).alloc o = (w.alloc o).drewN q := rfl

/-- A slice that was just made of cells written out. -/
theorem Rd.lit (w : World) (cs : List Value) (t : TypeId) (n sz : Nat) (hl : cs.length = n * sz) (hn : n ≤ 1048576) : Rd (w.alloc (.cells cs.toArray t)) (w.alloc (.cells cs.toArray t)).heap.size sz (some ⟨w.heap.size, 0, none⟩) n n cs :=
  ⟨hl, Nat.le_refl _, by unfold maxLen; omega, fun _ => ⟨w.heap.size, 0, rfl, by simp, fun j u hu => by
    rw [cell_in w w.heap.size (0 + j) cs.toArray t rfl]; simpa using hu⟩⟩

/-- What is told of a slice of integers that came in: nil, or a row of 'cap' cells. -/
def IsRow (k : IntKind) (w : World) (a : Option Addr) (len cap : Nat) (zs : List Int) : Prop :=
  (a = none ∧ len = 0 ∧ cap = 0 ∧ zs = []) ∨
  ∃ x, a = some x ∧ len ≤ cap ∧ cap ≤ maxLen ∧ zs.length = cap ∧ (∀ i, i < zs.length → w.cell? (x.add i) = some (.int k (zs.getD i 0))) ∧ ∀ n ∈ zs, (Lit.int k n).wf = true
theorem Rd.of_row {k : IntKind} {w : World} {a : Option Addr} {len cap : Nat} {zs : List Int} (h : IsRow k w a len cap zs) :
    Rd w w.heap.size 1 a len cap (ints k (zs.take len)) ∧ ∀ n ∈ zs.take len, (Lit.int k n).wf = true := by
  rcases h with ⟨rfl, rfl, rfl, rfl⟩ | ⟨x, rfl, hl, hm, hz, hc, hw⟩
  · exact ⟨.nil_, by simp⟩
  · refine ⟨⟨by simp; omega, hl, hm, fun hn => ?_⟩, fun n hn => hw n (List.mem_of_mem_take hn)⟩
    obtain ⟨b, off, spot⟩ := x
    have h0 := hc 0 (by omega)
    have hspot : spot = none := by simpa [Addr.add] using World.cell?_spot h0
    subst hspot
    refine ⟨b, off, rfl, by simpa [Addr.add] using World.block_lt_of_cell? w _ h0, fun j u hu => ?_⟩
    have hj : j < len := by
      rcases Nat.lt_or_ge j len with h | h
      · exact h
      · rw [List.getElem?_eq_none (by simp; omega)] at hu; cases hu
    have hg := ints_get k (zs.take len) j (by simp; omega)
    rw [hg] at hu
    have := hc j (by omega)
    rw [add_none] at this
    rw [this]
    rw [← hu]
    simp [gz, hj, List.getD_eq_getElem?_getD]
end Go.Proofs.Ytbmbiffhgdkpiaa
