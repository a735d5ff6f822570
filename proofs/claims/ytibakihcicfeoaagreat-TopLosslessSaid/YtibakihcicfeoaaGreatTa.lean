/- Words for memory that the walks of this seat share: a slice that reads as a list of cells ('Rd'), what keeps it, and small laws on rows that the call owns. No condition. -/
import Derived.Test.YtibakihcicfeoaaGreatChecked
import Derived.WalkKit
import Derived.WalkSpells
import Derived.WalkLawsBesides
import Derived.Deep.QuietTactic
import Derived.BigQuiet
import Derived.StillTailTactics
import Derived.Deep.DeepFit
import Derived.Deep.DeepCutAuto
import Derived.Deep.AppendLies
import Derived.Deep.RegionHeld3
import Derived.Deep.Draws
import Derived.Lib.Hide
namespace Go.Proofs.YtibakihcicfeoaaGreat
open Go.RowKit

@[go_sem] theorem setCell_drewN_ (w : World) (n : Nat) (a : Addr) (v : Value) : (w.drewN n).setCell a v = (w.setCell a v).drewN n := rfl
theorem block_of_add (a : Addr) (n : Nat) : (a.add n).block = a.block := by unfold Addr.add; split <;> rfl
theorem add_none (b off i : Nat) : (⟨b, off, none⟩ : Addr).add i = ⟨b, off + i, none⟩ := by
  unfold Addr.add
  by_cases hi : i = 0 <;> simp [hi]

/-- The slice value '.slice A n c' holds the cells xs (n elements of sz cells each) and lies below block B. -/
structure Rd (w : World) (B sz : Nat) (A : Option Addr) (n c : Nat) (xs : List Value) : Prop where
  len : xs.length = n * sz
  cap : n ≤ c
  max : c ≤ maxLen
  at_ : 0 < n → ∃ b off, A = some ⟨b, off, none⟩ ∧ b < B ∧ ∀ j u, xs[j]? = some u → w.cell? ⟨b, off + j, none⟩ = some u

section
variable {w w' : World} {B B' sz n c : Nat} {A : Option Addr} {xs : List Value}
theorem Rd.keep (h : Rd w B sz A n c xs) (hk : ∀ p : Addr, p.block < B → w'.cell? p = w.cell? p) : Rd w' B sz A n c xs :=
  ⟨h.len, h.cap, h.max, fun hn => by
    obtain ⟨b, off, e, hb, hc⟩ := h.at_ hn
    exact ⟨b, off, e, hb, fun j u hu => (hk _ hb).trans (hc j u hu)⟩⟩
theorem Rd.more (h : Rd w B sz A n c xs) (hB : B ≤ B') : Rd w B' sz A n c xs :=
  ⟨h.len, h.cap, h.max, fun hn => by
    obtain ⟨b, off, e, hb, hc⟩ := h.at_ hn
    exact ⟨b, off, e, by omega, hc⟩⟩
theorem Rd.below (h : Rd w B sz A n c xs) (hb : Below B w w') : Rd w' B sz A n c xs := h.keep fun _ hp => hb.cell hp
theorem Rd.belowAt (h : Rd w B sz A n c xs) (hb : Below B' w w') (hB : B ≤ B') : Rd w' B sz A n c xs := h.below (hb.mono hB)
/-- Kept over a part that turns nothing that was there, read anew at the new world's end. -/
theorem Rd.on (h : Rd w w.heap.size sz A n c xs) (hb : Below w.heap.size w w') : Rd w' w'.heap.size sz A n c xs := (h.below hb).more hb.size
theorem Rd.drew (h : Rd w B sz A n c xs) : Rd w.drew B sz A n c xs := h.keep fun _ _ => rfl
theorem Rd.drewN (h : Rd w B sz A n c xs) (k : Nat) : Rd (w.drewN k) B sz A n c xs := h.keep fun _ _ => rfl
theorem Rd.alloc (h : Rd w B sz A n c xs) (hB : B ≤ w.heap.size) (o : Obj) : Rd (w.alloc o) B sz A n c xs := h.keep fun p hp => World.cell?_alloc_lt w o p (by omega)
theorem Rd.setCell (h : Rd w B sz A n c xs) {p : Addr} (hB : B ≤ p.block) (u : Value) : Rd (w.setCell p u) B sz A n c xs :=
  h.keep fun q hq => World.cell?_setCell_other w p q u (fun e => by subst e; omega)
theorem Rd.of_own {base : Nat} {e : TypeId} (h : w.ownsRow base e sz (.slice A n c) n xs) : Rd w w.heap.size sz A n c xs := by
  obtain ⟨hl, hn | ⟨g, cap, cur, hv, hb, hg, hnc, hcm, hcs, htk⟩⟩ := h
  · obtain ⟨hv, rfl⟩ := hn
    injection hv with h1 h2 h3
    subst h1; subst h3
    exact ⟨hl, by omega, by simp only [maxLen]; omega, fun h => absurd h (by omega)⟩
  · injection hv with h1 h2 h3
    subst h1; subst h3
    refine ⟨hl, hnc, hcm, fun _ => ⟨g, 0, rfl, (Array.getElem?_eq_some_iff.1 hg).1, fun j u hu => ?_⟩⟩
    have := World.ownsRow.cells (w := w) (base := base) (e := e) (size := sz) (v := .slice (some ⟨g, 0, none⟩) n c) (n := n) (xs := xs)
      ⟨hl, .inr ⟨g, c, cur, rfl, hb, hg, hnc, hcm, hcs, htk⟩⟩ (g := g) rfl j u hu
    rw [add_none] at this
    exact this
/-- What an owned row looks like as a value. -/
theorem own_form {base : Nat} {e : TypeId} {v : Value} (h : w.ownsRow base e sz v n xs) : ∃ A c, v = .slice A n c ∧ w.ownsRow base e sz (.slice A n c) n xs := by
  obtain ⟨hl, hn | ⟨g, cap, cur, hv, rest⟩⟩ := id h
  · obtain ⟨rfl, rfl⟩ := hn
    exact ⟨none, 0, rfl, h⟩
  · subst hv
    exact ⟨_, _, rfl, h⟩
theorem Rd.nil_ : Rd w B sz none 0 0 [] := ⟨by simp, by omega, by simp only [maxLen]; omega, fun h => absurd h (by omega)⟩
theorem Rd.take {k : Nat} (h : Rd w B sz A n c xs) (hk : k ≤ n) : Rd w B sz A k c (xs.take (k * sz)) :=
  ⟨by rw [List.length_take, h.len]; have := Nat.mul_le_mul_right sz hk; omega, by have := h.cap; omega, h.max, fun hn => by
    obtain ⟨b, off, e, hb, hc⟩ := h.at_ (by omega)
    refine ⟨b, off, e, hb, fun j u hu => hc j u ?_⟩
    rw [List.getElem?_take] at hu
    split at hu
    · exact hu
    · cases hu⟩
/-- A cut, as the model spells it. -/
theorem Rd.cut {l k m : Nat} (h : Rd w B sz A n c xs) (hl : l ≤ k) (hk : k ≤ n) (hm : m ≤ c) (hkm : k ≤ m) :
    Rd w B sz (if m = l then A else A.map (·.add (l * sz))) (k - l) (m - l) ((xs.drop (l * sz)).take ((k - l) * sz)) := by
  refine ⟨?_, by omega, by have := h.max; omega, fun hn => ?_⟩
  · rw [List.length_take, List.length_drop, h.len, ← Nat.sub_mul]
    have := Nat.mul_le_mul_right sz (show k - l ≤ n - l by omega)
    omega
  · obtain ⟨b, off, rfl, hb, hc⟩ := h.at_ (by omega)
    rw [if_neg (by omega)]
    refine ⟨b, off + l * sz, by simp [add_none], hb, fun j u hu => ?_⟩
    rw [Nat.add_assoc]
    refine hc _ u ?_
    rw [List.getElem?_take] at hu
    split at hu
    · rw [List.getElem?_drop] at hu; exact hu
    · cases hu
end

/-- The number at a place; a name that simp does not open. -/
def gz (zs : List Int) (j : Nat) : Int := zs.getD j 0

/-- A list of integers as cells. -/
abbrev ints (k : IntKind) (zs : List Int) : List Value := zs.map (Value.int k)

theorem ints_get (k : IntKind) (zs : List Int) (j : Nat) (h : j < zs.length) : (ints k zs)[j]? = some (.int k (gz zs j)) := by
  simp [gz, ints, List.getElem?_map, List.getElem?_eq_getElem h, List.getD_eq_getElem?_getD]

/-- An integer slice with an element: where it lies, and each cell. -/
theorem Rd.int_form {w : World} {B n c : Nat} {A : Option Addr} {k : IntKind} {zs : List Int} (h : Rd w B 1 A n c (ints k zs)) (hn : 0 < n) :
    ∃ b off, A = some ⟨b, off, none⟩ ∧ b < B ∧ ∀ j, j < n → w.cell? ⟨b, off + j, none⟩ = some (.int k (gz zs j)) := by
  obtain ⟨b, off, e, hb, hc⟩ := h.at_ hn
  refine ⟨b, off, e, hb, fun j hj => hc j _ (ints_get k zs j ?_)⟩
  have := h.len
  simp at this
  omega
theorem Rd.int_len {w : World} {B n c : Nat} {A : Option Addr} {k : IntKind} {zs : List Int} (h : Rd w B 1 A n c (ints k zs)) : zs.length = n := by
  have := h.len
  simpa using this
theorem ret_int {k : IntKind} {a b : Int} (h : a = b) : Ending.returned (.int k a) = .returned (.int k b) := by rw [h]
theorem ret_bool {a b : Bool} (h : a = b) : Ending.returned (.bool a) = .returned (.bool b) := by rw [h]

theorem cells_at (W : World) (g : Nat) (cs : List Value) (t : TypeId) (hg : g = W.heap.size) : ∀ (j : Nat) (u : Value), cs[j]? = some u → (W.alloc (.cells cs.toArray t)).cell? ((⟨g, 0, none⟩ : Addr).add j) = some u := by
  subst hg
  intro j u hu
  rw [add_none, cell_of_row (W.alloc (.cells cs.toArray t)) W.heap.size (0 + j) cs.toArray t (0, 0) (heap_alloc_new W _)]
  simpa using hu
theorem Below.drewN_ {B : Nat} {a w : World} (h : Below B a w) (k : Nat) : Below B a (w.drewN k) := ⟨h.os, h.tape, h.output, h.size, h.block⟩
theorem own_drewN {w : World} {base : Nat} {e : TypeId} {sz n : Nat} {v : Value} {xs : List Value} (h : w.ownsRow base e sz v n xs) (k : Nat) : (w.drewN k).ownsRow base e sz v n xs := h
/-- Behind an append onto a row of the call's own. -/
theorem below_append {B : Nat} {w W w1 : World} {e : TypeId} {sz n : Nat} {v : Value} {xs : List Value} (hb : Below B w W) (hB : B ≤ W.heap.size) (hown : W.ownsRow B e sz v n xs) (hg : W.grownBy w1 v.ownBlock) : Below B w w1 :=
  hb.grown hg hB fun k hk => (hown.lt k hk).1
theorem own_as {w : World} {base : Nat} {e : TypeId} {sz n m : Nat} {v : Value} {xs ys : List Value} (h : w.ownsRow base e sz v n xs) (hn : n = m) (hx : xs = ys) : w.ownsRow base e sz v m ys := by subst hn; subst hx; exact h

/-- A cell of a block that is not the row's, behind an append onto the row. -/
theorem cell_grown {w0 W w1 : World} {base : Nat} {e : TypeId} {sz n : Nat} {v : Value} {xs : List Value} {g i : Nat} {u : Value} (hown : w0.ownsRow base e sz v n xs) (hg : W.grownBy w1 v.ownBlock) (hgt : w0.heap.size ≤ g) (hc : W.cell? ⟨g, i, none⟩ = some u) : w1.cell? ⟨g, i, none⟩ = some u :=
  hg.cell hc fun h => by have := (hown.lt g h.symm).2; omega
theorem cell_in (W : World) (g i : Nat) (cs : Array Value) (t : TypeId) (hg : g = W.heap.size) : (W.alloc (.cells cs t)).cell? ⟨g, i, none⟩ = cs[i]? := by
  subst hg
  exact cell_of_row (W.alloc (.cells cs t)) W.heap.size i cs t (0, 0) (heap_alloc_new W _)
theorem cell_old (W : World) (g i : Nat) (o : Obj) (u : Value) (hc : W.cell? ⟨g, i, none⟩ = some u) : (W.alloc o).cell? ⟨g, i, none⟩ = some u := by
  rw [World.cell?_alloc_lt W o ⟨g, i, none⟩ (World.block_lt_of_cell? W _ hc)]; exact hc

/-- What the laws on append ask of a slice type t over e: e's cells and bytes. -/
structure ST (P : Program) (t e : TypeId) (sz bytes : Nat) : Prop where
  ht : P.underlying t = some (.slice e)
  ex : ∃ (i : TypeInfo) (z : Value), P.info? e = some i ∧ i.zero = some z ∧ i.size = sz ∧ i.bytes = bytes ∧ z.cells.size = sz
  pos : 0 < sz
theorem ST.mk' {P : Program} {t e : TypeId} {sz bytes : Nat} {z : Value} (ht : P.underlying t = some (.slice e)) (h : (P.info? e).map (fun i => (i.zero, i.size, i.bytes)) = some (some z, sz, bytes)) (hz : z.cells.size = sz) (pos : 0 < sz) : ST P t e sz bytes := by
  obtain ⟨i, h1, h2, h3, h4⟩ := info_parts h
  exact ⟨ht, ⟨i, z, h1, h2, h3, h4, hz⟩, pos⟩

/-- 'append(out, x)', one element of whatever cells, onto a row of the call's own. -/
theorem wpList_push {P : Program} {ops : Array Oper} {rest : List Oper} {o : Oper} {a : Act} {Q : Exit → Act → World → Prop} {t e : TypeId} {sz bytes : Nat} (T : ST P t e sz bytes) (hgd : o.guard = none) (s x : Operand)
    (ho : o.op = .call { callee := .builtin .append, args := #[s, x], argTypes := #[t, t] })
    {B : Nat} {w W0 : World} (v : Value) {n : Nat} {xs : List Value} (hs : a.eval s = v) (hown : W0.ownsRow B e sz v n xs)
    (cs : List Value) (g : Nat) (hx : a.eval x = .slice (some ⟨g, 0, none⟩) 1 1) (hg : g = W0.heap.size) (hl : cs.length = sz) (h1 : ∀ u ∈ cs, u.oneCell' = true)
    (hn : n + 1 ≤ 1048576) (hby : bytes ≤ 1048576) (hb : Below B w W0) (hB : B ≤ W0.heap.size)
    (h : ∀ v' w', w'.ownsRow B e sz v' (n + 1) (xs ++ cs) → Below B w w' → (∀ p u, W0.cell? p = some u → some p.block ≠ v.ownBlock → w'.cell? p = some u) → wpList P ops Q rest (a.put o.dst v') w') :
    wpList P ops Q (o :: rest) a (W0.alloc (.cells cs.toArray e)) := by
  obtain ⟨i, z, hi, hz0, hz1, hz2, hz3⟩ := T.ex
  refine wpList_append_own _ hgd s x t ho B e i z sz bytes T.ht hi hz0 hz1 hz2 hz3 T.pos v n xs hs (hown.alloc _) ⟨g, 0, none⟩ 1 1 cs hx (by omega) (cells_at W0 g cs e hg) h1 (by unfold maxLen; omega) ?_ (by simp; omega) ?_
  · have : (n + 1) * bytes ≤ 1048576 * 1048576 := Nat.mul_le_mul hn hby
    omega
  · intro v' w' ho' hgr _
    refine h v' w' ho' (below_append (hb.alloc hB _) (by simp; omega) (hown.alloc _) hgr) ?_
    intro p u hu hne
    refine hgr.cell ?_ hne
    rw [World.cell?_alloc_lt W0 _ p (World.block_lt_of_cell? W0 _ hu)]
    exact hu

/-- 'append(out, xs...)', the source a slice that reads so: nil, empty or not. -/
theorem wpList_pushes {P : Program} {ops : Array Oper} {rest : List Oper} {o : Oper} {a : Act} {Q : Exit → Act → World → Prop} {t e : TypeId} {sz bytes : Nat} (T : ST P t e sz bytes) (hgd : o.guard = none) (s x : Operand)
    (ho : o.op = .call { callee := .builtin .append, args := #[s, x], argTypes := #[t, t] })
    {B : Nat} {w W : World} (v : Value) {n : Nat} {xs : List Value} (hs : a.eval s = v) (hown : W.ownsRow B e sz v n xs)
    {B' m c : Nat} {A : Option Addr} {ys : List Value} (hx : a.eval x = .slice A m c) (hr : Rd W B' sz A m c ys) (h1 : ∀ u ∈ ys, u.oneCell' = true)
    (hn : n + m ≤ 1048576) (hby : bytes ≤ 1048576) (hb : Below B w W) (hB : B ≤ W.heap.size)
    (h : ∀ v' w', w'.ownsRow B e sz v' (n + m) (xs ++ ys) → Below B w w' → (∀ p u, W.cell? p = some u → some p.block ≠ v.ownBlock → w'.cell? p = some u) → wpList P ops Q rest (a.put o.dst v') w') :
    wpList P ops Q (o :: rest) a W := by
  obtain ⟨i, z, hi, hz0, hz1, hz2, hz3⟩ := T.ex
  have hbyt : (n + m) * bytes ≤ 140737488355328 := by
    have : (n + m) * bytes ≤ 1048576 * 1048576 := Nat.mul_le_mul hn hby
    omega
  have key : ∃ v' w', (Builtin.append_ #[t, t] o.type #[v, .slice A m c]).run P W = .ok v' w' ∧ w'.ownsRow B e sz v' (n + m) (xs ++ ys) ∧ W.grownBy w' v.ownBlock := by
    by_cases hm : m = 0
    · subst hm
      have hy : ys = [] := List.eq_nil_of_length_eq_zero (by simpa using hr.len)
      subst hy
      rcases A with _ | ad
      · refine ⟨v, W, ?_, by simpa using hown, World.grownBy.refl W _⟩
        rcases hown.2 with ⟨rfl, rfl⟩ | ⟨g, cap, cur, rfl, _, _, hnc, _⟩
        · simp [Builtin.append_, run_underlying T.ht, sizeOf, typeInfo, hi, Builtin.lenOf, Builtin.firstCells]
        · simp [Builtin.append_, run_underlying T.ht, sizeOf, typeInfo, hi, Builtin.lenOf, Builtin.firstCells, hnc, storeCells]
      · obtain ⟨v', w', hr', h2, h3, _⟩ := run_append_own (P := P) W B t o.type e i z sz bytes T.ht hi hz0 hz1 hz2 hz3 T.pos v n xs hown ad 0 c [] (by simp) (by simp) (by simp) (by unfold maxLen; omega) hbyt hB
        exact ⟨v', w', hr', h2, h3⟩
    · obtain ⟨b, off, rfl, hbb, hc⟩ := hr.at_ (by omega)
      obtain ⟨v', w', hr', h2, h3, _⟩ := run_append_own (P := P) W B t o.type e i z sz bytes T.ht hi hz0 hz1 hz2 hz3 T.pos v n xs hown ⟨b, off, none⟩ m c ys hr.len (fun j u hu => by rw [add_none]; exact hc j u hu) h1 (by unfold maxLen; omega) hbyt hB
      exact ⟨v', w', hr', h2, h3⟩
  obtain ⟨v', w', hrun, ho', hgr⟩ := key
  refine wpList_plain hgd fun K hK => ?_
  unfold Oper.wp execOp
  simp only [ho, resolve, invoke, builtin, Sem.run_bind, Sem.run_pure, Result.andThen_ok, List.map_toArray, List.map_cons, List.map_nil, hs, hx, hrun]
  exact hK _ _ (h v' w' ho' (below_append hb hB hown hgr) fun p u hu hne => hgr.cell hu hne)
/-- The row's block is none that was laid later than the row. -/
theorem own_ne {w : World} {B : Nat} {e : TypeId} {sz n : Nat} {v : Value} {xs : List Value} (hown : w.ownsRow B e sz v n xs) {g : Nat} (hg : w.heap.size ≤ g) : some g ≠ v.ownBlock := fun h => by have := (hown.lt g h.symm).2; omega

theorem quiet_add_left {P : Program} {f : FuncId} {args : Array Value} {w : World} {a n : Nat} {v : Value}
    (h : Calls P f args (w.drewN (a + n)) fun e w' => e = .returned v ∧ w.drewN (a + n) = w') :
    Calls P f args (w.drewN (a + n)) fun e w'' => e = .returned v ∧ ∃ m, w'' = w.drewN (a + m) :=
  h.mono fun _ _ ⟨he, hm⟩ => ⟨he, n, hm.symm⟩
theorem quiet_left {P : Program} {f : FuncId} {args : Array Value} {w : World} {n : Nat} {v : Value}
    (h : Calls P f args (w.drewN n) fun e w' => e = .returned v ∧ w.drewN n = w') : Calls P f args (w.drewN n) fun e w'' => e = .returned v ∧ ∃ m, w'' = w.drewN m :=
  h.mono fun _ _ ⟨he, hm⟩ => ⟨he, n, hm.symm⟩
theorem quiet_add {P : Program} {f : FuncId} {args : Array Value} {w : World} {a n : Nat} {v : Value}
    (h : Calls P f args (w.drewN (a + n)) fun e w' => e = .returned v ∧ ∃ m, w' = (w.drewN (a + n)).drewN m) :
    Calls P f args (w.drewN (a + n)) fun e w'' => e = .returned v ∧ ∃ m, w'' = w.drewN (a + m) :=
  h.mono fun _ _ ⟨he, m, hm⟩ => ⟨he, n + m, by rw [hm, World.drewN_drewN, Nat.add_assoc]⟩

/-- A region that draws: its first n operations only read (or call what only reads), the rest comes in one order: walked once, the world under one name. -/
theorem region_tail {P : Program} {id : Nat} {Q : Exit → Act → World → Prop} {a : Act} {w : World} {l : List Oper} (n : Nat) (hm : P.follows .mixedOrders = true) (hB : Region.lexTailB .any l.toArray n = true)
    (h : ∀ W : World, Hid (W = w.drew) → wpStill P l.toArray W (fun a' => wpList P l.toArray Q (l.drop n) a' W) (l.take n) a) : (Code.region id l.toArray true).wp P Q a w :=
  wp_region_still_tail n hm hB (h _ rfl)

/-- Laid at one world ('have hD := fun q o => alloc_drewN w q o'), the walk puts the draws outermost. -/
theorem alloc_drewN (w : World) (q : Nat) (o : Obj) : (w.drewN q).alloc o = (w.alloc o).drewN q := rfl

/-- A slice that was just made of cells written out. -/
theorem Rd.lit (w : World) (cs : List Value) (t : TypeId) (n sz : Nat) (hl : cs.length = n * sz) (hn : n ≤ 1048576) : Rd (w.alloc (.cells cs.toArray t)) (w.alloc (.cells cs.toArray t)).heap.size sz (some ⟨w.heap.size, 0, none⟩) n n cs :=
  ⟨hl, Nat.le_refl _, by unfold maxLen; omega, fun _ => ⟨w.heap.size, 0, rfl, by simp, fun j u hu => by
    rw [cell_in w w.heap.size (0 + j) cs.toArray t rfl]; simpa using hu⟩⟩

/-- What is told of a slice of integers that came in: nil, or a row of 'cap' cells. -/
def IsRow (k : IntKind) (w : World) (a : Option Addr) (len cap : Nat) (zs : List Int) : Prop :=
  (a = none ∧ len = 0 ∧ cap = 0 ∧ zs = []) ∨
  ∃ x, a = some x ∧ len ≤ cap ∧ cap ≤ maxLen ∧ zs.length = cap ∧ (∀ i, i < zs.length → w.cell? (x.add i) = some (.int k (zs.getD i 0))) ∧ ∀ n ∈ zs, (Lit.int k n).wf = true
theorem Rd.of_row {k : IntKind} {w : World} {a : Option Addr} {len cap : Nat} {zs : List Int} (h : IsRow k w a len cap zs) :
    Rd w w.heap.size 1 a len cap (ints k (zs.take len)) ∧ ∀ n ∈ zs.take len, (Lit.int k n).wf = true := by
  rcases h with ⟨rfl, rfl, rfl, rfl⟩ | ⟨x, rfl, hl, hm, hz, hc, hw⟩
  · exact ⟨.nil_, by simp⟩
  · refine ⟨⟨by simp; omega, hl, hm, fun hn => ?_⟩, fun n hn => hw n (List.mem_of_mem_take hn)⟩
    obtain ⟨b, off, spot⟩ := x
    have h0 := hc 0 (by omega)
    have hspot : spot = none := by simpa [Addr.add] using World.cell?_spot h0
    subst hspot
    refine ⟨b, off, rfl, by simpa [Addr.add] using World.block_lt_of_cell? w _ h0, fun j u hu => ?_⟩
    have hj : j < len := by
      rcases Nat.lt_or_ge j len with h | h
      · exact h
      · rw [List.getElem?_eq_none (by simp; omega)] at hu; cases hu
    have hg := ints_get k (zs.take len) j (by simp; omega)
    rw [hg] at hu
    have := hc j (by omega)
    rw [add_none] at this
    rw [this]
    rw [← hu]
    simp [gz, hj, List.getD_eq_getElem?_getD]
end Go.Proofs.YtibakihcicfeoaaGreat
/- Plain facts, no program in sight: pieces that lie one behind the other ('runGo'), the units of sixteen bits ('wStep'). No condition. -/
namespace Go.Proofs.YtibakihcicfeoaaGreat

/-- A piece: its rune, where it begins, how many bytes it has. -/
abbrev It := Int × Nat × Nat

/-- Pieces as cells. -/
def flat (l : List It) : List Value := l.flatMap fun x => [.int .i32 x.1, .int .i64 x.2.1, .int .i64 x.2.2]
theorem flat_nil : flat [] = [] := rfl
theorem flat_append (l m : List It) : flat (l ++ m) = flat l ++ flat m := by simp [flat]
theorem flat_one (r : Int) (o n : Nat) : flat [(r, o, n)] = [.int .i32 r, .int .i64 o, .int .i64 n] := rfl
theorem flat_lenS (l : List It) : (flat l).length = l.length * 3 := by
  induction l with
  | nil => rfl
  | cons a t ih => simp [flat] at ih ⊢; omega
theorem flat_get (l : List It) (i : Nat) (hi : i < l.length) : (flat l)[i * 3]? = some (.int .i32 (l[i].1)) ∧ (flat l)[i * 3 + 1]? = some (.int .i64 (l[i].2.1)) ∧ (flat l)[i * 3 + 2]? = some (.int .i64 (l[i].2.2)) := by
  induction l generalizing i with
  | nil => simp at hi
  | cons a t ih =>
    have hf : flat (a :: t) = .int .i32 a.1 :: .int .i64 a.2.1 :: .int .i64 a.2.2 :: flat t := rfl
    cases i with
    | zero => simp [hf]
    | succ i =>
      have := ih i (by simpa using hi)
      rw [hf, show (i + 1) * 3 = i * 3 + 1 + 1 + 1 by omega, show i * 3 + 1 + 1 + 1 + 1 = (i * 3 + 1) + 1 + 1 + 1 by omega, show i * 3 + 1 + 1 + 1 + 2 = (i * 3 + 2) + 1 + 1 + 1 by omega]
      simpa only [List.getElem?_cons_succ, List.getElem_cons_succ] using this

/-- After k rounds: the pieces so far, and where one stands. -/
def runGo (step : Nat → Int × Nat) (n : Nat) : Nat → List It × Nat
  | 0 => ([], 0)
  | k + 1 => if (runGo step n k).2 < n then ((runGo step n k).1 ++ [((step (runGo step n k).2).1, (runGo step n k).2, (step (runGo step n k).2).2)], (runGo step n k).2 + (step (runGo step n k).2).2) else runGo step n k

def runItems (step : Nat → Int × Nat) (n : Nat) : List It := (runGo step n n).1

/-- Each step goes on, and not beyond the end. -/
def Good (step : Nat → Int × Nat) (n : Nat) : Prop := ∀ p, p < n → 1 ≤ (step p).2 ∧ p + (step p).2 ≤ n

section
variable {step : Nat → Int × Nat} {n : Nat}
theorem runGo_succ {k : Nat} (h : (runGo step n k).2 < n) : runGo step n (k + 1) = ((runGo step n k).1 ++ [((step (runGo step n k).2).1, (runGo step n k).2, (step (runGo step n k).2).2)], (runGo step n k).2 + (step (runGo step n k).2).2) := by
  rw [runGo, if_pos h]
theorem runGo_stay {k : Nat} (h : n ≤ (runGo step n k).2) : runGo step n (k + 1) = runGo step n k := by
  rw [runGo, if_neg (by omega)]
theorem runGo_le (hg : Good step n) (k : Nat) : (runGo step n k).2 ≤ n := by
  induction k with
  | zero => simp [runGo]
  | succ k ih =>
    by_cases h : (runGo step n k).2 < n
    · rw [runGo_succ h]; exact (hg _ h).2
    · rw [runGo_stay (by omega)]; exact ih
theorem runGo_len_le (hg : Good step n) (k : Nat) : (runGo step n k).1.length ≤ (runGo step n k).2 := by
  induction k with
  | zero => simp [runGo]
  | succ k ih =>
    by_cases h : (runGo step n k).2 < n
    · rw [runGo_succ h]; have := (hg _ h).1; simp; omega
    · rw [runGo_stay (by omega)]; exact ih
theorem runGo_stop {k m : Nat} (h : n ≤ (runGo step n k).2) (hm : k ≤ m) : runGo step n m = runGo step n k := by
  induction m with
  | zero => have : k = 0 := by omega
            subst this; rfl
  | succ m ih =>
    by_cases he : k = m + 1
    · subst he; rfl
    · have := ih (by omega)
      rw [runGo_stay (by rw [this]; exact h), this]
theorem runGo_far (hg : Good step n) (k : Nat) : k ≤ (runGo step n k).2 ∨ n ≤ (runGo step n k).2 := by
  induction k with
  | zero => simp
  | succ k ih =>
    by_cases h : (runGo step n k).2 < n
    · rw [runGo_succ h]; have := (hg _ h).1; simp only; omega
    · rw [runGo_stay (by omega)]; omega
theorem runGo_end (hg : Good step n) : (runGo step n n).2 = n := by
  have := runGo_far hg n; have := runGo_le hg n; omega
theorem runGo_all (hg : Good step n) {k : Nat} (h : n ≤ (runGo step n k).2) : (runGo step n k).1 = runItems step n := by
  have he := runGo_end hg
  rcases Nat.le_total k n with hk | hk
  · rw [runItems, runGo_stop h hk]
  · rw [runItems, runGo_stop (by omega) hk]
theorem runItems_len_le (hg : Good step n) : (runItems step n).length ≤ n := by
  have := runGo_len_le hg n; rw [runGo_end hg] at this; exact this
theorem runGo_prefix {k m : Nat} (hm : k ≤ m) : ∃ t, (runGo step n m).1 = (runGo step n k).1 ++ t := by
  induction m with
  | zero => have : k = 0 := by omega
            subst this; exact ⟨[], by simp⟩
  | succ m ih =>
    by_cases he : k = m + 1
    · subst he; exact ⟨[], by simp⟩
    · obtain ⟨t, ht⟩ := ih (by omega)
      by_cases h : (runGo step n m).2 < n
      · rw [runGo_succ h]; exact ⟨t ++ [((step (runGo step n m).2).1, (runGo step n m).2, (step (runGo step n m).2).2)], by simp [ht]⟩
      · rw [runGo_stay (by omega)]; exact ⟨t, ht⟩
theorem runGo_len {k : Nat} (h : (runGo step n k).2 < n) : (runGo step n k).1.length = k := by
  induction k with
  | zero => rfl
  | succ k ih =>
    by_cases h' : (runGo step n k).2 < n
    · rw [runGo_succ h']; simp [ih h']
    · rw [runGo_stay (by omega)] at h; omega
theorem runGo_len_gt {k : Nat} (h : k < (runGo step n n).1.length) : (runGo step n k).2 < n := by
  by_cases h' : (runGo step n k).2 < n
  · exact h'
  · exfalso
    have key : ∀ m, (runGo step n m).1.length ≤ m := by
      intro m
      induction m with
      | zero => simp [runGo]
      | succ m ih =>
        by_cases hh : (runGo step n m).2 < n
        · rw [runGo_succ hh]; simp; omega
        · rw [runGo_stay (by omega)]; omega
    have h1 := key n
    rw [runGo_stop (k := k) (by omega) (by omega)] at h
    have := key k
    omega
/-- The i-th piece, and where the next one begins. -/
theorem runItems_get (i : Nat) (hi : i < (runItems step n).length) :
    (runGo step n i).2 < n ∧ (runItems step n)[i] = ((step (runGo step n i).2).1, (runGo step n i).2, (step (runGo step n i).2).2) ∧ (runGo step n (i + 1)).2 = (runGo step n i).2 + (step (runGo step n i).2).2 := by
  have h := runGo_len_gt (step := step) (n := n) hi
  refine ⟨h, ?_, by rw [runGo_succ h]⟩
  have hin : i + 1 ≤ n := by
    have key : ∀ m, (runGo step n m).1.length ≤ m := by
      intro m
      induction m with
      | zero => simp [runGo]
      | succ m ih =>
        by_cases hh : (runGo step n m).2 < n
        · rw [runGo_succ hh]; simp; omega
        · rw [runGo_stay (by omega)]; omega
    have := key n; unfold runItems at hi; omega
  obtain ⟨t, ht⟩ := runGo_prefix (step := step) (n := n) hin
  rw [runGo_succ h] at ht
  have hl := runGo_len h
  have : (runItems step n)[i]? = some ((step (runGo step n i).2).1, (runGo step n i).2, (step (runGo step n i).2).2) := by
    rw [runItems, ht]
    simp [hl]
  rw [List.getElem?_eq_getElem hi] at this
  exact Option.some.inj this
theorem runItems_last (hg : Good step n) : (runGo step n (runItems step n).length).2 = n := by
  by_cases h : (runGo step n (runItems step n).length).2 < n
  · exfalso
    have hl := runGo_len h
    have hs := runGo_succ h
    have hle := runItems_len_le hg
    by_cases he : (runItems step n).length = n
    · rw [he] at h; have := runGo_end hg; omega
    · obtain ⟨t, ht⟩ := runGo_prefix (step := step) (n := n) (show (runItems step n).length + 1 ≤ n by omega)
      have h1 : (runGo step n n).1.length = (runItems step n).length := rfl
      rw [ht, hs] at h1
      simp [hl] at h1
  · have := runGo_le hg (runItems step n).length; omega
end

/-- A unit's number. -/
def unitOf (big : Bool) (a b : Int) : Int := if big then 256 * a + b else 256 * b + a
theorem unitOf_bd {big : Bool} {a b : Int} (ha : 0 ≤ a ∧ a ≤ 255) (hb : 0 ≤ b ∧ b ≤ 255) : 0 ≤ unitOf big a b ∧ unitOf big a b ≤ 65535 := by
  unfold unitOf; split <;> omega

def Bytes8 (zs : List Int) : Prop := ∀ z ∈ zs, 0 ≤ z ∧ z ≤ 255
theorem Bytes8.at_ {zs : List Int} (h : Bytes8 zs) (j : Nat) : 0 ≤ gz zs j ∧ gz zs j ≤ 255 := by
  rw [gz, List.getD_eq_getElem?_getD]
  rcases Nat.lt_or_ge j zs.length with hj | hj
  · rw [List.getElem?_eq_getElem hj]; exact h _ (List.getElem_mem hj)
  · rw [List.getElem?_eq_none hj]; simp
theorem Bytes8.take {zs : List Int} (h : Bytes8 zs) (k : Nat) : Bytes8 (zs.take k) := fun z hz => h z (List.mem_of_mem_take hz)
theorem Bytes8.drop {zs : List Int} (h : Bytes8 zs) (k : Nat) : Bytes8 (zs.drop k) := fun z hz => h z (List.mem_of_mem_drop hz)

/-- The piece of units at a place. -/
def wStep (zs : List Int) (big : Bool) (p : Nat) : Int × Nat :=
  if p + 1 = zs.length then (-1, 1)
  else if unitOf big (gz zs p) (gz zs (p + 1)) < 55296 ∨ 57343 < unitOf big (gz zs p) (gz zs (p + 1)) then (unitOf big (gz zs p) (gz zs (p + 1)), 2)
  else if 56319 < unitOf big (gz zs p) (gz zs (p + 1)) ∨ zs.length < p + 4 then (-1, 2)
  else if unitOf big (gz zs (p + 2)) (gz zs (p + 3)) < 56320 ∨ 57343 < unitOf big (gz zs (p + 2)) (gz zs (p + 3)) then (-1, 2)
  else (65536 + 1024 * (unitOf big (gz zs p) (gz zs (p + 1)) - 55296) + (unitOf big (gz zs (p + 2)) (gz zs (p + 3)) - 56320), 4)
theorem wStep_good (zs : List Int) (big : Bool) : Good (wStep zs big) zs.length := by
  intro p hp
  unfold wStep
  repeat' split
  all_goals simp only []; omega
abbrev wGo (zs : List Int) (big : Bool) (k : Nat) := runGo (wStep zs big) zs.length k
def wItems (zs : List Int) (big : Bool) : List It := runItems (wStep zs big) zs.length

theorem flat_cells (l : List It) : ∀ u ∈ flat l, u.oneCell' = true := by
  intro u hu
  simp only [flat, List.mem_flatMap] at hu
  obtain ⟨x, _, hx⟩ := hu
  simp at hx
  rcases hx with rfl | rfl | rfl <;> rfl
theorem flat_snoc (acc : List It) (x : It) : flat acc ++ flat [x] = flat (acc ++ [x]) := (flat_append _ _).symm

open Go.RowKit in
/-- A slice of pieces with an element: where it lies, and each piece's three cells. -/
theorem Rd.it_form {w : World} {B n c : Nat} {A : Option Addr} {l : List It} (h : Rd w B 3 A n c (flat l)) (hn : 0 < n) :
    ∃ b off, A = some ⟨b, off, none⟩ ∧ b < B ∧ ∀ i (hi : i < l.length), w.cell? ⟨b, off + i * 3, none⟩ = some (.int .i32 l[i].1) ∧ w.cell? ⟨b, off + i * 3 + 1, none⟩ = some (.int .i64 l[i].2.1) ∧ w.cell? ⟨b, off + i * 3 + 2, none⟩ = some (.int .i64 l[i].2.2) := by
  obtain ⟨b, off, e, hb, hc⟩ := h.at_ hn
  refine ⟨b, off, e, hb, fun i hi => ?_⟩
  obtain ⟨h0, h1, h2⟩ := flat_get l i hi
  exact ⟨hc _ _ h0, by rw [Nat.add_assoc]; exact hc _ _ h1, by rw [Nat.add_assoc]; exact hc _ _ h2⟩
theorem Rd.it_len {w : World} {B n c : Nat} {A : Option Addr} {l : List It} (h : Rd w B 3 A n c (flat l)) : l.length = n := by
  have := h.len; rw [flat_lenS] at this; omega

theorem Bytes8.of_wf {zs : List Int} (h : ∀ n ∈ zs, (Lit.int .u8 n).wf = true) : Bytes8 zs := by
  intro z hz
  have := h z hz
  simp [Lit.wf] at this
  have h1 : IntKind.u8.min = 0 := rfl
  have h2 : IntKind.u8.max = 255 := rfl
  omega
/-- Runes as int32 holds them. -/
def Runes (zs : List Int) : Prop := ∀ z ∈ zs, -2147483648 ≤ z ∧ z ≤ 2147483647
theorem Runes.of_wf {zs : List Int} (h : ∀ n ∈ zs, (Lit.int .i32 n).wf = true) : Runes zs := by
  intro z hz
  have := h z hz
  simp [Lit.wf] at this
  have h1 : IntKind.i32.min = -2147483648 := rfl
  have h2 : IntKind.i32.max = 2147483647 := rfl
  omega
theorem Runes.at_ {zs : List Int} (h : Runes zs) (j : Nat) : -2147483648 ≤ gz zs j ∧ gz zs j ≤ 2147483647 := by
  rw [gz, List.getD_eq_getElem?_getD]
  rcases Nat.lt_or_ge j zs.length with hj | hj
  · rw [List.getElem?_eq_getElem hj]; exact h _ (List.getElem_mem hj)
  · rw [List.getElem?_eq_none hj]; simp
theorem Runes.take {zs : List Int} (h : Runes zs) (k : Nat) : Runes (zs.take k) := fun z hz => h z (List.mem_of_mem_take hz)
end Go.Proofs.YtibakihcicfeoaaGreat
/- One fact on bits, asked of the kernel at all numbers below 65536. No condition. -/
namespace Go.Proofs.YtibakihcicfeoaaGreat
theorem low_bits : ∀ a b : Fin 256, (bits BinOp.andNot IntKind.i32 ((256 * a.val + b.val : Nat) : Int) 1023 == 56320) = decide (56320 ≤ 256 * a.val + b.val ∧ 256 * a.val + b.val ≤ 57343) := by decide +kernel
end Go.Proofs.YtibakihcicfeoaaGreat
/- Walks of layer 2, of callees. No condition. -/
namespace Go.Proofs.YtibakihcicfeoaaGreat
open Go.RowKit

theorem or256 (a b : Int) (ha : 0 ≤ a ∧ a ≤ 255) (hb : 0 ≤ b ∧ b ≤ 255) : bits BinOp.or IntKind.i32 (a * 256) b = 256 * a + b := by
  rw [bits_join .i32 31 (by decide) wraps_i32 8 (a * 256) b (by omega) (by omega) (by omega) (by omega) (by omega) (by omega)]
  omega

theorem units1 (a b : Int) (w : World) (ha : 0 ≤ a ∧ a ≤ 255) (hb : 0 ≤ b ∧ b ≤ 255) :
    Calls Tryz.prog 150 #[.int .u8 a, .int .u8 b] w fun e w' => e = .returned (.int .i32 (unitOf true a b)) ∧ w = w' := by
  have H := Lib.hid (or256 a b ha hb)
  obtain ⟨ha1, ha2⟩ := ha
  obtain ⟨hb1, hb2⟩ := hb
  go_enter Tryz.func150, Tryz.ntmps150
  go_wp2
  go_ret
  exact ⟨ret_int H.out, rfl⟩

theorem units2 (a b : Int) (w : World) (ha : 0 ≤ a ∧ a ≤ 255) (hb : 0 ≤ b ∧ b ≤ 255) :
    Calls Tryz.prog 151 #[.int .u8 a, .int .u8 b] w fun e w' => e = .returned (.int .i32 (unitOf false a b)) ∧ w = w' := by
  have H := Lib.hid (or256 b a hb ha)
  obtain ⟨ha1, ha2⟩ := ha
  obtain ⟨hb1, hb2⟩ := hb
  go_enter Tryz.func151, Tryz.ntmps151
  go_wp2
  go_ret
  exact ⟨ret_int H.out, rfl⟩

theorem units_any (big : Bool) (w : World) :
    Calls Tryz.prog 100 #[.bool big] w fun e w' => e = .returned (.func (.func (if big then 150 else 151)) #[] #[]) ∧ w = w' := by
  cases big
  all_goals
    go_enter Tryz.func100, Tryz.ntmps100
    go_wp2
    go_ret
    exact ⟨rfl, rfl⟩

theorem st75 : ST Tryz.prog 75 78 3 24 := ST.mk' (z := .agg #[.int .i32 0, .int .i64 0, .int .i64 0]) Tryz.underlying75 (by kernel_rfl) rfl (by decide)

theorem wGo_next {zs : List Int} {big : Bool} {k p m : Nat} {acc : List It} {r : Int} (H : Hid (wGo zs big k = (acc, p))) (hp : p < zs.length) (hs : wStep zs big p = (r, m)) : Hid (wGo zs big (k + 1) = (acc ++ [(r, p, m)], p + m)) := by
  have h : runGo (wStep zs big) zs.length k = (acc, p) := H.out
  show runGo (wStep zs big) zs.length (k + 1) = _
  rw [runGo_succ (by rw [h]; exact hp), h]
  simp only [hs]
theorem wGo_acc {zs : List Int} {big : Bool} {k p n : Nat} {acc : List It} (H : Hid (wGo zs big k = (acc, p))) (hl : Hid (zs.length = n)) : acc.length ≤ p ∧ p ≤ n := by
  have h : runGo (wStep zs big) zs.length k = (acc, p) := H.out
  have h1 := runGo_len_le (wStep_good zs big) k
  have h2 := runGo_le (wStep_good zs big) k
  rw [h] at h1 h2
  have := hl.out
  simp only at h1 h2
  omega
theorem wGo_end {zs : List Int} {big : Bool} {k p n : Nat} {acc : List It} (H : Hid (wGo zs big k = (acc, p))) (hl : Hid (zs.length = n)) (hp : n ≤ p) : Hid (wItems zs big = acc) := by
  have h : runGo (wStep zs big) zs.length k = (acc, p) := H.out
  have := runGo_all (wStep_good zs big) (k := k) (by rw [h, hl.out]; exact hp)
  rw [h] at this
  exact this.symm
theorem low_bits_ {v : Int} (hv : 0 ≤ v ∧ v ≤ 65535) : (bits BinOp.andNot IntKind.i32 v 1023 == 56320) = decide (56320 ≤ v ∧ v ≤ 57343) := by
  obtain ⟨m, rfl⟩ := Int.eq_ofNat_of_zero_le hv.1
  have := low_bits ⟨m / 256, by omega⟩ ⟨m % 256, by omega⟩
  simp only [show 256 * (m / 256) + m % 256 = m by omega] at this
  rw [this]
  simp only [decide_eq_decide]
  omega
theorem low_no {v : Int} (hv : 0 ≤ v ∧ v ≤ 65535) (h : v < 56320 ∨ 57343 < v) : (bits BinOp.andNot IntKind.i32 v 1023 == 56320) = false := by
  rw [low_bits_ hv]
  simp only [decide_eq_false_iff_not]
  omega
theorem low_yes {v : Int} (hv : 0 ≤ v ∧ v ≤ 65535) (h : ¬ (v < 56320 ∨ 57343 < v)) : (bits BinOp.andNot IntKind.i32 v 1023 == 56320) = true := by
  rw [low_bits_ hv]
  simp only [decide_eq_true_eq]
  omega
theorem low_of {v : Int} (hv : 0 ≤ v ∧ v ≤ 65535) (h : ¬ (v < 56320 ∨ 57343 < v)) : bits BinOp.and IntKind.i32 v 1023 = v - 56320 := by
  have := bits_mask .i32 31 (by decide) wraps_i32 10 (by decide) v hv.1 (by omega)
  rw [show ((2 : Int) ^ 10 - 1) = 1023 by decide] at this
  rw [this]
  omega
end Go.Proofs.YtibakihcicfeoaaGreat
/- Walks of layer 2, of callees. No condition. -/
namespace Go.Proofs.YtibakihcicfeoaaGreat
open Go.RowKit


set_option maxRecDepth 100000 in
set_option maxHeartbeats 4000000 in
theorem items21_true (A : Option Addr) (n c : Nat) (zs : List Int) (w : World) (h : Rd w w.heap.size 1 A n c (ints .u8 zs)) (hz : Bytes8 zs) (hn : n ≤ 4096) :
    Calls Tryz.prog 52 #[.slice A n c, .bool true] w fun e w' => ∃ v, e = .returned v ∧ w'.ownsRow w.heap.size 78 3 v (wItems zs true).length (flat (wItems zs true)) ∧ Below w.heap.size w w' := by
  have HL := Lib.hid h.int_len
  go_enter Tryz.func52, Tryz.ntmps52
  go_wp2_with (go_at_call 100; refine (units_any _ _).mono ?_; rintro e w' ⟨rfl, rfl⟩)
  go_loopw [5, 7] (fun out at_ wr => ∃ (k p : Nat) (acc : List It), Hid (wGo zs true k = (acc, p)) ∧ at_ = .int .i64 p ∧ wr.ownsRow w.heap.size 78 3 out acc.length (flat acc) ∧ Below w.heap.size w wr)
    (fun _ at_ _ => n - (intOf at_).toNat)
  case atStart => exact ⟨0, 0, [], rfl, rfl, World.ownsRow_nil _ _ _ _, Below.refl _ _⟩
  case round =>
    obtain ⟨k, p, acc, HP, rfl, hown, hb⟩ := hrel
    obtain ⟨hal, hpn⟩ := wGo_acc HP HL
    have hsz := hb.size
    by_cases hp : p < n
    · obtain ⟨b, off, rfl, hbb, hc⟩ := (h.below hb).int_form (by omega)
      have c0 := hc p hp
      by_cases h1 : p + 1 = n
      · have HS := wGo_next HP (by rw [HL.out]; exact hp) (r := -1) (m := 1) (by unfold wStep; rw [HL.out, if_pos h1])
        subst h1
        have s0 : ((p : Int) + 1 - (p : Int)) = 1 := by omega
        go_wp2_with fail
        go_quiet (fail)
        go_wp2_with (at_builtin; refine wpList_push st75 rfl _ _ rfl _ rfl (own_drewN (hown.alloc _) _) [.int .i32 (-1), .int .i64 p, .int .i64 1] (wr.heap.size + 1) rfl (by simp) rfl (flat_cells [(-1, p, 1)]) (by omega) (by omega) (Below.drewN_ (hb.alloc hsz _) _) (by simp; omega) ?_; intro v1 w1 hown1 hb1 hk1; have hx1 := hk1 ⟨wr.heap.size, 2, none⟩ (.int .i64 1) (cell_in wr _ 2 _ _ rfl) (own_ne hown (Nat.le_refl _)); clear hk1 hown)
        go_roundw
        case rel => exact ⟨k + 1, p + 1, acc ++ [(-1, p, 1)], HS, by go_num, own_as hown1 (by simp) (flat_snoc acc (-1, p, 1)), hb1⟩
        case measure => simp [intOf]
      · have c1 := hc (p + 1) (by omega)
        have b0 := hz.at_ p
        have b1 := hz.at_ (p + 1)
        have CU := fun W => units1 (gz zs p) (gz zs (p + 1)) W b0 b1
        have hub := unitOf_bd (big := true) b0 b1
        generalize hu : unitOf true (gz zs p) (gz zs (p + 1)) = u at CU hub
        have HU := Lib.hid hu; clear hu
        obtain ⟨hu0, hu1⟩ := hub
        have s1 : IntKind.i64.wrap ((p : Int) + 1) = (p : Int) + 1 := IntWalk.i64_in _ (by omega)
        have s2 : (0 : Int) ≤ (p : Int) + 1 := by omega
        have s3 : ((p : Int) + 1).toNat = p + 1 := by omega
        have s4 : (p : Int) + 1 < (n : Int) := by omega
        go_wp2_with fail
        go_region_held3 (fun w' => w'.cell? ⟨b, off + p, none⟩ = some (.int .u8 (gz zs p)) ∧ w'.cell? ⟨b, off + (p + 1), none⟩ = some (.int .u8 (gz zs (p + 1)))) (go_keep)
          (first
            | (go_at_call 150; refine (CU _).mono ?_; rintro e w' ⟨rfl, rfl⟩))
        clear s1 s2 s3 s4 CU b0 b1
        by_cases hlo : u < 55296
        · have HS := wGo_next HP (by rw [HL.out]; exact hp) (r := u) (m := 2) (by unfold wStep; rw [HL.out, if_neg h1, HU.out, if_pos (.inl hlo)])
          have t1 : decide (55296 ≤ u) = false := by simp; omega
          go_wp2_with fail
          go_quiet (fail)
          go_wp2_with (at_builtin; refine wpList_push st75 rfl _ _ rfl _ rfl (own_drewN (hown.alloc _) _) [.int .i32 u, .int .i64 p, .int .i64 2] (wr.heap.size + 1) rfl (by simp) rfl (flat_cells [(u, p, 2)]) (by omega) (by omega) (Below.drewN_ (hb.alloc hsz _) _) (by simp; omega) ?_; intro v1 w1 hown1 hb1 hk1; have hx1 := hk1 ⟨wr.heap.size, 2, none⟩ (.int .i64 2) (cell_in wr _ 2 _ _ rfl) (own_ne hown (Nat.le_refl _)); clear hk1 hown)
          go_roundw
          case rel => exact ⟨k + 1, p + 2, acc ++ [(u, p, 2)], HS, by go_num, own_as hown1 (by simp) (flat_snoc acc (u, p, 2)), hb1⟩
          case measure => simp [intOf]; omega
        · by_cases hhi : 57343 < u
          · have HS := wGo_next HP (by rw [HL.out]; exact hp) (r := u) (m := 2) (by unfold wStep; rw [HL.out, if_neg h1, HU.out, if_pos (.inr hhi)])
            have t1 : decide (55296 ≤ u) = true := by simp; omega
            have t2 : decide (u < 56320) = false := by simp; omega
            have t3 : decide (u < 57344) = false := by simp; omega
            go_wp2_with fail
            go_quiet (fail)
            go_wp2_with (at_builtin; refine wpList_push st75 rfl _ _ rfl _ rfl (own_drewN (hown.alloc _) _) [.int .i32 u, .int .i64 p, .int .i64 2] (wr.heap.size + 1) rfl (by simp) rfl (flat_cells [(u, p, 2)]) (by omega) (by omega) (Below.drewN_ (hb.alloc hsz _) _) (by simp; omega) ?_; intro v1 w1 hown1 hb1 hk1; have hx1 := hk1 ⟨wr.heap.size, 2, none⟩ (.int .i64 2) (cell_in wr _ 2 _ _ rfl) (own_ne hown (Nat.le_refl _)); clear hk1 hown)
            go_roundw
            case rel => exact ⟨k + 1, p + 2, acc ++ [(u, p, 2)], HS, by go_num, own_as hown1 (by simp) (flat_snoc acc (u, p, 2)), hb1⟩
            case measure => simp [intOf]; omega
          · have t1 : decide (55296 ≤ u) = true := by simp; omega
            have t3 : decide (u < 57344) = true := by simp; omega
            by_cases hmd : 56319 < u
            · have HS := wGo_next HP (by rw [HL.out]; exact hp) (r := -1) (m := 2) (by unfold wStep; rw [HL.out, if_neg h1, HU.out, if_neg (by omega), if_pos (.inl hmd)])
              have t2 : decide (u < 56320) = false := by simp; omega
              go_wp2_with fail
              go_quiet (fail)
              go_wp2_with (at_builtin; refine wpList_push st75 rfl _ _ rfl _ rfl (own_drewN (hown.alloc _) _) [.int .i32 (-1), .int .i64 p, .int .i64 2] (wr.heap.size + 1) rfl (by simp) rfl (flat_cells [(-1, p, 2)]) (by omega) (by omega) (Below.drewN_ (hb.alloc hsz _) _) (by simp; omega) ?_; intro v1 w1 hown1 hb1 hk1; have hx1 := hk1 ⟨wr.heap.size, 2, none⟩ (.int .i64 2) (cell_in wr _ 2 _ _ rfl) (own_ne hown (Nat.le_refl _)); clear hk1 hown)
              go_roundw
              case rel => exact ⟨k + 1, p + 2, acc ++ [(-1, p, 2)], HS, by go_num, own_as hown1 (by simp) (flat_snoc acc (-1, p, 2)), hb1⟩
              case measure => simp [intOf]; omega
            · have t2 : decide (u < 56320) = true := by simp; omega
              have r0 : IntKind.i64.wrap ((n : Int) - (p : Int)) = (n : Int) - (p : Int) := IntWalk.i64_in _ (by omega)
              by_cases hsh : n < p + 4
              · have HS := wGo_next HP (by rw [HL.out]; exact hp) (r := -1) (m := 2) (by unfold wStep; rw [HL.out, if_neg h1, HU.out, if_neg (by omega), if_pos (.inr hsh)])
                have t4 : decide (4 ≤ (n : Int) - (p : Int)) = false := by simp; omega
                go_wp2_with fail
                go_quiet (fail)
                go_wp2_with (at_builtin; refine wpList_push st75 rfl _ _ rfl _ rfl (own_drewN (hown.alloc _) _) [.int .i32 (-1), .int .i64 p, .int .i64 2] (wr.heap.size + 1) rfl (by simp) rfl (flat_cells [(-1, p, 2)]) (by omega) (by omega) (Below.drewN_ (hb.alloc hsz _) _) (by simp; omega) ?_; intro v1 w1 hown1 hb1 hk1; have hx1 := hk1 ⟨wr.heap.size, 2, none⟩ (.int .i64 2) (cell_in wr _ 2 _ _ rfl) (own_ne hown (Nat.le_refl _)); clear hk1 hown)
                go_roundw
                case rel => exact ⟨k + 1, p + 2, acc ++ [(-1, p, 2)], HS, by go_num, own_as hown1 (by simp) (flat_snoc acc (-1, p, 2)), hb1⟩
                case measure => simp [intOf]; omega
              · have t4 : decide (4 ≤ (n : Int) - (p : Int)) = true := by simp; omega
                have c2 := fun X => cell_old wr b (off + (p + 2)) X _ (hc (p + 2) (by omega))
                have c3 := fun X => cell_old wr b (off + (p + 2 + 1)) X _ (hc (p + 2 + 1) (by omega))
                have b2 := hz.at_ (p + 2)
                have b3 := hz.at_ (p + 2 + 1)
                have CV := fun W => units1 (gz zs (p + 2)) (gz zs (p + 2 + 1)) W b2 b3
                have hvb := unitOf_bd (big := true) b2 b3
                generalize hv : unitOf true (gz zs (p + 2)) (gz zs (p + 2 + 1)) = v at CV hvb
                have HV := Lib.hid hv; clear hv
                obtain ⟨hv0, hv1⟩ := hvb
                have r1 : IntKind.i64.wrap ((p : Int) + 2) = (p : Int) + 2 := IntWalk.i64_in _ (by omega)
                have r2 : (0 : Int) ≤ (p : Int) + 2 := by omega
                have r3 : ((p : Int) + 2).toNat = p + 2 := by omega
                have r4 : (p : Int) + 2 < (n : Int) := by omega
                have r5 : IntKind.i64.wrap ((p : Int) + 2 + 1) = (p : Int) + 2 + 1 := IntWalk.i64_in _ (by omega)
                have r6 : (0 : Int) ≤ (p : Int) + 2 + 1 := by omega
                have r7 : ((p : Int) + 2 + 1).toNat = p + 2 + 1 := by omega
                have r8 : (p : Int) + 2 + 1 < (n : Int) := by omega
                by_cases hlw : v < 56320 ∨ 57343 < v
                · have HS := wGo_next HP (by rw [HL.out]; exact hp) (r := -1) (m := 2) (by unfold wStep; rw [HL.out, if_neg h1, HU.out, if_neg (by omega), if_neg (by omega), show p + 3 = p + 2 + 1 by omega, HV.out, if_pos hlw])
                  have t5 : (bits BinOp.andNot IntKind.i32 v 1023 == 56320) = false := low_no ⟨hv0, hv1⟩ hlw
                  go_wp2_with fail
                  go_quiet ((go_at_call 150; first | exact quiet_add_left (CV _) | exact quiet_left (CV _)))
                  clear r1 r2 r3 r4 r5 r6 r7 r8
                  go_wp2_with (at_builtin; refine wpList_push st75 rfl _ _ rfl _ rfl (own_drewN (hown.alloc _) _) [.int .i32 (-1), .int .i64 p, .int .i64 2] (wr.heap.size + 1) rfl (by simp) rfl (flat_cells [(-1, p, 2)]) (by omega) (by omega) (Below.drewN_ (hb.alloc hsz _) _) (by simp; omega) ?_; intro v1 w1 hown1 hb1 hk1; have hx1 := hk1 ⟨wr.heap.size, 2, none⟩ (.int .i64 2) (cell_in wr _ 2 _ _ rfl) (own_ne hown (Nat.le_refl _)); clear hk1 hown)
                  go_roundw
                  case rel => exact ⟨k + 1, p + 2, acc ++ [(-1, p, 2)], HS, by go_num, own_as hown1 (by simp) (flat_snoc acc (-1, p, 2)), hb1⟩
                  case measure => simp [intOf]; omega
                · have t5 : (bits BinOp.andNot IntKind.i32 v 1023 == 56320) = true := low_yes ⟨hv0, hv1⟩ hlw
                  have HS := wGo_next HP (by rw [HL.out]; exact hp) (r := 65536 + 1024 * (u - 55296) + (v - 56320)) (m := 4) (by unfold wStep; rw [HL.out, if_neg h1, HU.out, if_neg (by omega), if_neg (by omega), show p + 3 = p + 2 + 1 by omega, HV.out, if_neg hlw])
                  have t6 : bits BinOp.and IntKind.i32 v 1023 = v - 56320 := low_of ⟨hv0, hv1⟩ hlw
                  go_wp2_with fail
                  go_quiet ((go_at_call 150; first | exact quiet_add_left (CV _) | exact quiet_left (CV _)))
                  go_wp2_with fail
                  have r9 : IntKind.i32.wrap (u - 55296) = u - 55296 := IntWalk.i32_in _ (by omega)
                  have r10 : IntKind.i32.wrap ((u - 55296) * 1024) = (u - 55296) * 1024 := IntWalk.i32_in _ (by omega)
                  have r11 : IntKind.i32.wrap (65536 + (u - 55296) * 1024) = 65536 + (u - 55296) * 1024 := IntWalk.i32_in _ (by omega)
                  have r12 : IntKind.i32.wrap (65536 + (u - 55296) * 1024 + (v - 56320)) = 65536 + (u - 55296) * 1024 + (v - 56320) := IntWalk.i32_in _ (by omega)
                  refine region_tail 20 (by kernel_rfl) (by kernel_rfl) ?_
                  intro W HW
                  have d0 : W.cell? ⟨wr.heap.size, 0, none⟩ = some (.int .i32 u) := by rw [HW.out]; exact cell_in wr _ 0 _ _ rfl
                  have d2 : W.cell? ⟨b, off + (p + 2), none⟩ = some (.int .u8 (gz zs (p + 2))) := by rw [HW.out]; exact c2 _
                  have d3 : W.cell? ⟨b, off + (p + 2 + 1), none⟩ = some (.int .u8 (gz zs (p + 2 + 1))) := by rw [HW.out]; exact c3 _
                  simp only [List.take_succ_cons, List.take_zero, List.drop_succ_cons, List.drop_zero]
                  repeat (first | (refine wpStill_step (fun K hK => ?_); go_simp; first | (refine hK _ ?_; clear hK K) | (refine ⟨_, (CV _).mono fun _ _ ⟨a, b⟩ => ⟨a, b.symm⟩, hK _ ?_⟩; clear hK K)))
                  refine wpStill_nil ?_
                  rw [HW.out]
                  clear HW d0 d2 d3
                  clear r1 r2 r3 r4 r5 r6 r7 r8 r9 r10 r11 r12 t5 t6 CV
                  go_wp2_with (at_builtin; go_loud (refine wpList_push st75 rfl _ _ rfl _ rfl (own_drewN (hown.alloc _) _) [.int .i32 (65536 + (u - 55296) * 1024 + (v - 56320)), .int .i64 p, .int .i64 4] (wr.heap.size + 1) rfl (by simp) rfl (flat_cells [(65536 + (u - 55296) * 1024 + (v - 56320), p, 4)]) (by omega) (by omega) (Below.drewN_ (hb.alloc hsz _) _) (by simp; omega) ?_); intro v1 w1 hown1 hb1 hk1; have hx1 := hk1 ⟨wr.heap.size, 2, none⟩ (.int .i64 4) (cell_in wr _ 2 _ _ rfl) (own_ne hown (Nat.le_refl _)); clear hk1 hown)
                  go_roundw
                  case rel => exact ⟨k + 1, p + 4, acc ++ [(65536 + 1024 * (u - 55296) + (v - 56320), p, 4)], HS, by go_num, own_as hown1 (by simp) (by rw [← flat_snoc, Int.mul_comm 1024]; rfl), hb1⟩
                  case measure => simp [intOf]; omega
    · have HE := wGo_end HP HL (by omega)
      go_wp2_with fail
      go_ret
      exact ⟨_, rfl, own_as hown (by rw [HE.out]) (by rw [HE.out]), hb⟩

end Go.Proofs.YtibakihcicfeoaaGreat
/- Walks of layer 2, of callees. No condition. -/
namespace Go.Proofs.YtibakihcicfeoaaGreat
open Go.RowKit


set_option maxRecDepth 100000 in
set_option maxHeartbeats 4000000 in
theorem items21_false (A : Option Addr) (n c : Nat) (zs : List Int) (w : World) (h : Rd w w.heap.size 1 A n c (ints .u8 zs)) (hz : Bytes8 zs) (hn : n ≤ 4096) :
    Calls Tryz.prog 52 #[.slice A n c, .bool false] w fun e w' => ∃ v, e = .returned v ∧ w'.ownsRow w.heap.size 78 3 v (wItems zs false).length (flat (wItems zs false)) ∧ Below w.heap.size w w' := by
  have HL := Lib.hid h.int_len
  go_enter Tryz.func52, Tryz.ntmps52
  go_wp2_with (go_at_call 100; refine (units_any _ _).mono ?_; rintro e w' ⟨rfl, rfl⟩)
  go_loopw [5, 7] (fun out at_ wr => ∃ (k p : Nat) (acc : List It), Hid (wGo zs false k = (acc, p)) ∧ at_ = .int .i64 p ∧ wr.ownsRow w.heap.size 78 3 out acc.length (flat acc) ∧ Below w.heap.size w wr)
    (fun _ at_ _ => n - (intOf at_).toNat)
  case atStart => exact ⟨0, 0, [], rfl, rfl, World.ownsRow_nil _ _ _ _, Below.refl _ _⟩
  case round =>
    obtain ⟨k, p, acc, HP, rfl, hown, hb⟩ := hrel
    obtain ⟨hal, hpn⟩ := wGo_acc HP HL
    have hsz := hb.size
    by_cases hp : p < n
    · obtain ⟨b, off, rfl, hbb, hc⟩ := (h.below hb).int_form (by omega)
      have c0 := hc p hp
      by_cases h1 : p + 1 = n
      · have HS := wGo_next HP (by rw [HL.out]; exact hp) (r := -1) (m := 1) (by unfold wStep; rw [HL.out, if_pos h1])
        subst h1
        have s0 : ((p : Int) + 1 - (p : Int)) = 1 := by omega
        go_wp2_with fail
        go_quiet (fail)
        go_wp2_with (at_builtin; refine wpList_push st75 rfl _ _ rfl _ rfl (own_drewN (hown.alloc _) _) [.int .i32 (-1), .int .i64 p, .int .i64 1] (wr.heap.size + 1) rfl (by simp) rfl (flat_cells [(-1, p, 1)]) (by omega) (by omega) (Below.drewN_ (hb.alloc hsz _) _) (by simp; omega) ?_; intro v1 w1 hown1 hb1 hk1; have hx1 := hk1 ⟨wr.heap.size, 2, none⟩ (.int .i64 1) (cell_in wr _ 2 _ _ rfl) (own_ne hown (Nat.le_refl _)); clear hk1 hown)
        go_roundw
        case rel => exact ⟨k + 1, p + 1, acc ++ [(-1, p, 1)], HS, by go_num, own_as hown1 (by simp) (flat_snoc acc (-1, p, 1)), hb1⟩
        case measure => simp [intOf]
      · have c1 := hc (p + 1) (by omega)
        have b0 := hz.at_ p
        have b1 := hz.at_ (p + 1)
        have CU := fun W => units2 (gz zs p) (gz zs (p + 1)) W b0 b1
        have hub := unitOf_bd (big := false) b0 b1
        generalize hu : unitOf false (gz zs p) (gz zs (p + 1)) = u at CU hub
        have HU := Lib.hid hu; clear hu
        obtain ⟨hu0, hu1⟩ := hub
        have s1 : IntKind.i64.wrap ((p : Int) + 1) = (p : Int) + 1 := IntWalk.i64_in _ (by omega)
        have s2 : (0 : Int) ≤ (p : Int) + 1 := by omega
        have s3 : ((p : Int) + 1).toNat = p + 1 := by omega
        have s4 : (p : Int) + 1 < (n : Int) := by omega
        go_wp2_with fail
        go_region_held3 (fun w' => w'.cell? ⟨b, off + p, none⟩ = some (.int .u8 (gz zs p)) ∧ w'.cell? ⟨b, off + (p + 1), none⟩ = some (.int .u8 (gz zs (p + 1)))) (go_keep)
          (first
            | (go_at_call 151; refine (CU _).mono ?_; rintro e w' ⟨rfl, rfl⟩))
        clear s1 s2 s3 s4 CU b0 b1
        by_cases hlo : u < 55296
        · have HS := wGo_next HP (by rw [HL.out]; exact hp) (r := u) (m := 2) (by unfold wStep; rw [HL.out, if_neg h1, HU.out, if_pos (.inl hlo)])
          have t1 : decide (55296 ≤ u) = false := by simp; omega
          go_wp2_with fail
          go_quiet (fail)
          go_wp2_with (at_builtin; refine wpList_push st75 rfl _ _ rfl _ rfl (own_drewN (hown.alloc _) _) [.int .i32 u, .int .i64 p, .int .i64 2] (wr.heap.size + 1) rfl (by simp) rfl (flat_cells [(u, p, 2)]) (by omega) (by omega) (Below.drewN_ (hb.alloc hsz _) _) (by simp; omega) ?_; intro v1 w1 hown1 hb1 hk1; have hx1 := hk1 ⟨wr.heap.size, 2, none⟩ (.int .i64 2) (cell_in wr _ 2 _ _ rfl) (own_ne hown (Nat.le_refl _)); clear hk1 hown)
          go_roundw
          case rel => exact ⟨k + 1, p + 2, acc ++ [(u, p, 2)], HS, by go_num, own_as hown1 (by simp) (flat_snoc acc (u, p, 2)), hb1⟩
          case measure => simp [intOf]; omega
        · by_cases hhi : 57343 < u
          · have HS := wGo_next HP (by rw [HL.out]; exact hp) (r := u) (m := 2) (by unfold wStep; rw [HL.out, if_neg h1, HU.out, if_pos (.inr hhi)])
            have t1 : decide (55296 ≤ u) = true := by simp; omega
            have t2 : decide (u < 56320) = false := by simp; omega
            have t3 : decide (u < 57344) = false := by simp; omega
            go_wp2_with fail
            go_quiet (fail)
            go_wp2_with (at_builtin; refine wpList_push st75 rfl _ _ rfl _ rfl (own_drewN (hown.alloc _) _) [.int .i32 u, .int .i64 p, .int .i64 2] (wr.heap.size + 1) rfl (by simp) rfl (flat_cells [(u, p, 2)]) (by omega) (by omega) (Below.drewN_ (hb.alloc hsz _) _) (by simp; omega) ?_; intro v1 w1 hown1 hb1 hk1; have hx1 := hk1 ⟨wr.heap.size, 2, none⟩ (.int .i64 2) (cell_in wr _ 2 _ _ rfl) (own_ne hown (Nat.le_refl _)); clear hk1 hown)
            go_roundw
            case rel => exact ⟨k + 1, p + 2, acc ++ [(u, p, 2)], HS, by go_num, own_as hown1 (by simp) (flat_snoc acc (u, p, 2)), hb1⟩
            case measure => simp [intOf]; omega
          · have t1 : decide (55296 ≤ u) = true := by simp; omega
            have t3 : decide (u < 57344) = true := by simp; omega
            by_cases hmd : 56319 < u
            · have HS := wGo_next HP (by rw [HL.out]; exact hp) (r := -1) (m := 2) (by unfold wStep; rw [HL.out, if_neg h1, HU.out, if_neg (by omega), if_pos (.inl hmd)])
              have t2 : decide (u < 56320) = false := by simp; omega
              go_wp2_with fail
              go_quiet (fail)
              go_wp2_with (at_builtin; refine wpList_push st75 rfl _ _ rfl _ rfl (own_drewN (hown.alloc _) _) [.int .i32 (-1), .int .i64 p, .int .i64 2] (wr.heap.size + 1) rfl (by simp) rfl (flat_cells [(-1, p, 2)]) (by omega) (by omega) (Below.drewN_ (hb.alloc hsz _) _) (by simp; omega) ?_; intro v1 w1 hown1 hb1 hk1; have hx1 := hk1 ⟨wr.heap.size, 2, none⟩ (.int .i64 2) (cell_in wr _ 2 _ _ rfl) (own_ne hown (Nat.le_refl _)); clear hk1 hown)
              go_roundw
              case rel => exact ⟨k + 1, p + 2, acc ++ [(-1, p, 2)], HS, by go_num, own_as hown1 (by simp) (flat_snoc acc (-1, p, 2)), hb1⟩
              case measure => simp [intOf]; omega
            · have t2 : decide (u < 56320) = true := by simp; omega
              have r0 : IntKind.i64.wrap ((n : Int) - (p : Int)) = (n : Int) - (p : Int) := IntWalk.i64_in _ (by omega)
              by_cases hsh : n < p + 4
              · have HS := wGo_next HP (by rw [HL.out]; exact hp) (r := -1) (m := 2) (by unfold wStep; rw [HL.out, if_neg h1, HU.out, if_neg (by omega), if_pos (.inr hsh)])
                have t4 : decide (4 ≤ (n : Int) - (p : Int)) = false := by simp; omega
                go_wp2_with fail
                go_quiet (fail)
                go_wp2_with (at_builtin; refine wpList_push st75 rfl _ _ rfl _ rfl (own_drewN (hown.alloc _) _) [.int .i32 (-1), .int .i64 p, .int .i64 2] (wr.heap.size + 1) rfl (by simp) rfl (flat_cells [(-1, p, 2)]) (by omega) (by omega) (Below.drewN_ (hb.alloc hsz _) _) (by simp; omega) ?_; intro v1 w1 hown1 hb1 hk1; have hx1 := hk1 ⟨wr.heap.size, 2, none⟩ (.int .i64 2) (cell_in wr _ 2 _ _ rfl) (own_ne hown (Nat.le_refl _)); clear hk1 hown)
                go_roundw
                case rel => exact ⟨k + 1, p + 2, acc ++ [(-1, p, 2)], HS, by go_num, own_as hown1 (by simp) (flat_snoc acc (-1, p, 2)), hb1⟩
                case measure => simp [intOf]; omega
              · have t4 : decide (4 ≤ (n : Int) - (p : Int)) = true := by simp; omega
                have c2 := fun X => cell_old wr b (off + (p + 2)) X _ (hc (p + 2) (by omega))
                have c3 := fun X => cell_old wr b (off + (p + 2 + 1)) X _ (hc (p + 2 + 1) (by omega))
                have b2 := hz.at_ (p + 2)
                have b3 := hz.at_ (p + 2 + 1)
                have CV := fun W => units2 (gz zs (p + 2)) (gz zs (p + 2 + 1)) W b2 b3
                have hvb := unitOf_bd (big := false) b2 b3
                generalize hv : unitOf false (gz zs (p + 2)) (gz zs (p + 2 + 1)) = v at CV hvb
                have HV := Lib.hid hv; clear hv
                obtain ⟨hv0, hv1⟩ := hvb
                have r1 : IntKind.i64.wrap ((p : Int) + 2) = (p : Int) + 2 := IntWalk.i64_in _ (by omega)
                have r2 : (0 : Int) ≤ (p : Int) + 2 := by omega
                have r3 : ((p : Int) + 2).toNat = p + 2 := by omega
                have r4 : (p : Int) + 2 < (n : Int) := by omega
                have r5 : IntKind.i64.wrap ((p : Int) + 2 + 1) = (p : Int) + 2 + 1 := IntWalk.i64_in _ (by omega)
                have r6 : (0 : Int) ≤ (p : Int) + 2 + 1 := by omega
                have r7 : ((p : Int) + 2 + 1).toNat = p + 2 + 1 := by omega
                have r8 : (p : Int) + 2 + 1 < (n : Int) := by omega
                by_cases hlw : v < 56320 ∨ 57343 < v
                · have HS := wGo_next HP (by rw [HL.out]; exact hp) (r := -1) (m := 2) (by unfold wStep; rw [HL.out, if_neg h1, HU.out, if_neg (by omega), if_neg (by omega), show p + 3 = p + 2 + 1 by omega, HV.out, if_pos hlw])
                  have t5 : (bits BinOp.andNot IntKind.i32 v 1023 == 56320) = false := low_no ⟨hv0, hv1⟩ hlw
                  go_wp2_with fail
                  go_quiet ((go_at_call 151; first | exact quiet_add_left (CV _) | exact quiet_left (CV _)))
                  clear r1 r2 r3 r4 r5 r6 r7 r8
                  go_wp2_with (at_builtin; refine wpList_push st75 rfl _ _ rfl _ rfl (own_drewN (hown.alloc _) _) [.int .i32 (-1), .int .i64 p, .int .i64 2] (wr.heap.size + 1) rfl (by simp) rfl (flat_cells [(-1, p, 2)]) (by omega) (by omega) (Below.drewN_ (hb.alloc hsz _) _) (by simp; omega) ?_; intro v1 w1 hown1 hb1 hk1; have hx1 := hk1 ⟨wr.heap.size, 2, none⟩ (.int .i64 2) (cell_in wr _ 2 _ _ rfl) (own_ne hown (Nat.le_refl _)); clear hk1 hown)
                  go_roundw
                  case rel => exact ⟨k + 1, p + 2, acc ++ [(-1, p, 2)], HS, by go_num, own_as hown1 (by simp) (flat_snoc acc (-1, p, 2)), hb1⟩
                  case measure => simp [intOf]; omega
                · have t5 : (bits BinOp.andNot IntKind.i32 v 1023 == 56320) = true := low_yes ⟨hv0, hv1⟩ hlw
                  have HS := wGo_next HP (by rw [HL.out]; exact hp) (r := 65536 + 1024 * (u - 55296) + (v - 56320)) (m := 4) (by unfold wStep; rw [HL.out, if_neg h1, HU.out, if_neg (by omega), if_neg (by omega), show p + 3 = p + 2 + 1 by omega, HV.out, if_neg hlw])
                  have t6 : bits BinOp.and IntKind.i32 v 1023 = v - 56320 := low_of ⟨hv0, hv1⟩ hlw
                  go_wp2_with fail
                  go_quiet ((go_at_call 151; first | exact quiet_add_left (CV _) | exact quiet_left (CV _)))
                  go_wp2_with fail
                  have r9 : IntKind.i32.wrap (u - 55296) = u - 55296 := IntWalk.i32_in _ (by omega)
                  have r10 : IntKind.i32.wrap ((u - 55296) * 1024) = (u - 55296) * 1024 := IntWalk.i32_in _ (by omega)
                  have r11 : IntKind.i32.wrap (65536 + (u - 55296) * 1024) = 65536 + (u - 55296) * 1024 := IntWalk.i32_in _ (by omega)
                  have r12 : IntKind.i32.wrap (65536 + (u - 55296) * 1024 + (v - 56320)) = 65536 + (u - 55296) * 1024 + (v - 56320) := IntWalk.i32_in _ (by omega)
                  refine region_tail 20 (by kernel_rfl) (by kernel_rfl) ?_
                  intro W HW
                  have d0 : W.cell? ⟨wr.heap.size, 0, none⟩ = some (.int .i32 u) := by rw [HW.out]; exact cell_in wr _ 0 _ _ rfl
                  have d2 : W.cell? ⟨b, off + (p + 2), none⟩ = some (.int .u8 (gz zs (p + 2))) := by rw [HW.out]; exact c2 _
                  have d3 : W.cell? ⟨b, off + (p + 2 + 1), none⟩ = some (.int .u8 (gz zs (p + 2 + 1))) := by rw [HW.out]; exact c3 _
                  simp only [List.take_succ_cons, List.take_zero, List.drop_succ_cons, List.drop_zero]
                  repeat (first | (refine wpStill_step (fun K hK => ?_); go_simp; first | (refine hK _ ?_; clear hK K) | (refine ⟨_, (CV _).mono fun _ _ ⟨a, b⟩ => ⟨a, b.symm⟩, hK _ ?_⟩; clear hK K)))
                  refine wpStill_nil ?_
                  rw [HW.out]
                  clear HW d0 d2 d3
                  clear r1 r2 r3 r4 r5 r6 r7 r8 r9 r10 r11 r12 t5 t6 CV
                  go_wp2_with (at_builtin; go_loud (refine wpList_push st75 rfl _ _ rfl _ rfl (own_drewN (hown.alloc _) _) [.int .i32 (65536 + (u - 55296) * 1024 + (v - 56320)), .int .i64 p, .int .i64 4] (wr.heap.size + 1) rfl (by simp) rfl (flat_cells [(65536 + (u - 55296) * 1024 + (v - 56320), p, 4)]) (by omega) (by omega) (Below.drewN_ (hb.alloc hsz _) _) (by simp; omega) ?_); intro v1 w1 hown1 hb1 hk1; have hx1 := hk1 ⟨wr.heap.size, 2, none⟩ (.int .i64 4) (cell_in wr _ 2 _ _ rfl) (own_ne hown (Nat.le_refl _)); clear hk1 hown)
                  go_roundw
                  case rel => exact ⟨k + 1, p + 4, acc ++ [(65536 + 1024 * (u - 55296) + (v - 56320), p, 4)], HS, by go_num, own_as hown1 (by simp) (by rw [← flat_snoc, Int.mul_comm 1024]; rfl), hb1⟩
                  case measure => simp [intOf]; omega
    · have HE := wGo_end HP HL (by omega)
      go_wp2_with fail
      go_ret
      exact ⟨_, rfl, own_as hown (by rw [HE.out]) (by rw [HE.out]), hb⟩

end Go.Proofs.YtibakihcicfeoaaGreat
/- Walks of layer 2, of callees. No condition. -/
namespace Go.Proofs.YtibakihcicfeoaaGreat
open Go.RowKit

theorem ints_two {zs : List Int} {p : Nat} (h : p + 2 ≤ zs.length) : ((ints .u8 zs).drop (p * 1)).take (2 * 1) = ints .u8 [gz zs p, gz zs (p + 1)] := by
  apply List.ext_getElem?
  intro i
  match i with
  | 0 => simp [gz, List.getElem?_drop, List.getElem?_eq_getElem (show p < zs.length by omega)]
  | 1 => simp [gz, List.getElem?_drop, List.getElem?_eq_getElem (show p + 1 < zs.length by omega)]
  | i + 2 => simp; omega

/-- Two bytes of a slice, cut out, as the walk spells the cut. -/
theorem Rd.two {w : World} {B n c b off p : Nat} {zs : List Int} (h : Rd w B 1 (some ⟨b, off, none⟩) n c (ints .u8 zs)) (hp : p + 2 ≤ n) : Rd w B 1 (some ⟨b, off + p, none⟩) 2 (c - p) (ints .u8 [gz zs p, gz zs (p + 1)]) := by
  have hc := h.cap
  have hl := h.int_len
  have := h.cut (l := p) (k := p + 2) (m := c) (by omega) (by omega) (Nat.le_refl _) (by omega)
  rw [if_neg (by omega), show p + 2 - p = 2 by omega, ints_two (by omega)] at this
  simpa [add_none] using this

end Go.Proofs.YtibakihcicfeoaaGreat
/- Walks of layer 2, of callees. No condition. -/
namespace Go.Proofs.YtibakihcicfeoaaGreat
open Go.RowKit

theorem items21 (A : Option Addr) (n c : Nat) (zs : List Int) (big : Bool) (w : World) (h : Rd w w.heap.size 1 A n c (ints .u8 zs)) (hz : Bytes8 zs) (hn : n ≤ 4096) :
    Calls Tryz.prog 52 #[.slice A n c, .bool big] w fun e w' => ∃ A' c', e = .returned (.slice A' (wItems zs big).length c') ∧ Rd w' w'.heap.size 3 A' (wItems zs big).length c' (flat (wItems zs big)) ∧ Below w.heap.size w w' := by
  have key : Calls Tryz.prog 52 #[.slice A n c, .bool big] w fun e w' => ∃ v, e = .returned v ∧ w'.ownsRow w.heap.size 78 3 v (wItems zs big).length (flat (wItems zs big)) ∧ Below w.heap.size w w' := by
    cases big
    · exact items21_false A n c zs w h hz hn
    · exact items21_true A n c zs w h hz hn
  refine key.mono ?_
  rintro e w' ⟨v, rfl, hown, hb⟩
  obtain ⟨A', c', rfl, ho⟩ := own_form hown
  exact ⟨A', c', rfl, .of_own ho, hb⟩
theorem awake_items : wItems [0, 65, 216, 0, 0] true = [(65, 0, 2), (-1, 2, 2), (-1, 4, 1)] := by decide +kernel

theorem wItems_get (ys : List Int) (big : Bool) : ∀ k (hk : k < (wItems ys big).length), ∃ (r : Int) (p N : Nat), (wItems ys big)[k] = (r, p, N) ∧ (wGo ys big k).2 = p ∧ (wGo ys big (k + 1)).2 = p + N ∧ 1 ≤ N ∧ p + N ≤ ys.length := by
  intro k hk
  obtain ⟨h1, h2, h3⟩ := runItems_get (step := wStep ys big) (n := ys.length) k hk
  have hg := wStep_good ys big _ h1
  exact ⟨_, _, _, h2, rfl, h3, hg.1, hg.2⟩
theorem wItems_last (ys : List Int) (big : Bool) : (wGo ys big (wItems ys big).length).2 = ys.length := runItems_last (wStep_good ys big)

end Go.Proofs.YtibakihcicfeoaaGreat
