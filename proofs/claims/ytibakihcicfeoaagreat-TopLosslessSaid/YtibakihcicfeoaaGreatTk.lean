/- Cursors: the walks of Node, Kind, Text, Span, Has, Up. No condition. -/
import Derived.Test.YtibakihcicfeoaaGreatTj
import Derived.Laws.Tables
namespace Go.Proofs.YtibakihcicfeoaaGreat
open Go.RowKit

/-- A cursor's cells; as a value. -/
abbrev cc (a : Option Addr) (n f k : Int) (u : Option Addr) : Array Value := #[.pointer a, .int .i64 n, .int .i64 f, .int .i64 k, .pointer u]
/-- What a region of one call and a store into the answer leaves. -/
theorem node35 (a : Option Addr) (n f k : Int) (u : Option Addr) (w : World) : Calls Tryz.prog 22 #[.agg (cc a n f k u)] w fun e w' => e = .returned (.int .i64 n) ∧ Below w.heap.size w w' := by
  go_enter Tryz.func22, Tryz.ntmps22
  go_wp2_with fail
  go_ret
  exact ⟨rfl, (Below.refl _ _).alloc (Nat.le_refl _) _⟩
theorem kind36 (a : Option Addr) (n f k : Int) (u : Option Addr) (w : World) (r : Int) (C : ∀ W, Below w.heap.size w W → Calls Tryz.prog 114 #[.pointer a, .int .i64 n] W fun e w' => e = .returned (.int .i64 r) ∧ Below W.heap.size W w') :
    Calls Tryz.prog 69 #[.agg (cc a n f k u)] w fun e w' => e = .returned (.int .i64 r) ∧ Below w.heap.size w w' := by
  have b0 := Lib.hid (fun o => (Below.refl w.heap.size w).alloc (Nat.le_refl _) o)
  go_enter Tryz.func69, Tryz.ntmps69
  go_wp2_with (go_at_call 114; refine (C _ (b0.out _)).mono ?_; rintro e w1 ⟨rfl, b1⟩; clear C)
  go_ret
  exact ⟨rfl, (b0.out _).trans (b1.mono (b0.out _).size)⟩
theorem text45 (a : Option Addr) (n f k : Int) (u : Option Addr) (w : World) (m : Nat) (xs : List Value) (C : ∀ W, Below w.heap.size w W → Calls Tryz.prog 16 #[.pointer a, .int .i64 n] W (OwnSaid 5 m xs W)) :
    Calls Tryz.prog 23 #[.agg (cc a n f k u)] w (OwnSaid 5 m xs w) := by
  have b0 := Lib.hid (fun o => (Below.refl w.heap.size w).alloc (Nat.le_refl _) o)
  unfold OwnSaid at C ⊢
  go_enter Tryz.func23, Tryz.ntmps23
  go_wp2_with (go_at_call 16; refine (C _ (b0.out _)).mono ?_; rintro e w1 ⟨A1, c1, rfl, o1, b1⟩; clear C)
  go_ret
  exact ⟨A1, c1, rfl, own_mono o1 (b0.out _).size, (b0.out _).trans (b1.mono (b0.out _).size)⟩
set_option maxRecDepth 100000 in
set_option maxHeartbeats 1000000 in
theorem span46 (a : Option Addr) (n f k : Int) (u : Option Addr) (w : World) (r : Int) (C : ∀ W, Below w.heap.size w W → Calls Tryz.prog 8 #[.pointer a, .int .i64 n] W fun e w' => e = .returned (.int .i64 r) ∧ Below W.heap.size W w') (h0 : 0 ≤ f) (h1 : f ≤ 1000000) (h2 : 0 ≤ r) (h3 : r ≤ 4294967296) :
    Calls Tryz.prog 21 #[.agg (cc a n f k u)] w fun e w' => e = .returned (.agg #[.int .i64 f, .int .i64 (f + r)]) ∧ Below w.heap.size w w' := by
  go_enter Tryz.func21, Tryz.ntmps21
  go_wp2_with fail
  have xB : ((w.alloc (.cells (cc a n f k u) 54)).alloc (.cells #[.int .i64 0, .int .i64 0] 58)).heap[w.heap.size]? = some (.cells (cc a n f k u) 54 (0, 0)) := (heap_alloc_old _ _ (by simp)).trans (heap_alloc_new w _)
  have xR : ((w.alloc (.cells (cc a n f k u) 54)).alloc (.cells #[.int .i64 0, .int .i64 0] 58)).heap[w.heap.size + 1]? = some (.cells #[.int .i64 0, .int .i64 0] 58 (0, 0)) := by
    have := heap_alloc_new (w.alloc (.cells (cc a n f k u) 54)) (.cells #[.int .i64 0, .int .i64 0] 58)
    simpa using this
  have b1 := ((Below.refl w.heap.size w).alloc (Nat.le_refl _) (.cells (cc a n f k u) 54)).alloc (by simp) (.cells #[.int .i64 0, .int .i64 0] 58)
  have hs1 : w.heap.size + 1 < ((w.alloc (.cells (cc a n f k u) 54)).alloc (.cells #[.int .i64 0, .int .i64 0] 58)).heap.size := by simp
  have u1 : IntKind.i64.wrap (f + r) = f + r := IntWalk.i64_in _ (by omega)
  generalize (w.alloc (.cells (cc a n f k u) 54)).alloc (.cells #[.int .i64 0, .int .i64 0] 58) = w1 at *
  refine wp_region_held_drew (S := fun W => W.heap[w.heap.size]? = some (.cells (cc a n f k u) 54 (0, 0))) (by kernel_rfl) xB (fun hHeld => ?_)
  change wpAnyH _ _ _ _ _ 12 #[false, false, false, false, false, false, false, false, false, false, false, false] _ _
  refine wpAnyH_take (i := 0) (oi := _) (v := ?_) rfl (by kernel_rfl) (by kernel_rfl) (by kernel_rfl) (fun _ _ _ h => h) (Or.inl ⟨by rfl, ?_⟩) hHeld ?_
  rotate_left
  · intro w9 hSw; go_simp; (try with_reducible rfl)
  simp only [List.getElem_toArray, List.getElem_cons_zero, Act.put, List.setIfInBounds_toArray, List.set_cons_zero, List.set_cons_succ]
  refine wpAnyH_take (i := 2) (oi := _) (v := ?_) rfl (by kernel_rfl) (by kernel_rfl) (by kernel_rfl) (fun _ _ _ h => h) (Or.inl ⟨by rfl, ?_⟩) hHeld ?_
  rotate_left
  · intro w9 hSw; go_simp; (try with_reducible rfl)
  simp only [List.getElem_toArray, List.getElem_cons_zero, List.getElem_cons_succ, Act.put, List.setIfInBounds_toArray, List.set_cons_zero, List.set_cons_succ]
  refine wpAnyH_take (i := 4) (oi := _) (v := ?_) rfl (by kernel_rfl) (by kernel_rfl) (by kernel_rfl) (fun _ _ _ h => h) (Or.inl ⟨by rfl, ?_⟩) hHeld ?_
  rotate_left
  · intro w9 hSw; go_simp; (try with_reducible rfl)
  simp only [List.getElem_toArray, List.getElem_cons_zero, List.getElem_cons_succ, Act.put, List.setIfInBounds_toArray, List.set_cons_zero, List.set_cons_succ]
  refine wpAnyH_take (i := 6) (oi := _) (v := ?_) rfl (by kernel_rfl) (by kernel_rfl) (by kernel_rfl) (fun _ _ _ h => h) (Or.inl ⟨by rfl, ?_⟩) hHeld ?_
  rotate_left
  · intro w9 hSw; go_simp; (try with_reducible rfl)
  simp only [List.getElem_toArray, List.getElem_cons_zero, List.getElem_cons_succ, Act.put, List.setIfInBounds_toArray, List.set_cons_zero, List.set_cons_succ]
  refine wpAnyH_take (i := 1) (oi := _) (v := ?_) rfl (by kernel_rfl) (by kernel_rfl) (by kernel_rfl) (fun _ _ _ h => h) (Or.inl ⟨by rfl, ?_⟩) hHeld ?_
  rotate_left
  · intro w9 hSw; have s2 := (cell_of_row w9 w.heap.size 2 _ _ _ hSw).trans (show _ = some (.int .i64 f) from rfl); go_simp; (try with_reducible rfl)
  simp only [List.getElem_toArray, List.getElem_cons_zero, List.getElem_cons_succ, Act.put, List.setIfInBounds_toArray, List.set_cons_zero, List.set_cons_succ]
  refine wpAnyH_take (i := 3) (oi := _) (v := ?_) rfl (by kernel_rfl) (by kernel_rfl) (by kernel_rfl) (fun _ _ _ h => h) (Or.inl ⟨by rfl, ?_⟩) hHeld ?_
  rotate_left
  · intro w9 hSw; have s2 := (cell_of_row w9 w.heap.size 2 _ _ _ hSw).trans (show _ = some (.int .i64 f) from rfl); go_simp; (try with_reducible rfl)
  simp only [List.getElem_toArray, List.getElem_cons_zero, List.getElem_cons_succ, Act.put, List.setIfInBounds_toArray, List.set_cons_zero, List.set_cons_succ]
  refine wpAnyH_take (i := 5) (oi := _) (v := ?_) rfl (by kernel_rfl) (by kernel_rfl) (by kernel_rfl) (fun _ _ _ h => h) (Or.inl ⟨by rfl, ?_⟩) hHeld ?_
  rotate_left
  · intro w9 hSw; have s0 := (cell_of_row w9 w.heap.size 0 _ _ _ hSw).trans (show _ = some (.pointer a) from rfl); go_simp; (try with_reducible rfl)
  simp only [List.getElem_toArray, List.getElem_cons_zero, List.getElem_cons_succ, Act.put, List.setIfInBounds_toArray, List.set_cons_zero, List.set_cons_succ]
  refine wpAnyH_take (i := 7) (oi := _) (v := ?_) rfl (by kernel_rfl) (by kernel_rfl) (by kernel_rfl) (fun _ _ _ h => h) (Or.inl ⟨by rfl, ?_⟩) hHeld ?_
  rotate_left
  · intro w9 hSw; have s1 := (cell_of_row w9 w.heap.size 1 _ _ _ hSw).trans (show _ = some (.int .i64 n) from rfl); go_simp; (try with_reducible rfl)
  simp only [List.getElem_toArray, List.getElem_cons_zero, List.getElem_cons_succ, Act.put, List.setIfInBounds_toArray, List.set_cons_zero, List.set_cons_succ]
  refine wpAnyH_ready (rs := [8]) (by kernel_rfl) (by simp) ?_
  refine AllReadyH.cons (o := _) rfl (fun K hK => ?_) AllReadyH.nil
  go_simp
  refine (C _ b1.drew).mono ?_
  rintro e w2 ⟨rfl, hb2⟩
  refine hK.out _ _ ((hb2.block w.heap.size (Nat.lt_of_succ_lt hs1)).trans hHeld) (fun hS1 => ?_)
  clear hK
  have yR := (hb2.block (w.heap.size + 1) hs1).trans (show w1.drew.heap[w.heap.size + 1]? = _ from xR)
  have bw2 := b1.drew.trans (hb2.mono (show w.heap.size ≤ w1.heap.size by omega))
  refine wpAnyH_take (i := 9) (oi := _) (v := ?_) rfl (by kernel_rfl) (by kernel_rfl) (by kernel_rfl) (fun _ _ _ h => h) (Or.inl ⟨by rfl, ?_⟩) hS1 ?_
  rotate_left
  · intro w9 hSw; have s9 := u1; go_simp; (try with_reducible rfl)
  simp only [List.getElem_toArray, List.getElem_cons_zero, List.getElem_cons_succ, Act.put, List.setIfInBounds_toArray, List.set_cons_zero, List.set_cons_succ]
  refine wpAnyH_take (i := 10) (oi := _) (v := ?_) rfl (by kernel_rfl) (by kernel_rfl) (by kernel_rfl) (fun _ _ _ h => h) (Or.inl ⟨by rfl, ?_⟩) hS1 ?_
  rotate_left
  · intro w9 hSw; go_simp; (try with_reducible rfl)
  simp only [List.getElem_toArray, List.getElem_cons_zero, List.getElem_cons_succ, Act.put, List.setIfInBounds_toArray, List.set_cons_zero, List.set_cons_succ]
  have y0 := cell_of_row w2 _ 0 _ _ _ yR
  have f0 := frozen_of_row w2 (w.heap.size + 1) 0 _ _ yR
  have yR1 := heap_setCell_same w2 (w.heap.size + 1) 0 _ _ (.int .i64 f) yR
  have y1 := cell_of_row _ _ 1 _ _ _ yR1
  have f1 := frozen_of_row _ (w.heap.size + 1) 1 _ _ yR1
  have YR2 := Lib.hid (heap_setCell_same _ (w.heap.size + 1) 1 _ _ (.int .i64 (f + r)) yR1)
  have B2 := Lib.hid ((bw2.setCell (p := ⟨w.heap.size + 1, 0, none⟩) (Nat.le_succ _) (.int .i64 f)).setCell (p := ⟨w.heap.size + 1, 1, none⟩) (Nat.le_succ _) (.int .i64 (f + r)))
  clear yR yR1
  refine wpAnyH_ready (rs := [11]) (by kernel_rfl) (by simp) ?_
  refine AllReadyH.cons (o := _) rfl (fun K hK => ?_) AllReadyH.nil
  go_simp
  refine hK.out _ _ (((heap_setCell_other _ ⟨w.heap.size + 1, 1, none⟩ w.heap.size _ (Nat.ne_of_lt (Nat.lt_succ_self _))).trans ((heap_setCell_other w2 ⟨w.heap.size + 1, 0, none⟩ w.heap.size _ (Nat.ne_of_lt (Nat.lt_succ_self _))).trans hS1))) (fun hS2 => ?_)
  clear hK
  refine wpAnyH_done (by kernel_rfl) ?_ _
  clear hS1 hS2 y0 f0 y1 f1
  go_wp2_with fail
  exact bodyPost_ret (v := .agg #[.int .i64 f, .int .i64 (f + r)]) (results_cell_row rfl _ _ (w.heap.size + 1) 58 _ (0, 0) _ rfl YR2.out Tryz.underlying58 rfl (by kernel_rfl)) rfl ⟨rfl, B2.out⟩
end Go.Proofs.YtibakihcicfeoaaGreat
/- Cursors in memory: where they stand; the walk of Down. No condition. -/
namespace Go.Proofs.YtibakihcicfeoaaGreat
open Go.RowKit

/-- A result of two, the first one in memory. -/
theorem results_row2 {P : Program} {fn : Func} {p u : Tmp} {ty : TypeId} (h : fn.results = #[.cell p ty, .tmp u]) (tmps : Array Value) (w : World) (g : Nat) (t : TypeId) (cs : Array Value) (fr : Nat × Nat) (d : TypeDesc) (x : Value)
    (hp : tmps.getD p undef = .pointer (some ⟨g, 0, none⟩)) (hx : tmps.getD u undef = x) (hg : w.heap[g]? = some (.cells cs t fr))
    (hu : P.underlying ty = some d) (hd : (match d with | .struct _ | .array _ _ => true | _ => false) = true) (hi : (P.info? ty).map (·.size) = some cs.size) :
    (results fn tmps).run P w = .ok (.tuple #[.agg cs, x]) w := by
  have hp' : tmps[p]?.getD undef = .pointer (some ⟨g, 0, none⟩) := by simpa using hp
  have hx' : tmps[u]?.getD undef = x := by simpa using hx
  simp [results, h, hp', hx', asAddr, run_loadVar_row w g t ty cs fr d hg hu hd hi]
/-- A cursor stored into its block: what the world is good for behind it. -/
theorem setRow_grown (w : World) (g : Nat) (cells : Array Value) : w.grownBy (w.setRow g cells) (some g) := by
  refine ⟨rfl, rfl, rfl, by simp [World.setRow], fun k hk hne => ?_⟩
  unfold World.setRow
  simp only [Array.getElem?_modify]
  rw [if_neg (fun e => hne (by rw [e]))]
theorem wpList_put {P : Program} {ops : Array Oper} {rest : List Oper} {o : Oper} {a : Act} {w : World} {Q : Exit → Act → World → Prop} (hgd : o.guard = none) (ty : TypeId) (x y : Operand) (ho : o.op = .store ty x y)
    (g : Nat) (cells : Array Value) (hx : a.eval x = .pointer (some ⟨g, 0, none⟩)) (hy : a.eval y = .agg cells)
    (t : TypeId) (old : Array Value) (hg : w.heap[g]? = some (.cells old t (0, 0))) (hi : (P.info? ty).map (·.size) = some cells.size)
    (hold : old.size = cells.size) (h1 : cells.all (·.oneCell') = true)
    (h : ∀ w', w'.heap[g]? = some (.cells cells t (0, 0)) → w.grownBy w' (some g) → wpList P ops Q rest (a.put o.dst undef) w') : wpList P ops Q (o :: rest) a w :=
  wpList_store_row hgd ty x y ho g cells hx hy t old hg hi hold h1 (h _ (setRow_heap w g old cells t _ hg) (setRow_grown w g cells))
theorem cc_one (a : Option Addr) (n f k : Int) (u : Option Addr) : (cc a n f k u).all (·.oneCell') = true := by simp [Value.oneCell']
theorem wpList_putc {ops : Array Oper} {rest : List Oper} {o : Oper} {a : Act} {w : World} {Q : Exit → Act → World → Prop} (hgd : o.guard = none) (x y : Operand) (ho : o.op = .store 54 x y)
    (g : Nat) (a0 : Option Addr) (n f k : Int) (u : Option Addr) (hx : a.eval x = .pointer (some ⟨g, 0, none⟩)) (hy : a.eval y = .agg (cc a0 n f k u))
    {b0 : Option Addr} {n' f' k' : Int} {u' : Option Addr} (hg : w.heap[g]? = some (.cells (cc b0 n' f' k' u') 54 (0, 0)))
    (h : ∀ w', w'.heap[g]? = some (.cells (cc a0 n f k u) 54 (0, 0)) → w.grownBy w' (some g) → wpList Tryz.prog ops Q rest (a.put o.dst undef) w') : wpList Tryz.prog ops Q (o :: rest) a w :=
  wpList_put hgd 54 x y ho g (cc a0 n f k u) hx hy 54 (cc b0 n' f' k' u') hg (by kernel_rfl) rfl (cc_one _ _ _ _ _) h
/-- Below, over what is written to one block alone. -/
theorem Below.put {B : Nat} {a w w' : World} {g : Nat} (h : Below B a w) (hB : B ≤ g) (hg : w.grownBy w' (some g)) (hs : B ≤ w.heap.size) : Below B a w' := h.grown hg hs fun k hk => by injection hk with e; omega
theorem two_blocks {w W : World} {o o' : Obj} (b1 : Below ((w.alloc o).alloc o').heap.size ((w.alloc o).alloc o') W) : W.heap[w.heap.size]? = some o ∧ W.heap[w.heap.size + 1]? = some o' ∧ Below w.heap.size w W ∧ w.heap.size + 1 < W.heap.size := by
  have hs : w.heap.size + 1 < ((w.alloc o).alloc o').heap.size := by simp
  refine ⟨(b1.block _ (Nat.lt_of_succ_lt hs)).trans ((heap_alloc_old _ _ (by simp)).trans (heap_alloc_new w _)), (b1.block _ hs).trans ?_, (((Below.refl w.heap.size w).alloc (Nat.le_refl _) o).alloc (by simp) o').trans (b1.mono (by simp; omega)), Nat.lt_of_lt_of_le hs b1.size⟩
  have := heap_alloc_new (w.alloc o) o'
  rwa [show (w.alloc o).heap.size = w.heap.size + 1 by simp] at this
/-- A cursor stands at the end of a path (told from its end); its forebears lie in blocks that meet X. -/
def Chain (X : Nat → Prop) (w : World) (ga : Nat) (N : List GN) (root : Nat) : List Int → Int → Int → Int → Option Addr → Prop
  | [], n, f, k, u => n = root ∧ f = 0 ∧ k = 0 ∧ u = none
  | q :: Q, n, f, k, u => ∃ (b : Nat) (n' f' k' : Int) (u' : Option Addr), u = some ⟨b, 0, none⟩ ∧ X b ∧ w.heap[b]? = some (.cells (cc (some ⟨ga, 0, none⟩) n' f' k' u') 54 (0, 0)) ∧ Chain X w ga N root Q n' f' k' u' ∧
      k = q ∧ 0 ≤ q ∧ q < (gn N n'.toNat).kids.length ∧ n = gz (gn N n'.toNat).kids q.toNat ∧ f = f' + bW N (gn N n'.toNat).kids q.toNat
theorem Chain.keep {X X' : Nat → Prop} {w w' : World} {ga : Nat} {N : List GN} {root : Nat} (hb : ∀ b ob, X b → w.heap[b]? = some ob → X' b ∧ w'.heap[b]? = some ob) : ∀ {Q : List Int} {n f k : Int} {u : Option Addr}, Chain X w ga N root Q n f k u → Chain X' w' ga N root Q n f k u
  | [], _, _, _, _, h => h
  | _ :: _, _, _, _, _, ⟨b, n', f', k', u', e, hX, hg, hc, r⟩ => ⟨b, n', f', k', u', e, (hb b _ hX hg).1, (hb b _ hX hg).2, hc.keep hb, r⟩
theorem Chain.below {X : Nat → Prop} {w w' : World} {ga : Nat} {N : List GN} {root : Nat} {Q : List Int} {n f k : Int} {u : Option Addr} (h : Chain X w ga N root Q n f k u) (hb : Below w.heap.size w w') : Chain X w' ga N root Q n f k u :=
  h.keep fun b _ hX hg => ⟨hX, (hb.block b (Array.getElem?_eq_some_iff.1 hg).1).trans hg⟩
theorem Chain.imp {X X' : Nat → Prop} {w : World} {ga : Nat} {N : List GN} {root : Nat} {Q : List Int} {n f k : Int} {u : Option Addr} (h : Chain X w ga N root Q n f k u) (hX : ∀ b, X b → b < w.heap.size → X' b) : Chain X' w ga N root Q n f k u :=
  h.keep fun b _ hx hg => ⟨hX b hx (Array.getElem?_eq_some_iff.1 hg).1, hg⟩
theorem bW_kid {N : List GN} (hN : OkN N) {i : Nat} (hi : i < N.length) : ∀ {q : Nat}, q < (gn N i).kids.length → bW N (gn N i).kids q + wd N (gz (gn N i).kids q) ≤ (gn N i).w := by
  intro q hq
  have h1 := bW_mono N (gn N i).kids (show q + 1 ≤ (gn N i).kids.length by omega)
  have h2 := hN.wid i hi
  rw [← bW_all] at h2
  simp only [bW] at h1
  unfold wd
  omega
/-- What holds where a cursor stands. -/
theorem Chain.ok {X : Nat → Prop} {w : World} {ga : Nat} {N : List GN} {root : Nat} (hN : OkN N) (hr : root < N.length) : ∀ {Q : List Int} {n f k : Int} {u : Option Addr}, Chain X w ga N root Q n f k u →
    0 ≤ n ∧ n < N.length ∧ 0 ≤ f ∧ f + wd N n ≤ (gn N root).w ∧ gatL N root Q.reverse = some n.toNat
  | [], n, f, k, u, ⟨hn, hf, _, _⟩ => by
    subst hn hf
    exact ⟨by omega, by omega, by omega, by unfold wd; rw [show ((root : Nat) : Int).toNat = root from rfl]; omega, rfl⟩
  | q :: Q, n, f, k, u, ⟨b, n', f', k', u', _, _, _, hc, _, h0, h1, hn, hf⟩ => by
    obtain ⟨p0, p1, p2, p3, p4⟩ := hc.ok hN hr
    obtain ⟨i, rfl⟩ := Int.eq_ofNat_of_zero_le p0
    obtain ⟨j, rfl⟩ := Int.eq_ofNat_of_zero_le h0
    have hi : i < N.length := by omega
    rw [show ((i : Nat) : Int).toNat = i from rfl] at h1 hn hf p4
    rw [show ((j : Nat) : Int).toNat = j from rfl] at hn hf
    have hj : j < (gn N i).kids.length := by omega
    have hk := good_kid hN.good hi (z := gz (gn N i).kids j) (by rw [gz_eq hj]; exact List.getElem_mem _)
    have hw := bW_kid hN hi hj
    have hwi : wd N (i : Nat) = (gn N i).w := rfl
    subst hn
    refine ⟨hk.1, by omega, by omega, by omega, ?_⟩
    rw [List.reverse_cons, gatL_append, p4]
    simp only [Option.bind_some, gatL]
    rw [if_pos ⟨by omega, by omega⟩]
    rfl

/-- What Down hands back. -/
def DownSaid (ga : Nat) (N : List GN) (n : Nat) (f k : Int) (u : Option Addr) (q : Int) (w : World) (e : Ending) (w' : World) : Prop :=
  (if 0 ≤ q ∧ q < (gn N n).kids.length then ∃ b, e = .returned (.tuple #[.agg (cc (some ⟨ga, 0, none⟩) (gz (gn N n).kids q.toNat) (f + bW N (gn N n).kids q.toNat) q (some ⟨b, 0, none⟩)), .bool true]) ∧ w.heap.size ≤ b ∧ w'.heap[b]? = some (.cells (cc (some ⟨ga, 0, none⟩) n f k u) 54 (0, 0))
  else e = .returned (.tuple #[.agg (cc none 0 0 0 none), .bool false])) ∧ Below w.heap.size w w'
set_option maxRecDepth 100000 in
set_option maxHeartbeats 4000000 in
theorem down40 {w : World} {B ga : Nat} {N : List GN} (h : Arena w B ga N) (hN : OkN N) (n : Nat) (hn : n < N.length) (f k : Int) (u : Option Addr) (q : Int) (hf0 : 0 ≤ f) (hf1 : f ≤ 1000000) (hw : (gn N n).w ≤ 1000000) :
    Calls Tryz.prog 39 #[.agg (cc (some ⟨ga, 0, none⟩) n f k u), .int .i64 q] w (DownSaid ga N n f k u q w) := by
  unfold DownSaid
  have b0 := Lib.hid (fun o o' => ((Below.refl w.heap.size w).alloc (Nat.le_refl _) o).alloc (by simp) o')
  have C28 := fun o o' => kids28_at (h.below (b0.out o o')) hn (Nat.le_trans (hN.few n hn) (by omega))
  unfold OwnSaid at C28
  have hkl := hN.few n hn
  by_cases hq : 0 ≤ q ∧ q < (gn N n).kids.length
  · obtain ⟨p, rfl⟩ := Int.eq_ofNat_of_zero_le hq.1
    have hpl : p < (gn N n).kids.length := by omega
    simp only [if_pos hq]
    rw [show ((p : Nat) : Int).toNat = p from rfl]
    have t0 : decide ((p : Int) < 0) = false := by simp
    have t1 : decide (((gn N n).kids.length : Int) ≤ (p : Int)) = false := by simp; omega
    have t2 : decide ((gn N n).kids.length ≤ p) = false := by simp; omega
    go_enter Tryz.func39, Tryz.ntmps39
    go_wp2_with (go_at_call 38; refine (C28 _ _).mono ?_; rintro e w1 ⟨A1, c1, rfl, o1, b1⟩; clear C28; obtain ⟨hX, hR, bw, hsw⟩ := two_blocks b1; have x0 : w1.cell? ⟨w.heap.size, 0, none⟩ = some (.pointer (some ⟨ga, 0, none⟩)) := cell_of_row w1 _ 0 _ _ _ hX; have x2 : w1.cell? ⟨w.heap.size, 2, none⟩ = some (.int .i64 f) := cell_of_row w1 _ 2 _ _ _ hX; obtain ⟨g1, rfl⟩ := own_head o1 (by omega); have hcap := (Rd.of_own o1).cap; have j1 : p ≤ c1 := by omega)
    have h1 := h.below bw
    have bq := bW_kid hN hn hpl
    go_loopw [7, 30] (fun at_ i wr => ∃ j : Nat, j ≤ p ∧ i = .int .i64 j ∧ at_ = .int .i64 (f + (bW N (gn N n).kids j : Nat)) ∧ Below w1.heap.size w1 wr)
      (fun _ i _ => p - (intOf i).toNat)
    case atStart => exact ⟨0, Nat.zero_le _, rfl, by simp [bW], Below.refl _ _⟩
    case round =>
      obtain ⟨j, hj, rfl, rfl, hb⟩ := hrel
      have o2 := own_below o1 hb
      have y0 := (hb.cell (p := ⟨w.heap.size, 0, none⟩) (Nat.lt_of_succ_lt hsw)).trans x0
      have hbw := bw.trans (hb.mono bw.size)
      by_cases hlt : j < p
      · have xk := (World.ownsRow.cellAt o2 j (by omega)).trans (ints_get .i64 (gn N n).kids j (by omega))
        have hk := good_kid hN.good hn (z := gz (gn N n).kids j) (by rw [gz_eq (by omega)]; exact List.getElem_mem _)
        obtain ⟨y, hy⟩ := Int.eq_ofNat_of_zero_le hk.1
        have hyl : y < N.length := by omega
        have C18 := width18_at (h1.below hb) hyl
        have HB1 := Lib.hid (show bW N (gn N n).kids (j + 1) = bW N (gn N n).kids j + (gn N y).w by simp only [bW, hy]; rfl)
        have hm := bW_mono N (gn N n).kids (show j + 1 ≤ p by omega)
        rw [HB1.out] at hm
        rw [hy] at xk
        clear hy hk o2
        generalize bW N (gn N n).kids j = S at *
        generalize (gn N y).w = wy at *
        go_wp2_with (go_at_call 8; refine C18.mono ?_; rintro e w3 ⟨rfl, hb3⟩; clear C18)
        go_roundw
        case rel => exact ⟨j + 1, by omega, by go_num, by rw [HB1.out, Int.natCast_add]; go_num, hb.trans (hb3.mono hb.size)⟩
        case measure => simp [intOf]; omega
      · obtain rfl : j = p := by omega
        have xk := (World.ownsRow.cellAt o2 j (by omega)).trans (ints_get .i64 (gn N n).kids j hpl)
        have hR3 := (hb.block (w.heap.size + 1) hsw).trans hR
        have hX3 := (hb.block w.heap.size (Nat.lt_of_succ_lt hsw)).trans hX
        have s3 := hbw.size
        clear o2
        go_wp2_with fail
        refine region_tail 9 (by kernel_rfl) (by kernel_rfl) ?_
        intro W HW
        have d0 : W.cell? ⟨w.heap.size, 0, none⟩ = some (.pointer (some ⟨ga, 0, none⟩)) := by rw [HW.out]; exact y0
        have d1 : W.cell? ⟨g1, j, none⟩ = some (.int .i64 (gz (gn N n).kids j)) := by rw [HW.out]; exact xk
        simp only [List.take_succ_cons, List.take_zero, List.drop_succ_cons, List.drop_zero]
        repeat (first | (refine wpStill_step (fun K hK => ?_); go_simp; refine hK _ ?_; clear hK K))
        refine wpStill_nil ?_
        have hR4 : W.heap[w.heap.size + 1]? = _ := (by rw [HW.out]; exact hR3 : W.heap[w.heap.size + 1]? = some (.cells (cc none 0 0 0 none) 54 (0, 0)))
        have hX4 : W.heap[w.heap.size]? = some (.cells (cc (some ⟨ga, 0, none⟩) n f k u) 54 (0, 0)) := by rw [HW.out]; exact hX3
        have hb4 : Below w.heap.size w W := by rw [HW.out]; exact hbw.drew
        clear HW d0 d1 y0 xk hR3 hX3
        go_wp2_with (refine wpList_putc rfl _ _ rfl (w.heap.size + 1) (some ⟨ga, 0, none⟩) (gz (gn N n).kids j) (f + (bW N (gn N n).kids j : Nat)) j (some ⟨w.heap.size, 0, none⟩) rfl rfl hR4 ?_; intro w5 hR5 hg5)
        exact bodyPost_ret (v := .tuple #[.agg (cc (some ⟨ga, 0, none⟩) (gz (gn N n).kids j) (f + (bW N (gn N n).kids j : Nat)) j (some ⟨w.heap.size, 0, none⟩)), .bool true]) (results_row2 rfl _ _ (w.heap.size + 1) 54 _ (0, 0) _ _ rfl rfl hR5 Tryz.underlying54 rfl (by kernel_rfl)) rfl ⟨⟨w.heap.size, rfl, Nat.le_refl _, (hg5.block _ (Array.getElem?_eq_some_iff.1 hX4).1 (by simp)).trans hX4⟩, Below.put hb4 (Nat.le_succ _) hg5 hb4.size⟩
  · simp only [if_neg hq]
    have hcase : decide (q < 0) = true ∨ (decide (q < 0) = false ∧ decide (((gn N n).kids.length : Int) ≤ q) = true) := by simp; omega
    clear hq
    rcases hcase with t0 | ⟨t0, t1⟩
    all_goals
      go_enter Tryz.func39, Tryz.ntmps39
      go_wp2_with (first
        | (go_at_call 38; refine (C28 _ _).mono ?_; rintro e w1 ⟨A1, c1, rfl, o1, b1⟩; clear C28; obtain ⟨-, hR, bw, hsw⟩ := two_blocks b1)
        | (refine wpList_putc rfl _ _ rfl (w.heap.size + 1) none 0 0 0 none rfl rfl hR ?_; intro w2 hR2 hg2))
      exact bodyPost_ret (v := .tuple #[.agg (cc none 0 0 0 none), .bool false]) (results_row2 rfl _ _ (w.heap.size + 1) 54 _ (0, 0) _ _ rfl rfl hR2 Tryz.underlying54 rfl (by kernel_rfl)) rfl ⟨rfl, Below.put bw (Nat.le_succ _) hg2 bw.size⟩
end Go.Proofs.YtibakihcicfeoaaGreat
/- Cursors: the walks of Down of the zero cursor, Up, beside, Next, Prev, Root. No condition. -/
namespace Go.Proofs.YtibakihcicfeoaaGreat
open Go.RowKit

/-- The zero cursor and false. -/
def NoCur (w : World) (e : Ending) (w' : World) : Prop := e = .returned (.tuple #[.agg (cc none 0 0 0 none), .bool false]) ∧ Below w.heap.size w w'
set_option maxRecDepth 100000 in
theorem down40_nil (n f k : Int) (u : Option Addr) (q : Int) (w : World) : Calls Tryz.prog 39 #[.agg (cc none n f k u), .int .i64 q] w (NoCur w) := by
  unfold NoCur
  have hcase : decide (q < 0) = true ∨ (decide (q < 0) = false ∧ decide (0 ≤ q) = true) := by simp; omega
  rcases hcase with t0 | ⟨t0, t1⟩
  all_goals
    go_enter Tryz.func39, Tryz.ntmps39
    go_wp2_with (first
      | (go_at_call 38; refine (kids28_nil n _).mono ?_; rintro e w1 ⟨A1, c1, rfl, b1⟩; obtain ⟨-, hR, bw, hsw⟩ := two_blocks b1)
      | (refine wpList_putc rfl _ _ rfl (w.heap.size + 1) none 0 0 0 none rfl rfl hR ?_; intro w2 hR2 hg2))
    exact bodyPost_ret (v := .tuple #[.agg (cc none 0 0 0 none), .bool false]) (results_row2 rfl _ _ (w.heap.size + 1) 54 _ (0, 0) _ _ rfl rfl hR2 Tryz.underlying54 rfl (by kernel_rfl)) rfl ⟨rfl, Below.put bw (Nat.le_succ _) hg2 bw.size⟩
theorem two_new (w : World) (o o' : Obj) : ((w.alloc o).alloc o').heap[w.heap.size + 1]? = some o' ∧ Below w.heap.size w ((w.alloc o).alloc o') := by
  refine ⟨?_, ((Below.refl w.heap.size w).alloc (Nat.le_refl _) o).alloc (by simp) o'⟩
  have := heap_alloc_new (w.alloc o) o'
  rwa [show (w.alloc o).heap.size = w.heap.size + 1 by simp] at this
theorem up41_root (a : Option Addr) (n f k : Int) (w : World) : Calls Tryz.prog 285 #[.agg (cc a n f k none)] w (NoCur w) := by
  unfold NoCur
  have T := fun o o' => two_new w o o'
  go_enter Tryz.func285, Tryz.ntmps285
  go_wp2_with fail
  exact bodyPost_ret (v := .tuple #[.agg (cc none 0 0 0 none), .bool false]) (results_row2 rfl _ _ (w.heap.size + 1) 54 _ (0, 0) _ _ rfl rfl (T _ _).1 Tryz.underlying54 rfl (by kernel_rfl)) rfl ⟨rfl, (T _ _).2⟩
theorem up41_kid (a : Option Addr) (n f k : Int) (b : Nat) (a' : Option Addr) (n' f' k' : Int) (u' : Option Addr) (w : World) (hb : w.heap[b]? = some (.cells (cc a' n' f' k' u') 54 (0, 0))) :
    Calls Tryz.prog 285 #[.agg (cc a n f k (some ⟨b, 0, none⟩))] w fun e w' => e = .returned (.tuple #[.agg (cc a' n' f' k' u'), .bool true]) ∧ Below w.heap.size w w' := by
  have T := fun o o' => two_new w o o'
  have z := fun (o o' : Obj) (j : Nat) (u : Value) (h : w.cell? ⟨b, j, none⟩ = some u) => cell_old _ b j o' u (cell_old w b j o u h)
  have z0 := fun o o' => z o o' 0 _ (cell_of_row w b 0 _ _ _ hb)
  have z1 := fun o o' => z o o' 1 _ (cell_of_row w b 1 _ _ _ hb)
  have z2 := fun o o' => z o o' 2 _ (cell_of_row w b 2 _ _ _ hb)
  have z3 := fun o o' => z o o' 3 _ (cell_of_row w b 3 _ _ _ hb)
  have z4 := fun o o' => z o o' 4 _ (cell_of_row w b 4 _ _ _ hb)
  clear z
  go_enter Tryz.func285, Tryz.ntmps285
  go_wp2_with fail
  exact bodyPost_ret (v := .tuple #[.agg (cc a' n' f' k' u'), .bool true]) (results_row2 rfl _ _ (w.heap.size + 1) 54 _ (0, 0) _ _ rfl rfl (T _ _).1 Tryz.underlying54 rfl (by kernel_rfl)) rfl ⟨rfl, (T _ _).2⟩
/-- What Root hands back. -/
def RootSaid (ga : Nat) (N : List GN) (n : Int) (w : World) (e : Ending) (w' : World) : Prop :=
  (if 0 ≤ n ∧ n < N.length then e = .returned (.tuple #[.agg (cc (some ⟨ga, 0, none⟩) n 0 0 none), .int .i64 0]) else e = .returned (.tuple #[.agg (cc none 0 0 0 none), .int .i64 6])) ∧ Below w.heap.size w w'
theorem root32_nil (n : Int) (w : World) : Calls Tryz.prog 37 #[.pointer none, .int .i64 n] w fun e w' => e = .returned (.tuple #[.agg (cc none 0 0 0 none), .int .i64 2]) ∧ Below w.heap.size w w' := by
  have T := fun o => (⟨heap_alloc_new w o, (Below.refl w.heap.size w).alloc (Nat.le_refl _) o⟩ : _ ∧ Below w.heap.size w (w.alloc o))
  go_enter Tryz.func37, Tryz.ntmps37
  go_wp2_with fail
  exact bodyPost_ret (v := .tuple #[.agg (cc none 0 0 0 none), .int .i64 2]) (results_row2 rfl _ _ w.heap.size 54 _ (0, 0) _ _ rfl rfl (T _).1 Tryz.underlying54 rfl (by kernel_rfl)) rfl ⟨rfl, (T _).2⟩
theorem root32 {w : World} {B ga : Nat} {N : List GN} (h : Arena w B ga N) (n : Int) : Calls Tryz.prog 37 #[.pointer (some ⟨ga, 0, none⟩), .int .i64 n] w (RootSaid ga N n w) := by
  unfold RootSaid
  have T := fun o => (⟨heap_alloc_new w o, (Below.refl w.heap.size w).alloc (Nat.le_refl _) o⟩ : _ ∧ Below w.heap.size w (w.alloc o))
  have C17 := fun o => len17 (h.below (T o).2)
  by_cases hn : 0 ≤ n ∧ n < N.length
  · simp only [if_pos hn]
    obtain ⟨i, rfl⟩ := Int.eq_ofNat_of_zero_le hn.1
    have t1 : decide ((N.length : Int) ≤ (i : Int)) = false := by simp; omega
    go_enter Tryz.func37, Tryz.ntmps37
    go_wp2_with (go_at_call 36; refine (C17 _).mono ?_; rintro e w1 ⟨rfl, rfl⟩)
    exact bodyPost_ret (v := .tuple #[.agg (cc (some ⟨ga, 0, none⟩) i 0 0 none), .int .i64 0]) (results_row2 rfl _ _ w.heap.size 54 _ (0, 0) _ _ rfl rfl (T _).1 Tryz.underlying54 rfl (by kernel_rfl)) rfl ⟨rfl, (T _).2⟩
  · simp only [if_neg hn]
    have hcase : decide (n < 0) = true ∨ (decide (n < 0) = false ∧ decide ((N.length : Int) ≤ n) = true) := by simp; omega
    clear hn
    rcases hcase with t0 | ⟨t0, t1⟩
    all_goals
      go_enter Tryz.func37, Tryz.ntmps37
      go_wp2_with (go_at_call 36; refine (C17 _).mono ?_; rintro e w1 ⟨rfl, rfl⟩)
      exact bodyPost_ret (v := .tuple #[.agg (cc none 0 0 0 none), .int .i64 6]) (results_row2 rfl _ _ w.heap.size 54 _ (0, 0) _ _ rfl rfl (T _).1 Tryz.underlying54 rfl (by kernel_rfl)) rfl ⟨rfl, (T _).2⟩
end Go.Proofs.YtibakihcicfeoaaGreat
/- Cursors: the walks of beside, Next, Prev. No condition. -/
namespace Go.Proofs.YtibakihcicfeoaaGreat
open Go.RowKit

theorem step_putc {ops : Array Oper} {o : Oper} {a : Act} {w : World} {K : Act → World → Prop} {Q : Exit → Act → World → Prop} {E : Prop} (hgd : o.guard = none) (x y : Operand) (ho : o.op = .store 54 x y)
    (g : Nat) (a0 : Option Addr) (n f k : Int) (u : Option Addr) (hx : a.eval x = .pointer (some ⟨g, 0, none⟩)) (hy : a.eval y = .agg (cc a0 n f k u))
    {b0 : Option Addr} {n' f' k' : Int} {u' : Option Addr} (hg : w.heap[g]? = some (.cells (cc b0 n' f' k' u') 54 (0, 0)))
    (h : ∀ w', w'.heap[g]? = some (.cells (cc a0 n f k u) 54 (0, 0)) → w.grownBy w' (some g) → K (a.put o.dst undef) w') : if Region.wanted o (yielded ops a.tmps) = true then o.wp Tryz.prog a w K Q else E := by
  rw [if_pos (by simp [Region.wanted, hgd])]
  exact wp_store_row 54 x y ho g (cc a0 n f k u) hx hy 54 (cc b0 n' f' k' u') hg (by kernel_rfl) rfl (cc_one _ _ _ _ _) (h _ (setRow_heap w g (cc b0 n' f' k' u') _ 54 _ hg) (setRow_grown w g _))
theorem beside64_root (a : Option Addr) (n f k d : Int) (w : World) : Calls Tryz.prog 126 #[.agg (cc a n f k none), .int .i64 d] w (NoCur w) := by
  unfold NoCur
  have T := fun o o' => two_new w o o'
  go_enter Tryz.func126, Tryz.ntmps126
  go_wp2_with fail
  exact bodyPost_ret (v := .tuple #[.agg (cc none 0 0 0 none), .bool false]) (results_row2 rfl _ _ (w.heap.size + 1) 54 _ (0, 0) _ _ rfl rfl (T _ _).1 Tryz.underlying54 rfl (by kernel_rfl)) rfl ⟨rfl, (T _ _).2⟩
set_option maxRecDepth 100000 in
set_option maxHeartbeats 4000000 in
theorem beside64 {w : World} {B ga : Nat} {N : List GN} (h : Arena w B ga N) (hN : OkN N) (n f k d : Int) (b i : Nat) (f' k' : Int) (u' : Option Addr) (hbU : w.heap[b]? = some (.cells (cc (some ⟨ga, 0, none⟩) (i : Nat) f' k' u') 54 (0, 0))) (hi : i < N.length) (hf0 : 0 ≤ f') (hf1 : f' ≤ 1000000) (hw : (gn N i).w ≤ 1000000)
    (hk0 : 0 ≤ k) (hk1 : k ≤ 1000000) (hd0 : -1 ≤ d) (hd1 : d ≤ 1) :
    Calls Tryz.prog 126 #[.agg (cc (some ⟨ga, 0, none⟩) n f k (some ⟨b, 0, none⟩)), .int .i64 d] w (DownSaid ga N i f' k' u' (k + d) w) := by
  obtain ⟨q, hqd⟩ : ∃ q, q = k + d := ⟨_, rfl⟩
  have hkd := Lib.hid (show IntKind.i64.wrap (k + d) = q by rw [hqd]; exact IntWalk.i64_in _ (by omega))
  rw [← hqd]
  clear hqd
  unfold DownSaid
  have hbl := (Array.getElem?_eq_some_iff.1 hbU).1
  have T := fun o o' => two_new w o o'
  by_cases hq : 0 ≤ q ∧ q < (gn N i).kids.length
  · simp only [if_pos hq]
    go_enter Tryz.func126, Tryz.ntmps126
    go_wp2_with fail
    have xB : ((w.alloc (.cells (cc (some ⟨ga, 0, none⟩) n f k (some ⟨b, 0, none⟩)) 54)).alloc (.cells (cc none 0 0 0 none) 54)).heap[w.heap.size]? = some (.cells (cc (some ⟨ga, 0, none⟩) n f k (some ⟨b, 0, none⟩)) 54 (0, 0)) := (heap_alloc_old _ _ (by simp)).trans (heap_alloc_new w _)
    have xU : ((w.alloc (.cells (cc (some ⟨ga, 0, none⟩) n f k (some ⟨b, 0, none⟩)) 54)).alloc (.cells (cc none 0 0 0 none) 54)).heap[b]? = some (.cells (cc (some ⟨ga, 0, none⟩) (i : Nat) f' k' u') 54 (0, 0)) := (heap_alloc_old _ _ (by simp; omega)).trans ((heap_alloc_old _ _ hbl).trans hbU)
    have xR := (T (.cells (cc (some ⟨ga, 0, none⟩) n f k (some ⟨b, 0, none⟩)) 54) (.cells (cc none 0 0 0 none) 54)).1
    have b1 := (T (.cells (cc (some ⟨ga, 0, none⟩) n f k (some ⟨b, 0, none⟩)) 54) (.cells (cc none 0 0 0 none) 54)).2
    have hs1 : w.heap.size + 1 < ((w.alloc (.cells (cc (some ⟨ga, 0, none⟩) n f k (some ⟨b, 0, none⟩)) 54)).alloc (.cells (cc none 0 0 0 none) 54)).heap.size := by simp
    have h1 := h.below b1
    clear T
    change Code.wp _ _ _ _ ((w.alloc (.cells (cc (some ⟨ga, 0, none⟩) n f k (some ⟨b, 0, none⟩)) 54)).alloc (.cells (cc none 0 0 0 none) 54))
    generalize (w.alloc (.cells (cc (some ⟨ga, 0, none⟩) n f k (some ⟨b, 0, none⟩)) 54)).alloc (.cells (cc none 0 0 0 none) 54) = w1 at *
    have C40 := down40 h1.drew hN i hi f' k' u' q hf0 hf1 hw
    unfold DownSaid at C40
    simp only [if_pos hq] at C40
    clear hq
    refine wp_region_held_drew (S := fun W => W.heap[w.heap.size]? = some (.cells (cc (some ⟨ga, 0, none⟩) n f k (some ⟨b, 0, none⟩)) 54 (0, 0)) ∧ W.heap[b]? = some (.cells (cc (some ⟨ga, 0, none⟩) (i : Nat) f' k' u') 54 (0, 0))) (by kernel_rfl) ⟨xB, xU⟩ (fun hHeld => ?_)
    change wpAnyH _ _ _ _ _ 13 #[false, false, false, false, false, false, false, false, false, false, false, false, false] _ _
    refine wpAnyH_take (i := 0) (oi := _) (v := ?_) rfl (by kernel_rfl) (by kernel_rfl) (by kernel_rfl) (fun _ _ _ h => h) (Or.inl ⟨by rfl, ?_⟩) hHeld ?_
    rotate_left
    · intro w9 hSw; go_simp; (try with_reducible rfl)
    simp only [List.getElem_toArray, List.getElem_cons_zero, Act.put, List.setIfInBounds_toArray, List.set_cons_zero, List.set_cons_succ]
    refine wpAnyH_take (i := 4) (oi := _) (v := ?_) rfl (by kernel_rfl) (by kernel_rfl) (by kernel_rfl) (fun _ _ _ h => h) (Or.inl ⟨by rfl, ?_⟩) hHeld ?_
    rotate_left
    · intro w9 hSw; go_simp; (try with_reducible rfl)
    simp only [List.getElem_toArray, List.getElem_cons_zero, List.getElem_cons_succ, Act.put, List.setIfInBounds_toArray, List.set_cons_zero, List.set_cons_succ]
    refine wpAnyH_take (i := 6) (oi := _) (v := ?_) rfl (by kernel_rfl) (by kernel_rfl) (by kernel_rfl) (fun _ _ _ h => h) (Or.inl ⟨by rfl, ?_⟩) hHeld ?_
    rotate_left
    · intro w9 hSw; go_simp; (try with_reducible rfl)
    simp only [List.getElem_toArray, List.getElem_cons_zero, List.getElem_cons_succ, Act.put, List.setIfInBounds_toArray, List.set_cons_zero, List.set_cons_succ]
    refine wpAnyH_take (i := 1) (oi := _) (v := ?_) rfl (by kernel_rfl) (by kernel_rfl) (by kernel_rfl) (fun _ _ _ h => h) (Or.inl ⟨by rfl, ?_⟩) hHeld ?_
    rotate_left
    · intro w9 hSw; have s4 := (cell_of_row w9 w.heap.size 4 _ _ _ hSw.1).trans (show _ = some (.pointer (some ⟨b, 0, none⟩)) from rfl); go_simp; (try with_reducible rfl)
    simp only [List.getElem_toArray, List.getElem_cons_zero, List.getElem_cons_succ, Act.put, List.setIfInBounds_toArray, List.set_cons_zero, List.set_cons_succ]
    refine wpAnyH_take (i := 2) (oi := _) (v := ?_) rfl (by kernel_rfl) (by kernel_rfl) (by kernel_rfl) (fun _ _ _ h => h) (Or.inl ⟨by rfl, ?_⟩) hHeld ?_
    rotate_left
    · intro w9 hSw; go_simp; (try with_reducible rfl)
    simp only [List.getElem_toArray, List.getElem_cons_zero, List.getElem_cons_succ, Act.put, List.setIfInBounds_toArray, List.set_cons_zero, List.set_cons_succ]
    refine wpAnyH_take (i := 3) (oi := _) (v := ?_) rfl (by kernel_rfl) (by kernel_rfl) (by kernel_rfl) (fun _ _ _ h => h) (Or.inl ⟨by rfl, ?_⟩) hHeld ?_
    rotate_left
    · intro w9 hSw; have s0 := (cell_of_row w9 b 0 _ _ _ hSw.2).trans (show _ = some (.pointer (some ⟨ga, 0, none⟩)) from rfl); have s1 := (cell_of_row w9 b 1 _ _ _ hSw.2).trans (show _ = some (.int .i64 (i : Nat)) from rfl); have s2 := (cell_of_row w9 b 2 _ _ _ hSw.2).trans (show _ = some (.int .i64 f') from rfl); have s3 := (cell_of_row w9 b 3 _ _ _ hSw.2).trans (show _ = some (.int .i64 k') from rfl); have s4 := (cell_of_row w9 b 4 _ _ _ hSw.2).trans (show _ = some (.pointer u') from rfl); go_simp; (try with_reducible rfl)
    simp only [List.getElem_toArray, List.getElem_cons_zero, List.getElem_cons_succ, Act.put, List.setIfInBounds_toArray, List.set_cons_zero, List.set_cons_succ]
    refine wpAnyH_take (i := 5) (oi := _) (v := ?_) rfl (by kernel_rfl) (by kernel_rfl) (by kernel_rfl) (fun _ _ _ h => h) (Or.inl ⟨by rfl, ?_⟩) hHeld ?_
    rotate_left
    · intro w9 hSw; have s3 := (cell_of_row w9 w.heap.size 3 _ _ _ hSw.1).trans (show _ = some (.int .i64 k) from rfl); go_simp; (try with_reducible rfl)
    simp only [List.getElem_toArray, List.getElem_cons_zero, List.getElem_cons_succ, Act.put, List.setIfInBounds_toArray, List.set_cons_zero, List.set_cons_succ]
    refine wpAnyH_take (i := 7) (oi := _) (v := ?_) rfl (by kernel_rfl) (by kernel_rfl) (by kernel_rfl) (fun _ _ _ h => h) (Or.inl ⟨by rfl, ?_⟩) hHeld ?_
    rotate_left
    · intro w9 hSw; have s9 := hkd.out; go_simp; (try with_reducible rfl)
    simp only [List.getElem_toArray, List.getElem_cons_zero, List.getElem_cons_succ, Act.put, List.setIfInBounds_toArray, List.set_cons_zero, List.set_cons_succ]
    refine wpAnyH_ready (rs := [8]) (by kernel_rfl) (by simp) ?_
    refine AllReadyH.cons (o := _) rfl (fun K hK => ?_) AllReadyH.nil
    go_simp
    refine C40.mono ?_
    rintro e w2 ⟨⟨b2, rfl, hb2g, hb2⟩, hw2⟩
    refine hK.out _ _ (⟨(hw2.block w.heap.size (Nat.lt_of_succ_lt hs1)).trans hHeld.1, (hw2.block b (Nat.lt_trans hbl (Nat.lt_of_succ_lt hs1))).trans hHeld.2⟩) (fun hS1 => ?_)
    clear hK
    have yR := (hw2.block (w.heap.size + 1) hs1).trans (show w1.drew.heap[w.heap.size + 1]? = _ from xR)
    have bw2 := b1.drew.trans (hw2.mono (show w.heap.size ≤ w1.heap.size by omega))
    refine wpAnyH_take (i := 9) (oi := _) (v := ?_) rfl (by kernel_rfl) (by kernel_rfl) (by kernel_rfl) (fun _ _ _ h => h) (Or.inl ⟨by rfl, ?_⟩) hS1 ?_
    rotate_left
    · intro w9 hSw; go_simp; (try with_reducible rfl)
    simp only [List.getElem_toArray, List.getElem_cons_zero, List.getElem_cons_succ, Act.put, List.setIfInBounds_toArray, List.set_cons_zero, List.set_cons_succ]
    refine wpAnyH_take (i := 10) (oi := _) (v := ?_) rfl (by kernel_rfl) (by kernel_rfl) (by kernel_rfl) (fun _ _ _ h => h) (Or.inl ⟨by rfl, ?_⟩) hS1 ?_
    rotate_left
    · intro w9 hSw; go_simp; (try with_reducible rfl)
    simp only [List.getElem_toArray, List.getElem_cons_zero, List.getElem_cons_succ, Act.put, List.setIfInBounds_toArray, List.set_cons_zero, List.set_cons_succ]
    refine wpAnyH_ready (rs := [11]) (by kernel_rfl) (by simp) ?_
    refine AllReadyH.cons (o := _) rfl (fun K hK => ?_) AllReadyH.nil
    refine step_putc rfl _ _ rfl (w.heap.size + 1) (some ⟨ga, 0, none⟩) (gz (gn N i).kids q.toNat) (f' + bW N (gn N i).kids q.toNat) q (some ⟨b2, 0, none⟩) rfl rfl yR ?_
    intro w3 hR3 hg3
    have bw3 := Below.put bw2 (Nat.le_succ _) hg3 bw2.size
    have HB2 := Lib.hid ((hg3.block b2 (Array.getElem?_eq_some_iff.1 hb2).1 (fun e => by injection e with e; have h8 : w1.heap.size ≤ b2 := hb2g; omega)).trans hb2)
    refine hK.out _ _ (⟨(hg3.block w.heap.size (Array.getElem?_eq_some_iff.1 hS1.1).1 (by simp)).trans hS1.1, (hg3.block b (Array.getElem?_eq_some_iff.1 hS1.2).1 (fun e => by injection e with e; omega)).trans hS1.2⟩) (fun hS2 => ?_)
    clear hK
    refine wpAnyH_take (i := 12) (oi := _) (v := ?_) rfl (by kernel_rfl) (by kernel_rfl) (by kernel_rfl) (fun _ _ _ h => h) (Or.inl ⟨by rfl, ?_⟩) hS2 ?_
    rotate_left
    · intro w9 hSw; go_simp; (try with_reducible rfl)
    simp only [List.getElem_toArray, List.getElem_cons_zero, List.getElem_cons_succ, Act.put, List.setIfInBounds_toArray, List.set_cons_zero, List.set_cons_succ]
    refine wpAnyH_done (by kernel_rfl) ?_ _
    go_wp2_with fail
    exact bodyPost_ret (v := .tuple #[.agg (cc (some ⟨ga, 0, none⟩) (gz (gn N i).kids q.toNat) (f' + bW N (gn N i).kids q.toNat) q (some ⟨b2, 0, none⟩)), .bool true]) (results_row2 rfl _ _ (w.heap.size + 1) 54 _ (0, 0) _ _ rfl rfl hR3 Tryz.underlying54 rfl (by kernel_rfl)) rfl ⟨⟨b2, rfl, Nat.le_trans (Nat.le_of_lt (Nat.lt_of_succ_lt hs1)) hb2g, HB2.out⟩, bw3⟩
  · simp only [if_neg hq]
    go_enter Tryz.func126, Tryz.ntmps126
    go_wp2_with fail
    have xB : ((w.alloc (.cells (cc (some ⟨ga, 0, none⟩) n f k (some ⟨b, 0, none⟩)) 54)).alloc (.cells (cc none 0 0 0 none) 54)).heap[w.heap.size]? = some (.cells (cc (some ⟨ga, 0, none⟩) n f k (some ⟨b, 0, none⟩)) 54 (0, 0)) := (heap_alloc_old _ _ (by simp)).trans (heap_alloc_new w _)
    have xU : ((w.alloc (.cells (cc (some ⟨ga, 0, none⟩) n f k (some ⟨b, 0, none⟩)) 54)).alloc (.cells (cc none 0 0 0 none) 54)).heap[b]? = some (.cells (cc (some ⟨ga, 0, none⟩) (i : Nat) f' k' u') 54 (0, 0)) := (heap_alloc_old _ _ (by simp; omega)).trans ((heap_alloc_old _ _ hbl).trans hbU)
    have xR := (T (.cells (cc (some ⟨ga, 0, none⟩) n f k (some ⟨b, 0, none⟩)) 54) (.cells (cc none 0 0 0 none) 54)).1
    have b1 := (T (.cells (cc (some ⟨ga, 0, none⟩) n f k (some ⟨b, 0, none⟩)) 54) (.cells (cc none 0 0 0 none) 54)).2
    have hs1 : w.heap.size + 1 < ((w.alloc (.cells (cc (some ⟨ga, 0, none⟩) n f k (some ⟨b, 0, none⟩)) 54)).alloc (.cells (cc none 0 0 0 none) 54)).heap.size := by simp
    have h1 := h.below b1
    clear T
    change Code.wp _ _ _ _ ((w.alloc (.cells (cc (some ⟨ga, 0, none⟩) n f k (some ⟨b, 0, none⟩)) 54)).alloc (.cells (cc none 0 0 0 none) 54))
    generalize (w.alloc (.cells (cc (some ⟨ga, 0, none⟩) n f k (some ⟨b, 0, none⟩)) 54)).alloc (.cells (cc none 0 0 0 none) 54) = w1 at *
    have C40 := down40 h1.drew hN i hi f' k' u' q hf0 hf1 hw
    unfold DownSaid at C40
    simp only [if_neg hq] at C40
    clear hq
    refine wp_region_held_drew (S := fun W => W.heap[w.heap.size]? = some (.cells (cc (some ⟨ga, 0, none⟩) n f k (some ⟨b, 0, none⟩)) 54 (0, 0)) ∧ W.heap[b]? = some (.cells (cc (some ⟨ga, 0, none⟩) (i : Nat) f' k' u') 54 (0, 0))) (by kernel_rfl) ⟨xB, xU⟩ (fun hHeld => ?_)
    change wpAnyH _ _ _ _ _ 13 #[false, false, false, false, false, false, false, false, false, false, false, false, false] _ _
    refine wpAnyH_take (i := 0) (oi := _) (v := ?_) rfl (by kernel_rfl) (by kernel_rfl) (by kernel_rfl) (fun _ _ _ h => h) (Or.inl ⟨by rfl, ?_⟩) hHeld ?_
    rotate_left
    · intro w9 hSw; go_simp; (try with_reducible rfl)
    simp only [List.getElem_toArray, List.getElem_cons_zero, Act.put, List.setIfInBounds_toArray, List.set_cons_zero, List.set_cons_succ]
    refine wpAnyH_take (i := 4) (oi := _) (v := ?_) rfl (by kernel_rfl) (by kernel_rfl) (by kernel_rfl) (fun _ _ _ h => h) (Or.inl ⟨by rfl, ?_⟩) hHeld ?_
    rotate_left
    · intro w9 hSw; go_simp; (try with_reducible rfl)
    simp only [List.getElem_toArray, List.getElem_cons_zero, List.getElem_cons_succ, Act.put, List.setIfInBounds_toArray, List.set_cons_zero, List.set_cons_succ]
    refine wpAnyH_take (i := 6) (oi := _) (v := ?_) rfl (by kernel_rfl) (by kernel_rfl) (by kernel_rfl) (fun _ _ _ h => h) (Or.inl ⟨by rfl, ?_⟩) hHeld ?_
    rotate_left
    · intro w9 hSw; go_simp; (try with_reducible rfl)
    simp only [List.getElem_toArray, List.getElem_cons_zero, List.getElem_cons_succ, Act.put, List.setIfInBounds_toArray, List.set_cons_zero, List.set_cons_succ]
    refine wpAnyH_take (i := 1) (oi := _) (v := ?_) rfl (by kernel_rfl) (by kernel_rfl) (by kernel_rfl) (fun _ _ _ h => h) (Or.inl ⟨by rfl, ?_⟩) hHeld ?_
    rotate_left
    · intro w9 hSw; have s4 := (cell_of_row w9 w.heap.size 4 _ _ _ hSw.1).trans (show _ = some (.pointer (some ⟨b, 0, none⟩)) from rfl); go_simp; (try with_reducible rfl)
    simp only [List.getElem_toArray, List.getElem_cons_zero, List.getElem_cons_succ, Act.put, List.setIfInBounds_toArray, List.set_cons_zero, List.set_cons_succ]
    refine wpAnyH_take (i := 2) (oi := _) (v := ?_) rfl (by kernel_rfl) (by kernel_rfl) (by kernel_rfl) (fun _ _ _ h => h) (Or.inl ⟨by rfl, ?_⟩) hHeld ?_
    rotate_left
    · intro w9 hSw; go_simp; (try with_reducible rfl)
    simp only [List.getElem_toArray, List.getElem_cons_zero, List.getElem_cons_succ, Act.put, List.setIfInBounds_toArray, List.set_cons_zero, List.set_cons_succ]
    refine wpAnyH_take (i := 3) (oi := _) (v := ?_) rfl (by kernel_rfl) (by kernel_rfl) (by kernel_rfl) (fun _ _ _ h => h) (Or.inl ⟨by rfl, ?_⟩) hHeld ?_
    rotate_left
    · intro w9 hSw; have s0 := (cell_of_row w9 b 0 _ _ _ hSw.2).trans (show _ = some (.pointer (some ⟨ga, 0, none⟩)) from rfl); have s1 := (cell_of_row w9 b 1 _ _ _ hSw.2).trans (show _ = some (.int .i64 (i : Nat)) from rfl); have s2 := (cell_of_row w9 b 2 _ _ _ hSw.2).trans (show _ = some (.int .i64 f') from rfl); have s3 := (cell_of_row w9 b 3 _ _ _ hSw.2).trans (show _ = some (.int .i64 k') from rfl); have s4 := (cell_of_row w9 b 4 _ _ _ hSw.2).trans (show _ = some (.pointer u') from rfl); go_simp; (try with_reducible rfl)
    simp only [List.getElem_toArray, List.getElem_cons_zero, List.getElem_cons_succ, Act.put, List.setIfInBounds_toArray, List.set_cons_zero, List.set_cons_succ]
    refine wpAnyH_take (i := 5) (oi := _) (v := ?_) rfl (by kernel_rfl) (by kernel_rfl) (by kernel_rfl) (fun _ _ _ h => h) (Or.inl ⟨by rfl, ?_⟩) hHeld ?_
    rotate_left
    · intro w9 hSw; have s3 := (cell_of_row w9 w.heap.size 3 _ _ _ hSw.1).trans (show _ = some (.int .i64 k) from rfl); go_simp; (try with_reducible rfl)
    simp only [List.getElem_toArray, List.getElem_cons_zero, List.getElem_cons_succ, Act.put, List.setIfInBounds_toArray, List.set_cons_zero, List.set_cons_succ]
    refine wpAnyH_take (i := 7) (oi := _) (v := ?_) rfl (by kernel_rfl) (by kernel_rfl) (by kernel_rfl) (fun _ _ _ h => h) (Or.inl ⟨by rfl, ?_⟩) hHeld ?_
    rotate_left
    · intro w9 hSw; have s9 := hkd.out; go_simp; (try with_reducible rfl)
    simp only [List.getElem_toArray, List.getElem_cons_zero, List.getElem_cons_succ, Act.put, List.setIfInBounds_toArray, List.set_cons_zero, List.set_cons_succ]
    refine wpAnyH_ready (rs := [8]) (by kernel_rfl) (by simp) ?_
    refine AllReadyH.cons (o := _) rfl (fun K hK => ?_) AllReadyH.nil
    go_simp
    refine C40.mono ?_
    rintro e w2 ⟨rfl, hw2⟩
    refine hK.out _ _ (⟨(hw2.block w.heap.size (Nat.lt_of_succ_lt hs1)).trans hHeld.1, (hw2.block b (Nat.lt_trans hbl (Nat.lt_of_succ_lt hs1))).trans hHeld.2⟩) (fun hS1 => ?_)
    clear hK
    have yR := (hw2.block (w.heap.size + 1) hs1).trans (show w1.drew.heap[w.heap.size + 1]? = _ from xR)
    have bw2 := b1.drew.trans (hw2.mono (show w.heap.size ≤ w1.heap.size by omega))
    refine wpAnyH_take (i := 9) (oi := _) (v := ?_) rfl (by kernel_rfl) (by kernel_rfl) (by kernel_rfl) (fun _ _ _ h => h) (Or.inl ⟨by rfl, ?_⟩) hS1 ?_
    rotate_left
    · intro w9 hSw; go_simp; (try with_reducible rfl)
    simp only [List.getElem_toArray, List.getElem_cons_zero, List.getElem_cons_succ, Act.put, List.setIfInBounds_toArray, List.set_cons_zero, List.set_cons_succ]
    refine wpAnyH_take (i := 10) (oi := _) (v := ?_) rfl (by kernel_rfl) (by kernel_rfl) (by kernel_rfl) (fun _ _ _ h => h) (Or.inl ⟨by rfl, ?_⟩) hS1 ?_
    rotate_left
    · intro w9 hSw; go_simp; (try with_reducible rfl)
    simp only [List.getElem_toArray, List.getElem_cons_zero, List.getElem_cons_succ, Act.put, List.setIfInBounds_toArray, List.set_cons_zero, List.set_cons_succ]
    refine wpAnyH_ready (rs := [11]) (by kernel_rfl) (by simp) ?_
    refine AllReadyH.cons (o := _) rfl (fun K hK => ?_) AllReadyH.nil
    refine step_putc rfl _ _ rfl (w.heap.size + 1) none 0 0 0 none rfl rfl yR ?_
    intro w3 hR3 hg3
    have bw3 := Below.put bw2 (Nat.le_succ _) hg3 bw2.size
    refine hK.out _ _ (⟨(hg3.block w.heap.size (Array.getElem?_eq_some_iff.1 hS1.1).1 (by simp)).trans hS1.1, (hg3.block b (Array.getElem?_eq_some_iff.1 hS1.2).1 (fun e => by injection e with e; omega)).trans hS1.2⟩) (fun hS2 => ?_)
    clear hK
    refine wpAnyH_take (i := 12) (oi := _) (v := ?_) rfl (by kernel_rfl) (by kernel_rfl) (by kernel_rfl) (fun _ _ _ h => h) (Or.inl ⟨by rfl, ?_⟩) hS2 ?_
    rotate_left
    · intro w9 hSw; go_simp; (try with_reducible rfl)
    simp only [List.getElem_toArray, List.getElem_cons_zero, List.getElem_cons_succ, Act.put, List.setIfInBounds_toArray, List.set_cons_zero, List.set_cons_succ]
    refine wpAnyH_done (by kernel_rfl) ?_ _
    go_wp2_with fail
    exact bodyPost_ret (v := .tuple #[.agg (cc none 0 0 0 none), .bool false]) (results_row2 rfl _ _ (w.heap.size + 1) 54 _ (0, 0) _ _ rfl rfl hR3 Tryz.underlying54 rfl (by kernel_rfl)) rfl ⟨rfl, bw3⟩

/-- Next and Prev, at the root. -/
theorem next42_root (a : Option Addr) (n f k : Int) (w : World) : Calls Tryz.prog 72 #[.agg (cc a n f k none)] w (NoCur w) := by
  unfold NoCur
  have C64 := fun W => beside64_root a n f k 1 W
  unfold NoCur at C64
  go_enter Tryz.func72, Tryz.ntmps72
  go_wp2_with (first
    | (go_at_call 126; refine (C64 _).mono ?_; rintro e w1 ⟨rfl, b1⟩; obtain ⟨-, hR, bw, hsw⟩ := two_blocks b1)
    | (refine wpList_putc rfl _ _ rfl (w.heap.size + 1) none 0 0 0 none rfl rfl hR ?_; intro w2 hR2 hg2))
  exact bodyPost_ret (v := .tuple #[.agg (cc none 0 0 0 none), .bool false]) (results_row2 rfl _ _ (w.heap.size + 1) 54 _ (0, 0) _ _ rfl rfl hR2 Tryz.underlying54 rfl (by kernel_rfl)) rfl ⟨rfl, Below.put bw (Nat.le_succ _) hg2 bw.size⟩
set_option maxRecDepth 100000 in
set_option maxHeartbeats 2000000 in
theorem next42 {w : World} {B ga : Nat} {N : List GN} (h : Arena w B ga N) (hN : OkN N) (n f k : Int) (b i : Nat) (f' k' : Int) (u' : Option Addr) (hbU : w.heap[b]? = some (.cells (cc (some ⟨ga, 0, none⟩) (i : Nat) f' k' u') 54 (0, 0))) (hi : i < N.length) (hf0 : 0 ≤ f') (hf1 : f' ≤ 1000000) (hw : (gn N i).w ≤ 1000000)
    (hk0 : 0 ≤ k) (hk1 : k ≤ 1000000) :
    Calls Tryz.prog 72 #[.agg (cc (some ⟨ga, 0, none⟩) n f k (some ⟨b, 0, none⟩))] w (DownSaid ga N i f' k' u' (k + 1) w) := by
  have hbl := (Array.getElem?_eq_some_iff.1 hbU).1
  have C64 := fun o o' => beside64 (h.below (two_new w o o').2) hN n f k (1) b i f' k' u' (((two_new w o o').2.block b hbl).trans hbU) hi hf0 hf1 hw hk0 hk1 (by omega) (by omega)
  unfold DownSaid at C64 ⊢
  generalize k + 1 = q at *
  by_cases hq : 0 ≤ q ∧ q < (gn N i).kids.length
  · simp only [if_pos hq] at C64 ⊢
    clear hq
    go_enter Tryz.func72, Tryz.ntmps72
    go_wp2_with (first
      | (go_at_call 126; refine (C64 _ _).mono ?_; rintro e w1 ⟨⟨b2, rfl, hb2g, hb2⟩, b1⟩; obtain ⟨-, hR, bw, hsw⟩ := two_blocks b1; have hb2g' : w.heap.size + 2 ≤ b2 := by simp at hb2g; omega)
      | (refine wpList_putc rfl _ _ rfl (w.heap.size + 1) (some ⟨ga, 0, none⟩) (gz (gn N i).kids q.toNat) (f' + bW N (gn N i).kids q.toNat) q (some ⟨b2, 0, none⟩) rfl rfl hR ?_; intro w2 hR2 hg2))
    exact bodyPost_ret (v := .tuple #[.agg (cc (some ⟨ga, 0, none⟩) (gz (gn N i).kids q.toNat) (f' + bW N (gn N i).kids q.toNat) q (some ⟨b2, 0, none⟩)), .bool true]) (results_row2 rfl _ _ (w.heap.size + 1) 54 _ (0, 0) _ _ rfl rfl hR2 Tryz.underlying54 rfl (by kernel_rfl)) rfl
      ⟨⟨b2, rfl, by omega, (hg2.block b2 (Array.getElem?_eq_some_iff.1 hb2).1 (fun e => by injection e with e; omega)).trans hb2⟩, Below.put bw (Nat.le_succ _) hg2 bw.size⟩
  · simp only [if_neg hq] at C64 ⊢
    clear hq
    go_enter Tryz.func72, Tryz.ntmps72
    go_wp2_with (first
      | (go_at_call 126; refine (C64 _ _).mono ?_; rintro e w1 ⟨rfl, b1⟩; obtain ⟨-, hR, bw, hsw⟩ := two_blocks b1)
      | (refine wpList_putc rfl _ _ rfl (w.heap.size + 1) none 0 0 0 none rfl rfl hR ?_; intro w2 hR2 hg2))
    exact bodyPost_ret (v := .tuple #[.agg (cc none 0 0 0 none), .bool false]) (results_row2 rfl _ _ (w.heap.size + 1) 54 _ (0, 0) _ _ rfl rfl hR2 Tryz.underlying54 rfl (by kernel_rfl)) rfl ⟨rfl, Below.put bw (Nat.le_succ _) hg2 bw.size⟩
end Go.Proofs.YtibakihcicfeoaaGreat
