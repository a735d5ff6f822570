/- Cursors in memory: where they stand; the walk of Down. No condition. -/
import Derived.Test.YtbmbiffhgdkpiaaR0
import Derived.Laws.Tables
namespace Go.Proofs.Ytbmbiffhgdkpiaa
open Go.RowKit

/-- A result of two, the first one in memory. -/
theorem results_row2 {P : Program} {fn : Func} {p u : Tmp} {ty : TypeId} (h : fn.results = #[.cell p ty, .tmp u]) (tmps : Array Value) (w : World) (g : Nat) (t : TypeId) (cs : Array Value) (fr : Nat × Nat) (d : TypeDesc) (x : Value)
    (hp : tmps.getD p undef = .pointer (some ⟨g, 0, none⟩)) (hx : tmps.getD u undef = x) (hg : w.heap[g]? = some (.cells cs t fr))
    (hu : P.underlying ty = some d) (hd : (match d with | .struct _ | .array _ _ => true | _ => false) = true) (hi : (P.info? ty).map (·.size) = some cs.size) :
    (results fn tmps).run P w = .ok (.tuple #[.agg cs, x]) w := by
  have hp' : tmps[p]?.getD undef = .pointer (some ⟨g, 0, none⟩) := by simpa using hp
  have hx' : tmps[u]?.getD undef = x := by simpa using hx
  simp [results, h, hp', hx', asAddr, run_loadVar_row w g t ty cs fr d hg hu hd hi]
/-- A cursor stored into its block: what the world is good for behind it. -/
theorem setRow_grown (w : World) (g : Nat) (cells : Array Value) : w.grownBy (w.setRow g cells) (some g) := by
  refine ⟨rfl, rfl, rfl, by simp [World.setRow], fun k hk hne => ?_⟩
  unfold World.setRow
  simp only [Array.getElem?_modify]
  rw [if_neg (fun e => hne (by rw [e]))]
theorem wpList_put {P : Program} {ops : Array Oper} {rest : List Oper} {o : Oper} {a : Act} {w : World} {Q : Exit → Act → World → Prop} (hgd : o.guard = none) (ty : TypeId) (x y : Operand) (ho : o.op = .store ty x y)
    (g : Nat) (cells : Array Value) (hx : a.eval x = .pointer (some ⟨g, 0, none⟩)) (hy : a.eval y = .agg cells)
    (t : TypeId) (old : Array Value) (hg : w.heap[g]? = some (.cells old t (0, 0))) (hi : (P.info? ty).map (·.size) = some cells.size)
    (hold : old.size = cells.size) (h1 : cells.all (·.oneCell') = true)
    (h : ∀ w', w'.heap[g]? = some (.cells cells t (0, 0)) → w.grownBy w' (some g) → wpList P ops Q rest (a.put o.dst undef) w') : wpList P ops Q (o :: rest) a w :=
  wpList_store_row hgd ty x y ho g cells hx hy t old hg hi hold h1 (h _ (setRow_heap w g old cells t _ hg) (setRow_grown w g cells))
theorem cc_one (a : Option Addr) (n f k : Int) (u : Option Addr) : (cc a n f k u).all (·.oneCell') = true := by simp [Value.oneCell']
theorem wpList_putc {ops : Array Oper} {rest : List Oper} {o : Oper} {a : Act} {w : World} {Q : Exit → Act → World → Prop} (hgd : o.guard = none) (x y : Operand) (ho : o.op = .store 59 x y)
    (g : Nat) (a0 : Option Addr) (n f k : Int) (u : Option Addr) (hx : a.eval x = .pointer (some ⟨g, 0, none⟩)) (hy : a.eval y = .agg (cc a0 n f k u))
    {b0 : Option Addr} {n' f' k' : Int} {u' : Option Addr} (hg : w.heap[g]? = some (.cells (cc b0 n' f' k' u') 59 (0, 0)))
    (h : ∀ w', w'.heap[g]? = some (.cells (cc a0 n f k u) 59 (0, 0)) → w.grownBy w' (some g) → wpList Try.prog ops Q rest (a.put o.dst undef) w') : wpList Try.prog ops Q (o :: rest) a w :=
  wpList_put hgd 59 x y ho g (cc a0 n f k u) hx hy 59 (cc b0 n' f' k' u') hg (by kernel_rfl) rfl (cc_one _ _ _ _ _) h
/-- Below, over what is written to one block alone. -/
theorem Below.put {B : Nat} {a w w' : World} {g : Nat} (h : Below B a w) (hB : B ≤ g) (hg : w.grownBy w' (some g)) (hs : B ≤ w.heap.size) : Below B a w' := h.grown hg hs fun k hk => by injection hk with e; omega
theorem two_blocks {w W : World} {o o' : Obj} (b1 : Below ((w.alloc o).alloc o').heap.size ((w.alloc o).alloc o') W) : W.heap[w.heap.size]? = some o ∧ W.heap[w.heap.size + 1]? = some o' ∧ Below w.heap.size w W ∧ w.heap.size + 1 < W.heap.size := by
  have hs : w.heap.size + 1 < ((w.alloc o).alloc o').heap.size := by simp
  refine ⟨(b1.block _ (Nat.lt_of_succ_lt hs)).trans ((heap_alloc_old _ _ (by simp)).trans (heap_alloc_new w _)), (b1.block _ hs).trans ?_, (((Below.refl w.heap.size w).alloc (Nat.le_refl _) o).alloc (by simp) o').trans (b1.mono (by simp; omega)), Nat.lt_of_lt_of_le hs b1.size⟩
  have := heap_alloc_new (w.alloc o) o'
  rwa [show (w.alloc o).heap.size = w.heap.size + 1 by simp] at this
/-- A cursor stands at the end of a path (told from its end); its forebears lie in blocks that meet X. -/
def Chain (X : Nat → Prop) (w : World) (ga : Nat) (N : List GN) (root : Nat) : List Int → Int → Int → Int → Option Addr → Prop
  | [], n, f, k, u => n = root ∧ f = 0 ∧ k = 0 ∧ u = none
  | q :: Q, n, f, k, u => ∃ (b : Nat) (n' f' k' : Int) (u' : Option Addr), u = some ⟨b, 0, none⟩ ∧ X b ∧ w.heap[b]? = some (.cells (cc (some ⟨ga, 0, none⟩) n' f' k' u') 59 (0, 0)) ∧ Chain X w ga N root Q n' f' k' u' ∧
      k = q ∧ 0 ≤ q ∧ q < (gn N n'.toNat).kids.length ∧ n = gz (gn N n'.toNat).kids q.toNat ∧ f = f' + bW N (gn N n'.toNat).kids q.toNat
theorem Chain.keep {X X' : Nat → Prop} {w w' : World} {ga : Nat} {N : List GN} {root : Nat} (hb : ∀ b ob, X b → w.heap[b]? = some ob → X' b ∧ w'.heap[b]? = some ob) : ∀ {Q : List Int} {n f k : Int} {u : Option Addr}, Chain X w ga N root Q n f k u → Chain X' w' ga N root Q n f k u
  | [], _, _, _, _, h => h
  | _ :: _, _, _, _, _, ⟨b, n', f', k', u', e, hX, hg, hc, r⟩ => ⟨b, n', f', k', u', e, (hb b _ hX hg).1, (hb b _ hX hg).2, hc.keep hb, r⟩
theorem Chain.below {X : Nat → Prop} {w w' : World} {ga : Nat} {N : List GN} {root : Nat} {Q : List Int} {n f k : Int} {u : Option Addr} (h : Chain X w ga N root Q n f k u) (hb : Below w.heap.size w w') : Chain X w' ga N root Q n f k u :=
  h.keep fun b _ hX hg => ⟨hX, (hb.block b (Array.getElem?_eq_some_iff.1 hg).1).trans hg⟩
theorem Chain.imp {X X' : Nat → Prop} {w : World} {ga : Nat} {N : List GN} {root : Nat} {Q : List Int} {n f k : Int} {u : Option Addr} (h : Chain X w ga N root Q n f k u) (hX : ∀ b, X b → b < w.heap.size → X' b) : Chain X' w ga N root Q n f k u :=
  h.keep fun b _ hx hg => ⟨hX b hx (Array.getElem?_eq_some_iff.1 hg).1, hg⟩
theorem bW_kid {N : List GN} (hN : OkN N) {i : Nat} (hi : i < N.length) : ∀ {q : Nat}, q < (gn N i).kids.length → bW N (gn N i).kids q + wd N (gz (gn N i).kids q) ≤ (gn N i).w := by
  intro q hq
  have h1 := bW_mono N (gn N i).kids (show q + 1 ≤ (gn N i).kids.length by omega)
  have h2 := hN.wid i hi
  rw [← bW_all] at h2
  simp only [bW] at h1
  unfold wd
  omega
/-- What holds where a cursor stands. -/
theorem Chain.ok {X : Nat → Prop} {w : World} {ga : Nat} {N : List GN} {root : Nat} (hN : OkN N) (hr : root < N.length) : ∀ {Q : List Int} {n f k : Int} {u : Option Addr}, Chain X w ga N root Q n f k u →
    0 ≤ n ∧ n < N.length ∧ 0 ≤ f ∧ f + wd N n ≤ (gn N root).w ∧ gatL N root Q.reverse = some n.toNat
  | [], n, f, k, u, ⟨hn, hf, _, _⟩ => by
    subst hn hf
    exact ⟨by omega, by omega, by omega, by unfold wd; rw [show ((root : Nat) : Int).toNat = root from rfl]; omega, rfl⟩
  | q :: Q, n, f, k, u, ⟨b, n', f', k', u', _, _, _, hc, _, h0, h1, hn, hf⟩ => by
    obtain ⟨p0, p1, p2, p3, p4⟩ := hc.ok hN hr
    obtain ⟨i, rfl⟩ := Int.eq_ofNat_of_zero_le p0
    obtain ⟨j, rfl⟩ := Int.eq_ofNat_of_zero_le h0
    have hi : i < N.length := by omega
    rw [show ((i : Nat) : Int).toNat = i from rfl] at h1 hn hf p4
    rw [show ((j : Nat) : Int).toNat = j from rfl] at hn hf
    have hj : j < (gn N i).kids.length := by omega
    have hk := good_kid hN.good hi (z := gz (gn N i).kids j) (by rw [gz_eq hj]; exact List.getElem_mem _)
    have hw := bW_kid hN hi hj
    have hwi : wd N (i : Nat) = (gn N i).w := rfl
    subst hn
    refine ⟨hk.1, by omega, by omega, by omega, ?_⟩
    rw [List.reverse_cons, gatL_append, p4]
    simp only [Option.bind_some, gatL]
    rw [if_pos ⟨by omega, by omega⟩]
    rfl

/-- What Down hands back. -/
def DownSaid (ga : Nat) (N : List GN) (n : Nat) (f k : Int) (u : Option Addr) (q : Int) (w : World) (e : Ending) (w' : World) : Prop :=
  (if 0 ≤ q ∧ q < (gn N n).kids.length then ∃ b, e = .returned (.tuple #[.agg (cc (some ⟨ga, 0, none⟩) (gz (gn N n).kids q.toNat) (f + bW N (gn N n).kids q.toNat) q (some ⟨b, 0, none⟩)), .bool true]) ∧ w.heap.size ≤ b ∧ w'.heap[b]? = some (.cells (cc (some ⟨ga, 0, none⟩) n f k u) 59 (0, 0))
  else e = .returned (.tuple #[.agg (cc none 0 0 0 none), .bool false])) ∧ Below w.heap.size w w'
set_option maxRecDepth 100000 in
set_option maxHeartbeats 4000000 in
theorem down40 {w : World} {B ga : Nat} {N : List GN} (h : Arena w B ga N) (hN : OkN N) (n : Nat) (hn : n < N.length) (f k : Int) (u : Option Addr) (q : Int) (hf0 : 0 ≤ f) (hf1 : f ≤ 1000000) (hw : (gn N n).w ≤ 1000000) :
    Calls Try.prog 40 #[.agg (cc (some ⟨ga, 0, none⟩) n f k u), .int .i64 q] w (DownSaid ga N n f k u q w) := by
  unfold DownSaid
  have b0 := Lib.hid (fun o o' => ((Below.refl w.heap.size w).alloc (Nat.le_refl _) o).alloc (by simp) o')
  have C28 := fun o o' => kids28_at (h.below (b0.out o o')) hn (Nat.le_trans (hN.few n hn) (by omega))
  unfold OwnSaid at C28
  have hkl := hN.few n hn
  by_cases hq : 0 ≤ q ∧ q < (gn N n).kids.length
  · obtain ⟨p, rfl⟩ := Int.eq_ofNat_of_zero_le hq.1
    have hpl : p < (gn N n).kids.length := by omega
    simp only [if_pos hq]
    rw [show ((p : Nat) : Int).toNat = p from rfl]
    have t0 : decide ((p : Int) < 0) = false := by simp
    have t1 : decide (((gn N n).kids.length : Int) ≤ (p : Int)) = false := by simp; omega
    have t2 : decide ((gn N n).kids.length ≤ p) = false := by simp; omega
    go_enter Try.func40, Try.ntmps40
    go_wp2_with (go_at_call 28; refine (C28 _ _).mono ?_; rintro e w1 ⟨A1, c1, rfl, o1, b1⟩; clear C28; obtain ⟨hX, hR, bw, hsw⟩ := two_blocks b1; have x0 : w1.cell? ⟨w.heap.size, 0, none⟩ = some (.pointer (some ⟨ga, 0, none⟩)) := cell_of_row w1 _ 0 _ _ _ hX; have x2 : w1.cell? ⟨w.heap.size, 2, none⟩ = some (.int .i64 f) := cell_of_row w1 _ 2 _ _ _ hX; obtain ⟨g1, rfl⟩ := own_head o1 (by omega); have hcap := (Rd.of_own o1).cap; have j1 : p ≤ c1 := by omega)
    have h1 := h.below bw
    have bq := bW_kid hN hn hpl
    go_loopw [7, 30] (fun at_ i wr => ∃ j : Nat, j ≤ p ∧ i = .int .i64 j ∧ at_ = .int .i64 (f + (bW N (gn N n).kids j : Nat)) ∧ Below w1.heap.size w1 wr)
      (fun _ i _ => p - (intOf i).toNat)
    case atStart => exact ⟨0, Nat.zero_le _, rfl, by simp [bW], Below.refl _ _⟩
    case round =>
      obtain ⟨j, hj, rfl, rfl, hb⟩ := hrel
      have o2 := own_below o1 hb
      have y0 := (hb.cell (p := ⟨w.heap.size, 0, none⟩) (Nat.lt_of_succ_lt hsw)).trans x0
      have hbw := bw.trans (hb.mono bw.size)
      by_cases hlt : j < p
      · have xk := (World.ownsRow.cellAt o2 j (by omega)).trans (ints_get .i64 (gn N n).kids j (by omega))
        have hk := good_kid hN.good hn (z := gz (gn N n).kids j) (by rw [gz_eq (by omega)]; exact List.getElem_mem _)
        obtain ⟨y, hy⟩ := Int.eq_ofNat_of_zero_le hk.1
        have hyl : y < N.length := by omega
        have C18 := width18_at (h1.below hb) hyl
        have HB1 := Lib.hid (show bW N (gn N n).kids (j + 1) = bW N (gn N n).kids j + (gn N y).w by simp only [bW, hy]; rfl)
        have hm := bW_mono N (gn N n).kids (show j + 1 ≤ p by omega)
        rw [HB1.out] at hm
        rw [hy] at xk
        clear hy hk o2
        generalize bW N (gn N n).kids j = S at *
        generalize (gn N y).w = wy at *
        go_wp2_with (go_at_call 18; refine C18.mono ?_; rintro e w3 ⟨rfl, hb3⟩; clear C18)
        go_roundw
        case rel => exact ⟨j + 1, by omega, by go_num, by rw [HB1.out, Int.natCast_add]; go_num, hb.trans (hb3.mono hb.size)⟩
        case measure => simp [intOf]; omega
      · obtain rfl : j = p := by omega
        have xk := (World.ownsRow.cellAt o2 j (by omega)).trans (ints_get .i64 (gn N n).kids j hpl)
        have hR3 := (hb.block (w.heap.size + 1) hsw).trans hR
        have hX3 := (hb.block w.heap.size (Nat.lt_of_succ_lt hsw)).trans hX
        have s3 := hbw.size
        clear o2
        go_wp2_with fail
        refine region_tail 9 (by kernel_rfl) (by kernel_rfl) ?_
        intro W HW
        have d0 : W.cell? ⟨w.heap.size, 0, none⟩ = some (.pointer (some ⟨ga, 0, none⟩)) := by rw [HW.out]; exact y0
        have d1 : W.cell? ⟨g1, j, none⟩ = some (.int .i64 (gz (gn N n).kids j)) := by rw [HW.out]; exact xk
        simp only [List.take_succ_cons, List.take_zero, List.drop_succ_cons, List.drop_zero]
        repeat (first | (refine wpStill_step (fun K hK => ?_); go_simp; refine hK _ ?_; clear hK K))
        refine wpStill_nil ?_
        have hR4 : W.heap[w.heap.size + 1]? = _ := (by rw [HW.out]; exact hR3 : W.heap[w.heap.size + 1]? = some (.cells (cc none 0 0 0 none) 59 (0, 0)))
        have hX4 : W.heap[w.heap.size]? = some (.cells (cc (some ⟨ga, 0, none⟩) n f k u) 59 (0, 0)) := by rw [HW.out]; exact hX3
        have hb4 : Below w.heap.size w W := by rw [HW.out]; exact hbw.drew
        clear HW d0 d1 y0 xk hR3 hX3
        go_wp2_with (refine wpList_putc rfl _ _ rfl (w.heap.size + 1) (some ⟨ga, 0, none⟩) (gz (gn N n).kids j) (f + (bW N (gn N n).kids j : Nat)) j (some ⟨w.heap.size, 0, none⟩) rfl rfl hR4 ?_; intro w5 hR5 hg5)
        exact bodyPost_ret (v := .tuple #[.agg (cc (some ⟨ga, 0, none⟩) (gz (gn N n).kids j) (f + (bW N (gn N n).kids j : Nat)) j (some ⟨w.heap.size, 0, none⟩)), .bool true]) (results_row2 rfl _ _ (w.heap.size + 1) 59 _ (0, 0) _ _ rfl rfl hR5 Try.underlying59 rfl (by kernel_rfl)) rfl ⟨⟨w.heap.size, rfl, Nat.le_refl _, (hg5.block _ (Array.getElem?_eq_some_iff.1 hX4).1 (by simp)).trans hX4⟩, Below.put hb4 (Nat.le_succ _) hg5 hb4.size⟩
  · simp only [if_neg hq]
    have hcase : decide (q < 0) = true ∨ (decide (q < 0) = false ∧ decide (((gn N n).kids.length : Int) ≤ q) = true) := by simp; omega
    clear hq
    rcases hcase with t0 | ⟨t0, t1⟩
    all_goals
      go_enter Try.func40, Try.ntmps40
      go_wp2_with (first
        | (go_at_call 28; refine (C28 _ _).mono ?_; rintro e w1 ⟨A1, c1, rfl, o1, b1⟩; clear C28; obtain ⟨-, hR, bw, hsw⟩ := two_blocks b1)
        | (refine wpList_putc rfl _ _ rfl (w.heap.size + 1) none 0 0 0 none rfl rfl hR ?_; intro w2 hR2 hg2))
      exact bodyPost_ret (v := .tuple #[.agg (cc none 0 0 0 none), .bool false]) (results_row2 rfl _ _ (w.heap.size + 1) 59 _ (0, 0) _ _ rfl rfl hR2 Try.underlying59 rfl (by kernel_rfl)) rfl ⟨rfl, Below.put bw (Nat.le_succ _) hg2 bw.size⟩
end Go.Proofs.Ytbmbiffhgdkpiaa
