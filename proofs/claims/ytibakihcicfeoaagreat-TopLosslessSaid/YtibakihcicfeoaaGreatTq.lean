/- The walk of tag.Read. No condition. -/
import Derived.Test.YtibakihcicfeoaaGreatTp
import Derived.BigRegion
namespace Go.Proofs.YtibakihcicfeoaaGreat
open Go.RowKit

abbrev tgc (k f t : Int) (av : Value) (r e : Bool) : Array Value := #[.int .i64 k, .int .i64 f, .int .i64 t, av, .bool r, .bool e]
theorem tg_put {ops : Array Oper} {rest : List Oper} {o : Oper} {a : Act} {w : World} {Q : Exit → Act → World → Prop} (hgd : o.guard = none) (x y : Operand) (ho : o.op = .store 130 x y)
    (g : Nat) (k f t : Int) (A : Option Addr) (m c : Nat) (r e : Bool) (hx : a.eval x = .pointer (some ⟨g, 0, none⟩)) (hy : a.eval y = .agg (tgc k f t (.slice A m c) r e)) {k' f' t' : Int} {av' : Value} {r' e' : Bool}
    (hg : w.heap[g]? = some (.cells (tgc k' f' t' av' r' e') 130 (0, 0)))
    (h : ∀ w', w'.heap[g]? = some (.cells (tgc k f t (.slice A m c) r e) 130 (0, 0)) → w.grownBy w' (some g) → wpList Tryz.prog ops Q rest (a.put o.dst undef) w') : wpList Tryz.prog ops Q (o :: rest) a w :=
  wpList_put hgd 130 x y ho g (tgc k f t (.slice A m c) r e) hx hy 130 (tgc k' f' t' av' r' e') hg (by kernel_rfl) rfl (by simp [Value.oneCell']) h
/-- A struct stored within a block's row. -/
theorem wpList_mid {P : Program} {ops : Array Oper} {rest : List Oper} {o : Oper} {a : Act} {w : World} {Q : Exit → Act → World → Prop} (hgd : o.guard = none) (ty : TypeId) (x y : Operand) (ho : o.op = .store ty x y)
    (g off : Nat) (vs : List Value) (hx : a.eval x = .pointer (some ⟨g, off, none⟩)) (hy : a.eval y = .agg vs.toArray)
    (t : TypeId) (old : Array Value) (hg : w.heap[g]? = some (.cells old t (0, 0))) (hi : (P.info? ty).map (·.size) = some vs.length)
    (hold : off + vs.length ≤ old.size) (h1 : ∀ v ∈ vs, v.oneCell' = true)
    (h : ∀ w', w'.heap[g]? = some (.cells (old.toList.take off ++ vs ++ old.toList.drop (off + vs.length)).toArray t (0, 0)) → w.grownBy w' (some g) → wpList P ops Q rest (a.put o.dst undef) w') : wpList P ops Q (o :: rest) a w := by
  have hrun : (storeVar ty ⟨g, off, none⟩ (.agg vs.toArray)).run P w = .ok () (w.setRow g (old.toList.take off ++ vs ++ old.toList.drop (off + vs.length)).toArray) := by
    have := run_storeCells_at (P := P) g off t vs 0 old w hg (by omega) h1
    cases hq : P.info? ty with
    | none => simp [hq] at hi
    | some i =>
      have hs : vs.length = i.size := by simp [hq] at hi; omega
      simp [storeVar, sizeOf, typeInfo, hq, Value.cells, hs]
      rw [this]
      simp [hs]
  refine wpList_plain hgd fun K hK => ?_
  unfold Oper.wp execOp
  simp only [ho, hx, hy, Instr.storeAt, Instr.sureAddr, Sem.run_bind, Sem.run_pure, Result.andThen_ok, hrun]
  exact hK _ _ (h _ (setRow_heap w g old _ t _ hg) (setRow_grown w g _))
theorem nm_put {ops : Array Oper} {rest : List Oper} {o : Oper} {a : Act} {w : World} {Q : Exit → Act → World → Prop} (hgd : o.guard = none) (x y : Operand) (ho : o.op = .store 127 x y)
    (g : Nat) (k f t : Int) (hx : a.eval x = .pointer (some ⟨g, 0, none⟩)) (hy : a.eval y = .agg #[.int .i64 k, .int .i64 f, .int .i64 t]) {k' f' t' : Int} {av' : Value} {r' e' : Bool}
    (hg : w.heap[g]? = some (.cells (tgc k' f' t' av' r' e') 130 (0, 0)))
    (h : ∀ w', w'.heap[g]? = some (.cells (tgc k f t av' r' e') 130 (0, 0)) → w.grownBy w' (some g) → wpList Tryz.prog ops Q rest (a.put o.dst undef) w') : wpList Tryz.prog ops Q (o :: rest) a w :=
  wpList_mid hgd 127 x y ho g 0 [.int .i64 k, .int .i64 f, .int .i64 t] hx hy 130 (tgc k' f' t' av' r' e') hg (by kernel_rfl) (by simp) (by intro v hv; simp at hv; rcases hv with rfl | rfl | rfl <;> rfl) h
theorem Rd.keepA {w w' : World} {B sz : Nat} {A : Option Addr} {n c : Nat} {xs : List Value} (h : Rd w B sz A n c xs) (hk : ∀ b off, A = some ⟨b, off, none⟩ → 0 < n → w'.heap[b]? = w.heap[b]?) : Rd w' B sz A n c xs :=
  ⟨h.len, h.cap, h.max, fun hn => by
    obtain ⟨b, off, e, hb, hc⟩ := h.at_ hn
    exact ⟨b, off, e, hb, fun j u hu => (World.cell?_of_block (hk b off e hn)).trans (hc j u hu)⟩⟩
/-- The state of Read: the reader, the tag so far, the answer's block; w0: the world at the start. -/
structure RS (w0 w : World) (gr : Nat) (A : Option Addr) (n c at_ : Nat) (ts : List Pt) (tg : Array Value) : Prop where
  rd : RdrAt w gr gr A n c at_ ts
  t7 : w.heap[w0.heap.size + 1]? = some (.cells tg 130 (0, 0))
  t6 : w.heap[w0.heap.size]? = some (.cells (tgc 0 0 0 (.slice none 0 0) false false) 130 (0, 0))
  b : Below w0.heap.size w0 w
  lt : w0.heap.size + 1 < gr
  lo : ∀ b off, A = some ⟨b, off, none⟩ → 0 < n → w0.heap.size + 2 ≤ b
theorem RS.grown {w0 w w' : World} {gr : Nat} {A : Option Addr} {n c at_ at' : Nat} {ts : List Pt} {tg : Array Value} (h : RS w0 w gr A n c at_ ts tg) (hg : w.grownBy w' (some gr)) (hr : RdrAt w' gr gr A n c at' ts) : RS w0 w' gr A n c at' ts tg := by
  have hl := h.lt
  have hgl := h.rd.lt
  refine ⟨hr, (hg.block _ (by omega) (by intro e; injection e; omega)).trans h.t7, (hg.block _ (by omega) (by intro e; injection e; omega)).trans h.t6, h.b.trans (grown_below hg (by omega) hgl), h.lt, h.lo⟩
/-- What is laid behind the reader, and what is written there. -/
theorem RS.above {w0 w w' : World} {gr : Nat} {A : Option Addr} {n c at_ : Nat} {ts : List Pt} {tg : Array Value} {b : Option Nat} (h : RS w0 w gr A n c at_ ts tg) (hg : w.grownBy w' b) (hb : ∀ k, b = some k → gr < k) : RS w0 w' gr A n c at_ ts tg := by
  have hl := h.lt
  have hgl := h.rd.lt
  have key : ∀ k, k ≤ gr → w'.heap[k]? = w.heap[k]? := fun k hk => hg.block k (by omega) (by intro e; have := hb k e.symm; omega)
  have hbl : Below (gr + 1) w w' := ⟨hg.os, hg.tape, hg.output, hg.size, fun k hk => key k (by omega)⟩
  exact ⟨h.rd.on (hbl.mono (by omega)) ((key gr (Nat.le_refl _)).trans h.rd.g) h.rd.le, (key _ (by omega)).trans h.t7, (key _ (by omega)).trans h.t6, h.b.trans (hbl.mono (by omega)), h.lt, h.lo⟩
/-- The tag is written. -/
theorem RS.put {w0 w w' : World} {gr : Nat} {A : Option Addr} {n c at_ : Nat} {ts : List Pt} {tg tg' : Array Value} (h : RS w0 w gr A n c at_ ts tg) (hg : w.grownBy w' (some (w0.heap.size + 1))) (ht : w'.heap[w0.heap.size + 1]? = some (.cells tg' 130 (0, 0))) : RS w0 w' gr A n c at_ ts tg' := by
  have hl := h.lt
  have hgl := h.rd.lt
  have key : ∀ k, k < w.heap.size → k ≠ w0.heap.size + 1 → w'.heap[k]? = w.heap[k]? := fun k hk hne => hg.block k hk (by intro e; injection e; omega)
  refine ⟨⟨(key gr hgl (by omega)).trans h.rd.g, h.rd.r.keepA fun b off e hn => ?_, h.rd.b, h.rd.le, h.rd.n⟩, ht, (key _ (by omega) (by omega)).trans h.t6, h.b.trans ⟨hg.os, hg.tape, hg.output, hg.size, fun k hk => key k (by omega) (by omega)⟩, h.lt, h.lo⟩
  obtain ⟨b', o', e', hb', _⟩ := h.rd.r.at_ hn
  rw [e] at e'; injection e' with e'; injection e' with e1 e2
  have := h.lo b off e hn
  exact key b (by omega) (by omega)
/-- takes, with two kinds. -/
theorem takes2 {w : World} {gr B0 : Nat} {A : Option Addr} {n c at_ : Nat} {ts : List Pt} (h : RdrAt w gr B0 A n c at_ ts) (z1 z2 : Int) (g : Nat) (hg : g = w.heap.size) :
    Calls Tryz.prog 106 #[.pointer (some ⟨gr, 0, none⟩), .slice (some ⟨g, 0, none⟩) 2 2] (w.alloc (.cells #[.int .i64 z1, .int .i64 z2] 3)) fun e w' =>
      ((e = .returned (.slice none 0 0) ∧ RdrAt w' gr B0 A n c at_ ts) ∨
        (∃ ad c', e = .returned (.slice (some ad) 2 c') ∧ Rd w' gr 3 (some ad) 2 c' (((prow ts).drop (at_ * 3)).take 6) ∧ (∀ b off, A = some ⟨b, off, none⟩ → ad.block = b) ∧ at_ + 1 < ts.length ∧ RdrAt w' gr B0 A n c (at_ + 2) ts)) ∧ w.grownBy w' (some gr) := by
  subst hg
  have hal := (Below.refl w.heap.size w).alloc (Nat.le_refl _) (.cells #[.int .i64 z1, .int .i64 z2] 3)
  have h1 := h.below hal
  have hlen := h.r.len
  rw [prow_len] at hlen
  refine (takes106 gr B0 A n c at_ ts h1.g h1.r h1.b h1.le h1.n _ 2 2 [z1, z2] (Rd.lit w [.int .i64 z1, .int .i64 z2] 3 2 1 rfl (by omega)) (by omega) (by omega)).mono ?_
  rintro e w' ⟨hor, hb⟩
  refine ⟨?_, (grown_of hal).trans hb⟩
  have hb := grown_below hb (Nat.le_refl _) h1.lt
  rcases hor with ⟨rfl, hg⟩ | ⟨hf, ⟨ad, c', rfl, hr⟩, hg⟩
  · exact .inl ⟨rfl, h1.on hb hg h.le⟩
  · exact .inr ⟨ad, c', rfl, hr.1, hr.2, by omega, h1.on hb hg hf⟩
/-- Two parts, read of a slice of two. -/
theorem part_cells2 {w : World} {gr c' at_ : Nat} {ad : Addr} {ts : List Pt} (hr : Rd w gr 3 (some ad) 2 c' (((prow ts).drop (at_ * 3)).take 6)) (hlt : at_ + 1 < ts.length) : ∃ (s t : Pt) (b o : Nat), s ∈ ts ∧ t ∈ ts ∧ ad = ⟨b, o, none⟩ ∧ b < gr ∧
    w.cell? ⟨b, o + 1, none⟩ = some (.int .i64 (s.2.1 : Nat)) ∧ w.cell? ⟨b, o + 2, none⟩ = some (.int .i64 (s.2.2 : Nat)) ∧
    w.cell? ⟨b, o + 3, none⟩ = some (.int .i64 t.1) ∧ w.cell? ⟨b, o + 4, none⟩ = some (.int .i64 (t.2.1 : Nat)) ∧ w.cell? ⟨b, o + 5, none⟩ = some (.int .i64 (t.2.2 : Nat)) := by
  obtain ⟨b, o, he, hb, hc⟩ := hr.at_ (by omega)
  obtain ⟨s, s0, s1, s2, s3⟩ := prow_get ts at_ (by omega)
  obtain ⟨t, t0, t1, t2, t3⟩ := prow_get ts (at_ + 1) hlt
  injection he with he
  have key : ∀ j, j < 6 → (((prow ts).drop (at_ * 3)).take 6)[j]? = (prow ts)[at_ * 3 + j]? := fun j hj => by
    rw [List.getElem?_take_of_lt hj, List.getElem?_drop]
  rw [show (at_ + 1) * 3 = at_ * 3 + 3 by omega] at t1 t2 t3
  exact ⟨s, t, b, o, s0, t0, he, hb, hc 1 _ (by rw [key 1 (by omega)]; exact s2), hc 2 _ (by rw [key 2 (by omega)]; exact s3), hc 3 _ (by rw [key 3 (by omega)]; exact t1), hc 4 _ (by rw [key 4 (by omega)]; exact t2), hc 5 _ (by rw [key 5 (by omega)]; exact t3)⟩
theorem st128 : ST Tryz.prog 128 199 9 72 := ST.mk' (z := .agg (at9 0 0 0 0 0 0 0 0 0)) Tryz.underlying128 (by kernel_rfl) rfl (by decide)
/-- Where a reader stands. -/
def atOf (gr : Nat) (w : World) : Nat := match w.cell? ⟨gr, 1, none⟩ with
  | some (.int _ z) => z.toNat
  | _ => 0
theorem atOf_eq {w : World} {gr B0 : Nat} {A : Option Addr} {n c at_ : Nat} {ts : List Pt} (h : RdrAt w gr B0 A n c at_ ts) : atOf gr w = at_ := by
  have : w.cell? ⟨gr, 1, none⟩ = some (.int .i64 (at_ : Nat)) := cell_of_row w gr 1 _ _ _ h.g
  unfold atOf; rw [this]; rfl
def isT : Value → Nat
  | .bool true => 1
  | _ => 0
/-- The state of Read's loop: the attributes so far in a row of the call's own, and the one that was just read. -/
structure RL (w0 w : World) (gr : Nat) (A : Option Addr) (n c at_ : Nat) (ts : List Pt) (k f t : Int) (av : Value) (m g10 : Nat) (xs : List Value) (a1 a2 a3 a4 a5 a6 a7 a8 a9 : Int) : Prop where
  rs : RS w0 w gr A n c at_ ts (tgc k f t av false false)
  own : w.ownsRow (gr + 1) 199 9 av m xs
  ne : some g10 ≠ av.ownBlock ∧ gr < g10
  a : w.heap[g10]? = some (.cells (at9 a1 a2 a3 a4 a5 a6 a7 a8 a9) 199 (0, 0))
theorem a9_put' {ops : Array Oper} {rest : List Oper} {o : Oper} {a : Act} {w : World} {Q : Exit → Act → World → Prop} (hgd : o.guard = none) (x y : Operand) (ho : o.op = .store 199 x y)
    (g : Nat) (a1 a2 a3 a4 a5 a6 a7 a8 a9 : Int) (hx : a.eval x = .pointer (some ⟨g, 0, none⟩)) (hy : a.eval y = .agg (at9 a1 a2 a3 a4 a5 a6 a7 a8 a9)) {b1 b2 b3 b4 b5 b6 b7 b8 b9 : Int}
    (hg : w.heap[g]? = some (.cells (at9 b1 b2 b3 b4 b5 b6 b7 b8 b9) 199 (0, 0)))
    (h : ∀ w', w'.heap[g]? = some (.cells (at9 a1 a2 a3 a4 a5 a6 a7 a8 a9) 199 (0, 0)) → w.grownBy w' (some g) → wpList Tryz.prog ops Q rest (a.put o.dst undef) w') : wpList Tryz.prog ops Q (o :: rest) a w :=
  wpList_put hgd 199 x y ho g (at9 a1 a2 a3 a4 a5 a6 a7 a8 a9) hx hy 199 (at9 b1 b2 b3 b4 b5 b6 b7 b8 b9) hg (by kernel_rfl) rfl (by simp [Value.oneCell']) h
theorem cells9 {w : World} {g : Nat} {a1 a2 a3 a4 a5 a6 a7 a8 a9 : Int} (h : w.heap[g]? = some (.cells (at9 a1 a2 a3 a4 a5 a6 a7 a8 a9) 199 (0, 0))) :
    w.cell? ⟨g, 0, none⟩ = some (.int .i64 a1) ∧ w.cell? ⟨g, 1, none⟩ = some (.int .i64 a2) ∧ w.cell? ⟨g, 2, none⟩ = some (.int .i64 a3) ∧ w.cell? ⟨g, 3, none⟩ = some (.int .i64 a4) ∧ w.cell? ⟨g, 4, none⟩ = some (.int .i64 a5) ∧
    w.cell? ⟨g, 5, none⟩ = some (.int .i64 a6) ∧ w.cell? ⟨g, 6, none⟩ = some (.int .i64 a7) ∧ w.cell? ⟨g, 7, none⟩ = some (.int .i64 a8) ∧ w.cell? ⟨g, 8, none⟩ = some (.int .i64 a9) :=
  ⟨cell_of_row w g 0 _ _ _ h, cell_of_row w g 1 _ _ _ h, cell_of_row w g 2 _ _ _ h, cell_of_row w g 3 _ _ _ h, cell_of_row w g 4 _ _ _ h, cell_of_row w g 5 _ _ _ h, cell_of_row w g 6 _ _ _ h, cell_of_row w g 7 _ _ _ h, cell_of_row w g 8 _ _ _ h⟩
/-- An attribute appended, and the tag's slice set anew. -/
theorem RL.push {w0 w w5 : World} {gr : Nat} {A : Option Addr} {n c at_ : Nat} {ts : List Pt} {k f t : Int} {av v5 : Value} {m g10 : Nat} {xs ys : List Value} {a1 a2 a3 a4 a5 a6 a7 a8 a9 : Int}
    (h : RL w0 w gr A n c at_ ts k f t av m g10 xs a1 a2 a3 a4 a5 a6 a7 a8 a9) (ho : w5.ownsRow (gr + 1) 199 9 v5 (m + 1) ys) (hg : w.grownBy w5 av.ownBlock) :
    RS w0 (w5.setCell ⟨w0.heap.size + 1, 3, none⟩ v5) gr A n c at_ ts (tgc k f t v5 false false) ∧ (w5.setCell ⟨w0.heap.size + 1, 3, none⟩ v5).ownsRow (gr + 1) 199 9 v5 (m + 1) ys ∧
      w5.heap[w0.heap.size + 1]? = some (.cells (tgc k f t av false false) 130 (0, 0)) ∧ w5.heap[g10]? = some (.cells (at9 a1 a2 a3 a4 a5 a6 a7 a8 a9) 199 (0, 0)) ∧ (w5.setCell ⟨w0.heap.size + 1, 3, none⟩ v5).heap[g10]? = some (.cells (at9 a1 a2 a3 a4 a5 a6 a7 a8 a9) 199 (0, 0)) := by
  have hl := h.rs.lt
  have hr := h.rs.above hg (fun k hk => by have := (h.own.lt k hk).1; omega)
  have hga := (hg.block g10 (Array.getElem?_eq_some_iff.1 h.a).1 h.ne.1).trans h.a
  refine ⟨hr.put (grownBy_set w5 _ 3 v5) ?_, ownsRow_setCell_other ho (fun e => ?_) v5, hr.t7, hga, ?_⟩
  · rw [heap_setCell_same w5 _ 3 _ _ v5 hr.t7]; rfl
  · have := (ho.lt _ e).1
    have : gr + 1 ≤ w0.heap.size + 1 := this
    omega
  · rw [heap_setCell_other _ _ _ _ (by have := h.ne.2; show g10 ≠ w0.heap.size + 1; omega)]
    exact hga
/-- One more attribute read, behind one that was appended. -/
theorem RL.next {w0 W w8 w9 : World} {gr : Nat} {A : Option Addr} {n c at_ t8 : Nat} {ts : List Pt} {k f t : Int} {v5 : Value} {m gs : Nat} {ys : List Value} {a1 a2 a3 a4 a5 a6 a7 a8 a9 e1 e2 e3 e4 e5 e6 e7 e8 e9 : Int}
    (hs : gs = W.heap.size) (h : RS w0 W gr A n c at_ ts (tgc k f t v5 false false)) (ho : W.ownsRow (gr + 1) 199 9 v5 m ys)
    (h8 : RdrAt w8 gr gr A n c t8 ts) (g8 : (W.alloc (.cells (at9 a1 a2 a3 a4 a5 a6 a7 a8 a9) 199)).grownBy w8 (some gr))
    (h9 : w9.heap[gs]? = some (.cells (at9 e1 e2 e3 e4 e5 e6 e7 e8 e9) 199 (0, 0))) (g9 : w8.grownBy w9 (some gs)) : RL w0 w9 gr A n c t8 ts k f t v5 m gs ys e1 e2 e3 e4 e5 e6 e7 e8 e9 := by
  subst hs
  have hgl := h.rd.lt
  have h1 := (h.above (World.grownBy_alloc W (.cells (at9 a1 a2 a3 a4 a5 a6 a7 a8 a9) 199) none) (fun k hk => by cases hk)).grown g8 h8
  have hne : some W.heap.size ≠ v5.ownBlock := fun e => by have := (ho.lt _ e.symm).2; omega
  refine ⟨h1.above g9 (fun k hk => by injection hk; omega), ?_, ⟨hne, hgl⟩, h9⟩
  refine ((ho.alloc _).kept g8 ?_).kept g9 ?_
  · rcases hv : v5.ownBlock with _ | b
    · exact .inl rfl
    · exact .inr fun e => by injection e with e; have := (ho.lt b hv).1; omega
  · rcases hv : v5.ownBlock with _ | b
    · exact .inl rfl
    · exact .inr fun e => by injection e with e; have := (ho.lt b hv).2; omega
theorem alloc9 {W w8 : World} {gr gs : Nat} {a1 a2 a3 a4 a5 a6 a7 a8 a9 : Int} (hs : gs = W.heap.size) (hg : gr < W.heap.size) (g8 : (W.alloc (.cells (at9 a1 a2 a3 a4 a5 a6 a7 a8 a9) 199)).grownBy w8 (some gr)) : w8.heap[gs]? = some (.cells (at9 a1 a2 a3 a4 a5 a6 a7 a8 a9) 199 (0, 0)) := by
  subst hs
  exact (g8.block _ (by simp) (by intro e; injection e; omega)).trans (heap_alloc_new W _)
/-- A cell below the reader, over a round. -/
theorem cell_round {w0 w w5 w8 w9 : World} {gr b o : Nat} {av v5 u : Value} {ob : Obj} {gs : Nat} (hc : w.cell? ⟨b, o, none⟩ = some u) (hb : b < gr) (hb0 : w0.heap.size + 2 ≤ b) (h5 : w.grownBy w5 av.ownBlock) (hav : ∀ k, av.ownBlock = some k → gr < k)
    (g8 : ((w5.setCell ⟨w0.heap.size + 1, 3, none⟩ v5).alloc ob).grownBy w8 (some gr)) (g9 : w8.grownBy w9 (some gs)) (hgs : gr < gs) : w9.cell? ⟨b, o, none⟩ = some u := by
  refine g9.cell (g8.cell (cell_old _ _ _ _ _ ((World.cell?_setCell_other w5 _ _ _ ?_).trans (h5.cell hc ?_))) ?_) ?_
  · intro e; injection e with e; omega
  · intro e; have := hav b e.symm; omega
  · intro e; injection e with e; exact absurd e (Nat.ne_of_lt hb)
  · intro e; injection e with e; exact absurd e (Nat.ne_of_lt (Nat.lt_trans hb hgs))
section
variable {P : Program} {ops : Array Oper} {w : World} {Q : Act → Prop} {a : Act} {o : Oper} {rest : List Oper}
theorem still_skip (h : Region.wanted o (yielded ops a.tmps) = false) (k : wpStill P ops w Q rest (a.put o.dst undef)) : wpStill P ops w Q (o :: rest) a := by
  unfold wpStill
  rw [h]
  exact k
theorem still_go (h : Region.wanted o (yielded ops a.tmps) = true) (k : ∀ K : Act → Prop, (∀ a, wpStill P ops w Q rest a → K a) → o.still P a w K) : wpStill P ops w Q (o :: rest) a := by
  unfold wpStill
  rw [h]
  exact k _ fun _ h => h
end
/-- What Read leaves. -/
def ReadSaid (fr te : Nat) (w : World) (e : Ending) (w' : World) : Prop :=
  ∃ (k : Int) (f t : Nat) (A : Option Addr) (m c : Nat) (r em : Bool), e = .returned (.agg (tgc k (f : Nat) (t : Nat) (.slice A m c) r em)) ∧ f ≤ t ∧ (t = 0 ∨ fr ≤ f ∧ t ≤ te) ∧ Below w.heap.size w w'
/-- Two blocks for tags, laid. -/
theorem two_tags (w : World) : ((w.alloc (.cells (tgc 0 0 0 (.slice none 0 0) false false) 130)).alloc (.cells (tgc 0 0 0 (.slice none 0 0) false false) 130)).heap[w.heap.size + 1]? = some (.cells (tgc 0 0 0 (.slice none 0 0) false false) 130 (0, 0)) ∧
    ((w.alloc (.cells (tgc 0 0 0 (.slice none 0 0) false false) 130)).alloc (.cells (tgc 0 0 0 (.slice none 0 0) false false) 130)).heap[w.heap.size]? = some (.cells (tgc 0 0 0 (.slice none 0 0) false false) 130 (0, 0)) := by
  have h1 := heap_alloc_new (w.alloc (.cells (tgc 0 0 0 (.slice none 0 0) false false) 130)) (.cells (tgc 0 0 0 (.slice none 0 0) false false) 130)
  have hs : (w.alloc (.cells (tgc 0 0 0 (.slice none 0 0) false false) 130)).heap.size = w.heap.size + 1 := by simp
  rw [hs] at h1
  refine ⟨h1, ?_⟩
  rw [heap_alloc_old _ _ (by rw [hs]; omega)]
  exact heap_alloc_new w _
set_option maxRecDepth 100000 in
set_option maxHeartbeats 8000000 in
theorem read55 {w : World} (A : Option Addr) (n c : Nat) (l : List Int) (fr te : Nat) (h : Rd w w.heap.size 1 A n c (ints .i32 l)) (hn : n ≤ 65536) (h1 : fr ≤ te) (h2 : te ≤ n) :
    Calls Tryz.prog 55 #[.slice A n c, .int .i64 (fr : Nat), .int .i64 (te : Nat)] w (ReadSaid fr te w) := by
  have qe0 : ∀ w : World, (binOp BinOp.eql 193 (.slice none 0 0) (.slice none 0 0)).run Tryz.prog w = .ok (.bool true) w := fun _ => by kernel_rfl
  have qe1 : ∀ (b o m c : Nat) (w : World), (binOp BinOp.eql 193 (.slice (some ⟨b, o, none⟩) m c) (.slice none 0 0)).run Tryz.prog w = .ok (.bool false) w := fun _ _ _ _ _ => by kernel_rfl
  have CP := Lib.hid (fun (W : World) (hW : Below w.heap.size w W) => parts105 A n c l fr te (h.on hW) hn h1 h2)
  obtain ⟨hX, hY⟩ := two_tags w
  have HB := Lib.hid (((Below.refl w.heap.size w).alloc (Nat.le_refl _) (.cells (tgc 0 0 0 (.slice none 0 0) false false) 130)).alloc (by simp) (.cells (tgc 0 0 0 (.slice none 0 0) false false) 130))
  have HY := Lib.hid hY
  unfold ReadSaid
  clear h hY
  go_enter Tryz.func55, Tryz.ntmps55
  go_wp2_with (first
    | (refine tg_put rfl _ _ rfl (w.heap.size + 1) 0 0 0 none 0 0 false false rfl rfl hX ?_; intro w1 hR1 hg1; have HR1 := Lib.hid hR1; have HY1 := Lib.hid ((hg1.block w.heap.size (by simp; omega) (by intro e; injection e; omega)).trans HY.out); have HB1 := Lib.hid (Below.put HB.out (Nat.le_succ _) hg1 (by simp; omega)); clear hX hR1 hg1)
    | (go_at_call 105; refine (CP.out _ HB1.out).mono ?_; rintro e w2 ⟨A2, c2, ts, rfl, ho2, hin, hlen, b2⟩))
  have hR0 : RdrAt (w2.alloc (rdr A2 ts.length c2 0)) w2.heap.size w2.heap.size A2 ts.length c2 0 ts :=
    ⟨heap_alloc_new w2 _, (Rd.of_own ho2).alloc (Nat.le_refl _) _, Nat.le_refl _, Nat.zero_le _, by omega⟩
  have hs1 : w.heap.size + 2 ≤ w1.heap.size := by
    have := (Array.getElem?_eq_some_iff.1 HR1.out).1
    omega
  have H3 : Hid (RS w (w2.alloc (rdr A2 ts.length c2 0)) w2.heap.size A2 ts.length c2 0 ts (tgc 0 0 0 (.slice none 0 0) false false)) := Lib.hid (by
    have hsz := b2.size
    have hb2 := b2.trans ((Below.refl w2.heap.size w2).alloc (Nat.le_refl _) (rdr A2 ts.length c2 0) |>.mono hsz)
    refine ⟨hR0, (hb2.block _ (by omega)).trans HR1.out, (hb2.block _ (by omega)).trans HY1.out, HB1.out.trans (hb2.mono HB1.out.size), by omega, fun b off e hn => ?_⟩
    have := (ho2.lt b (by rw [e]; rfl)).1
    omega)
  have HI := Lib.hid hin
  clear ho2 hin b2 hR0 hs1
  refine (takes2 H3.out.rd 1 2 (w2.heap.size + 1) (by simp)).mono ?_
  rintro e w4 ⟨h4, g4⟩
  rcases h4 with ⟨rfl, h4⟩ | ⟨ad, c4, rfl, r4, rb4, l4, h4⟩
  · have H4 := Lib.hid (H3.out.grown g4 h4)
    clear g4 h4
    have q0 : w4.cell? ⟨w.heap.size + 1, 0, none⟩ = some (.int .i64 0) := cell_of_row w4 _ 0 _ _ _ H4.out.t7
    have q1 : w4.cell? ⟨w.heap.size + 1, 1, none⟩ = some (.int .i64 0) := cell_of_row w4 _ 1 _ _ _ H4.out.t7
    have q2 : w4.cell? ⟨w.heap.size + 1, 2, none⟩ = some (.int .i64 0) := cell_of_row w4 _ 2 _ _ _ H4.out.t7
    have q3 : w4.cell? ⟨w.heap.size + 1, 3, none⟩ = some (.slice none 0 0) := cell_of_row w4 _ 3 _ _ _ H4.out.t7
    have q4 : w4.cell? ⟨w.heap.size + 1, 4, none⟩ = some (.bool false) := cell_of_row w4 _ 4 _ _ _ H4.out.t7
    have q5 : w4.cell? ⟨w.heap.size + 1, 5, none⟩ = some (.bool false) := cell_of_row w4 _ 5 _ _ _ H4.out.t7
    have hX := H4.out.t6
    go_wp2_with (refine tg_put rfl _ _ rfl w.heap.size 0 0 0 none 0 0 false false rfl rfl hX ?_; intro w5 hR5 hg5)
    exact bodyPost_ret (v := .agg (tgc 0 0 0 (.slice none 0 0) false false)) (results_cell_row rfl _ _ w.heap.size 130 _ (0, 0) _ rfl hR5 Tryz.underlying130 rfl (by kernel_rfl)) rfl ⟨0, 0, 0, none, 0, 0, false, false, rfl, Nat.le_refl _, .inl rfl, Below.put H4.out.b (Nat.le_refl _) hg5 H4.out.b.size⟩
  · obtain ⟨s, p, b, o, hs, hp, rfl, hbg, m1, m2, m3, m4, m5⟩ := part_cells2 r4 l4
    have hpin := HI.out p hp
    have hsin := HI.out s hs
    have H4 := Lib.hid (H3.out.grown g4 h4)
    have hX := H4.out.t7
    have hlt := H4.out.lt
    have hbl : w.heap.size + 2 ≤ b := by
      obtain ⟨b', off', e', _, _⟩ := H3.out.rd.r.at_ (by omega)
      have h1 := rb4 b' off' e'
      have h2 := H4.out.lo b' off' e' (by omega)
      have h1 : b = b' := h1
      omega
    clear g4 h4 r4 hp hs rb4
    go_wp2_with (refine nm_put rfl _ _ rfl (w.heap.size + 1) p.1 (p.2.1 : Nat) (p.2.2 : Nat) rfl rfl hX ?_; intro w5 hR5 hg5; have H5 := Lib.hid (H4.out.put hg5 hR5); clear hX hR5)
    refine (attr107 H5.out.rd).mono ?_
    rintro e w6 ⟨a1, a2, a3, a4, a5, a6, a7, a8, a9, ok, t6, rfl, h6, k1, k2, g6⟩
    have H6 := Lib.hid (H5.out.grown g6 h6)
    have n1 := cell_gr g6 (hg5.cell m1 (by intro e; injection e with e; exact absurd e (Nat.ne_of_gt hbl))) hbg
    have n2 := cell_gr g6 (hg5.cell m2 (by intro e; injection e with e; exact absurd e (Nat.ne_of_gt hbl))) hbg
    clear g6 h6 m1 m2 m3 m4 m5 hg5
    go_wp2_with fail
    go_loopw [10, 11] (fun p10 b10 wr => ∃ (m g10 : Nat) (av : Value) (xs : List Value) (a1 a2 a3 a4 a5 a6 a7 a8 a9 : Int) (ok : Bool) (at_ : Nat), p10 = .pointer (some ⟨g10, 0, none⟩) ∧ b10 = .bool ok ∧
        Hid (RL w wr w2.heap.size A2 ts.length c2 at_ ts p.1 (p.2.1 : Nat) (p.2.2 : Nat) av m g10 xs a1 a2 a3 a4 a5 a6 a7 a8 a9) ∧ (ok = true → m + 1 ≤ at_) ∧ m ≤ at_ ∧
        Hid (wr.cell? ⟨b, o + 1, none⟩ = some (.int .i64 (s.2.1 : Nat)) ∧ wr.cell? ⟨b, o + 2, none⟩ = some (.int .i64 (s.2.2 : Nat))))
      (fun _ b10 wr => (ts.length - atOf w2.heap.size wr) * 2 + isT b10)
    case atStart =>
      have hgl := H6.out.rd.lt
      refine ⟨0, w6.heap.size, .slice none 0 0, [], a1, a2, a3, a4, a5, a6, a7, a8, a9, ok, t6, rfl, rfl, Lib.hid ⟨H6.out.above (World.grownBy_alloc w6 _ none) (fun k hk => by cases hk), World.ownsRow_nil _ _ _ _, ⟨by simp [Value.ownBlock], hgl⟩, heap_alloc_new w6 _⟩, fun h => by have := k1 h; omega, Nat.zero_le _, Lib.hid ⟨?_, ?_⟩⟩
      · exact cell_old w6 _ _ _ _ n1
      · exact cell_old w6 _ _ _ _ n2
    case round =>
      obtain ⟨m, g10, av, xs, a1, a2, a3, a4, a5, a6, a7, a8, a9, ok, at_, rfl, rfl, HL, u1, u2, HN⟩ := hrel
      cases ok with
      | false =>
        obtain ⟨Aa, ca, rfl, -⟩ := own_form HL.out.own
        have hnn := HL.out.rs.rd.n
        go_wp2_with fail
        refine (takesAny HL.out.rs.rd 3 _ rfl).mono ?_
        rintro e x6 ⟨v6, s6, rfl, -, i6, j6⟩
        have H6 := Lib.hid (HL.out.rs.grown j6 i6)
        have n1 := cell_gr j6 HN.out.1 hbg
        have n2 := cell_gr j6 HN.out.2 hbg
        clear j6 i6
        go_wp2_with fail
        refine (takes1 H6.out.rd 6 _ rfl).mono ?_
        rintro e x7 ⟨i7, j7⟩
        have n1 := cell_gr j7 n1 hbg
        have n2 := cell_gr j7 n2 hbg
        rcases i7 with ⟨rfl, i7⟩ | ⟨ad7, c7, rfl, r7, l7, i7⟩
        · have H7 := Lib.hid (H6.out.grown j7 i7)
          clear i7 j7 n1 n2
          go_wp2_with fail
          go_quiet (fail)
          obtain ⟨X, hX⟩ : ∃ X, x7.drewN nq = X := ⟨_, rfl⟩
          have H8 := Lib.hid (H7.out.above (w' := X) (b := none) (grown_of (by rw [← hX]; exact Below.drewN_ (Below.refl _ _) _)) (fun k hk => by cases hk))
          rw [hX]
          clear hX
          have q0 : X.cell? ⟨w.heap.size + 1, 0, none⟩ = some (.int .i64 p.1) := cell_of_row X _ 0 _ _ _ H8.out.t7
          have q1 : X.cell? ⟨w.heap.size + 1, 1, none⟩ = some (.int .i64 (p.2.1 : Nat)) := cell_of_row X _ 1 _ _ _ H8.out.t7
          have q2 : X.cell? ⟨w.heap.size + 1, 2, none⟩ = some (.int .i64 (p.2.2 : Nat)) := cell_of_row X _ 2 _ _ _ H8.out.t7
          have q3 : X.cell? ⟨w.heap.size + 1, 3, none⟩ = some (.slice Aa m ca) := cell_of_row X _ 3 _ _ _ H8.out.t7
          have q4 : X.cell? ⟨w.heap.size + 1, 4, none⟩ = some (.bool false) := cell_of_row X _ 4 _ _ _ H8.out.t7
          have q5 : X.cell? ⟨w.heap.size + 1, 5, none⟩ = some (.bool false) := cell_of_row X _ 5 _ _ _ H8.out.t7
          have hX := H8.out.t6
          go_wp2_with (refine tg_put rfl _ _ rfl w.heap.size p.1 (p.2.1 : Nat) (p.2.2 : Nat) Aa m ca false false rfl rfl hX ?_; intro x9 hR9 hg9)
          exact bodyPost_ret (v := .agg (tgc p.1 (p.2.1 : Nat) (p.2.2 : Nat) (.slice Aa m ca) false false)) (results_cell_row rfl _ _ w.heap.size 130 _ (0, 0) _ rfl hR9 Tryz.underlying130 rfl (by kernel_rfl)) rfl ⟨p.1, p.2.1, p.2.2, Aa, m, ca, false, false, rfl, by omega, .inr ⟨by omega, by omega⟩, Below.put H8.out.b (Nat.le_refl _) hg9 H8.out.b.size⟩
        · obtain ⟨at7, hat7⟩ : ∃ q, s6 + 1 = q := ⟨_, rfl⟩
          rw [hat7] at i7
          clear hat7
          obtain ⟨p3, q3, o3, hp3, rfl, hb3, y1, y2, y3⟩ := part_cells r7 l7
          have hp3 := HI.out p3 hp3
          have H7 := Lib.hid (H6.out.grown j7 i7)
          have z0 : x7.cell? ⟨w2.heap.size, 0, none⟩ = some (.slice A2 ts.length c2) := cell_of_row x7 _ 0 _ _ _ i7.g
          have z1 : x7.cell? ⟨w2.heap.size, 1, none⟩ = some (.int .i64 (at7 : Nat)) := cell_of_row x7 _ 1 _ _ _ i7.g
          clear i7 j7 r7 l7 y1
          by_cases hc : at7 < ts.length
          · have t0 : decide (at7 < ts.length) = true := by simpa using hc
            clear n1 n2 y2 y3 hc
            go_wp2_with fail
            go_quiet (fail)
            obtain ⟨X, hX⟩ : ∃ X, x7.drewN nq = X := ⟨_, rfl⟩
            have H8 := Lib.hid (H7.out.above (w' := X) (b := none) (grown_of (by rw [← hX]; exact Below.drewN_ (Below.refl _ _) _)) (fun k hk => by cases hk))
            rw [hX]
            clear hX z0 z1
            have q0 : X.cell? ⟨w.heap.size + 1, 0, none⟩ = some (.int .i64 p.1) := cell_of_row X _ 0 _ _ _ H8.out.t7
            have q1 : X.cell? ⟨w.heap.size + 1, 1, none⟩ = some (.int .i64 (p.2.1 : Nat)) := cell_of_row X _ 1 _ _ _ H8.out.t7
            have q2 : X.cell? ⟨w.heap.size + 1, 2, none⟩ = some (.int .i64 (p.2.2 : Nat)) := cell_of_row X _ 2 _ _ _ H8.out.t7
            have q3 : X.cell? ⟨w.heap.size + 1, 3, none⟩ = some (.slice Aa m ca) := cell_of_row X _ 3 _ _ _ H8.out.t7
            have q4 : X.cell? ⟨w.heap.size + 1, 4, none⟩ = some (.bool false) := cell_of_row X _ 4 _ _ _ H8.out.t7
            have q5 : X.cell? ⟨w.heap.size + 1, 5, none⟩ = some (.bool false) := cell_of_row X _ 5 _ _ _ H8.out.t7
            have hX := H8.out.t6
            go_wp2_with (refine tg_put rfl _ _ rfl w.heap.size p.1 (p.2.1 : Nat) (p.2.2 : Nat) Aa m ca false false rfl rfl hX ?_; intro x9 hR9 hg9)
            exact bodyPost_ret (v := .agg (tgc p.1 (p.2.1 : Nat) (p.2.2 : Nat) (.slice Aa m ca) false false)) (results_cell_row rfl _ _ w.heap.size 130 _ (0, 0) _ rfl hR9 Tryz.underlying130 rfl (by kernel_rfl)) rfl ⟨p.1, p.2.1, p.2.2, Aa, m, ca, false, false, rfl, by omega, .inr ⟨by omega, by omega⟩, Below.put H8.out.b (Nat.le_refl _) hg9 H8.out.b.size⟩
          · have t0 : decide (at7 < ts.length) = false := by simpa using hc
            clear hc
            go_wp2_with fail
            go_quiet (fail)
            obtain ⟨X, hX⟩ : ∃ X, x7.drewN nq = X := ⟨_, rfl⟩
            have hbX : Below x7.heap.size x7 X := by rw [← hX]; exact Below.drewN_ (Below.refl _ _) _
            have H8 := Lib.hid (H7.out.above (w' := X) (b := none) (grown_of hbX) (fun k hk => by cases hk))
            have n1 := hbX.cell (p := ⟨b, o + 1, none⟩) (World.block_lt_of_cell? _ _ n1) |>.trans n1
            have n2 := hbX.cell (p := ⟨b, o + 2, none⟩) (World.block_lt_of_cell? _ _ n2) |>.trans n2
            have y2 := hbX.cell (p := ⟨q3, o3 + 1, none⟩) (World.block_lt_of_cell? _ _ y2) |>.trans y2
            have y3 := hbX.cell (p := ⟨q3, o3 + 2, none⟩) (World.block_lt_of_cell? _ _ y3) |>.trans y3
            rw [hX]
            clear hX hbX z0 z1
            have f7 := fun j => frozen_of_row X (w.heap.size + 1) j _ _ H8.out.t7
            have z5 : X.cell? ⟨w.heap.size + 1, 5, none⟩ = some (.bool false) := cell_of_row X _ 5 _ _ _ H8.out.t7
            have u1 : IntKind.i64.wrap ((p3.2.2 : Int) - (p3.2.1 : Int)) = (p3.2.2 : Int) - (p3.2.1 : Int) := IntWalk.i64_in _ (by omega)
            have u2 : IntKind.i64.wrap ((s.2.2 : Int) - (s.2.1 : Int)) = (s.2.2 : Int) - (s.2.1 : Int) := IntWalk.i64_in _ (by omega)
            by_cases he : (p3.2.2 : Int) - (p3.2.1 : Int) = 2
            · have he0 : (((p3.2.2 : Int) - (p3.2.1 : Int)) == 2) = true := by simpa using he
              clear he
              go_wp2_with fail
              go_region
              go_wp2_with fail
              obtain ⟨Y, hY⟩ : ∃ Y, (X.setCell ⟨w.heap.size + 1, 5, none⟩ (.bool true)).drew = Y := ⟨_, rfl⟩
              have H9 := Lib.hid (show RS w Y w2.heap.size A2 ts.length c2 at7 ts (tgc p.1 (p.2.1 : Nat) (p.2.2 : Nat) (.slice Aa m ca) false true) by
                have h1 := H8.out.put (grownBy_set X _ 5 (.bool true)) (heap_setCell_same X _ 5 _ _ (.bool true) H8.out.t7)
                rw [← hY]
                exact h1.above (b := none) ⟨rfl, rfl, rfl, Nat.le_refl _, fun _ _ _ => rfl⟩ (fun k hk => by cases hk))
              have n1 : Y.cell? ⟨b, o + 1, none⟩ = some (.int .i64 (s.2.1 : Nat)) := by
                rw [← hY]
                exact (World.cell?_setCell_other X _ _ _ (fun e => by injection e with e; omega)).trans n1
              have n2 : Y.cell? ⟨b, o + 2, none⟩ = some (.int .i64 (s.2.2 : Nat)) := by
                rw [← hY]
                exact (World.cell?_setCell_other X _ _ _ (fun e => by injection e with e; omega)).trans n2
              rw [hY]
              clear hY f7 z5 y2 y3 u1 he0
              have q0 : Y.cell? ⟨w.heap.size + 1, 0, none⟩ = some (.int .i64 p.1) := cell_of_row Y _ 0 _ _ _ H9.out.t7
              have q1 : Y.cell? ⟨w.heap.size + 1, 1, none⟩ = some (.int .i64 (p.2.1 : Nat)) := cell_of_row Y _ 1 _ _ _ H9.out.t7
              have q2 : Y.cell? ⟨w.heap.size + 1, 2, none⟩ = some (.int .i64 (p.2.2 : Nat)) := cell_of_row Y _ 2 _ _ _ H9.out.t7
              have q3 : Y.cell? ⟨w.heap.size + 1, 3, none⟩ = some (.slice Aa m ca) := cell_of_row Y _ 3 _ _ _ H9.out.t7
              have q4 : Y.cell? ⟨w.heap.size + 1, 4, none⟩ = some (.bool false) := cell_of_row Y _ 4 _ _ _ H9.out.t7
              have q5 : Y.cell? ⟨w.heap.size + 1, 5, none⟩ = some (.bool true) := cell_of_row Y _ 5 _ _ _ H9.out.t7
              have f9 := fun j => frozen_of_row Y (w.heap.size + 1) j _ _ H9.out.t7
              by_cases hr : (s.2.2 : Int) - (s.2.1 : Int) = 1
              · have hr0 : (((s.2.2 : Int) - (s.2.1 : Int)) == 1) = true := by simpa using hr
                clear hr
                go_region
                have hX : ((Y.setCell ⟨w.heap.size + 1, 4, none⟩ (.bool true)).setCell ⟨w.heap.size + 1, 5, none⟩ (.bool true)).drew.heap[w.heap.size]? = some (.cells (tgc 0 0 0 (.slice none 0 0) false false) 130 (0, 0)) := by
                  show ((Y.setCell ⟨w.heap.size + 1, 4, none⟩ (.bool true)).setCell ⟨w.heap.size + 1, 5, none⟩ (.bool true)).heap[w.heap.size]? = _
                  rw [heap_setCell_other _ _ _ _ (by show w.heap.size ≠ w.heap.size + 1; omega), heap_setCell_other _ _ _ _ (by show w.heap.size ≠ w.heap.size + 1; omega)]
                  exact H9.out.t6
                have HBF := Lib.hid (show Below w.heap.size w ((Y.setCell ⟨w.heap.size + 1, 4, none⟩ (.bool true)).setCell ⟨w.heap.size + 1, 5, none⟩ (.bool true)).drew from ((H9.out.b.setCell (p := ⟨w.heap.size + 1, 4, none⟩) (Nat.le_succ _) _).setCell (p := ⟨w.heap.size + 1, 5, none⟩) (Nat.le_succ _) _).drew)
                go_wp2_with (refine tg_put rfl _ _ rfl w.heap.size p.1 (p.2.1 : Nat) (p.2.2 : Nat) Aa m ca true true rfl rfl hX ?_; intro x9 hR9 hg9)
                exact bodyPost_ret (v := .agg (tgc p.1 (p.2.1 : Nat) (p.2.2 : Nat) (.slice Aa m ca) true true)) (results_cell_row rfl _ _ w.heap.size 130 _ (0, 0) _ rfl hR9 Tryz.underlying130 rfl (by kernel_rfl)) rfl ⟨p.1, p.2.1, p.2.2, Aa, m, ca, true, true, rfl, by omega, .inr ⟨by omega, by omega⟩, Below.put HBF.out (Nat.le_refl _) hg9 HBF.out.size⟩
              · have hr0 : (((s.2.2 : Int) - (s.2.1 : Int)) == 1) = false := by simpa using hr
                clear hr
                by_cases hz : m = 0
                · have hz0 : ((m : Int) == 0) = true := by simpa using hz
                  clear hz
                  go_region
                  have hX : ((Y.setCell ⟨w.heap.size + 1, 4, none⟩ (.bool false)).setCell ⟨w.heap.size + 1, 5, none⟩ (.bool false)).drew.heap[w.heap.size]? = some (.cells (tgc 0 0 0 (.slice none 0 0) false false) 130 (0, 0)) := by
                    show ((Y.setCell ⟨w.heap.size + 1, 4, none⟩ (.bool false)).setCell ⟨w.heap.size + 1, 5, none⟩ (.bool false)).heap[w.heap.size]? = _
                    rw [heap_setCell_other _ _ _ _ (by show w.heap.size ≠ w.heap.size + 1; omega), heap_setCell_other _ _ _ _ (by show w.heap.size ≠ w.heap.size + 1; omega)]
                    exact H9.out.t6
                  have HBF := Lib.hid (show Below w.heap.size w ((Y.setCell ⟨w.heap.size + 1, 4, none⟩ (.bool false)).setCell ⟨w.heap.size + 1, 5, none⟩ (.bool false)).drew from ((H9.out.b.setCell (p := ⟨w.heap.size + 1, 4, none⟩) (Nat.le_succ _) _).setCell (p := ⟨w.heap.size + 1, 5, none⟩) (Nat.le_succ _) _).drew)
                  go_wp2_with (refine tg_put rfl _ _ rfl w.heap.size p.1 (p.2.1 : Nat) (p.2.2 : Nat) Aa m ca false false rfl rfl hX ?_; intro x9 hR9 hg9)
                  exact bodyPost_ret (v := .agg (tgc p.1 (p.2.1 : Nat) (p.2.2 : Nat) (.slice Aa m ca) false false)) (results_cell_row rfl _ _ w.heap.size 130 _ (0, 0) _ rfl hR9 Tryz.underlying130 rfl (by kernel_rfl)) rfl ⟨p.1, p.2.1, p.2.2, Aa, m, ca, false, false, rfl, by omega, .inr ⟨by omega, by omega⟩, Below.put HBF.out (Nat.le_refl _) hg9 HBF.out.size⟩
                · have hz0 : ((m : Int) == 0) = false := by simpa using hz
                  clear hz
                  go_region
                  have hX : ((Y.setCell ⟨w.heap.size + 1, 4, none⟩ (.bool false)).setCell ⟨w.heap.size + 1, 5, none⟩ (.bool false)).drew.heap[w.heap.size]? = some (.cells (tgc 0 0 0 (.slice none 0 0) false false) 130 (0, 0)) := by
                    show ((Y.setCell ⟨w.heap.size + 1, 4, none⟩ (.bool false)).setCell ⟨w.heap.size + 1, 5, none⟩ (.bool false)).heap[w.heap.size]? = _
                    rw [heap_setCell_other _ _ _ _ (by show w.heap.size ≠ w.heap.size + 1; omega), heap_setCell_other _ _ _ _ (by show w.heap.size ≠ w.heap.size + 1; omega)]
                    exact H9.out.t6
                  have HBF := Lib.hid (show Below w.heap.size w ((Y.setCell ⟨w.heap.size + 1, 4, none⟩ (.bool false)).setCell ⟨w.heap.size + 1, 5, none⟩ (.bool false)).drew from ((H9.out.b.setCell (p := ⟨w.heap.size + 1, 4, none⟩) (Nat.le_succ _) _).setCell (p := ⟨w.heap.size + 1, 5, none⟩) (Nat.le_succ _) _).drew)
                  go_wp2_with (refine tg_put rfl _ _ rfl w.heap.size p.1 (p.2.1 : Nat) (p.2.2 : Nat) Aa m ca false false rfl rfl hX ?_; intro x9 hR9 hg9)
                  exact bodyPost_ret (v := .agg (tgc p.1 (p.2.1 : Nat) (p.2.2 : Nat) (.slice Aa m ca) false false)) (results_cell_row rfl _ _ w.heap.size 130 _ (0, 0) _ rfl hR9 Tryz.underlying130 rfl (by kernel_rfl)) rfl ⟨p.1, p.2.1, p.2.2, Aa, m, ca, false, false, rfl, by omega, .inr ⟨by omega, by omega⟩, Below.put HBF.out (Nat.le_refl _) hg9 HBF.out.size⟩
            · have he0 : (((p3.2.2 : Int) - (p3.2.1 : Int)) == 2) = false := by simpa using he
              clear he
              go_wp2_with fail
              go_region
              go_wp2_with fail
              obtain ⟨Y, hY⟩ : ∃ Y, (X.setCell ⟨w.heap.size + 1, 5, none⟩ (.bool false)).drew = Y := ⟨_, rfl⟩
              have H9 := Lib.hid (show RS w Y w2.heap.size A2 ts.length c2 at7 ts (tgc p.1 (p.2.1 : Nat) (p.2.2 : Nat) (.slice Aa m ca) false false) by
                have h1 := H8.out.put (grownBy_set X _ 5 (.bool false)) (heap_setCell_same X _ 5 _ _ (.bool false) H8.out.t7)
                rw [← hY]
                exact h1.above (b := none) ⟨rfl, rfl, rfl, Nat.le_refl _, fun _ _ _ => rfl⟩ (fun k hk => by cases hk))
              have n1 : Y.cell? ⟨b, o + 1, none⟩ = some (.int .i64 (s.2.1 : Nat)) := by
                rw [← hY]
                exact (World.cell?_setCell_other X _ _ _ (fun e => by injection e with e; omega)).trans n1
              have n2 : Y.cell? ⟨b, o + 2, none⟩ = some (.int .i64 (s.2.2 : Nat)) := by
                rw [← hY]
                exact (World.cell?_setCell_other X _ _ _ (fun e => by injection e with e; omega)).trans n2
              rw [hY]
              clear hY f7 z5 y2 y3 u1 he0
              have q0 : Y.cell? ⟨w.heap.size + 1, 0, none⟩ = some (.int .i64 p.1) := cell_of_row Y _ 0 _ _ _ H9.out.t7
              have q1 : Y.cell? ⟨w.heap.size + 1, 1, none⟩ = some (.int .i64 (p.2.1 : Nat)) := cell_of_row Y _ 1 _ _ _ H9.out.t7
              have q2 : Y.cell? ⟨w.heap.size + 1, 2, none⟩ = some (.int .i64 (p.2.2 : Nat)) := cell_of_row Y _ 2 _ _ _ H9.out.t7
              have q3 : Y.cell? ⟨w.heap.size + 1, 3, none⟩ = some (.slice Aa m ca) := cell_of_row Y _ 3 _ _ _ H9.out.t7
              have q4 : Y.cell? ⟨w.heap.size + 1, 4, none⟩ = some (.bool false) := cell_of_row Y _ 4 _ _ _ H9.out.t7
              have q5 : Y.cell? ⟨w.heap.size + 1, 5, none⟩ = some (.bool false) := cell_of_row Y _ 5 _ _ _ H9.out.t7
              have f9 := fun j => frozen_of_row Y (w.heap.size + 1) j _ _ H9.out.t7
              by_cases hr : (s.2.2 : Int) - (s.2.1 : Int) = 1
              · have hr0 : (((s.2.2 : Int) - (s.2.1 : Int)) == 1) = true := by simpa using hr
                clear hr
                go_region
                have hX : ((Y.setCell ⟨w.heap.size + 1, 4, none⟩ (.bool true)).setCell ⟨w.heap.size + 1, 5, none⟩ (.bool false)).drew.heap[w.heap.size]? = some (.cells (tgc 0 0 0 (.slice none 0 0) false false) 130 (0, 0)) := by
                  show ((Y.setCell ⟨w.heap.size + 1, 4, none⟩ (.bool true)).setCell ⟨w.heap.size + 1, 5, none⟩ (.bool false)).heap[w.heap.size]? = _
                  rw [heap_setCell_other _ _ _ _ (by show w.heap.size ≠ w.heap.size + 1; omega), heap_setCell_other _ _ _ _ (by show w.heap.size ≠ w.heap.size + 1; omega)]
                  exact H9.out.t6
                have HBF := Lib.hid (show Below w.heap.size w ((Y.setCell ⟨w.heap.size + 1, 4, none⟩ (.bool true)).setCell ⟨w.heap.size + 1, 5, none⟩ (.bool false)).drew from ((H9.out.b.setCell (p := ⟨w.heap.size + 1, 4, none⟩) (Nat.le_succ _) _).setCell (p := ⟨w.heap.size + 1, 5, none⟩) (Nat.le_succ _) _).drew)
                go_wp2_with (refine tg_put rfl _ _ rfl w.heap.size p.1 (p.2.1 : Nat) (p.2.2 : Nat) Aa m ca true false rfl rfl hX ?_; intro x9 hR9 hg9)
                exact bodyPost_ret (v := .agg (tgc p.1 (p.2.1 : Nat) (p.2.2 : Nat) (.slice Aa m ca) true false)) (results_cell_row rfl _ _ w.heap.size 130 _ (0, 0) _ rfl hR9 Tryz.underlying130 rfl (by kernel_rfl)) rfl ⟨p.1, p.2.1, p.2.2, Aa, m, ca, true, false, rfl, by omega, .inr ⟨by omega, by omega⟩, Below.put HBF.out (Nat.le_refl _) hg9 HBF.out.size⟩
              · have hr0 : (((s.2.2 : Int) - (s.2.1 : Int)) == 1) = false := by simpa using hr
                clear hr
                by_cases hz : m = 0
                · have hz0 : ((m : Int) == 0) = true := by simpa using hz
                  clear hz
                  go_region
                  have hX : ((Y.setCell ⟨w.heap.size + 1, 4, none⟩ (.bool true)).setCell ⟨w.heap.size + 1, 5, none⟩ (.bool false)).drew.heap[w.heap.size]? = some (.cells (tgc 0 0 0 (.slice none 0 0) false false) 130 (0, 0)) := by
                    show ((Y.setCell ⟨w.heap.size + 1, 4, none⟩ (.bool true)).setCell ⟨w.heap.size + 1, 5, none⟩ (.bool false)).heap[w.heap.size]? = _
                    rw [heap_setCell_other _ _ _ _ (by show w.heap.size ≠ w.heap.size + 1; omega), heap_setCell_other _ _ _ _ (by show w.heap.size ≠ w.heap.size + 1; omega)]
                    exact H9.out.t6
                  have HBF := Lib.hid (show Below w.heap.size w ((Y.setCell ⟨w.heap.size + 1, 4, none⟩ (.bool true)).setCell ⟨w.heap.size + 1, 5, none⟩ (.bool false)).drew from ((H9.out.b.setCell (p := ⟨w.heap.size + 1, 4, none⟩) (Nat.le_succ _) _).setCell (p := ⟨w.heap.size + 1, 5, none⟩) (Nat.le_succ _) _).drew)
                  go_wp2_with (refine tg_put rfl _ _ rfl w.heap.size p.1 (p.2.1 : Nat) (p.2.2 : Nat) Aa m ca true false rfl rfl hX ?_; intro x9 hR9 hg9)
                  exact bodyPost_ret (v := .agg (tgc p.1 (p.2.1 : Nat) (p.2.2 : Nat) (.slice Aa m ca) true false)) (results_cell_row rfl _ _ w.heap.size 130 _ (0, 0) _ rfl hR9 Tryz.underlying130 rfl (by kernel_rfl)) rfl ⟨p.1, p.2.1, p.2.2, Aa, m, ca, true, false, rfl, by omega, .inr ⟨by omega, by omega⟩, Below.put HBF.out (Nat.le_refl _) hg9 HBF.out.size⟩
                · have hz0 : ((m : Int) == 0) = false := by simpa using hz
                  clear hz
                  go_region
                  have hX : ((Y.setCell ⟨w.heap.size + 1, 4, none⟩ (.bool false)).setCell ⟨w.heap.size + 1, 5, none⟩ (.bool false)).drew.heap[w.heap.size]? = some (.cells (tgc 0 0 0 (.slice none 0 0) false false) 130 (0, 0)) := by
                    show ((Y.setCell ⟨w.heap.size + 1, 4, none⟩ (.bool false)).setCell ⟨w.heap.size + 1, 5, none⟩ (.bool false)).heap[w.heap.size]? = _
                    rw [heap_setCell_other _ _ _ _ (by show w.heap.size ≠ w.heap.size + 1; omega), heap_setCell_other _ _ _ _ (by show w.heap.size ≠ w.heap.size + 1; omega)]
                    exact H9.out.t6
                  have HBF := Lib.hid (show Below w.heap.size w ((Y.setCell ⟨w.heap.size + 1, 4, none⟩ (.bool false)).setCell ⟨w.heap.size + 1, 5, none⟩ (.bool false)).drew from ((H9.out.b.setCell (p := ⟨w.heap.size + 1, 4, none⟩) (Nat.le_succ _) _).setCell (p := ⟨w.heap.size + 1, 5, none⟩) (Nat.le_succ _) _).drew)
                  go_wp2_with (refine tg_put rfl _ _ rfl w.heap.size p.1 (p.2.1 : Nat) (p.2.2 : Nat) Aa m ca false false rfl rfl hX ?_; intro x9 hR9 hg9)
                  exact bodyPost_ret (v := .agg (tgc p.1 (p.2.1 : Nat) (p.2.2 : Nat) (.slice Aa m ca) false false)) (results_cell_row rfl _ _ w.heap.size 130 _ (0, 0) _ rfl hR9 Tryz.underlying130 rfl (by kernel_rfl)) rfl ⟨p.1, p.2.1, p.2.2, Aa, m, ca, false, false, rfl, by omega, .inr ⟨by omega, by omega⟩, Below.put HBF.out (Nat.le_refl _) hg9 HBF.out.size⟩
      | true =>
        have u1 := u1 rfl
        have hle := HL.out.rs.rd.le
        have hnn := HL.out.rs.rd.n
        obtain ⟨Aa, ca, rfl, -⟩ := own_form HL.out.own
        have q3 : wr.cell? ⟨w.heap.size + 1, 3, none⟩ = some (.slice Aa m ca) := cell_of_row wr _ 3 _ _ _ HL.out.rs.t7
        obtain ⟨x1, x2, x3, x4, x5, x6, x7, x8, x9⟩ := cells9 HL.out.a
        have hgl := HL.out.rs.rd.lt
        have hlt := HL.out.rs.lt
        have HMM := Lib.hid (atOf_eq HL.out.rs.rd)
        go_wp2_with (first
          | (at_builtin; go_loud (refine wpList_pushA st128 rfl _ _ rfl _ rfl HL.out.own [.int .i64 a1, .int .i64 a2, .int .i64 a3, .int .i64 a4, .int .i64 a5, .int .i64 a6, .int .i64 a7, .int .i64 a8, .int .i64 a9] _ rfl rfl rfl (by intro u hu; simp at hu; rcases hu with rfl | rfl | rfl | rfl | rfl | rfl | rfl | rfl | rfl <;> rfl) (by omega) (by omega) (by omega) ?_); intro v5 w5 ho5 hg5 hat5; obtain ⟨A9, c9, rfl, -⟩ := own_form ho5; obtain ⟨r1, r2, r3, r4, r5⟩ := HL.out.push ho5 hg5; have R1 := Lib.hid r1; have R2 := Lib.hid r2; have R5 := Lib.hid r5; have f7 := fun j => frozen_of_row w5 (w.heap.size + 1) j _ _ r3; have z7 : w5.cell? ⟨w.heap.size + 1, 3, none⟩ = some (.slice Aa m ca) := cell_of_row w5 _ 3 _ _ _ r3; obtain ⟨y1, y2, y3, y4, y5, y6, y7, y8, y9⟩ := cells9 r5; clear x1 x2 x3 x4 x5 x6 x7 x8 x9 q3 r1 r2 r3 r4 r5 ho5))
        refine (attr107 (R1.out.above (World.grownBy_alloc _ _ none) (fun k hk => by cases hk)).rd).mono ?_
        rintro e w8 ⟨e1, e2, e3, e4, e5, e6, e7, e8, e9, ok8, t8, rfl, h8, k18, k28, g8⟩
        have hs5 := Lib.hid (show w5.heap.size = (w5.setCell ⟨w.heap.size + 1, 3, none⟩ (.slice A9 (m + 1) c9)).heap.size by simp [World.setCell])
        have hgs : w2.heap.size < w5.heap.size := by have := hg5.size; omega
        have hX8 := alloc9 hs5.out (by have := hs5.out; omega) g8
        have HG5 := Lib.hid hg5
        have HG8 := Lib.hid g8
        have H8 := Lib.hid h8
        clear y1 y2 y3 y4 y5 y6 y7 y8 y9 z7 f7 hg5 g8 h8
        go_wp2_with (refine a9_put' rfl _ _ rfl w5.heap.size e1 e2 e3 e4 e5 e6 e7 e8 e9 rfl rfl hX8 ?_; intro w9 hR9 hg9; have HL9 := Lib.hid (RL.next hs5.out R1.out R2.out H8.out HG8.out hR9 hg9); have HG9 := Lib.hid hg9; clear hR9 hg9 hX8)
        have hav : ∀ k, (Value.slice Aa m ca).ownBlock = some k → w2.heap.size < k := fun k hk => by have := (HL.out.own.lt k hk).1; omega
        go_roundw
        case rel => exact ⟨m + 1, w5.heap.size, _, _, e1, e2, e3, e4, e5, e6, e7, e8, e9, ok8, t8, rfl, rfl, HL9, fun h => by have := k18 h; omega, by cases ok8 with | true => (have := k18 rfl; omega) | false => (have := k28 rfl; omega), Lib.hid ⟨cell_round HN.out.1 hbg hbl HG5.out hav HG8.out HG9.out hgs, cell_round HN.out.2 hbg hbl HG5.out hav HG8.out HG9.out hgs⟩⟩
        case measure =>
          have e1 := atOf_eq HL9.out.rs.rd
          have e2 := HMM.out
          have hle9 := HL9.out.rs.rd.le
          rw [e1, e2]
          cases ok8 with
          | true => have := k18 rfl; simp [isT]; omega
          | false => have := k28 rfl; simp [isT]; omega
end Go.Proofs.YtibakihcicfeoaaGreat
