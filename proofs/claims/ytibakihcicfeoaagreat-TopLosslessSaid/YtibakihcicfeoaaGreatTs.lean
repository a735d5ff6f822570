/- The parser's memory: its maker, its tree, its stack of open elements, each with kids of its own. No condition. -/
import Derived.Test.YtibakihcicfeoaaGreatTq
import Derived.Test.YtibakihcicfeoaaGreatTr
import Derived.Test.YtibakihcicfeoaaGreatTf
namespace Go.Proofs.YtibakihcicfeoaaGreat
open Go.RowKit

/-- What a parse goes by: blocks of the maker, the tree, the arena; the bytes, the text's runes and places. -/
structure PC where
  B : Nat
  gm : Nat
  gt : Nat
  ga : Nat
  A : Option Addr
  n : Nat
  c : Nat
  zs : List Int
  kd : Int
  bom : Int
  AR : Option Addr
  nR : Nat
  cR : Nat
  rs : List Int
  AO : Option Addr
  cO : Nat
  os : List Int
def PC.mk_ (p : PC) (SV : Value) : Obj := .cells #[.slice p.A p.n p.c, .pointer (some ⟨p.gt, 0, none⟩), SV] 45 (0, 0)
def PC.tree (p : PC) (DV : Value) (root : Int) : Obj := .cells #[.int .i64 p.kd, .int .i64 p.bom, .slice p.AR p.nR p.cR, .slice p.AO (p.nR + 1) p.cO, .pointer (some ⟨p.ga, 0, none⟩), .int .i64 root, DV] 31 (0, 0)
/-- An element that is open: its name's slice, its kids' slice, its kids. -/
structure SE where
  nA : Option Addr
  nn : Nat
  nc : Nat
  kv : Value
  kids : List Int
def SE.cells (x : SE) : List Value := [.slice x.nA x.nn x.nc, x.kv]
def srow (S : List SE) : List Value := S.flatMap SE.cells
theorem srow_len : ∀ S : List SE, (srow S).length = S.length * 2
  | [] => rfl
  | x :: S => by
    show (x.cells ++ srow S).length = _
    rw [List.length_append, srow_len S, List.length_cons, show x.cells.length = 2 from rfl]; omega
theorem srow_snoc (S : List SE) (x : SE) : srow (S ++ [x]) = srow S ++ x.cells := by simp [srow]
theorem srow_get : ∀ (S : List SE) (j : Nat) (x : SE), S[j]? = some x → (srow S)[j * 2]? = some (.slice x.nA x.nn x.nc) ∧ (srow S)[j * 2 + 1]? = some x.kv
  | [], j, x, h => by simp at h
  | y :: S, 0, x, h => by simp at h; subst h; exact ⟨rfl, rfl⟩
  | y :: S, j + 1, x, h => by
    obtain ⟨h1, h2⟩ := srow_get S j x (by simpa using h)
    have e : ∀ i, (srow (y :: S))[2 + i]? = (srow S)[i]? := fun i => by
      show (y.cells ++ srow S)[2 + i]? = _
      rw [List.getElem?_append_right (by show 2 ≤ 2 + i; omega)]
      congr 1
      show 2 + i - 2 = i
      omega
    exact ⟨by rw [show (j + 1) * 2 = 2 + j * 2 by omega, e]; exact h1, by rw [show (j + 1) * 2 + 1 = 2 + (j * 2 + 1) by omega, e]; exact h2⟩
def kvX (S : List SE) : Nat → Prop := fun b => ∃ x ∈ S, x.kv.ownBlock = some b
/-- All but the maker's, the tree's and the rows' blocks of the stack and of what is wrong. -/
structure MB (p : PC) (w : World) (N : List GN) (S : List SE) : Prop where
  ar : ArenaX w p.B p.ga N (kvX S)
  kids : ∀ x ∈ S, w.ownsRow p.B 3 1 x.kv x.kids.length (ints .i64 x.kids)
  apart : S.Pairwise fun x y => ∀ b, x.kv.ownBlock = some b → y.kv.ownBlock ≠ some b
  names : ∀ x ∈ S, x.nn ≤ 65536 ∧ ∃ nm, Rd w p.B 1 x.nA x.nn x.nc (ints .i32 nm)
  b : Rd w p.B 1 p.A p.n p.c (ints .u8 p.zs)
  R : Rd w p.B 1 p.AR p.nR p.cR (ints .i32 p.rs)
  O : Rd w p.B 1 p.AO (p.nR + 1) p.cO (ints .i64 p.os)
  lo : p.B ≤ p.gm ∧ p.B ≤ p.gt ∧ p.B ≤ w.heap.size
/-- What a row's block is, if there is one. -/
def RowT (B : Nat) (w : World) (row : Option Nat) (tg : TypeId) : Prop := ∀ g, row = some g → B ≤ g ∧ ∃ c fr, w.heap[g]? = some (.cells c tg fr)
theorem RowT.of_own {B : Nat} {w : World} {e : TypeId} {sz n : Nat} {v : Value} {xs : List Value} (h : w.ownsRow B e sz v n xs) : RowT B w v.ownBlock e := fun g hg => by
  rcases h.2 with ⟨rfl, _⟩ | ⟨g1, c1, cur1, rfl, hb, hk1, _⟩
  · cases hg
  · injection hg with hg; subst hg; exact ⟨hb, _, _, hk1⟩
theorem RowT.of_blk {B : Nat} {w : World} {g : Nat} {cs : Array Value} {t : TypeId} {fr : Nat × Nat} (h : w.heap[g]? = some (.cells cs t fr)) (hb : B ≤ g) : RowT B w (some g) t := fun k hk => by
  injection hk with hk; subst hk; exact ⟨hb, _, _, h⟩
section
variable {p : PC} {w w' : World} {N N' : List GN} {S : List SE} {row : Option Nat} {tg : TypeId}
theorem keep_blk (hg : w.grownBy w' row) (hr : RowT p.B w row tg) {k : Nat} {c : Array Value} {t : TypeId} {fr : Nat × Nat} (h : w.heap[k]? = some (.cells c t fr)) (ht : t ≠ tg) : w'.heap[k]? = some (.cells c t fr) := by
  refine (hg.block k (Array.getElem?_eq_some_iff.1 h).1 fun e => ?_).trans h
  obtain ⟨_, c', fr', h'⟩ := hr k e.symm
  rw [h] at h'
  injection h' with h'; injection h' with _ h' _
  exact ht h'
theorem keep_own (hg : w.grownBy w' row) (hr : RowT p.B w row tg) {B : Nat} {e : TypeId} {sz n : Nat} {v : Value} {xs : List Value} (ho : w.ownsRow B e sz v n xs) (he : e ≠ tg) : w'.ownsRow B e sz v n xs := by
  obtain ⟨hl, hn | ⟨g, cap, cur, hv, hb, hk, r⟩⟩ := ho
  · exact ⟨hl, .inl hn⟩
  · exact ⟨hl, .inr ⟨g, cap, cur, hv, hb, keep_blk hg hr hk he, r⟩⟩
theorem below_of (hg : w.grownBy w' row) (hr : RowT p.B w row tg) (hB : p.B ≤ w.heap.size) : Below p.B w w' :=
  ⟨hg.os, hg.tape, hg.output, hg.size, fun k hk => hg.block k (by omega) fun e => by have := (hr k e.symm).1; omega⟩
/-- Something of another type is written. -/
theorem MB.keep (h : MB p w N S) (hg : w.grownBy w' row) (hr : RowT p.B w row tg) (h3 : 3 ≠ tg) (h5 : 5 ≠ tg) (h62 : 62 ≠ tg) (h81 : 81 ≠ tg) : MB p w' N S := by
  have hb := below_of hg hr h.lo.2.2
  obtain ⟨hB, v, bv, kv, ha, ho, hi, hx⟩ := h.ar
  exact ⟨⟨hB, v, bv, kv, keep_blk hg hr ha h81, keep_own hg hr ho h62, fun i hl => ⟨keep_own hg hr (hi i hl).1 h5, keep_own hg hr (hi i hl).2 h3⟩, hx⟩,
    fun x hx => keep_own hg hr (h.kids x hx) h3, h.apart, fun x hx => ⟨(h.names x hx).1, let ⟨nm, hn⟩ := (h.names x hx).2; ⟨nm, hn.below hb⟩⟩, h.b.below hb, h.R.below hb, h.O.below hb, h.lo.1, h.lo.2.1, Nat.le_trans h.lo.2.2 hg.size⟩
/-- Below, and what is of the tokens' type is kept. -/
structure Kp (p : PC) (w w' : World) : Prop where
  b : Below p.B w w'
  k : ∀ (g : Nat) (cs : Array Value) (fr : Nat × Nat), w.heap[g]? = some (.cells cs 87 fr) → w'.heap[g]? = some (.cells cs 87 fr)
theorem Kp.trans {p : PC} {w w' w'' : World} (h : Kp p w w') (h' : Kp p w' w'') : Kp p w w'' := ⟨h.b.trans h'.b, fun g cs fr hh => h'.k g cs fr (h.k g cs fr hh)⟩
theorem Kp.below {p : PC} {w w' : World} (h : Below w.heap.size w w') (hB : p.B ≤ w.heap.size) : Kp p w w' := ⟨h.mono hB, fun g cs fr hh => (h.block g (Array.getElem?_eq_some_iff.1 hh).1).trans hh⟩
theorem Kp.kept9 {p : PC} {w w' : World} (hk : Kept9 w w') (h : Below p.B w w') : Kp p w w' := ⟨h, fun g cs fr hh => hk.blk _ _ hh (fun cs fr e => by injection e with _ e _; exact absurd e (by decide)) (fun cs fr e => by injection e with _ e _; exact absurd e (by decide))⟩
/-- The parser's memory. -/
structure MS (p : PC) (w : World) (N : List GN) (S : List SE) (nd : Nat) : Prop where
  ex : ∃ SV DV ds, w.heap[p.gm]? = some (p.mk_ SV) ∧ w.heap[p.gt]? = some (p.tree DV 0) ∧ w.ownsRow p.B 42 2 SV S.length (srow S) ∧ w.ownsRow p.B 191 3 DV nd ds
  mb : MB p w N S
theorem MS.gm_lt {nd : Nat} (h : MS p w N S nd) : p.gm < w.heap.size := by
  obtain ⟨SV, DV, ds, h1, _⟩ := h.ex
  exact (Array.getElem?_eq_some_iff.1 h1).1
/-- The arena alone is written. -/
theorem MS.arena {nd : Nat} (h : MS p w N S nd) (ha : ArenaX w' p.B p.ga N' (kvX S)) (hk : Kept9 w w') (hb : Below p.B w w') : MS p w' N' S nd := by
  obtain ⟨SV, DV, ds, h1, h2, h3, h4⟩ := h.ex
  refine ⟨⟨SV, DV, ds, hk.blk _ _ h1 (fun cs fr e => ?_) (fun cs fr e => ?_), hk.blk _ _ h2 (fun cs fr e => ?_) (fun cs fr e => ?_), hk.own h3 (by decide) (by decide), hk.own h4 (by decide) (by decide)⟩,
    ha, fun x hx => hk.own (h.mb.kids x hx) (by decide) (by decide), h.mb.apart, fun x hx => ⟨(h.mb.names x hx).1, let ⟨nm, hn⟩ := (h.mb.names x hx).2; ⟨nm, hn.below hb⟩⟩, h.mb.b.below hb, h.mb.R.below hb, h.mb.O.below hb, h.mb.lo.1, h.mb.lo.2.1, Nat.le_trans h.mb.lo.2.2 hk.size⟩
  all_goals
    injection e with _ e _
    exact absurd e (by decide)
/-- Nothing that was there is written. -/
theorem MS.below {nd : Nat} (h : MS p w N S nd) (hb : Below w.heap.size w w') : MS p w' N S nd :=
  h.arena (h.mb.ar.below hb) (Kept9.of_below hb) (hb.mono h.mb.lo.2.2)
theorem kvX_lt {nd : Nat} (h : MS p w N S nd) : ∀ b, kvX S b → b < w.heap.size := fun b ⟨x, hx, hb⟩ => ((h.mb.kids x hx).lt b hb).2
/-- A cell of an owned row, set. -/
theorem own_set {B g c n j : Nat} {e : TypeId} {sz : Nat} {xs : List Value} (h : w.ownsRow B e sz (.slice (some ⟨g, 0, none⟩) n c) n xs) (hj : j < n * sz) (u : Value) : (w.setCell ⟨g, j, none⟩ u).ownsRow B e sz (.slice (some ⟨g, 0, none⟩) n c) n (xs.set j u) := by
  obtain ⟨hl, ⟨hn, _⟩ | ⟨g', cap, cur, hv, hb, hk, r1, r2, r3, r4⟩⟩ := h
  · cases hn
  · injection hv with e1 _ e3
    injection e1 with e1; injection e1 with e1 _ _
    subst e1; subst e3
    refine ⟨by simp [hl], .inr ⟨g, c, cur.setIfInBounds j u, rfl, hb, heap_setCell_same w g j cur e u hk, r1, r2, by simp [r3], ?_⟩⟩
    rw [← r4]
    apply List.ext_getElem?
    intro i
    simp only [Array.toList_setIfInBounds, List.getElem?_take, List.getElem?_set, List.length_take, Array.length_toList]
    by_cases h1 : i < n * sz
    · by_cases h2 : j = i
      · subst h2
        have : j < cur.size := by
          have := Nat.mul_le_mul_right sz r1
          omega
        simp [h1, this]
        omega
      · simp [h1, h2]
    · simp only [h1, if_false]
      by_cases h2 : j = i
      · subst h2; exact absurd hj h1
      · simp [h2]
theorem srow_set (S : List SE) (x : SE) (v : Value) (ks : List Int) : (srow (S ++ [x])).set (S.length * 2 + 1) v = srow (S ++ [{ x with kv := v, kids := ks }]) := by
  rw [srow_snoc, srow_snoc, List.set_append_right _ _ (by rw [srow_len]; omega), srow_len]
  congr 1
  rw [show S.length * 2 + 1 - S.length * 2 = 1 by omega]
  rfl
/-- One more kid of the innermost one. -/
theorem MS.kid {nd : Nat} {x : SE} {w1 : World} {z : Int} {v' : Value} (h : MS p w N (S ++ [x]) nd) (hg : w.grownBy w1 x.kv.ownBlock) (ho : w1.ownsRow p.B 3 1 v' (x.kids.length + 1) (ints .i64 x.kids ++ [.int .i64 z]))
    (hat : v'.ownBlock = x.kv.ownBlock ∨ ∃ g', v'.ownBlock = some g' ∧ w.heap.size ≤ g') :
    ∃ gs cs, w.heap[p.gm]? = some (p.mk_ (.slice (some ⟨gs, 0, none⟩) (S.length + 1) cs)) ∧ (∀ j u, (srow (S ++ [x]))[j]? = some u → w.cell? ⟨gs, j, none⟩ = some u) ∧ w1.cell? ⟨gs, S.length * 2 + 1, none⟩ = some x.kv ∧ (∀ j, w1.frozen? ⟨gs, j, none⟩ = false) ∧
      MS p (w1.setCell ⟨gs, S.length * 2 + 1, none⟩ v') N (S ++ [{ x with kv := v', kids := x.kids ++ [z] }]) nd ∧ Kp p w (w1.setCell ⟨gs, S.length * 2 + 1, none⟩ v') := by
  obtain ⟨SV, DV, ds, h1, h2, h3, h4⟩ := h.ex
  have hx := h.mb.kids x (by simp)
  have hr : RowT p.B w x.kv.ownBlock 3 := RowT.of_own hx
  have hb1 := below_of hg hr h.mb.lo.2.2
  rw [List.length_append, List.length_singleton] at h3
  obtain ⟨As, cs, rfl, -⟩ := own_form h3
  rcases h3.2 with ⟨_, h0⟩ | ⟨gs, cap, cur, hv, hbs, hks, _⟩
  · omega
  injection hv with e1 _ e3
  subst e1; subst e3
  have k3 := keep_own hg hr h3 (by decide)
  have kk : w1.heap[gs]? = some (.cells cur 42 (0, 0)) := keep_blk hg hr hks (by decide)
  have hcell : ∀ j u, (srow (S ++ [x]))[j]? = some u → w.cell? ⟨gs, j, none⟩ = some u := fun j u hu => by
    have := World.ownsRow.cells h3 (g := gs) rfl j u hu
    rwa [add_none, Nat.zero_add] at this
  have hcell1 : ∀ j u, (srow (S ++ [x]))[j]? = some u → w1.cell? ⟨gs, j, none⟩ = some u := fun j u hu => by
    have := World.ownsRow.cells k3 (g := gs) rfl j u hu
    rwa [add_none, Nat.zero_add] at this
  have hrs : RowT p.B w1 (some gs) 42 := RowT.of_blk kk hbs
  have hgs := grownBy_set w1 gs (S.length * 2 + 1) v'
  have hb2 : Below p.B w1 (w1.setCell ⟨gs, S.length * 2 + 1, none⟩ v') := below_of hgs hrs (Nat.le_trans h.mb.lo.2.2 hg.size)
  have hb := hb1.trans hb2
  have hgl : ∀ y ∈ S, ∀ b, y.kv.ownBlock = some b → v'.ownBlock ≠ some b := fun y hy b hyb hvb => by
    have ap := (List.pairwise_append.1 h.mb.apart).2.2 y hy x (by simp) b hyb
    rcases hat with he | ⟨g', he, hge⟩
    · exact ap (he ▸ hvb)
    · rw [he] at hvb; injection hvb with hvb
      have := ((h.mb.kids y (List.mem_append_left _ hy)).lt b hyb).2
      omega
  have keepK : ∀ {v : Value} {n : Nat} {xs : List Value}, w.ownsRow p.B 3 1 v n xs → (∀ b, v.ownBlock = some b → x.kv.ownBlock ≠ some b) → (w1.setCell ⟨gs, S.length * 2 + 1, none⟩ v').ownsRow p.B 3 1 v n xs := fun {v n xs} hv hne => by
    refine keep_own hgs hrs (hv.kept hg ?_) (by decide)
    rcases hvo : v.ownBlock with _ | b
    · exact .inl rfl
    · exact .inr fun e => hne b hvo e.symm
  refine ⟨gs, cs, h1, hcell, hcell1 _ _ (srow_get (S ++ [x]) S.length x (by simp)).2, fun j => frozen_of_row w1 gs j _ _ kk, ⟨⟨.slice (some ⟨gs, 0, none⟩) (S.length + 1) cs, DV, ds, keep_blk hgs hrs (keep_blk hg hr h1 (by decide)) (by decide), keep_blk hgs hrs (keep_blk hg hr h2 (by decide)) (by decide), ?_, keep_own hgs hrs (keep_own hg hr h4 (by decide)) (by decide)⟩, ?_⟩, ⟨hb, fun g cs fr hh => keep_blk hgs hrs (keep_blk hg hr hh (by decide)) (by decide)⟩⟩
  · have := own_set k3 (j := S.length * 2 + 1) (by omega) v'
    rw [srow_set S x v' (x.kids ++ [z])] at this
    rw [List.length_append, List.length_singleton]
    exact this
  · obtain ⟨hB, v, bv, kv, ha, hno, hi, hxx⟩ := h.mb.ar
    refine ⟨⟨hB, v, bv, kv, keep_blk hgs hrs (keep_blk hg hr ha (by decide)) (by decide), keep_own hgs hrs (keep_own hg hr hno (by decide)) (by decide), fun i hl => ⟨keep_own hgs hrs (keep_own hg hr (hi i hl).1 (by decide)) (by decide), keepK (hi i hl).2 fun b hb hxb => hxx i hl b hb ⟨x, by simp, hxb⟩⟩, ?_⟩, ?_, ?_, ?_, h.mb.b.below hb, h.mb.R.below hb, h.mb.O.below hb, h.mb.lo.1, h.mb.lo.2.1, Nat.le_trans h.mb.lo.2.2 hb.size⟩
    · rintro i hl b hbk ⟨y, hy, hyb⟩
      rcases List.mem_append.1 hy with hy | hy
      · exact hxx i hl b hbk ⟨y, List.mem_append_left _ hy, hyb⟩
      · rw [List.mem_singleton] at hy; subst hy
        rcases hat with he | ⟨g', he, hge⟩
        · exact hxx i hl b hbk ⟨x, by simp, he ▸ hyb⟩
        · have hyb : v'.ownBlock = some b := hyb
          rw [he] at hyb; injection hyb with hyb
          have := ((hi i hl).2.lt b hbk).2
          omega
    · intro y hy
      rcases List.mem_append.1 hy with hy | hy
      · exact keepK (h.mb.kids y (List.mem_append_left _ hy)) fun b hyb hxb => (List.pairwise_append.1 h.mb.apart).2.2 y hy x (by simp) b hyb hxb
      · rw [List.mem_singleton] at hy; subst hy
        have := keep_own hgs hrs ho (by decide)
        simpa [ints] using this
    · refine List.pairwise_append.2 ⟨(List.pairwise_append.1 h.mb.apart).1, by simp, fun y hy y' hy' b hyb => ?_⟩
      rw [List.mem_singleton] at hy'; subst hy'
      exact hgl y hy b hyb
    · intro y hy
      rcases List.mem_append.1 hy with hy | hy
      · exact ⟨(h.mb.names y (List.mem_append_left _ hy)).1, let ⟨nm, hn⟩ := (h.mb.names y (List.mem_append_left _ hy)).2; ⟨nm, hn.below hb⟩⟩
      · rw [List.mem_singleton] at hy; subst hy
        exact ⟨(h.mb.names x (by simp)).1, let ⟨nm, hn⟩ := (h.mb.names x (by simp)).2; ⟨nm, hn.below hb⟩⟩
/-- The maker's slice set anew. -/
theorem mk_set {SV v : Value} (h : w.heap[p.gm]? = some (p.mk_ SV)) : (w.setCell ⟨p.gm, 2, none⟩ v).heap[p.gm]? = some (p.mk_ v) := by
  rw [heap_setCell_same w p.gm 2 _ _ v h]; rfl
/-- One more is open. -/
theorem MS.push {nd : Nat} {x : SE} {w1 : World} {SV SV' : Value} (h : MS p w N S nd) (hm : w.heap[p.gm]? = some (p.mk_ SV)) (hg : w.grownBy w1 SV.ownBlock) (ho : w1.ownsRow p.B 42 2 SV' (S.length + 1) (srow S ++ x.cells))
    (hk : x.kv = .slice none 0 0) (hk2 : x.kids = []) (hn : x.nn ≤ 65536 ∧ ∃ nm, Rd w p.B 1 x.nA x.nn x.nc (ints .i32 nm)) :
    MS p (w1.setCell ⟨p.gm, 2, none⟩ SV') N (S ++ [x]) nd ∧ Kp p w (w1.setCell ⟨p.gm, 2, none⟩ SV') ∧ w1.heap[p.gm]? = some (p.mk_ SV) := by
  obtain ⟨SV0, DV, ds, h1, h2, h3, h4⟩ := h.ex
  rw [hm] at h1
  have h1 := Option.some.inj h1
  unfold PC.mk_ at h1
  injection h1 with h1 _ _
  have h1 : SV = SV0 := by simpa using h1
  subst h1
  have hr : RowT p.B w SV.ownBlock 42 := RowT.of_own h3
  have hm1 := keep_blk hg hr hm (by decide)
  have hrm : RowT p.B w1 (some p.gm) 45 := RowT.of_blk hm1 h.mb.lo.1
  have hgs := grownBy_set w1 p.gm 2 SV'
  have hb1 := below_of hg hr h.mb.lo.2.2
  have hb := hb1.trans (below_of hgs hrm (Nat.le_trans h.mb.lo.2.2 hg.size))
  have hMB := (h.mb.keep hg hr (by decide) (by decide) (by decide) (by decide)).keep hgs hrm (by decide) (by decide) (by decide) (by decide)
  have hnone : x.kv.ownBlock = none := by rw [hk]; rfl
  refine ⟨⟨⟨SV', DV, ds, mk_set hm1, keep_blk hgs hrm (keep_blk hg hr h2 (by decide)) (by decide), ?_, keep_own hgs hrm (keep_own hg hr h4 (by decide)) (by decide)⟩, ?_⟩, ⟨hb, fun g cs fr hh => keep_blk hgs hrm (keep_blk hg hr hh (by decide)) (by decide)⟩, hm1⟩
  · rw [List.length_append, List.length_singleton, srow_snoc]
    exact keep_own hgs hrm ho (by decide)
  · obtain ⟨hB, v, bv, kv, ha, hno, hi, hxx⟩ := hMB.ar
    refine ⟨⟨hB, v, bv, kv, ha, hno, hi, ?_⟩, ?_, ?_, ?_, hMB.b, hMB.R, hMB.O, hMB.lo⟩
    · rintro i hl b hbk ⟨y, hy, hyb⟩
      rcases List.mem_append.1 hy with hy | hy
      · exact hxx i hl b hbk ⟨y, hy, hyb⟩
      · rw [List.mem_singleton] at hy; subst hy
        rw [hnone] at hyb; cases hyb
    · intro y hy
      rcases List.mem_append.1 hy with hy | hy
      · exact hMB.kids y hy
      · rw [List.mem_singleton] at hy; subst hy
        rw [hk, hk2]; exact World.ownsRow_nil _ _ _ _
    · refine List.pairwise_append.2 ⟨hMB.apart, by simp, fun y hy y' hy' b hyb => ?_⟩
      rw [List.mem_singleton] at hy'; subst hy'
      rw [hnone]; intro e; cases e
    · intro y hy
      rcases List.mem_append.1 hy with hy | hy
      · exact hMB.names y hy
      · rw [List.mem_singleton] at hy; subst hy
        exact ⟨hn.1, let ⟨nm, hnm⟩ := hn.2; ⟨nm, hnm.below hb⟩⟩
/-- The innermost one is taken off. -/
theorem MS.pop {nd : Nat} {x : SE} (h : MS p w N (S ++ [x]) nd) : ∃ gs cs, w.heap[p.gm]? = some (p.mk_ (.slice (some ⟨gs, 0, none⟩) (S.length + 1) cs)) ∧ S.length + 1 ≤ cs ∧ cs ≤ maxLen ∧ (∀ j u, (srow (S ++ [x]))[j]? = some u → w.cell? ⟨gs, j, none⟩ = some u) ∧
    MS p (w.setCell ⟨p.gm, 2, none⟩ (.slice (some ⟨gs, 0, none⟩) S.length cs)) N S nd ∧ Kp p w (w.setCell ⟨p.gm, 2, none⟩ (.slice (some ⟨gs, 0, none⟩) S.length cs)) ∧
    (w.setCell ⟨p.gm, 2, none⟩ (.slice (some ⟨gs, 0, none⟩) S.length cs)).ownsRow p.B 3 1 x.kv x.kids.length (ints .i64 x.kids) := by
  obtain ⟨SV, DV, ds, h1, h2, h3, h4⟩ := h.ex
  rw [List.length_append, List.length_singleton] at h3
  obtain ⟨As, cs, rfl, -⟩ := own_form h3
  rcases id h3.2 with ⟨_, h0⟩ | ⟨gs, cap, cur, hv, hbs, hks, r1, r2, r3, r4⟩
  · omega
  injection hv with e1 _ e3
  subst e1; subst e3
  have hcell : ∀ j u, (srow (S ++ [x]))[j]? = some u → w.cell? ⟨gs, j, none⟩ = some u := fun j u hu => by
    have := World.ownsRow.cells h3 (g := gs) rfl j u hu
    rwa [add_none, Nat.zero_add] at this
  have hrm : RowT p.B w (some p.gm) 45 := RowT.of_blk h1 h.mb.lo.1
  have hgs := grownBy_set w p.gm 2 (.slice (some ⟨gs, 0, none⟩) S.length cs)
  have hMB := h.mb.keep hgs hrm (by decide) (by decide) (by decide) (by decide)
  have hown : w.ownsRow p.B 42 2 (.slice (some ⟨gs, 0, none⟩) S.length cs) S.length (srow S) := by
    refine ⟨srow_len S, .inr ⟨gs, cs, cur, rfl, hbs, hks, by omega, r2, r3, ?_⟩⟩
    have : (cur.toList.take ((S.length + 1) * 2)).take (S.length * 2) = srow S := by
      rw [r4, srow_snoc, List.take_append_of_le_length (by rw [srow_len]; exact Nat.le_refl _), List.take_of_length_le (by rw [srow_len]; exact Nat.le_refl _)]
    rw [List.take_take, Nat.min_eq_left (by omega)] at this
    exact this
  refine ⟨gs, cs, h1, r1, r2, hcell, ⟨⟨_, DV, ds, mk_set h1, keep_blk hgs hrm h2 (by decide), keep_own hgs hrm hown (by decide), keep_own hgs hrm h4 (by decide)⟩, ?_⟩, ⟨below_of hgs hrm h.mb.lo.2.2, fun g cs fr hh => keep_blk hgs hrm hh (by decide)⟩, hMB.kids x (by simp)⟩
  obtain ⟨hB, v, bv, kv, ha, hno, hi, hxx⟩ := hMB.ar
  exact ⟨⟨hB, v, bv, kv, ha, hno, hi, fun i hl b hbk ⟨y, hy, hyb⟩ => hxx i hl b hbk ⟨y, List.mem_append_left _ hy, hyb⟩⟩, fun y hy => hMB.kids y (List.mem_append_left _ hy), (List.pairwise_append.1 hMB.apart).1, fun y hy => hMB.names y (List.mem_append_left _ hy), hMB.b, hMB.R, hMB.O, hMB.lo⟩
/-- One more thing is wrong. -/
theorem MS.diag {nd : Nat} {w1 : World} {DV DV' : Value} {ys : List Value} (h : MS p w N S nd) (ht : w.heap[p.gt]? = some (p.tree DV 0)) (hg : w.grownBy w1 DV.ownBlock) (ho : w1.ownsRow p.B 191 3 DV' (nd + 1) ys) :
    MS p (w1.setCell ⟨p.gt, 6, none⟩ DV') N S (nd + 1) ∧ Kp p w (w1.setCell ⟨p.gt, 6, none⟩ DV') ∧ w1.heap[p.gt]? = some (p.tree DV 0) := by
  obtain ⟨SV, DV0, ds, h1, h2, h3, h4⟩ := h.ex
  rw [ht] at h2
  have h2 := Option.some.inj h2
  unfold PC.tree at h2
  injection h2 with h2 _ _
  have h2 : DV = DV0 := by simpa using h2
  subst h2
  have hr : RowT p.B w DV.ownBlock 191 := RowT.of_own h4
  have ht1 := keep_blk hg hr ht (by decide)
  have hrm : RowT p.B w1 (some p.gt) 31 := RowT.of_blk ht1 h.mb.lo.2.1
  have hgs := grownBy_set w1 p.gt 6 DV'
  have hb1 := below_of hg hr h.mb.lo.2.2
  have hb := hb1.trans (below_of hgs hrm (Nat.le_trans h.mb.lo.2.2 hg.size))
  refine ⟨⟨⟨SV, DV', ys, keep_blk hgs hrm (keep_blk hg hr h1 (by decide)) (by decide), ?_, keep_own hgs hrm (keep_own hg hr h3 (by decide)) (by decide), keep_own hgs hrm ho (by decide)⟩, (h.mb.keep hg hr (by decide) (by decide) (by decide) (by decide)).keep hgs hrm (by decide) (by decide) (by decide) (by decide)⟩, ⟨hb, fun g cs fr hh => keep_blk hgs hrm (keep_blk hg hr hh (by decide)) (by decide)⟩, ht1⟩
  rw [heap_setCell_same w1 p.gt 6 _ _ DV' ht1]; rfl
end
end Go.Proofs.YtibakihcicfeoaaGreat
/- The walks of a maker's kid, wrong, leaf. No condition. -/
namespace Go.Proofs.YtibakihcicfeoaaGreat
open Go.RowKit

theorem st25i : ST Tryz.prog 25 3 1 8 := ST.mk' (z := .int .i64 0) Tryz.underlying25 (by kernel_rfl) rfl (by decide)
set_option maxRecDepth 100000 in
set_option maxHeartbeats 4000000 in
theorem kid13 {p : PC} {w : World} {N : List GN} {S : List SE} {x : SE} {nd : Nat} (h : MS p w N (S ++ [x]) nd) (z : Int) (hs : S.length ≤ 65536) (hk : x.kids.length ≤ 65536) :
    Calls Tryz.prog 13 #[.pointer (some ⟨p.gm, 0, none⟩), .int .i64 z] w fun e w' => e = .returned (.tuple #[]) ∧ (∃ v', MS p w' N (S ++ [{ x with kv := v', kids := x.kids ++ [z] }]) nd) ∧ Kp p w w' := by
  obtain ⟨gs, cs, hm, -, -, hcell, -⟩ := h.pop
  have y2 : w.cell? ⟨p.gm, 2, none⟩ = some (.slice (some ⟨gs, 0, none⟩) (S.length + 1) cs) := cell_of_row w p.gm 2 _ _ _ hm
  obtain ⟨Ak, ck, hkv, ok⟩ := own_form (h.mb.kids x (by simp))
  have y3 : w.cell? ⟨gs, S.length * 2 + 1, none⟩ = some (.slice Ak x.kids.length ck) := by rw [← hkv]; exact hcell _ _ (srow_get (S ++ [x]) S.length x (by simp)).2
  have u1 : IntKind.i64.wrap ((S.length : Int) + 1 - 1) = (S.length : Int) := by rw [show (S.length : Int) + 1 - 1 = S.length by omega]; exact IntWalk.i64_in _ (by omega)
  have HM := Lib.hid hm
  have H := Lib.hid h
  have HKV := Lib.hid hkv
  have OK := Lib.hid ok
  have hlo := h.mb.lo.2.2
  clear hm h hkv ok hcell
  go_enter Tryz.func13, Tryz.ntmps13
  go_wp2_with fail
  go_quiet (fail)
  obtain ⟨X, hX⟩ : ∃ X, w.drewN nq = X := ⟨_, rfl⟩
  have hbX : Below w.heap.size w X := by rw [← hX]; exact Below.drewN_ (Below.refl _ _) _
  have HX := Lib.hid (H.out.below hbX)
  have OKX := Lib.hid (own_below OK.out hbX)
  have HB := Lib.hid (Kp.below hbX hlo)
  have HMX := Lib.hid ((hbX.block p.gm H.out.gm_lt).trans HM.out)
  have y3 := (hbX.cell (p := ⟨gs, S.length * 2 + 1, none⟩) (World.block_lt_of_cell? _ _ y3)).trans y3
  have hloX : p.B ≤ X.heap.size := HX.out.mb.lo.2.2
  rw [hX]
  clear hX hbX y2
  go_wp2_with (at_builtin; go_loud (refine wpList_pushA st25i rfl _ _ rfl _ rfl OKX.out [.int .i64 z] _ rfl rfl rfl (by simp [Value.oneCell']) (by omega) (by omega) hloX ?_); intro v5 w5 ho5 hg5 hat5; obtain ⟨A9, c9, rfl, -⟩ := own_form ho5; obtain ⟨gs', cs', e1, -, c5, f5, ms5, b5⟩ := HX.out.kid (z := z) (by rw [HKV.out]; exact hg5) ho5 (by rw [HKV.out]; exact hat5); have e2 := Option.some.inj (HMX.out.symm.trans e1); have e2 : gs = gs' := (by unfold PC.mk_ at e2; simpa using (And.left (by simpa using e2))); subst e2; rw [HKV.out] at c5; have MS5 := Lib.hid ms5; have B5 := Lib.hid b5; clear ho5 hg5 hat5 e1 ms5 b5 y3)
  go_end0
  exact ⟨rfl, ⟨_, MS5.out⟩, HB.out.trans B5.out⟩
/-- The places of a text: where each rune begins, none beyond the bytes. -/
structure PO (p : PC) : Prop where
  le : ∀ i, i ≤ p.nR → 0 ≤ gz p.os i ∧ gz p.os i ≤ p.n
  mono : ∀ i j, i ≤ j → j ≤ p.nR → gz p.os i ≤ gz p.os j
  n : p.n ≤ 4096
  nR : p.nR ≤ 4096
def offN (p : PC) (i : Nat) : Nat := (gz p.os i).toNat
theorem offN_eq {p : PC} (h : PO p) {i : Nat} (hi : i ≤ p.nR) : gz p.os i = (offN p i : Nat) := by
  have := (h.le i hi).1
  unfold offN; omega
/-- The bytes of a token. -/
def tkB (p : PC) (i j : Nat) : List Int := (p.zs.drop (offN p i)).take (offN p j - offN p i)
def gleaf (kind : Int) (b : List Int) : GN := ⟨kind, b.length, 1, true, b, []⟩
theorem three_kept {p : PC} {SV DV : Value} {g : Nat} {cs : Array Value} {w w' : World} (hk : Kept9 w w') (h : w.heap[p.gm]? = some (p.mk_ SV) ∧ w.heap[p.gt]? = some (p.tree DV 0) ∧ w.heap[g]? = some (.cells cs 87 (0, 0))) :
    w'.heap[p.gm]? = some (p.mk_ SV) ∧ w'.heap[p.gt]? = some (p.tree DV 0) ∧ w'.heap[g]? = some (.cells cs 87 (0, 0)) := by
  refine ⟨hk.blk _ _ h.1 (fun cs fr e => ?_) (fun cs fr e => ?_), hk.blk _ _ h.2.1 (fun cs fr e => ?_) (fun cs fr e => ?_), hk.blk _ _ h.2.2 (fun cs fr e => ?_) (fun cs fr e => ?_)⟩
  all_goals
    injection e with _ e _
    exact absurd e (by decide)
set_option maxRecDepth 100000 in
set_option maxHeartbeats 8000000 in
theorem leaf59 {p : PC} {w : World} {N : List GN} {S : List SE} {nd : Nat} (h : MS p w N S nd) (hP : PO p) (kind : Int) (i j : Nat) (wh : Bool) (hij : i ≤ j) (hj : j ≤ p.nR) (hN : N.length ≤ 65536) :
    Calls Tryz.prog 59 #[.pointer (some ⟨p.gm, 0, none⟩), .agg (tk kind (i : Nat) (j : Nat) wh)] w fun e w' => e = .returned (.int .i64 N.length) ∧ MS p w' (N ++ [gleaf kind (tkB p i j)]) S nd ∧ Kp p w w' := by
  obtain ⟨SV, DV, ds, hm, ht, -, -⟩ := h.ex
  have hal := ((Below.refl w.heap.size w).alloc (Nat.le_refl _) (.cells (tk kind (i : Nat) (j : Nat) wh) 87))
  have s1 : (w.alloc (.cells (tk kind (i : Nat) (j : Nat) wh) 87)).drew.heap[p.gm]? = some (p.mk_ SV) := (hal.block p.gm (Array.getElem?_eq_some_iff.1 hm).1).trans hm
  have s2 : (w.alloc (.cells (tk kind (i : Nat) (j : Nat) wh) 87)).drew.heap[p.gt]? = some (p.tree DV 0) := (hal.block p.gt (Array.getElem?_eq_some_iff.1 ht).1).trans ht
  have s3 : (w.alloc (.cells (tk kind (i : Nat) (j : Nat) wh) 87)).drew.heap[w.heap.size]? = some (.cells (tk kind (i : Nat) (j : Nat) wh) 87 (0, 0)) := heap_alloc_new w _
  have hbX : Below w.heap.size w (w.alloc (.cells (tk kind (i : Nat) (j : Nat) wh) 87)).drew := hal.drew
  have HS := Lib.hid (fun (w2 : World) (b2 : Below (w.alloc (.cells (tk kind (i : Nat) (j : Nat) wh) 87)).drew.heap.size (w.alloc (.cells (tk kind (i : Nat) (j : Nat) wh) 87)).drew w2) => three_kept (Kept9.of_below b2) ⟨s1, s2, s3⟩)
  have HA := Lib.hid (fun (w2 : World) (b2 : Below (w.alloc (.cells (tk kind (i : Nat) (j : Nat) wh) 87)).drew.heap.size (w.alloc (.cells (tk kind (i : Nat) (j : Nat) wh) 87)).drew w2) => (h.mb.ar.below hbX).below b2)
  have HLO := Lib.hid (fun (w2 : World) (b2 : Below (w.alloc (.cells (tk kind (i : Nat) (j : Nat) wh) 87)).drew.heap.size (w.alloc (.cells (tk kind (i : Nat) (j : Nat) wh) 87)).drew w2) => Nat.le_trans (Nat.le_trans h.mb.lo.2.2 hbX.size) b2.size)
  have HX := Lib.hid (h.below hbX)
  have HBX := Lib.hid (Kp.below hbX h.mb.lo.2.2)
  have hzl := h.mb.b.int_len
  obtain ⟨lo, hlo⟩ : ∃ q, offN p i = q := ⟨_, rfl⟩
  obtain ⟨hi, hhi⟩ : ∃ q, offN p j = q := ⟨_, rfl⟩
  have e1 := offN_eq hP (i := i) (by omega)
  have e2 := offN_eq hP (i := j) hj
  have e3 := offN_eq hP (i := p.nR) (Nat.le_refl _)
  have e4 := hP.mono i j hij hj
  have e5 := (hP.le j hj).2
  have e6 := (hP.le p.nR (Nat.le_refl _)).2
  have C109 := Lib.hid (slice50_good p.kd p.bom p.AR p.AO p.A p.nR p.cR p.cO p.n p.c lo hi (offN p p.nR) i j p.os p.zs _ (HX.out.mb.O.more HX.out.mb.lo.2.2) (HX.out.mb.b.more HX.out.mb.lo.2.2) hij hj (by rw [e1, hlo]) (by rw [e2, hhi]) e3 (by omega) (by omega) (by omega) hP.n hP.nR)
  have HT := Lib.hid (show tkB p i j = (p.zs.drop lo).take (hi - lo) by unfold tkB; rw [hlo, hhi])
  have hlen : ((p.zs.drop lo).take (hi - lo)).length = hi - lo := by
    rw [List.length_take, List.length_drop]; omega
  have hbd : hi - lo ≤ 65536 := by have := hP.n; omega
  have HL := Lib.hid hlen
  unfold PBytesSaid at C109
  clear hal hbX e1 e2 e3 e4 e5 e6 hlo hhi hlen
  go_enter Tryz.func59, Tryz.ntmps59
  go_wp2_with fail
  refine wp_region_held_drew (S := fun W => W.heap[p.gm]? = some (p.mk_ SV) ∧ W.heap[p.gt]? = some (p.tree DV 0) ∧ W.heap[w.heap.size]? = some (.cells (tk kind (i : Nat) (j : Nat) wh) 87 (0, 0))) (by kernel_rfl) ⟨s1, s2, s3⟩ (fun hHeld => ?_)
  change wpAnyH _ _ _ _ _ 27 #[false, false, false, false, false, false, false, false, false, false, false, false, false, false, false, false, false, false, false, false, false, false, false, false, false, false, false] _ _
  refine wpAnyH_take (i := 0) (oi := _) (v := ?_) rfl (by kernel_rfl) (by kernel_rfl) (by kernel_rfl) (fun _ _ _ h => h) (Or.inl ⟨by rfl, ?_⟩) hHeld ?_
  rotate_left
  · intro w9 hSw; go_simp; (try with_reducible rfl)
  simp only [List.getElem_toArray, List.getElem_cons_zero, Act.put, List.setIfInBounds_toArray, List.set_cons_zero, List.set_cons_succ]
  refine wpAnyH_take (i := 1) (oi := _) (v := ?_) rfl (by kernel_rfl) (by kernel_rfl) (by kernel_rfl) (fun _ _ _ h => h) (Or.inl ⟨by rfl, ?_⟩) hHeld ?_
  rotate_left
  · intro w9 hSw; go_simp; (try with_reducible rfl)
  simp only [List.getElem_toArray, List.getElem_cons_zero, List.getElem_cons_succ, Act.put, List.setIfInBounds_toArray, List.set_cons_zero, List.set_cons_succ]
  refine wpAnyH_take (i := 2) (oi := _) (v := ?_) rfl (by kernel_rfl) (by kernel_rfl) (by kernel_rfl) (fun _ _ _ h => h) (Or.inl ⟨by rfl, ?_⟩) hHeld ?_
  rotate_left
  · intro w9 hSw; go_simp; (try with_reducible rfl)
  simp only [List.getElem_toArray, List.getElem_cons_zero, List.getElem_cons_succ, Act.put, List.setIfInBounds_toArray, List.set_cons_zero, List.set_cons_succ]
  refine wpAnyH_take (i := 3) (oi := _) (v := ?_) rfl (by kernel_rfl) (by kernel_rfl) (by kernel_rfl) (fun _ _ _ h => h) (Or.inl ⟨by rfl, ?_⟩) hHeld ?_
  rotate_left
  · intro w9 hSw; obtain ⟨t1, t2, t3⟩ := hSw; have c1 : w9.cell? ⟨p.gm, 1, none⟩ = some (.pointer (some ⟨p.gt, 0, none⟩)) := cell_of_row w9 p.gm 1 _ _ _ t1; go_simp; (try with_reducible rfl)
  simp only [List.getElem_toArray, List.getElem_cons_zero, List.getElem_cons_succ, Act.put, List.setIfInBounds_toArray, List.set_cons_zero, List.set_cons_succ]
  refine wpAnyH_take (i := 4) (oi := _) (v := ?_) rfl (by kernel_rfl) (by kernel_rfl) (by kernel_rfl) (fun _ _ _ h => h) (Or.inl ⟨by rfl, ?_⟩) hHeld ?_
  rotate_left
  · intro w9 hSw; go_simp; (try with_reducible rfl)
  simp only [List.getElem_toArray, List.getElem_cons_zero, List.getElem_cons_succ, Act.put, List.setIfInBounds_toArray, List.set_cons_zero, List.set_cons_succ]
  refine wpAnyH_take (i := 5) (oi := _) (v := ?_) rfl (by kernel_rfl) (by kernel_rfl) (by kernel_rfl) (fun _ _ _ h => h) (Or.inl ⟨by rfl, ?_⟩) hHeld ?_
  rotate_left
  · intro w9 hSw; go_simp; (try with_reducible rfl)
  simp only [List.getElem_toArray, List.getElem_cons_zero, List.getElem_cons_succ, Act.put, List.setIfInBounds_toArray, List.set_cons_zero, List.set_cons_succ]
  refine wpAnyH_take (i := 6) (oi := _) (v := ?_) rfl (by kernel_rfl) (by kernel_rfl) (by kernel_rfl) (fun _ _ _ h => h) (Or.inl ⟨by rfl, ?_⟩) hHeld ?_
  rotate_left
  · intro w9 hSw; obtain ⟨t1, t2, t3⟩ := hSw; have c1 : w9.cell? ⟨p.gt, 4, none⟩ = some (.pointer (some ⟨p.ga, 0, none⟩)) := cell_of_row w9 p.gt 4 _ _ _ t2; go_simp; (try with_reducible rfl)
  simp only [List.getElem_toArray, List.getElem_cons_zero, List.getElem_cons_succ, Act.put, List.setIfInBounds_toArray, List.set_cons_zero, List.set_cons_succ]
  refine wpAnyH_take (i := 7) (oi := _) (v := ?_) rfl (by kernel_rfl) (by kernel_rfl) (by kernel_rfl) (fun _ _ _ h => h) (Or.inl ⟨by rfl, ?_⟩) hHeld ?_
  rotate_left
  · intro w9 hSw; go_simp; (try with_reducible rfl)
  simp only [List.getElem_toArray, List.getElem_cons_zero, List.getElem_cons_succ, Act.put, List.setIfInBounds_toArray, List.set_cons_zero, List.set_cons_succ]
  refine wpAnyH_take (i := 8) (oi := _) (v := ?_) rfl (by kernel_rfl) (by kernel_rfl) (by kernel_rfl) (fun _ _ _ h => h) (Or.inl ⟨by rfl, ?_⟩) hHeld ?_
  rotate_left
  · intro w9 hSw; obtain ⟨t1, t2, t3⟩ := hSw; have c1 : w9.cell? ⟨w.heap.size, 0, none⟩ = some (.int .i64 kind) := cell_of_row w9 w.heap.size 0 _ _ _ t3; go_simp; (try with_reducible rfl)
  simp only [List.getElem_toArray, List.getElem_cons_zero, List.getElem_cons_succ, Act.put, List.setIfInBounds_toArray, List.set_cons_zero, List.set_cons_succ]
  refine wpAnyH_take (i := 9) (oi := _) (v := ?_) rfl (by kernel_rfl) (by kernel_rfl) (by kernel_rfl) (fun _ _ _ h => h) (Or.inl ⟨by rfl, ?_⟩) hHeld ?_
  rotate_left
  · intro w9 hSw; go_simp; (try with_reducible rfl)
  simp only [List.getElem_toArray, List.getElem_cons_zero, List.getElem_cons_succ, Act.put, List.setIfInBounds_toArray, List.set_cons_zero, List.set_cons_succ]
  refine wpAnyH_take (i := 10) (oi := _) (v := ?_) rfl (by kernel_rfl) (by kernel_rfl) (by kernel_rfl) (fun _ _ _ h => h) (Or.inl ⟨by rfl, ?_⟩) hHeld ?_
  rotate_left
  · intro w9 hSw; go_simp; (try with_reducible rfl)
  simp only [List.getElem_toArray, List.getElem_cons_zero, List.getElem_cons_succ, Act.put, List.setIfInBounds_toArray, List.set_cons_zero, List.set_cons_succ]
  refine wpAnyH_take (i := 11) (oi := _) (v := ?_) rfl (by kernel_rfl) (by kernel_rfl) (by kernel_rfl) (fun _ _ _ h => h) (Or.inl ⟨by rfl, ?_⟩) hHeld ?_
  rotate_left
  · intro w9 hSw; go_simp; (try with_reducible rfl)
  simp only [List.getElem_toArray, List.getElem_cons_zero, List.getElem_cons_succ, Act.put, List.setIfInBounds_toArray, List.set_cons_zero, List.set_cons_succ]
  refine wpAnyH_take (i := 12) (oi := _) (v := ?_) rfl (by kernel_rfl) (by kernel_rfl) (by kernel_rfl) (fun _ _ _ h => h) (Or.inl ⟨by rfl, ?_⟩) hHeld ?_
  rotate_left
  · intro w9 hSw; obtain ⟨t1, t2, t3⟩ := hSw; have c1 : w9.cell? ⟨p.gm, 1, none⟩ = some (.pointer (some ⟨p.gt, 0, none⟩)) := cell_of_row w9 p.gm 1 _ _ _ t1; go_simp; (try with_reducible rfl)
  simp only [List.getElem_toArray, List.getElem_cons_zero, List.getElem_cons_succ, Act.put, List.setIfInBounds_toArray, List.set_cons_zero, List.set_cons_succ]
  refine wpAnyH_take (i := 13) (oi := _) (v := ?_) rfl (by kernel_rfl) (by kernel_rfl) (by kernel_rfl) (fun _ _ _ h => h) (Or.inl ⟨by rfl, ?_⟩) hHeld ?_
  rotate_left
  · intro w9 hSw; go_simp; (try with_reducible rfl)
  simp only [List.getElem_toArray, List.getElem_cons_zero, List.getElem_cons_succ, Act.put, List.setIfInBounds_toArray, List.set_cons_zero, List.set_cons_succ]
  refine wpAnyH_take (i := 14) (oi := _) (v := ?_) rfl (by kernel_rfl) (by kernel_rfl) (by kernel_rfl) (fun _ _ _ h => h) (Or.inl ⟨by rfl, ?_⟩) hHeld ?_
  rotate_left
  · intro w9 hSw; go_simp; (try with_reducible rfl)
  simp only [List.getElem_toArray, List.getElem_cons_zero, List.getElem_cons_succ, Act.put, List.setIfInBounds_toArray, List.set_cons_zero, List.set_cons_succ]
  refine wpAnyH_take (i := 15) (oi := _) (v := ?_) rfl (by kernel_rfl) (by kernel_rfl) (by kernel_rfl) (fun _ _ _ h => h) (Or.inl ⟨by rfl, ?_⟩) hHeld ?_
  rotate_left
  · intro w9 hSw; obtain ⟨t1, t2, t3⟩ := hSw; have c0 : w9.cell? ⟨p.gt, 0, none⟩ = some (.int .i64 p.kd) := cell_of_row w9 p.gt 0 _ _ _ t2; have c1 : w9.cell? ⟨p.gt, 1, none⟩ = some (.int .i64 p.bom) := cell_of_row w9 p.gt 1 _ _ _ t2; have c2 : w9.cell? ⟨p.gt, 2, none⟩ = some (.slice p.AR p.nR p.cR) := cell_of_row w9 p.gt 2 _ _ _ t2; have c3 : w9.cell? ⟨p.gt, 3, none⟩ = some (.slice p.AO (p.nR + 1) p.cO) := cell_of_row w9 p.gt 3 _ _ _ t2; go_simp; (try with_reducible rfl)
  simp only [List.getElem_toArray, List.getElem_cons_zero, List.getElem_cons_succ, Act.put, List.setIfInBounds_toArray, List.set_cons_zero, List.set_cons_succ]
  refine wpAnyH_take (i := 16) (oi := _) (v := ?_) rfl (by kernel_rfl) (by kernel_rfl) (by kernel_rfl) (fun _ _ _ h => h) (Or.inl ⟨by rfl, ?_⟩) hHeld ?_
  rotate_left
  · intro w9 hSw; go_simp; (try with_reducible rfl)
  simp only [List.getElem_toArray, List.getElem_cons_zero, List.getElem_cons_succ, Act.put, List.setIfInBounds_toArray, List.set_cons_zero, List.set_cons_succ]
  refine wpAnyH_take (i := 17) (oi := _) (v := ?_) rfl (by kernel_rfl) (by kernel_rfl) (by kernel_rfl) (fun _ _ _ h => h) (Or.inl ⟨by rfl, ?_⟩) hHeld ?_
  rotate_left
  · intro w9 hSw; go_simp; (try with_reducible rfl)
  simp only [List.getElem_toArray, List.getElem_cons_zero, List.getElem_cons_succ, Act.put, List.setIfInBounds_toArray, List.set_cons_zero, List.set_cons_succ]
  refine wpAnyH_take (i := 18) (oi := _) (v := ?_) rfl (by kernel_rfl) (by kernel_rfl) (by kernel_rfl) (fun _ _ _ h => h) (Or.inl ⟨by rfl, ?_⟩) hHeld ?_
  rotate_left
  · intro w9 hSw; go_simp; (try with_reducible rfl)
  simp only [List.getElem_toArray, List.getElem_cons_zero, List.getElem_cons_succ, Act.put, List.setIfInBounds_toArray, List.set_cons_zero, List.set_cons_succ]
  refine wpAnyH_take (i := 19) (oi := _) (v := ?_) rfl (by kernel_rfl) (by kernel_rfl) (by kernel_rfl) (fun _ _ _ h => h) (Or.inl ⟨by rfl, ?_⟩) hHeld ?_
  rotate_left
  · intro w9 hSw; obtain ⟨t1, t2, t3⟩ := hSw; have c1 : w9.cell? ⟨p.gm, 0, none⟩ = some (.slice p.A p.n p.c) := cell_of_row w9 p.gm 0 _ _ _ t1; go_simp; (try with_reducible rfl)
  simp only [List.getElem_toArray, List.getElem_cons_zero, List.getElem_cons_succ, Act.put, List.setIfInBounds_toArray, List.set_cons_zero, List.set_cons_succ]
  refine wpAnyH_take (i := 20) (oi := _) (v := ?_) rfl (by kernel_rfl) (by kernel_rfl) (by kernel_rfl) (fun _ _ _ h => h) (Or.inl ⟨by rfl, ?_⟩) hHeld ?_
  rotate_left
  · intro w9 hSw; go_simp; (try with_reducible rfl)
  simp only [List.getElem_toArray, List.getElem_cons_zero, List.getElem_cons_succ, Act.put, List.setIfInBounds_toArray, List.set_cons_zero, List.set_cons_succ]
  refine wpAnyH_take (i := 21) (oi := _) (v := ?_) rfl (by kernel_rfl) (by kernel_rfl) (by kernel_rfl) (fun _ _ _ h => h) (Or.inl ⟨by rfl, ?_⟩) hHeld ?_
  rotate_left
  · intro w9 hSw; obtain ⟨t1, t2, t3⟩ := hSw; have c1 : w9.cell? ⟨w.heap.size, 1, none⟩ = some (.int .i64 (i : Nat)) := cell_of_row w9 w.heap.size 1 _ _ _ t3; go_simp; (try with_reducible rfl)
  simp only [List.getElem_toArray, List.getElem_cons_zero, List.getElem_cons_succ, Act.put, List.setIfInBounds_toArray, List.set_cons_zero, List.set_cons_succ]
  refine wpAnyH_take (i := 22) (oi := _) (v := ?_) rfl (by kernel_rfl) (by kernel_rfl) (by kernel_rfl) (fun _ _ _ h => h) (Or.inl ⟨by rfl, ?_⟩) hHeld ?_
  rotate_left
  · intro w9 hSw; go_simp; (try with_reducible rfl)
  simp only [List.getElem_toArray, List.getElem_cons_zero, List.getElem_cons_succ, Act.put, List.setIfInBounds_toArray, List.set_cons_zero, List.set_cons_succ]
  refine wpAnyH_take (i := 23) (oi := _) (v := ?_) rfl (by kernel_rfl) (by kernel_rfl) (by kernel_rfl) (fun _ _ _ h => h) (Or.inl ⟨by rfl, ?_⟩) hHeld ?_
  rotate_left
  · intro w9 hSw; obtain ⟨t1, t2, t3⟩ := hSw; have c1 : w9.cell? ⟨w.heap.size, 2, none⟩ = some (.int .i64 (j : Nat)) := cell_of_row w9 w.heap.size 2 _ _ _ t3; go_simp; (try with_reducible rfl)
  simp only [List.getElem_toArray, List.getElem_cons_zero, List.getElem_cons_succ, Act.put, List.setIfInBounds_toArray, List.set_cons_zero, List.set_cons_succ]
  refine wpAnyH_ready (rs := [24]) (by kernel_rfl) (by simp) ?_
  refine AllReadyH.cons (o := _) rfl (fun K hK => ?_) AllReadyH.nil
  go_simp
  refine C109.out.mono ?_
  rintro e w2 ⟨A2, c2, rfl, r2, b2⟩
  have HS2 := HS.out w2 b2
  have C14 := leaf26 (HA.out w2 b2) kind A2 (hi - lo) c2 _ r2 (by omega) (by omega) (HLO.out w2 b2)
  have B2 := Lib.hid b2
  refine hK.out _ _ HS2 (fun hHeld2 => ?_)
  clear hK b2 r2
  refine wpAnyH_ready (rs := [25]) (by kernel_rfl) (by simp) ?_
  refine AllReadyH.cons (o := _) rfl (fun K hK => ?_) AllReadyH.nil
  go_simp
  refine C14.mono ?_
  rintro e w3 ⟨rfl, a3, k3, b3⟩
  have HS3 := three_kept k3 HS2
  refine hK.out _ _ HS3 (fun hHeld3 => ?_)
  clear hK C14
  refine wpAnyH_ready (rs := [26]) (by kernel_rfl) (by simp) ?_
  refine AllReadyH.cons (o := _) rfl (fun K hK => ?_) AllReadyH.nil
  go_simp
  refine hK.out _ _ HS3 (fun _ => ?_)
  clear hK
  refine wpAnyH_done (by kernel_rfl) ?_ _
  go_wp2_with fail
  go_ret
  refine ⟨rfl, ?_, HBX.out.trans ((Kp.below B2.out HX.out.mb.lo.2.2).trans (Kp.kept9 k3 b3))⟩
  have hMS := (HX.out.below B2.out).arena a3 k3 b3
  unfold gleaf
  rw [HT.out, HL.out]
  exact hMS
end Go.Proofs.YtibakihcicfeoaaGreat
