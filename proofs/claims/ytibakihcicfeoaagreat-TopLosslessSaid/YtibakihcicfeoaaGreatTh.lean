/- Trees in an arena: what its block of nodes holds, and what keeps it. No condition. -/
import Derived.Test.YtibakihcicfeoaaGreatTb2
import Derived.Test.YtibakihcicfeoaaGreatChecked
import Derived.Lib.SliceRun
namespace Go.Proofs.YtibakihcicfeoaaGreat
open Go.RowKit

/-- A node: a leaf's bytes, or a branch's kids. -/
structure GN where
  kind : Int
  w : Nat
  cnt : Nat
  leaf : Bool
  b : List Int
  kids : List Int
def gn (N : List GN) (i : Nat) : GN := N.getD i ⟨0, 0, 0, false, [], []⟩
/-- A node's cells; its bytes and its kids lie where bv and kv say. -/
def gcells (x : GN) (bv kv : Value) : List Value := [.int .i64 x.kind, .int .i64 x.w, .int .i64 x.cnt, .bool x.leaf, bv, kv]
def rowsOf (N : List GN) (bv kv : Nat → Value) : List Value := (List.range N.length).flatMap fun i => gcells (gn N i) (bv i) (kv i)

theorem flat_len6 (n : Nat) (f : Nat → List Value) (hf : ∀ i, (f i).length = 6) : ((List.range n).flatMap f).length = n * 6 := by
  induction n with
  | zero => simp
  | succ n ih => rw [List.range_succ, List.flatMap_append, List.length_append, ih]; simp [hf]; omega
theorem flat_get6 (n : Nat) (f : Nat → List Value) (hf : ∀ i, (f i).length = 6) (i j : Nat) (hi : i < n) (hj : j < 6) : ((List.range n).flatMap f)[i * 6 + j]? = (f i)[j]? := by
  induction n with
  | zero => omega
  | succ n ih =>
    have hl := flat_len6 n f hf
    rw [List.range_succ, List.flatMap_append]
    rcases Nat.lt_or_ge i n with h | h
    · rw [List.getElem?_append_left (by rw [hl]; omega)]
      exact ih h
    · obtain rfl : i = n := by omega
      rw [List.getElem?_append_right (by rw [hl]; omega), hl]
      simp
theorem gcells_len (x : GN) (b k : Value) : (gcells x b k).length = 6 := rfl
theorem rowsOf_len (N : List GN) (bv kv : Nat → Value) : (rowsOf N bv kv).length = N.length * 6 := flat_len6 _ _ fun _ => rfl
theorem rowsOf_get (N : List GN) (bv kv : Nat → Value) (i j : Nat) (hi : i < N.length) (hj : j < 6) : (rowsOf N bv kv)[i * 6 + j]? = (gcells (gn N i) (bv i) (kv i))[j]? := flat_get6 _ _ (fun _ => rfl) i j hi hj
theorem gn_snoc_lt (N : List GN) (x : GN) {i : Nat} (h : i < N.length) : gn (N ++ [x]) i = gn N i := by
  simp [gn, List.getD_eq_getElem?_getD, List.getElem?_append_left h]
theorem gn_snoc_at (N : List GN) (x : GN) : gn (N ++ [x]) N.length = x := by simp [gn, List.getD_eq_getElem?_getD]
theorem rowsOf_snoc (N : List GN) (x : GN) (bv kv : Nat → Value) (b k : Value) :
    rowsOf (N ++ [x]) (fun i => if i = N.length then b else bv i) (fun i => if i = N.length then k else kv i) = rowsOf N bv kv ++ gcells x b k := by
  unfold rowsOf
  rw [List.length_append, List.length_singleton, List.range_succ, List.flatMap_append]
  congr 1
  · rw [List.flatMap_def, List.flatMap_def]
    congr 1
    refine List.map_congr_left fun i hi => ?_
    have hi' : i < N.length := by simpa using hi
    have hne : i ≠ N.length := by omega
    rw [gn_snoc_lt N x hi']
    simp [hne]
  · simp [gn_snoc_at]

/-- An arena in block ga: its nodes are N. -/
structure Arena (w : World) (B ga : Nat) (N : List GN) : Prop where
  lo : B ≤ ga
  ex : ∃ (v : Value) (bv kv : Nat → Value), w.heap[ga]? = some (.cells #[v] 81 (0, 0)) ∧ w.ownsRow B 62 6 v N.length (rowsOf N bv kv) ∧
    ∀ i, i < N.length → w.ownsRow B 5 1 (bv i) (gn N i).b.length (ints .u8 (gn N i).b) ∧ w.ownsRow B 3 1 (kv i) (gn N i).kids.length (ints .i64 (gn N i).kids)
theorem Arena.below {w w' : World} {B ga : Nat} {N : List GN} (h : Arena w B ga N) (hb : Below w.heap.size w w') : Arena w' B ga N := by
  obtain ⟨hB, v, bv, kv, hg, ho, hi⟩ := h
  exact ⟨hB, v, bv, kv, (hb.block ga (Array.getElem?_eq_some_iff.1 hg).1).trans hg, own_below ho hb, fun i h => ⟨own_below (hi i h).1 hb, own_below (hi i h).2 hb⟩⟩
theorem Arena.lt {w : World} {B ga : Nat} {N : List GN} (h : Arena w B ga N) : ga < w.heap.size := by
  obtain ⟨_, v, bv, kv, hg, _⟩ := h
  exact (Array.getElem?_eq_some_iff.1 hg).1
theorem Arena.fresh (w : World) : Arena (w.alloc (.cells #[.slice none 0 0] 81)) w.heap.size w.heap.size [] :=
  ⟨Nat.le_refl _, .slice none 0 0, fun _ => .slice none 0 0, fun _ => .slice none 0 0, heap_alloc_new w _, World.ownsRow_nil _ _ _ _, fun i h => absurd h (by simp)⟩
/-- What a walk reads of an arena: its slice, and a node's cells. -/
theorem Arena.head {w : World} {B ga : Nat} {N : List GN} (h : Arena w B ga N) : ∃ A c, w.cell? ⟨ga, 0, none⟩ = some (.slice A N.length c) := by
  obtain ⟨hB, v, bv, kv, hg, ho, hi⟩ := h
  obtain ⟨A, c, rfl, _⟩ := own_form ho
  exact ⟨A, c, cell_of_row w ga 0 _ _ _ hg⟩
theorem Arena.node {w : World} {B ga : Nat} {N : List GN} (h : Arena w B ga N) : ∃ (g c : Nat) (bv kv : Nat → Value), (0 < N.length → w.cell? ⟨ga, 0, none⟩ = some (.slice (some ⟨g, 0, none⟩) N.length c)) ∧ ∀ i, i < N.length →
    w.cell? ⟨g, i * 6, none⟩ = some (.int .i64 (gn N i).kind) ∧ w.cell? ⟨g, i * 6 + 1, none⟩ = some (.int .i64 (gn N i).w) ∧ w.cell? ⟨g, i * 6 + 2, none⟩ = some (.int .i64 (gn N i).cnt) ∧
    w.cell? ⟨g, i * 6 + 3, none⟩ = some (.bool (gn N i).leaf) ∧ w.cell? ⟨g, i * 6 + 4, none⟩ = some (bv i) ∧ w.cell? ⟨g, i * 6 + 5, none⟩ = some (kv i) ∧
    w.ownsRow B 5 1 (bv i) (gn N i).b.length (ints .u8 (gn N i).b) ∧ w.ownsRow B 3 1 (kv i) (gn N i).kids.length (ints .i64 (gn N i).kids) := by
  obtain ⟨hB, v, bv, kv, hg, ho, hi⟩ := h
  rcases Nat.eq_zero_or_pos N.length with h0 | h0
  · exact ⟨0, 0, bv, kv, fun h => absurd h (by omega), fun i h => absurd h (by omega)⟩
  · obtain ⟨A, c, rfl, ho'⟩ := own_form ho
    have hr := Rd.of_own ho'
    rcases ho'.2 with ⟨_, hz⟩ | ⟨g, cap, cur, hv, _⟩
    · omega
    · injection hv with hA hn hc
      subst hA
      have hc := (World.ownsRow.cells ho' (g := g) rfl)
      refine ⟨g, c, bv, kv, fun _ => cell_of_row w ga 0 _ _ _ hg, fun i h => ?_⟩
      have key : ∀ j u, j < 6 → (gcells (gn N i) (bv i) (kv i))[j]? = some u → w.cell? ⟨g, i * 6 + j, none⟩ = some u := fun j u hj hu => by
        have := hc (i * 6 + j) u (by rw [rowsOf_get N bv kv i j h hj]; exact hu)
        rw [add_none, Nat.zero_add] at this
        exact this
      exact ⟨key 0 _ (by omega) rfl, key 1 _ (by omega) rfl, key 2 _ (by omega) rfl, key 3 _ (by omega) rfl, key 4 _ (by omega) rfl, key 5 _ (by omega) rfl, (hi i h).1, (hi i h).2⟩
/-- As Arena; and no node's kids lie in the blocks X. -/
structure ArenaX (w : World) (B ga : Nat) (N : List GN) (X : Nat → Prop) : Prop where
  lo : B ≤ ga
  ex : ∃ (v : Value) (bv kv : Nat → Value), w.heap[ga]? = some (.cells #[v] 81 (0, 0)) ∧ w.ownsRow B 62 6 v N.length (rowsOf N bv kv) ∧
    (∀ i, i < N.length → w.ownsRow B 5 1 (bv i) (gn N i).b.length (ints .u8 (gn N i).b) ∧ w.ownsRow B 3 1 (kv i) (gn N i).kids.length (ints .i64 (gn N i).kids)) ∧
    ∀ i, i < N.length → ∀ b, (kv i).ownBlock = some b → ¬ X b
theorem ArenaX.arena {w : World} {B ga : Nat} {N : List GN} {X : Nat → Prop} (h : ArenaX w B ga N X) : Arena w B ga N := by
  obtain ⟨hB, v, bv, kv, hg, ho, hi, _⟩ := h
  exact ⟨hB, v, bv, kv, hg, ho, hi⟩
theorem ArenaX.below {w w' : World} {B ga : Nat} {N : List GN} {X : Nat → Prop} (h : ArenaX w B ga N X) (hb : Below w.heap.size w w') : ArenaX w' B ga N X := by
  obtain ⟨hB, v, bv, kv, hg, ho, hi, hx⟩ := h
  exact ⟨hB, v, bv, kv, (hb.block ga (Array.getElem?_eq_some_iff.1 hg).1).trans hg, own_below ho hb, fun i h => ⟨own_below (hi i h).1 hb, own_below (hi i h).2 hb⟩, hx⟩
end Go.Proofs.YtibakihcicfeoaaGreat
/- The walks of an arena's small functions: New, Len, the two Clone, add, Leaf. No condition. -/
namespace Go.Proofs.YtibakihcicfeoaaGreat
open Go.RowKit

theorem st22 : ST Tryz.prog 22 5 1 1 := ST.mk' (z := .int .u8 0) Tryz.underlying22 (by kernel_rfl) rfl (by decide)
theorem st25 : ST Tryz.prog 25 3 1 8 := ST.mk' (z := .int .i64 0) Tryz.underlying25 (by kernel_rfl) rfl (by decide)
theorem st79 : ST Tryz.prog 79 62 6 80 := ST.mk' (z := .agg #[.int .i64 0, .int .i64 0, .int .i64 0, .bool false, .slice none 0 0, .slice none 0 0]) Tryz.underlying79 (by kernel_rfl) rfl (by decide)
theorem ints_cells (k : IntKind) (zs : List Int) : ∀ u ∈ ints k zs, u.oneCell' = true := by
  intro u hu
  simp at hu
  obtain ⟨z, _, rfl⟩ := hu
  rfl
theorem own_empty (w : World) (t : TypeId) (sz : Nat) (B : Nat) (hB : B ≤ w.heap.size) : (w.alloc (.cells #[] t)).ownsRow B t sz (.slice (some ⟨w.heap.size, 0, none⟩) 0 0) 0 [] :=
  World.ownsRow_made w #[] 0 hB (by simp [maxLen]) (by simp)
theorem Rd.none_ {w : World} {B sz n c : Nat} {xs : List Value} (h : Rd w B sz none n c xs) : n = 0 := by
  rcases Nat.eq_zero_or_pos n with h0 | h0
  · exact h0
  · obtain ⟨b, off, e, _⟩ := h.at_ h0
    cases e

theorem new12 (w : World) : Calls Tryz.prog 12 #[] w fun e w' => e = .returned (.pointer (some ⟨w.heap.size, 0, none⟩)) ∧ Arena w' w.heap.size w.heap.size [] ∧ Below w.heap.size w w' := by
  have hf := Arena.fresh w
  go_enter Tryz.func12, Tryz.ntmps12
  go_wp2_with fail
  go_ret
  exact ⟨rfl, hf, (Below.refl _ _).alloc (Nat.le_refl _) _⟩
theorem len17 {w : World} {B ga : Nat} {N : List GN} (h : Arena w B ga N) : Calls Tryz.prog 36 #[.pointer (some ⟨ga, 0, none⟩)] w fun e w' => e = .returned (.int .i64 N.length) ∧ w = w' := by
  obtain ⟨A, c, h0⟩ := h.head
  clear h
  go_enter Tryz.func36, Tryz.ntmps36
  go_wp2_with fail
  go_ret
  exact ⟨rfl, rfl⟩
theorem len17_nil (w : World) : Calls Tryz.prog 36 #[.pointer none] w fun e w' => e = .returned (.int .i64 0) ∧ w = w' := by
  go_enter Tryz.func36, Tryz.ntmps36
  go_wp2_with fail
  go_ret
  exact ⟨rfl, rfl⟩

/-- A row of a callee's own. -/
def OwnSaid (t : TypeId) (n : Nat) (xs : List Value) (w : World) (e : Ending) (w' : World) : Prop := ∃ A c, e = .returned (.slice A n c) ∧ w'.ownsRow w.heap.size t 1 (.slice A n c) n xs ∧ Below w.heap.size w w'
set_option maxHeartbeats 1000000 in
theorem clone57 (A : Option Addr) (n c : Nat) (zs : List Int) (w : World) (h : Rd w w.heap.size 1 A n c (ints .u8 zs)) (hn : n ≤ 65536) :
    Calls Tryz.prog 31 #[.slice A n c] w (OwnSaid 5 n (ints .u8 zs) w) := by
  unfold OwnSaid
  have q := fun (w : World) (a : Option Addr) (n c n' c' : Nat) => Lib.run_eql_slice_nil (P := Tryz.prog) w 22 5 a n c n' c' Tryz.underlying22
  rcases A with _ | ad
  · obtain rfl := h.none_
    have HZ := Lib.hid (show zs = [] from List.eq_nil_of_length_eq_zero h.int_len)
    clear h
    go_enter Tryz.func31, Tryz.ntmps31
    go_wp2_with fail
    go_ret
    exact ⟨none, 0, rfl, by rw [HZ.out]; exact World.ownsRow_nil _ _ _ _, Below.refl _ _⟩
  · go_enter Tryz.func31, Tryz.ntmps31
    go_wp2_with (at_builtin; refine wpList_pushes st22 rfl _ _ rfl _ rfl (own_empty w 5 1 w.heap.size (Nat.le_refl _)) rfl (h.alloc (Nat.le_refl _) _) (ints_cells _ _) (by omega) (by omega) ((Below.refl _ w).alloc (Nat.le_refl _) _) (by simp) ?_; intro v1 w1 hown1 hb1 _; obtain ⟨A1, c1, rfl, hown1⟩ := own_form hown1; simp only [Nat.zero_add, List.nil_append] at hown1)
    go_ret
    exact ⟨A1, c1, by simp, hown1, hb1⟩
set_option maxHeartbeats 1000000 in
theorem clone55 (A : Option Addr) (n c : Nat) (zs : List Int) (w : World) (h : Rd w w.heap.size 1 A n c (ints .i64 zs)) (hn : n ≤ 65536) :
    Calls Tryz.prog 61 #[.slice A n c] w (OwnSaid 3 n (ints .i64 zs) w) := by
  unfold OwnSaid
  have q := fun (w : World) (a : Option Addr) (n c n' c' : Nat) => Lib.run_eql_slice_nil (P := Tryz.prog) w 25 3 a n c n' c' Tryz.underlying25
  rcases A with _ | ad
  · obtain rfl := h.none_
    have HZ := Lib.hid (show zs = [] from List.eq_nil_of_length_eq_zero h.int_len)
    clear h
    go_enter Tryz.func61, Tryz.ntmps61
    go_wp2_with fail
    go_ret
    exact ⟨none, 0, rfl, by rw [HZ.out]; exact World.ownsRow_nil _ _ _ _, Below.refl _ _⟩
  · go_enter Tryz.func61, Tryz.ntmps61
    go_wp2_with (at_builtin; refine wpList_pushes st25 rfl _ _ rfl _ rfl (own_empty w 3 1 w.heap.size (Nat.le_refl _)) rfl (h.alloc (Nat.le_refl _) _) (ints_cells _ _) (by omega) (by omega) ((Below.refl _ w).alloc (Nat.le_refl _) _) (by simp) ?_; intro v1 w1 hown1 hb1 _; obtain ⟨A1, c1, rfl, hown1⟩ := own_form hown1; simp only [Nat.zero_add, List.nil_append] at hown1)
    go_ret
    exact ⟨A1, c1, by simp, hown1, hb1⟩
end Go.Proofs.YtibakihcicfeoaaGreat
/- The walks of an arena's add and Leaf. No condition. -/
namespace Go.Proofs.YtibakihcicfeoaaGreat
open Go.RowKit

/-- What a call leaves that writes to arenas alone: all blocks but rows of nodes and arenas. -/
structure Kept9 (w w' : World) : Prop where
  os : w'.os = w.os
  tape : w'.tape = w.tape
  output : w'.output = w.output
  size : w.heap.size ≤ w'.heap.size
  blk : ∀ (k : Nat) (ob : Obj), w.heap[k]? = some ob → (∀ cs fr, ob ≠ Obj.cells cs 62 fr) → (∀ cs fr, ob ≠ Obj.cells cs 81 fr) → w'.heap[k]? = some ob
theorem Kept9.refl (w : World) : Kept9 w w := ⟨rfl, rfl, rfl, Nat.le_refl _, fun _ _ h _ _ => h⟩
theorem Kept9.trans {a b c : World} (h : Kept9 a b) (k : Kept9 b c) : Kept9 a c :=
  ⟨k.os.trans h.os, k.tape.trans h.tape, k.output.trans h.output, Nat.le_trans h.size k.size, fun i ob hi h1 h2 => k.blk i ob (h.blk i ob hi h1 h2) h1 h2⟩
theorem Kept9.of_below {w w' : World} (h : Below w.heap.size w w') : Kept9 w w' :=
  ⟨h.os, h.tape, h.output, h.size, fun k _ hk _ _ => (h.block k (Array.getElem?_eq_some_iff.1 hk).1).trans hk⟩
theorem Kept9.own {w w' : World} (h : Kept9 w w') {B : Nat} {e : TypeId} {sz n : Nat} {v : Value} {xs : List Value} (ho : w.ownsRow B e sz v n xs) (h1 : e ≠ 62) (h2 : e ≠ 81) : w'.ownsRow B e sz v n xs := by
  obtain ⟨hl, hn | ⟨g, cap, cur, hv, hb, hg, r⟩⟩ := ho
  · exact ⟨hl, .inl hn⟩
  · refine ⟨hl, .inr ⟨g, cap, cur, hv, hb, h.blk g _ hg (fun cs fr e => ?_) (fun cs fr e => ?_), r⟩⟩
    · injection e with _ e2 _; exact h1 e2
    · injection e with _ e2 _; exact h2 e2

/-- An arena's row of nodes grown by one, and the arena's cell set anew. -/
theorem arena_put {w w1 : World} {B ga : Nat} {N : List GN} {bv kv : Nat → Value} {v v1 bx kx : Value} {x : GN} {X : Nat → Prop} (hx : ∀ i, i < N.length → ∀ b, (kv i).ownBlock = some b → ¬ X b) (h6x : ∀ b, kx.ownBlock = some b → ¬ X b) (hBg : B ≤ ga) (hg : w.heap[ga]? = some (.cells #[v] 81 (0, 0))) (ho : w.ownsRow B 62 6 v N.length (rowsOf N bv kv))
    (hi : ∀ i, i < N.length → w.ownsRow B 5 1 (bv i) (gn N i).b.length (ints .u8 (gn N i).b) ∧ w.ownsRow B 3 1 (kv i) (gn N i).kids.length (ints .i64 (gn N i).kids))
    (h5 : w.ownsRow B 5 1 bx x.b.length (ints .u8 x.b)) (h6 : w.ownsRow B 3 1 kx x.kids.length (ints .i64 x.kids)) (hB : B ≤ w.heap.size)
    (ho1 : w1.ownsRow B 62 6 v1 (N.length + 1) (rowsOf N bv kv ++ gcells x bx kx)) (hgr : w.grownBy w1 v.ownBlock) :
    ArenaX (w1.setCell ⟨ga, 0, none⟩ v1) B ga (N ++ [x]) X ∧ Kept9 w (w1.setCell ⟨ga, 0, none⟩ v1) ∧ Below B w (w1.setCell ⟨ga, 0, none⟩ v1) := by
  have hne := own_not ho hg (by decide)
  have hg1 := (hgr.block ga (Array.getElem?_eq_some_iff.1 hg).1 hne).trans hg
  have hne1 := own_not ho1 hg1 (by decide)
  have keep : ∀ {e : TypeId} {n : Nat} {u : Value} {xs : List Value}, e ≠ 62 → e ≠ 81 → w.ownsRow B e 1 u n xs → (w1.setCell ⟨ga, 0, none⟩ v1).ownsRow B e 1 u n xs := fun h90 h83 h => by
    have hk := h.kept hgr (own_apart ho h (Ne.symm h90))
    exact ownsRow_setCell_other hk (fun e => own_not hk hg1 h83 e.symm) v1
  refine ⟨⟨hBg, v1, (fun i => if i = N.length then bx else bv i), (fun i => if i = N.length then kx else kv i), heap_setCell_same w1 ga 0 _ _ v1 hg1, ?_, fun i hlt => ?_, fun i hlt b hb => ?_⟩, ⟨hgr.os, hgr.tape, hgr.output, Nat.le_trans hgr.size (by simp [World.setCell]), fun k ob hk h90 h83 => ?_⟩, ?_⟩
  · rw [rowsOf_snoc, List.length_append]
    exact ownsRow_setCell_other ho1 (fun e => hne1 e.symm) v1
  · rw [List.length_append, List.length_singleton] at hlt
    rcases Nat.lt_or_ge i N.length with h | h
    · have hn : i ≠ N.length := by omega
      rw [gn_snoc_lt N x h]
      simp only [hn, if_false]
      exact ⟨keep (by decide) (by decide) (hi i h).1, keep (by decide) (by decide) (hi i h).2⟩
    · obtain rfl : i = N.length := by omega
      rw [gn_snoc_at]
      simp only [if_true]
      exact ⟨keep (by decide) (by decide) h5, keep (by decide) (by decide) h6⟩
  · rw [List.length_append, List.length_singleton] at hlt
    simp only [] at hb
    by_cases hn : i = N.length
    · rw [if_pos hn] at hb; exact h6x b hb
    · rw [if_neg hn] at hb; exact hx i (by omega) b hb
  · have hkg : k ≠ ga := fun e => by subst e; rw [hg] at hk; exact h83 _ _ (Option.some.inj hk).symm
    rw [heap_setCell_other _ _ _ _ hkg]
    refine (hgr.block k (Array.getElem?_eq_some_iff.1 hk).1 (fun e => ?_)).trans hk
    rcases ho.2 with ⟨rfl, _⟩ | ⟨g, cap, cur, rfl, _, hgg, _⟩
    · cases e
    · have : k = g := by simpa [Value.ownBlock] using e
      subst this
      rw [hgg] at hk
      exact h90 _ _ (Option.some.inj hk).symm
  · refine Below.setCell ?_ hBg v1
    exact (Below.refl B w).grown hgr hB (fun k hk => (ho.lt k hk).1)

set_option maxRecDepth 100000 in
set_option maxHeartbeats 4000000 in
theorem add56 {w : World} {B ga : Nat} {N : List GN} {X : Nat → Prop} (h : ArenaX w B ga N X) (x : GN) (A5 A6 : Option Addr) (n5 c5 n6 c6 : Nat) (h5 : w.ownsRow B 5 1 (.slice A5 n5 c5) x.b.length (ints .u8 x.b)) (h6 : w.ownsRow B 3 1 (.slice A6 n6 c6) x.kids.length (ints .i64 x.kids)) (h6x : ∀ b, (Value.slice A6 n6 c6).ownBlock = some b → ¬ X b) (hn : N.length ≤ 65536) (hB : B ≤ w.heap.size) :
    Calls Tryz.prog 30 #[.pointer (some ⟨ga, 0, none⟩), .agg #[.int .i64 x.kind, .int .i64 x.w, .int .i64 x.cnt, .bool x.leaf, .slice A5 n5 c5, .slice A6 n6 c6]] w fun e w' => e = .returned (.int .i64 N.length) ∧ ArenaX w' B ga (N ++ [x]) X ∧ Kept9 w w' ∧ Below B w w' := by
  have hlt := h.arena.lt
  obtain ⟨hBg, v, bv, kv, hg, ho, hi, hx⟩ := h
  have HXX := Lib.hid hx
  have H6X := Lib.hid h6x
  clear hx h6x
  obtain ⟨A, c, rfl, ho⟩ := own_form ho
  have HG := Lib.hid hg
  have HI := Lib.hid hi
  have e0 : w.cell? ⟨ga, 0, none⟩ = some (.slice A N.length c) := cell_of_row w ga 0 _ _ _ hg
  clear hg hi
  go_enter Tryz.func30, Tryz.ntmps30
  go_wp2_with fail
  have hne := own_not ho HG.out (by decide)
  have t1 : IntKind.i64.wrap ((N.length : Int) + 1 - 1) = (N.length : Int) := by rw [show (N.length : Int) + 1 - 1 = N.length by omega]; exact IntWalk.i64_in _ (by omega)
  have hcell : ∀ u ∈ gcells x (.slice A5 n5 c5) (.slice A6 n6 c6), u.oneCell' = true := by intro u hu; simp [gcells] at hu; rcases hu with rfl | rfl | rfl | rfl | rfl | rfl <;> rfl
  refine wp_region_held_drew (S := fun W => W.cell? ⟨w.heap.size, 0, none⟩ = some (.int .i64 x.kind) ∧ W.cell? ⟨w.heap.size, 1, none⟩ = some (.int .i64 x.w) ∧ W.cell? ⟨w.heap.size, 2, none⟩ = some (.int .i64 x.cnt) ∧ W.cell? ⟨w.heap.size, 3, none⟩ = some (.bool x.leaf) ∧ W.cell? ⟨w.heap.size, 4, none⟩ = some (.slice A5 n5 c5) ∧ W.cell? ⟨w.heap.size, 5, none⟩ = some (.slice A6 n6 c6)) (by kernel_rfl) ⟨cell_in w _ 0 _ _ rfl, cell_in w _ 1 _ _ rfl, cell_in w _ 2 _ _ rfl, cell_in w _ 3 _ _ rfl, cell_in w _ 4 _ _ rfl, cell_in w _ 5 _ _ rfl⟩ (fun hHeld => ?_)
  change wpAnyH _ _ _ _ _ 11 #[false, false, false, false, false, false, false, false, false, false, false] _ _
  refine wpAnyH_take (i := 0) (oi := _) (v := ?_) rfl (by kernel_rfl) (by kernel_rfl) (by kernel_rfl) (fun _ _ _ h => h) (Or.inl ⟨by rfl, ?_⟩) hHeld ?_
  rotate_left
  · intro w9 hSw; obtain ⟨s0, s1, s2, s3, s4, s5⟩ := hSw; go_simp; (try with_reducible rfl)
  simp only [List.getElem_toArray, List.getElem_cons_zero, Act.put, List.setIfInBounds_toArray, List.set_cons_zero, List.set_cons_succ]
  refine wpAnyH_take (i := 1) (oi := _) (v := ?_) rfl (by kernel_rfl) (by kernel_rfl) (by kernel_rfl) (fun _ _ _ h => h) (Or.inl ⟨by rfl, ?_⟩) hHeld ?_
  rotate_left
  · intro w9 hSw; obtain ⟨s0, s1, s2, s3, s4, s5⟩ := hSw; go_simp; (try with_reducible rfl)
  simp only [List.getElem_toArray, List.getElem_cons_zero, List.getElem_cons_succ, Act.put, List.setIfInBounds_toArray, List.set_cons_zero, List.set_cons_succ]
  refine wpAnyH_take (i := 2) (oi := _) (v := ?_) rfl (by kernel_rfl) (by kernel_rfl) (by kernel_rfl) (fun _ _ _ h => h) (Or.inl ⟨by rfl, ?_⟩) hHeld ?_
  rotate_left
  · intro w9 hSw; obtain ⟨s0, s1, s2, s3, s4, s5⟩ := hSw; go_simp; (try with_reducible rfl)
  simp only [List.getElem_toArray, List.getElem_cons_zero, List.getElem_cons_succ, Act.put, List.setIfInBounds_toArray, List.set_cons_zero, List.set_cons_succ]
  refine wpAnyH_take (i := 3) (oi := _) (v := ?_) rfl (by kernel_rfl) (by kernel_rfl) (by kernel_rfl) (fun _ _ _ h => h) (Or.inl ⟨by rfl, ?_⟩) hHeld ?_
  rotate_left
  · intro w9 hSw; obtain ⟨s0, s1, s2, s3, s4, s5⟩ := hSw; go_simp; (try with_reducible rfl)
  simp only [List.getElem_toArray, List.getElem_cons_zero, List.getElem_cons_succ, Act.put, List.setIfInBounds_toArray, List.set_cons_zero, List.set_cons_succ]
  refine wpAnyH_take (i := 5) (oi := _) (v := ?_) rfl (by kernel_rfl) (by kernel_rfl) (by kernel_rfl) (fun _ _ _ h => h) (Or.inl ⟨by rfl, ?_⟩) hHeld ?_
  rotate_left
  · intro w9 hSw; obtain ⟨s0, s1, s2, s3, s4, s5⟩ := hSw; go_simp; (try with_reducible rfl)
  simp only [List.getElem_toArray, List.getElem_cons_zero, List.getElem_cons_succ, Act.put, List.setIfInBounds_toArray, List.set_cons_zero, List.set_cons_succ]
  have d0 := fun X => cell_old w ga 0 X _ e0
  obtain ⟨v1, w1, hrun, ho1, hg1⟩ := run_pushG (P := Tryz.prog) (W0 := (w.alloc (.cells #[.int .i64 x.kind, .int .i64 x.w, .int .i64 x.cnt, .bool x.leaf, .slice A5 n5 c5, .slice A6 n6 c6] 62)).drew) st79 79 _ (ho.alloc _).drew (gcells x (.slice A5 n5 c5) (.slice A6 n6 c6)) (w.heap.size + 1) (by simp) rfl hcell (by omega) (by omega) (by simp; omega)
  have hgr : w.grownBy w1 (Value.slice A N.length c).ownBlock := ⟨hg1.os, hg1.tape, hg1.output, Nat.le_trans (by simp) hg1.size, fun k hk hk2 => (hg1.block k (by simp; omega) hk2).trans (heap_alloc_old w _ hk)⟩
  have hbx : some w.heap.size ≠ (Value.slice A N.length c).ownBlock := fun e => absurd (ho.lt _ e.symm).2 (by omega)
  obtain ⟨q0, q1, q2, q3, q4, q5⟩ := id hHeld
  have b0 := hg1.cell q0 hbx
  have b1 := hg1.cell q1 hbx
  have b2 := hg1.cell q2 hbx
  have b3 := hg1.cell q3 hbx
  have b4 := hg1.cell q4 hbx
  have b5 := hg1.cell q5 hbx
  obtain ⟨A1, c1, rfl, ho1⟩ := own_form ho1
  have hG1 := (hgr.block ga hlt hne).trans HG.out
  have z0 : w1.cell? ⟨ga, 0, none⟩ = some (.slice A N.length c) := cell_of_row w1 ga 0 _ _ _ hG1
  have f0 := frozen_of_row w1 ga 0 _ _ hG1
  have hput := Lib.hid (arena_put HXX.out H6X.out hBg HG.out ho HI.out h5 h6 hB ho1 hgr)
  have hga : ∀ j u, w1.cell? ⟨w.heap.size, j, none⟩ = some u → (w1.setCell ⟨ga, 0, none⟩ (.slice A1 (N.length + 1) c1)).cell? ⟨w.heap.size, j, none⟩ = some u := fun j u h => by
    rw [World.cell?_setCell_other w1 _ _ _ (fun e => by injection e with e1; omega)]; exact h
  have k0 := hga _ _ b0
  have k1 := hga _ _ b1
  have k2 := hga _ _ b2
  have k3 := hga _ _ b3
  have k4 := hga _ _ b4
  have k5 := hga _ _ b5
  clear hga hG1 hg1 hgr hbx ho1 q0 q1 q2 q3 q4 q5
  change (Builtin.append_ #[79, 79] 79 #[.slice A N.length c, .slice (some ⟨w.heap.size + 1, 0, none⟩) 1 1]).run Tryz.prog ((w.alloc (.cells #[.int .i64 x.kind, .int .i64 x.w, .int .i64 x.cnt, .bool x.leaf, .slice A5 n5 c5, .slice A6 n6 c6] 62)).alloc (.cells #[.int .i64 x.kind, .int .i64 x.w, .int .i64 x.cnt, .bool x.leaf, .slice A5 n5 c5, .slice A6 n6 c6] 62)).drew = _ at hrun
  have o0 : ∀ j u, (w.alloc (.cells #[.int .i64 x.kind, .int .i64 x.w, .int .i64 x.cnt, .bool x.leaf, .slice A5 n5 c5, .slice A6 n6 c6] 62)).drew.cell? ⟨w.heap.size, j, none⟩ = some u → ((w.alloc (.cells #[.int .i64 x.kind, .int .i64 x.w, .int .i64 x.cnt, .bool x.leaf, .slice A5 n5 c5, .slice A6 n6 c6] 62)).alloc (.cells #[.int .i64 x.kind, .int .i64 x.w, .int .i64 x.cnt, .bool x.leaf, .slice A5 n5 c5, .slice A6 n6 c6] 62)).drew.cell? ⟨w.heap.size, j, none⟩ = some u := fun j u h => cell_old (w.alloc (.cells #[.int .i64 x.kind, .int .i64 x.w, .int .i64 x.cnt, .bool x.leaf, .slice A5 n5 c5, .slice A6 n6 c6] 62)) _ j _ u h
  refine wpAnyH_ready (rs := [4, 6]) (by kernel_rfl) (by simp) ?_
  refine AllReadyH.cons (o := _) rfl (fun K hK => ?_) (AllReadyH.cons (o := _) rfl (fun K hK => ?_) AllReadyH.nil)
  · go_simp
    refine hK.out _ _ hHeld (fun _ => ?_)
    clear hK
    refine wpAnyH_ready (rs := [6]) (by kernel_rfl) (by simp) ?_
    refine AllReadyH.cons (o := _) rfl (fun K hK => ?_) AllReadyH.nil
    go_simp
    obtain ⟨q0, q1, q2, q3, q4, q5⟩ := id hHeld
    refine hK.out _ _ ⟨o0 _ _ q0, o0 _ _ q1, o0 _ _ q2, o0 _ _ q3, o0 _ _ q4, o0 _ _ q5⟩ (fun _ => ?_)
    clear hK q0 q1 q2 q3 q4 q5
    refine wpAnyH_ready (rs := [7]) (by kernel_rfl) (by simp) ?_
    refine AllReadyH.cons (o := _) rfl (fun K hK => ?_) AllReadyH.nil
    refine wp_append 79 79 _ _ ⟨rfl, rfl⟩ _ _ rfl rfl _ _ hrun ?_
    refine hK.out _ _ ⟨b0, b1, b2, b3, b4, b5⟩ (fun hHeld2 => ?_)
    clear hK
    simp only [List.getElem_toArray, List.getElem_cons_zero, List.getElem_cons_succ, Act.put, List.setIfInBounds_toArray, List.set_cons_zero, List.set_cons_succ]
    refine wpAnyH_take (i := 8) (oi := _) (v := ?_) rfl (by kernel_rfl) (by kernel_rfl) (by kernel_rfl) (fun _ _ _ h => h) (Or.inl ⟨by rfl, ?_⟩) hHeld2 ?_
    rotate_left
    · intro w9 hSw; obtain ⟨s0, s1, s2, s3, s4, s5⟩ := hSw; go_simp; (try with_reducible rfl)
    simp only [List.getElem_toArray, List.getElem_cons_zero, List.getElem_cons_succ, Act.put, List.setIfInBounds_toArray, List.set_cons_zero, List.set_cons_succ]
    refine wpAnyH_take (i := 9) (oi := _) (v := ?_) rfl (by kernel_rfl) (by kernel_rfl) (by kernel_rfl) (fun _ _ _ h => h) (Or.inl ⟨by rfl, ?_⟩) hHeld2 ?_
    rotate_left
    · intro w9 hSw; obtain ⟨s0, s1, s2, s3, s4, s5⟩ := hSw; go_simp; (try with_reducible rfl)
    simp only [List.getElem_toArray, List.getElem_cons_zero, List.getElem_cons_succ, Act.put, List.setIfInBounds_toArray, List.set_cons_zero, List.set_cons_succ]
    refine wpAnyH_ready (rs := [10]) (by kernel_rfl) (by simp) ?_
    refine AllReadyH.cons (o := _) rfl (fun K hK => ?_) AllReadyH.nil
    go_simp
    refine hK.out _ _ ⟨k0, k1, k2, k3, k4, k5⟩ (fun _ => ?_)
    clear hK
    refine wpAnyH_done (by kernel_rfl) ?_ _
    clear b0 b1 b2 b3 b4 b5 k0 k1 k2 k3 k4 k5 hHeld hHeld2 hrun
    go_wp2_with fail
    go_ret
    exact ⟨rfl, hput.out.1, hput.out.2.1, hput.out.2.2⟩
  · go_simp
    obtain ⟨q0, q1, q2, q3, q4, q5⟩ := id hHeld
    refine hK.out _ _ ⟨o0 _ _ q0, o0 _ _ q1, o0 _ _ q2, o0 _ _ q3, o0 _ _ q4, o0 _ _ q5⟩ (fun hHeld1 => ?_)
    clear hK q0 q1 q2 q3 q4 q5
    refine wpAnyH_ready (rs := [4]) (by kernel_rfl) (by simp) ?_
    refine AllReadyH.cons (o := _) rfl (fun K hK => ?_) AllReadyH.nil
    go_simp
    refine hK.out _ _ hHeld1 (fun _ => ?_)
    clear hK hHeld1
    refine wpAnyH_ready (rs := [7]) (by kernel_rfl) (by simp) ?_
    refine AllReadyH.cons (o := _) rfl (fun K hK => ?_) AllReadyH.nil
    refine wp_append 79 79 _ _ ⟨rfl, rfl⟩ _ _ rfl rfl _ _ hrun ?_
    refine hK.out _ _ ⟨b0, b1, b2, b3, b4, b5⟩ (fun hHeld2 => ?_)
    clear hK
    simp only [List.getElem_toArray, List.getElem_cons_zero, List.getElem_cons_succ, Act.put, List.setIfInBounds_toArray, List.set_cons_zero, List.set_cons_succ]
    refine wpAnyH_take (i := 8) (oi := _) (v := ?_) rfl (by kernel_rfl) (by kernel_rfl) (by kernel_rfl) (fun _ _ _ h => h) (Or.inl ⟨by rfl, ?_⟩) hHeld2 ?_
    rotate_left
    · intro w9 hSw; obtain ⟨s0, s1, s2, s3, s4, s5⟩ := hSw; go_simp; (try with_reducible rfl)
    simp only [List.getElem_toArray, List.getElem_cons_zero, List.getElem_cons_succ, Act.put, List.setIfInBounds_toArray, List.set_cons_zero, List.set_cons_succ]
    refine wpAnyH_take (i := 9) (oi := _) (v := ?_) rfl (by kernel_rfl) (by kernel_rfl) (by kernel_rfl) (fun _ _ _ h => h) (Or.inl ⟨by rfl, ?_⟩) hHeld2 ?_
    rotate_left
    · intro w9 hSw; obtain ⟨s0, s1, s2, s3, s4, s5⟩ := hSw; go_simp; (try with_reducible rfl)
    simp only [List.getElem_toArray, List.getElem_cons_zero, List.getElem_cons_succ, Act.put, List.setIfInBounds_toArray, List.set_cons_zero, List.set_cons_succ]
    refine wpAnyH_ready (rs := [10]) (by kernel_rfl) (by simp) ?_
    refine AllReadyH.cons (o := _) rfl (fun K hK => ?_) AllReadyH.nil
    go_simp
    refine hK.out _ _ ⟨k0, k1, k2, k3, k4, k5⟩ (fun _ => ?_)
    clear hK
    refine wpAnyH_done (by kernel_rfl) ?_ _
    clear b0 b1 b2 b3 b4 b5 k0 k1 k2 k3 k4 k5 hHeld hHeld2 hrun
    go_wp2_with fail
    go_ret
    exact ⟨rfl, hput.out.1, hput.out.2.1, hput.out.2.2⟩

end Go.Proofs.YtibakihcicfeoaaGreat
/- The walk of an arena's Leaf. No condition. -/
namespace Go.Proofs.YtibakihcicfeoaaGreat
open Go.RowKit

theorem own_mono {w : World} {B B' : Nat} {e : TypeId} {sz n : Nat} {v : Value} {xs : List Value} (h : w.ownsRow B e sz v n xs) (hB : B' ≤ B) : w.ownsRow B' e sz v n xs := by
  obtain ⟨hl, hn | ⟨g, cap, cur, hv, hb, r⟩⟩ := h
  · exact ⟨hl, .inl hn⟩
  · exact ⟨hl, .inr ⟨g, cap, cur, hv, by omega, r⟩⟩

set_option maxHeartbeats 1000000 in
theorem leaf26 {w : World} {B ga : Nat} {N : List GN} {X : Nat → Prop} (h : ArenaX w B ga N X) (kind : Int) (A : Option Addr) (n c : Nat) (zs : List Int) (hr : Rd w w.heap.size 1 A n c (ints .u8 zs)) (hn : N.length ≤ 65536) (hz : n ≤ 65536) (hB : B ≤ w.heap.size) :
    Calls Tryz.prog 14 #[.pointer (some ⟨ga, 0, none⟩), .int .i64 kind, .slice A n c] w fun e w' => e = .returned (.int .i64 N.length) ∧ ArenaX w' B ga (N ++ [⟨kind, n, 1, true, zs, []⟩]) X ∧ Kept9 w w' ∧ Below B w w' := by
  have hl := Lib.hid hr.int_len
  have C57 := clone57 A n c zs w hr hz
  clear hr
  unfold OwnSaid at C57
  go_enter Tryz.func14, Tryz.ntmps14
  go_wp2_with (first | (go_at_call 31; refine C57.mono ?_; rintro e w1 ⟨A1, c1, rfl, ho1, hb1⟩; clear C57; have ha1 := h.below hb1; have hs1 := hb1.size; have C56 := add56 ha1 ⟨kind, n, 1, true, zs, []⟩ A1 none n c1 0 0 (by rw [hl.out]; exact own_mono ho1 hB) (World.ownsRow_nil _ _ _ _) (fun b hb => by cases hb) hn (by omega); have hk1 := Kept9.of_below hb1; have hbB := hb1.mono hB; clear h ha1 ho1 hb1) | (go_at_call 30; refine C56.mono ?_; rintro e w2 ⟨rfl, ha2, hk2, hb2⟩; clear C56))
  go_ret
  exact ⟨rfl, ha2, hk1.trans hk2, hbB.trans hb2⟩
theorem leaf26_nil (kind : Int) (A : Option Addr) (n c : Nat) (w : World) : Calls Tryz.prog 14 #[.pointer none, .int .i64 kind, .slice A n c] w fun e w' => e = .returned (.int .i64 0) ∧ w = w' := by
  go_enter Tryz.func14, Tryz.ntmps14
  go_wp2_with fail
  go_ret
  exact ⟨rfl, rfl⟩
end Go.Proofs.YtibakihcicfeoaaGreat
/- The walks of the methods of an arena that is not there. No condition. -/
namespace Go.Proofs.YtibakihcicfeoaaGreat
open Go.RowKit

theorem fld0 (a b c d e f : Value) (W : World) : (Instr.field 62 (.agg #[a, b, c, d, e, f]) 0).run Tryz.prog W = .ok a W := by kernel_rfl
theorem fld1 (a b c d e f : Value) (W : World) : (Instr.field 62 (.agg #[a, b, c, d, e, f]) 1).run Tryz.prog W = .ok b W := by kernel_rfl
theorem fld2 (a b c d e f : Value) (W : World) : (Instr.field 62 (.agg #[a, b, c, d, e, f]) 2).run Tryz.prog W = .ok c W := by kernel_rfl
theorem fld3 (a b c d e f : Value) (W : World) : (Instr.field 62 (.agg #[a, b, c, d, e, f]) 3).run Tryz.prog W = .ok d W := by kernel_rfl
theorem fld4 (a b c d e f : Value) (W : World) : (Instr.field 62 (.agg #[a, b, c, d, e, f]) 4).run Tryz.prog W = .ok e W := by kernel_rfl
theorem fld5 (a b c d e f : Value) (W : World) : (Instr.field 62 (.agg #[a, b, c, d, e, f]) 5).run Tryz.prog W = .ok f W := by kernel_rfl
set_option maxRecDepth 100000 in
theorem of53_nil (n : Int) (w : World) : Calls Tryz.prog 24 #[.pointer none, .int .i64 n] w fun e w' => e = .returned (.agg #[.int .i64 0, .int .i64 0, .int .i64 0, .bool false, .slice none 0 0, .slice none 0 0]) ∧ Below w.heap.size w w' := by
  by_cases h : n < 0
  · have t0 : decide (n < 0) = true := by simpa using h
    clear h
    go_enter Tryz.func24, Tryz.ntmps24
    go_wp2_with (go_at_call 36; refine (len17_nil _).mono ?_; rintro e w1 ⟨rfl, rfl⟩)
    exact bodyPost_ret (v := .agg #[.int .i64 0, .int .i64 0, .int .i64 0, .bool false, .slice none 0 0, .slice none 0 0]) (results_cell_row rfl _ _ w.heap.size 62 _ (0, 0) _ rfl (heap_alloc_new w _) Tryz.underlying62 rfl (by kernel_rfl)) rfl ⟨rfl, (Below.refl _ _).alloc (Nat.le_refl _) _⟩
  · have t0 : decide (n < 0) = false := by simpa using h
    have t1 : decide (0 ≤ n) = true := by simp; omega
    clear h
    go_enter Tryz.func24, Tryz.ntmps24
    go_wp2_with (go_at_call 36; refine (len17_nil _).mono ?_; rintro e w1 ⟨rfl, rfl⟩)
    exact bodyPost_ret (v := .agg #[.int .i64 0, .int .i64 0, .int .i64 0, .bool false, .slice none 0 0, .slice none 0 0]) (results_cell_row rfl _ _ w.heap.size 62 _ (0, 0) _ rfl (heap_alloc_new w _) Tryz.underlying62 rfl (by kernel_rfl)) rfl ⟨rfl, (Below.refl _ _).alloc (Nat.le_refl _) _⟩
set_option maxRecDepth 100000 in
theorem kind23_nil (n : Int) (w : World) : Calls Tryz.prog 114 #[.pointer none, .int .i64 n] w fun e w' => e = .returned (.int .i64 0) ∧ Below w.heap.size w w' := by
  have q0 := fld0
  have q1 := fld1
  have q2 := fld2
  have q3 := fld3
  go_enter Tryz.func114, Tryz.ntmps114
  go_wp2_with (go_at_call 24; refine (of53_nil n _).mono ?_; rintro e w1 ⟨rfl, hb1⟩)
  go_ret
  exact ⟨rfl, hb1⟩
set_option maxRecDepth 100000 in
theorem width18_nil (n : Int) (w : World) : Calls Tryz.prog 8 #[.pointer none, .int .i64 n] w fun e w' => e = .returned (.int .i64 0) ∧ Below w.heap.size w w' := by
  have q0 := fld0
  have q1 := fld1
  have q2 := fld2
  have q3 := fld3
  go_enter Tryz.func8, Tryz.ntmps8
  go_wp2_with (go_at_call 24; refine (of53_nil n _).mono ?_; rintro e w1 ⟨rfl, hb1⟩)
  go_ret
  exact ⟨rfl, hb1⟩
set_option maxRecDepth 100000 in
theorem count30_nil (n : Int) (w : World) : Calls Tryz.prog 9 #[.pointer none, .int .i64 n] w fun e w' => e = .returned (.int .i64 0) ∧ Below w.heap.size w w' := by
  have q0 := fld0
  have q1 := fld1
  have q2 := fld2
  have q3 := fld3
  go_enter Tryz.func9, Tryz.ntmps9
  go_wp2_with (go_at_call 24; refine (of53_nil n _).mono ?_; rintro e w1 ⟨rfl, hb1⟩)
  go_ret
  exact ⟨rfl, hb1⟩
set_option maxRecDepth 100000 in
theorem kids28_nil (n : Int) (w : World) : Calls Tryz.prog 38 #[.pointer none, .int .i64 n] w fun e w' => ∃ A c, e = .returned (.slice A 0 c) ∧ Below w.heap.size w w' := by
  have C := fun W => clone55 none 0 0 [] W Rd.nil_ (by omega)
  unfold OwnSaid at C
  have q4 := fld4
  have q5 := fld5
  go_enter Tryz.func38, Tryz.ntmps38
  go_wp2_with (first | (go_at_call 24; refine (of53_nil n _).mono ?_; rintro e w1 ⟨rfl, hb1⟩) | (go_at_call 61; refine (C _).mono ?_; rintro e w2 ⟨A, c, rfl, _, hb2⟩))
  go_ret
  exact ⟨A, c, rfl, hb1.trans (hb2.mono hb1.size)⟩
set_option maxRecDepth 100000 in
theorem print19_nil (n : Int) (w : World) : Calls Tryz.prog 16 #[.pointer none, .int .i64 n] w fun e w' => e = .returned (.slice none 0 0) ∧ w = w' := by
  by_cases h : n < 0
  · have t0 : decide (n < 0) = true := by simpa using h
    clear h
    go_enter Tryz.func16, Tryz.ntmps16
    go_wp2_with (go_at_call 36; refine (len17_nil _).mono ?_; rintro e w1 ⟨rfl, rfl⟩)
    go_ret
    exact ⟨rfl, rfl⟩
  · have t0 : decide (n < 0) = false := by simpa using h
    have t1 : decide (0 ≤ n) = true := by simp; omega
    clear h
    go_enter Tryz.func16, Tryz.ntmps16
    go_wp2_with (go_at_call 36; refine (len17_nil _).mono ?_; rintro e w1 ⟨rfl, rfl⟩)
    go_ret
    exact ⟨rfl, rfl⟩
set_option maxRecDepth 100000 in
theorem way54_nil (n : Int) (A : Option Addr) (m c : Nat) (w : World) : Calls Tryz.prog 171 #[.pointer none, .int .i64 n, .slice A m c] w fun e w' => e = .returned (.tuple #[.slice none 0 0, .bool false]) ∧ w = w' := by
  by_cases h : n < 0
  · have t0 : decide (n < 0) = true := by simpa using h
    clear h
    go_enter Tryz.func171, Tryz.ntmps171
    go_wp2_with (go_at_call 36; refine (len17_nil _).mono ?_; rintro e w1 ⟨rfl, rfl⟩)
    go_ret2
    exact ⟨rfl, rfl⟩
  · have t0 : decide (n < 0) = false := by simpa using h
    have t1 : decide (0 ≤ n) = true := by simp; omega
    clear h
    go_enter Tryz.func171, Tryz.ntmps171
    go_wp2_with (go_at_call 36; refine (len17_nil _).mono ?_; rintro e w1 ⟨rfl, rfl⟩)
    go_ret2
    exact ⟨rfl, rfl⟩
set_option maxRecDepth 100000 in
theorem at20_nil (n : Int) (A : Option Addr) (m c : Nat) (w : World) : Calls Tryz.prog 115 #[.pointer none, .int .i64 n, .slice A m c] w fun e w' => e = .returned (.tuple #[.int .i64 0, .bool false]) ∧ w = w' := by
  go_enter Tryz.func115, Tryz.ntmps115
  go_wp2_with (go_at_call 171; refine (way54_nil _ _ _ _ _).mono ?_; rintro e w1 ⟨rfl, rfl⟩)
  go_ret2
  exact ⟨rfl, rfl⟩
set_option maxRecDepth 100000 in
theorem branch25_nil (k : Int) (A : Option Addr) (l c : Nat) (w : World) : Calls Tryz.prog 35 #[.pointer none, .int .i64 k, .slice A l c] w fun e w' => e = .returned (.tuple #[.int .i64 0, .int .i64 2]) ∧ w = w' := by
  go_enter Tryz.func35, Tryz.ntmps35
  go_wp2_with fail
  go_ret2
  exact ⟨rfl, rfl⟩
end Go.Proofs.YtibakihcicfeoaaGreat
/- The walk of an arena's Branch. No condition. -/
namespace Go.Proofs.YtibakihcicfeoaaGreat
open Go.RowKit

/-- The width and the count of a branch's first k kids. -/
def bW (N : List GN) (ks : List Int) : Nat → Nat
  | 0 => 0
  | k + 1 => bW N ks k + (gn N (gz ks k).toNat).w
def bC (N : List GN) (ks : List Int) : Nat → Nat
  | 0 => 1
  | k + 1 => min (bC N ks k + (gn N (gz ks k).toNat).cnt) 2147483647
/-- Are the first k kids nodes? -/
def kidsOk (N : List GN) (ks : List Int) (k : Nat) : Prop := ∀ j, j < k → 0 ≤ gz ks j ∧ gz ks j < N.length
theorem kidsOk_succ {N : List GN} {ks : List Int} {k : Nat} (h : kidsOk N ks k) (hk : 0 ≤ gz ks k ∧ gz ks k < N.length) : kidsOk N ks (k + 1) := fun j hj => by
  rcases Nat.lt_or_ge j k with h' | h'
  · exact h j h'
  · obtain rfl : j = k := by omega
    exact hk
theorem bW_mono (N : List GN) (ks : List Int) {k m : Nat} (h : k ≤ m) : bW N ks k ≤ bW N ks m := by
  induction m with
  | zero => rw [show k = 0 by omega]; exact Nat.le_refl _
  | succ m ih =>
    rcases Nat.lt_or_ge k (m + 1) with h' | h'
    · exact Nat.le_trans (ih (by omega)) (Nat.le_add_right _ _)
    · rw [show k = m + 1 by omega]; exact Nat.le_refl _
theorem bC_bd (N : List GN) (ks : List Int) (k : Nat) : bC N ks k ≤ 2147483647 := by
  cases k with
  | zero => simp [bC]
  | succ k => simp only [bC]; omega

set_option maxRecDepth 100000 in
set_option maxHeartbeats 4000000 in
theorem branch25 {w : World} {B ga : Nat} {N : List GN} {X : Nat → Prop} (h : ArenaX w B ga N X) (hX : ∀ b, X b → b < w.heap.size) (kind : Int) (A : Option Addr) (n c : Nat) (ks : List Int) (hr : Rd w w.heap.size 1 A n c (ints .i64 ks)) (hn : N.length ≤ 65536) (hks : n ≤ 4096) (hB : B ≤ w.heap.size) (hW : bW N ks n ≤ 2147483647) (hC : ∀ i, i < N.length → (gn N i).cnt ≤ 2147483647) :
    Calls Tryz.prog 35 #[.pointer (some ⟨ga, 0, none⟩), .int .i64 kind, .slice A n c] w fun e w' =>
      ((e = .returned (.tuple #[.int .i64 N.length, .int .i64 0]) ∧ kidsOk N ks n ∧ ArenaX w' B ga (N ++ [⟨kind, bW N ks n, bC N ks n, false, [], ks⟩]) X) ∨ (e = .returned (.tuple #[.int .i64 0, .int .i64 6]) ∧ ¬ kidsOk N ks n ∧ ArenaX w' B ga N X)) ∧ Kept9 w w' ∧ Below B w w' := by
  have HL := Lib.hid hr.int_len
  have C55 := clone55 A n c ks w hr (by omega)
  have HC := Lib.hid hC
  unfold OwnSaid at C55
  clear hC
  go_enter Tryz.func35, Tryz.ntmps35
  go_wp2_with (go_at_call 61; refine C55.mono ?_; rintro e w1 ⟨A1, c1, rfl, ho1, hb1⟩; clear C55; have hx1 := h.below hb1; have h1 := hx1.arena; have hr1 := hr.on hb1)
  obtain ⟨g, cg, bv, kv, hs, hnode⟩ := h1.node
  have HS := Lib.hid hs
  have HN := Lib.hid hnode
  have hga := h1.lt
  clear hs hnode
  go_loopw [9, 20] (fun long i wr => ∃ k : Nat, k ≤ n ∧ i = .int .i64 k ∧ long = .bool false ∧ Hid (kidsOk N ks k) ∧ Below w1.heap.size w1 wr ∧ Hid (wr.heap[w1.heap.size]? = some (.cells #[.int .i64 kind, .int .i64 (bW N ks k : Nat), .int .i64 (bC N ks k : Nat), .bool false, .slice none 0 0, .slice A1 n c1] 62 (0, 0))))
    (fun _ i _ => n - (intOf i).toNat)
  case atStart => exact ⟨0, Nat.zero_le _, rfl, rfl, Lib.hid (fun j hj => absurd hj (by omega)), (Below.refl _ _).alloc (Nat.le_refl _) _, Lib.hid (heap_alloc_new w1 _)⟩
  case round =>
    obtain ⟨k, hk, rfl, rfl, HK, hb, HX⟩ := hrel
    have hsz := hb.size
    by_cases hlt : k < n
    · obtain ⟨b, off, rfl, hbb, hc⟩ := (hr1.below hb).int_form (by omega)
      have x0 := hc k hlt
      clear hc
      obtain ⟨A9, c9, e0⟩ := (h1.below hb).head
      by_cases hv : 0 ≤ gz ks k ∧ gz ks k < N.length
      · have HKS := Lib.hid (kidsOk_succ HK.out hv)
        obtain ⟨i, hi⟩ := Int.eq_ofNat_of_zero_le hv.1
        have hiN : i < N.length := by omega
        have HW1 := Lib.hid (show bW N ks (k + 1) = bW N ks k + (gn N i).w by simp only [bW, hi]; rfl)
        have HC1 := Lib.hid (show bC N ks (k + 1) = min (bC N ks k + (gn N i).cnt) 2147483647 by simp only [bC, hi]; rfl)
        have hwm := bW_mono N ks (show k + 1 ≤ n by omega)
        rw [HW1.out] at hwm
        have hcb := bC_bd N ks k
        have hci := HC.out i hiN
        obtain ⟨_, n1, n2, _, _, _, _, _⟩ := HN.out i hiN
        have hgl := World.block_lt_of_cell? _ _ n1
        have e1 := (hb.cell (p := ⟨ga, 0, none⟩) hga).trans (HS.out (by omega))
        have m1 := (hb.cell (p := ⟨g, i * 6 + 1, none⟩) hgl).trans n1
        have m2 := (hb.cell (p := ⟨g, i * 6 + 2, none⟩) hgl).trans n2
        rw [hi] at x0
        have y1 : wr.cell? ⟨w1.heap.size, 1, none⟩ = some (.int .i64 (bW N ks k : Nat)) := cell_of_row wr _ 1 _ _ _ HX.out
        have y2 : wr.cell? ⟨w1.heap.size, 2, none⟩ = some (.int .i64 (bC N ks k : Nat)) := cell_of_row wr _ 2 _ _ _ HX.out
        have f1 := fun j => frozen_of_row wr w1.heap.size j _ _ HX.out
        clear n1 n2 e0 hi hv
        generalize (gn N i).w = wi at *
        generalize (gn N i).cnt = ci at *
        generalize bW N ks k = Wk at *
        generalize bC N ks k = Ck at *
        have u1 : IntKind.i64.wrap ((Ck : Int) + (ci : Int)) = (Ck : Int) + (ci : Int) := IntWalk.i64_in _ (by omega)
        have t0 : decide ((N.length : Int) ≤ (i : Int)) = false := by simp; omega
        go_wp2_with fail
        refine region_tail 11 (by kernel_rfl) (by kernel_rfl) ?_
        intro W HW
        have d0 : W.cell? ⟨w1.heap.size, 2, none⟩ = some (.int .i64 (Ck : Nat)) := by rw [HW.out]; exact y2
        have d1 : W.cell? ⟨ga, 0, none⟩ = some (.slice (some ⟨g, 0, none⟩) N.length cg) := by rw [HW.out]; exact e1
        have d2 : W.cell? ⟨g, i * 6 + 2, none⟩ = some (.int .i64 (ci : Nat)) := by rw [HW.out]; exact m2
        simp only [List.take_succ_cons, List.take_zero, List.drop_succ_cons, List.drop_zero]
        repeat (first | (refine wpStill_step (fun K hK => ?_); go_simp; refine hK _ ?_; clear hK K))
        refine wpStill_nil ?_
        rw [HW.out]
        clear HW d0 d1 d2
        go_wp2_with fail
        · rename_i hmn
          have HX2 := Lib.hid (heap_setCell_same wr w1.heap.size 2 _ _ (.int .i64 2147483647) HX.out)
          have gne : g ≠ w1.heap.size := by omega
          have gane : ga ≠ w1.heap.size := by omega
          have hbW := (hb.setCell (p := ⟨w1.heap.size, 2, none⟩) (Nat.le_refl _) (.int .i64 2147483647)).drew
          have e3 : (wr.setCell ⟨w1.heap.size, 2, none⟩ (.int .i64 2147483647)).drew.cell? ⟨ga, 0, none⟩ = some (.slice (some ⟨g, 0, none⟩) N.length cg) := (World.cell?_setCell_other wr _ _ _ (fun e => gane (by injection e with e1; exact e1.symm))).trans e1
          have m3 : (wr.setCell ⟨w1.heap.size, 2, none⟩ (.int .i64 2147483647)).drew.cell? ⟨g, i * 6 + 1, none⟩ = some (.int .i64 (wi : Nat)) := (World.cell?_setCell_other wr _ _ _ (fun e => gne (by injection e with e1; exact e1.symm))).trans m1
          generalize hW2 : (wr.setCell ⟨w1.heap.size, 2, none⟩ (.int .i64 2147483647)).drew = W2 at *
          have HX3 : Hid (W2.heap[w1.heap.size]? = some (.cells #[.int .i64 kind, .int .i64 (Wk : Nat), .int .i64 2147483647, .bool false, .slice none 0 0, .slice A1 n c1] 62 (0, 0))) := Lib.hid (by rw [← hW2]; exact HX2.out)
          have y3 : W2.cell? ⟨w1.heap.size, 1, none⟩ = some (.int .i64 (Wk : Nat)) := cell_of_row W2 _ 1 _ _ _ HX3.out
          have f3 := fun j => frozen_of_row W2 w1.heap.size j _ _ HX3.out
          clear HX2 hW2
          have u2 : IntKind.i64.wrap (2147483647 - (Wk : Int)) = 2147483647 - (Wk : Int) := IntWalk.i64_in _ (by omega)
          have u3 : decide (2147483647 - (Wk : Int) < (wi : Int)) = false := by simp; omega
          have u4 : IntKind.i64.wrap ((Wk : Int) + (wi : Int)) = (Wk : Int) + (wi : Int) := IntWalk.i64_in _ (by omega)
          go_quiet (fail)
          go_wp2_with fail
          refine region_tail 11 (by kernel_rfl) (by kernel_rfl) ?_
          intro W HW
          have d0 : W.cell? ⟨w1.heap.size, 1, none⟩ = some (.int .i64 (Wk : Nat)) := by rw [HW.out]; exact y3
          have d1 : W.cell? ⟨ga, 0, none⟩ = some (.slice (some ⟨g, 0, none⟩) N.length cg) := by rw [HW.out]; exact e3
          have d2 : W.cell? ⟨g, i * 6 + 1, none⟩ = some (.int .i64 (wi : Nat)) := by rw [HW.out]; exact m3
          simp only [List.take_succ_cons, List.take_zero, List.drop_succ_cons, List.drop_zero]
          repeat (first | (refine wpStill_step (fun K hK => ?_); go_simp; refine hK _ ?_; clear hK K))
          refine wpStill_nil ?_
          rw [HW.out]
          clear HW d0 d1 d2
          go_wp2_with fail
          go_roundw
          case rel => exact ⟨k + 1, by omega, by go_num, rfl, HKS, Below.drewN_ (hbW.setCell (p := ⟨w1.heap.size, 1, none⟩) (Nat.le_refl _) _) _, Lib.hid (by
            rw [HW1.out, HC1.out, Int.natCast_add, show min (Ck + ci) 2147483647 = 2147483647 by omega]
            exact heap_setCell_same W2 w1.heap.size 1 _ _ _ HX3.out)⟩
          case measure => simp [intOf]; omega
        · rename_i hmn
          have HX2 := Lib.hid (heap_setCell_same wr w1.heap.size 2 _ _ (.int .i64 ((Ck : Int) + (ci : Int))) HX.out)
          have gne : g ≠ w1.heap.size := by omega
          have gane : ga ≠ w1.heap.size := by omega
          have hbW := (hb.setCell (p := ⟨w1.heap.size, 2, none⟩) (Nat.le_refl _) (.int .i64 ((Ck : Int) + (ci : Int)))).drew
          have e3 : (wr.setCell ⟨w1.heap.size, 2, none⟩ (.int .i64 ((Ck : Int) + (ci : Int)))).drew.cell? ⟨ga, 0, none⟩ = some (.slice (some ⟨g, 0, none⟩) N.length cg) := (World.cell?_setCell_other wr _ _ _ (fun e => gane (by injection e with e1; exact e1.symm))).trans e1
          have m3 : (wr.setCell ⟨w1.heap.size, 2, none⟩ (.int .i64 ((Ck : Int) + (ci : Int)))).drew.cell? ⟨g, i * 6 + 1, none⟩ = some (.int .i64 (wi : Nat)) := (World.cell?_setCell_other wr _ _ _ (fun e => gne (by injection e with e1; exact e1.symm))).trans m1
          generalize hW2 : (wr.setCell ⟨w1.heap.size, 2, none⟩ (.int .i64 ((Ck : Int) + (ci : Int)))).drew = W2 at *
          have HX3 : Hid (W2.heap[w1.heap.size]? = some (.cells #[.int .i64 kind, .int .i64 (Wk : Nat), .int .i64 ((Ck : Int) + (ci : Int)), .bool false, .slice none 0 0, .slice A1 n c1] 62 (0, 0))) := Lib.hid (by rw [← hW2]; exact HX2.out)
          have y3 : W2.cell? ⟨w1.heap.size, 1, none⟩ = some (.int .i64 (Wk : Nat)) := cell_of_row W2 _ 1 _ _ _ HX3.out
          have f3 := fun j => frozen_of_row W2 w1.heap.size j _ _ HX3.out
          clear HX2 hW2
          have u2 : IntKind.i64.wrap (2147483647 - (Wk : Int)) = 2147483647 - (Wk : Int) := IntWalk.i64_in _ (by omega)
          have u3 : decide (2147483647 - (Wk : Int) < (wi : Int)) = false := by simp; omega
          have u4 : IntKind.i64.wrap ((Wk : Int) + (wi : Int)) = (Wk : Int) + (wi : Int) := IntWalk.i64_in _ (by omega)
          go_quiet (fail)
          go_wp2_with fail
          refine region_tail 11 (by kernel_rfl) (by kernel_rfl) ?_
          intro W HW
          have d0 : W.cell? ⟨w1.heap.size, 1, none⟩ = some (.int .i64 (Wk : Nat)) := by rw [HW.out]; exact y3
          have d1 : W.cell? ⟨ga, 0, none⟩ = some (.slice (some ⟨g, 0, none⟩) N.length cg) := by rw [HW.out]; exact e3
          have d2 : W.cell? ⟨g, i * 6 + 1, none⟩ = some (.int .i64 (wi : Nat)) := by rw [HW.out]; exact m3
          simp only [List.take_succ_cons, List.take_zero, List.drop_succ_cons, List.drop_zero]
          repeat (first | (refine wpStill_step (fun K hK => ?_); go_simp; refine hK _ ?_; clear hK K))
          refine wpStill_nil ?_
          rw [HW.out]
          clear HW d0 d1 d2
          go_wp2_with fail
          go_roundw
          case rel => exact ⟨k + 1, by omega, by go_num, rfl, HKS, Below.drewN_ (hbW.setCell (p := ⟨w1.heap.size, 1, none⟩) (Nat.le_refl _) _) _, Lib.hid (by
            rw [HW1.out, HC1.out, Int.natCast_add, show ((min (Ck + ci) 2147483647 : Nat) : Int) = (Ck : Int) + (ci : Int) by omega]
            exact heap_setCell_same W2 w1.heap.size 1 _ _ _ HX3.out)⟩
          case measure => simp [intOf]; omega
      · have HN := Lib.hid (show ¬ kidsOk N ks n from fun hall => hv (hall k hlt))
        have hcase : decide (gz ks k < 0) = true ∨ (decide (gz ks k < 0) = false ∧ decide ((N.length : Int) ≤ gz ks k) = true) := by simp; omega
        have ha9 := Lib.hid (hx1.below hb)
        clear hv
        generalize gz ks k = z at x0 hcase
        rcases hcase with t0 | ⟨t0, t1⟩
        all_goals
          go_wp2_with fail
          go_ret2
          exact ⟨.inr ⟨rfl, HN.out, ha9.out⟩, Kept9.of_below (hb1.trans (hb.mono hb1.size)), (hb1.trans (hb.mono hb1.size)).mono hB⟩
    · obtain rfl : k = n := by omega
      have ha := hx1.below hb
      have hq : ∀ j u, (#[Value.int .i64 kind, .int .i64 (bW N ks k : Nat), .int .i64 (bC N ks k : Nat), .bool false, .slice none 0 0, .slice A1 k c1] : Array Value)[j]? = some u → wr.cell? ⟨w1.heap.size, j, none⟩ = some u := fun j u hu => (cell_of_row wr _ j _ _ _ HX.out).trans hu
      have q0 := hq 0 _ rfl
      have q1 := hq 1 _ rfl
      have q2 := hq 2 _ rfl
      have q3 := hq 3 _ rfl
      have q4 := hq 4 _ rfl
      have q5 := hq 5 _ rfl
      clear hq
      have C56 := add56 ha ⟨kind, bW N ks k, bC N ks k, false, [], ks⟩ none A1 0 0 k c1 (World.ownsRow_nil _ _ _ _) (by rw [HL.out]; exact own_mono (own_below ho1 hb) hB) (fun b hb' hXb => by have h1 := (ho1.lt b hb').1; have h2 := hX b hXb; omega) hn (by have := hb1.size; omega)
      have hkb := Kept9.of_below (hb1.trans (hb.mono hb1.size))
      have hbB := (hb1.trans (hb.mono hb1.size)).mono hB
      clear ha ho1
      go_wp2_with (go_at_call 30; refine C56.mono ?_; rintro e w5 ⟨rfl, ha5, hk5, hb5⟩; clear C56)
      go_ret2
      exact ⟨.inl ⟨rfl, HK.out, ha5⟩, hkb.trans hk5, hbB.trans hb5⟩
end Go.Proofs.YtibakihcicfeoaaGreat
