/- Trees in an arena: what its block of nodes holds, and what keeps it. No condition. -/
import Derived.Test.YtbmbiffhgdkpiaaMem3
namespace Go.Proofs.Ytbmbiffhgdkpiaa
open Go.RowKit

/-- A node: a leaf's bytes, or a branch's kids. -/
structure GN where
  kind : Int
  w : Nat
  cnt : Nat
  leaf : Bool
  b : List Int
  kids : List Int
def gn (N : List GN) (i : Nat) : GN := N.getD i ⟨0, 0, 0, false, [], []⟩
/-- A node's cells; its bytes and its kids lie where bv and kv say. -/
def gcells (x : GN) (bv kv : Value) : List Value := [.int .i64 x.kind, .int .i64 x.w, .int .i64 x.cnt, .bool x.leaf, bv, kv]
def rowsOf (N : List GN) (bv kv : Nat → Value) : List Value := (List.range N.length).flatMap fun i => gcells (gn N i) (bv i) (kv i)

theorem flat_len6 (n : Nat) (f : Nat → List Value) (hf : ∀ i, (f i).length = 6) : ((List.range n).flatMap f).length = n * 6 := by
  induction n with
  | zero => simp
  | succ n ih => rw [List.range_succ, List.flatMap_append, List.length_append, ih]; simp [hf]; omega
theorem flat_get6 (n : Nat) (f : Nat → List Value) (hf : ∀ i, (f i).length = 6) (i j : Nat) (hi : i < n) (hj : j < 6) : ((List.range n).flatMap f)[i * 6 + j]? = (f i)[j]? := by
  induction n with
  | zero => omega
  | succ n ih =>
    have hl := flat_len6 n f hf
    rw [List.range_succ, List.flatMap_append]
    rcases Nat.lt_or_ge i n with h | h
    · rw [List.getElem?_append_left (by rw [hl]; omega)]
      exact ih h
    · obtain rfl : i = n := by omega
      rw [List.getElem?_append_right (by rw [hl]; omega), hl]
      simp
theorem gcells_len (x : GN) (b k : Value) : (gcells x b k).length = 6 := rfl
theorem rowsOf_len (N : List GN) (bv kv : Nat → Value) : (rowsOf N bv kv).length = N.length * 6 := flat_len6 _ _ fun _ => rfl
theorem rowsOf_get (N : List GN) (bv kv : Nat → Value) (i j : Nat) (hi : i < N.length) (hj : j < 6) : (rowsOf N bv kv)[i * 6 + j]? = (gcells (gn N i) (bv i) (kv i))[j]? := flat_get6 _ _ (fun _ => rfl) i j hi hj
theorem gn_snoc_lt (N : List GN) (x : GN) {i : Nat} (h : i < N.length) : gn (N ++ [x]) i = gn N i := by
  simp [gn, List.getD_eq_getElem?_getD, List.getElem?_append_left h]
theorem gn_snoc_at (N : List GN) (x : GN) : gn (N ++ [x]) N.length = x := by simp [gn, List.getD_eq_getElem?_getD]
theorem rowsOf_snoc (N : List GN) (x : GN) (bv kv : Nat → Value) (b k : Value) :
    rowsOf (N ++ [x]) (fun i => if i = N.length then b else bv i) (fun i => if i = N.length then k else kv i) = rowsOf N bv kv ++ gcells x b k := by
  unfold rowsOf
  rw [List.length_append, List.length_singleton, List.range_succ, List.flatMap_append]
  congr 1
  · rw [List.flatMap_def, List.flatMap_def]
    congr 1
    refine List.map_congr_left fun i hi => ?_
    have hi' : i < N.length := by simpa using hi
    have hne : i ≠ N.length := by omega
    rw [gn_snoc_lt N x hi']
    simp [hne]
  · simp [gn_snoc_at]

/-- An arena in block ga: its nodes are N. -/
structure Arena (w : World) (B ga : Nat) (N : List GN) : Prop where
  lo : B ≤ ga
  ex : ∃ (v : Value) (bv kv : Nat → Value), w.heap[ga]? = some (.cells #[v] 83 (0, 0)) ∧ w.ownsRow B 90 6 v N.length (rowsOf N bv kv) ∧
    ∀ i, i < N.length → w.ownsRow B 5 1 (bv i) (gn N i).b.length (ints .u8 (gn N i).b) ∧ w.ownsRow B 3 1 (kv i) (gn N i).kids.length (ints .i64 (gn N i).kids)
theorem Arena.below {w w' : World} {B ga : Nat} {N : List GN} (h : Arena w B ga N) (hb : Below w.heap.size w w') : Arena w' B ga N := by
  obtain ⟨hB, v, bv, kv, hg, ho, hi⟩ := h
  exact ⟨hB, v, bv, kv, (hb.block ga (Array.getElem?_eq_some_iff.1 hg).1).trans hg, own_below ho hb, fun i h => ⟨own_below (hi i h).1 hb, own_below (hi i h).2 hb⟩⟩
theorem Arena.lt {w : World} {B ga : Nat} {N : List GN} (h : Arena w B ga N) : ga < w.heap.size := by
  obtain ⟨_, v, bv, kv, hg, _⟩ := h
  exact (Array.getElem?_eq_some_iff.1 hg).1
theorem Arena.fresh (w : World) : Arena (w.alloc (.cells #[.slice none 0 0] 83)) w.heap.size w.heap.size [] :=
  ⟨Nat.le_refl _, .slice none 0 0, fun _ => .slice none 0 0, fun _ => .slice none 0 0, heap_alloc_new w _, World.ownsRow_nil _ _ _ _, fun i h => absurd h (by simp)⟩
/-- What a walk reads of an arena: its slice, and a node's cells. -/
theorem Arena.head {w : World} {B ga : Nat} {N : List GN} (h : Arena w B ga N) : ∃ A c, w.cell? ⟨ga, 0, none⟩ = some (.slice A N.length c) := by
  obtain ⟨hB, v, bv, kv, hg, ho, hi⟩ := h
  obtain ⟨A, c, rfl, _⟩ := own_form ho
  exact ⟨A, c, cell_of_row w ga 0 _ _ _ hg⟩
theorem Arena.node {w : World} {B ga : Nat} {N : List GN} (h : Arena w B ga N) : ∃ (g c : Nat) (bv kv : Nat → Value), (0 < N.length → w.cell? ⟨ga, 0, none⟩ = some (.slice (some ⟨g, 0, none⟩) N.length c)) ∧ ∀ i, i < N.length →
    w.cell? ⟨g, i * 6, none⟩ = some (.int .i64 (gn N i).kind) ∧ w.cell? ⟨g, i * 6 + 1, none⟩ = some (.int .i64 (gn N i).w) ∧ w.cell? ⟨g, i * 6 + 2, none⟩ = some (.int .i64 (gn N i).cnt) ∧
    w.cell? ⟨g, i * 6 + 3, none⟩ = some (.bool (gn N i).leaf) ∧ w.cell? ⟨g, i * 6 + 4, none⟩ = some (bv i) ∧ w.cell? ⟨g, i * 6 + 5, none⟩ = some (kv i) ∧
    w.ownsRow B 5 1 (bv i) (gn N i).b.length (ints .u8 (gn N i).b) ∧ w.ownsRow B 3 1 (kv i) (gn N i).kids.length (ints .i64 (gn N i).kids) := by
  obtain ⟨hB, v, bv, kv, hg, ho, hi⟩ := h
  rcases Nat.eq_zero_or_pos N.length with h0 | h0
  · exact ⟨0, 0, bv, kv, fun h => absurd h (by omega), fun i h => absurd h (by omega)⟩
  · obtain ⟨A, c, rfl, ho'⟩ := own_form ho
    have hr := Rd.of_own ho'
    rcases ho'.2 with ⟨_, hz⟩ | ⟨g, cap, cur, hv, _⟩
    · omega
    · injection hv with hA hn hc
      subst hA
      have hc := (World.ownsRow.cells ho' (g := g) rfl)
      refine ⟨g, c, bv, kv, fun _ => cell_of_row w ga 0 _ _ _ hg, fun i h => ?_⟩
      have key : ∀ j u, j < 6 → (gcells (gn N i) (bv i) (kv i))[j]? = some u → w.cell? ⟨g, i * 6 + j, none⟩ = some u := fun j u hj hu => by
        have := hc (i * 6 + j) u (by rw [rowsOf_get N bv kv i j h hj]; exact hu)
        rw [add_none, Nat.zero_add] at this
        exact this
      exact ⟨key 0 _ (by omega) rfl, key 1 _ (by omega) rfl, key 2 _ (by omega) rfl, key 3 _ (by omega) rfl, key 4 _ (by omega) rfl, key 5 _ (by omega) rfl, (hi i h).1, (hi i h).2⟩
end Go.Proofs.Ytbmbiffhgdkpiaa
