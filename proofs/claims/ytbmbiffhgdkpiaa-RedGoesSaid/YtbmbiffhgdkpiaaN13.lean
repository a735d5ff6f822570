/- The document's nodes in memory; the walks of its Has, At and Leaf. No condition. -/
import Derived.Test.YtbmbiffhgdkpiaaN12
namespace Go.Proofs.Ytbmbiffhgdkpiaa
open Go.RowKit

theorem flat_len' (s n : Nat) (f : Nat → List Value) (hf : ∀ i, (f i).length = s) : ((List.range n).flatMap f).length = n * s := by
  induction n with
  | zero => simp
  | succ n ih => rw [List.range_succ, List.flatMap_append, List.length_append, ih, Nat.succ_mul]; simp [hf]
theorem flat_get' (s n : Nat) (f : Nat → List Value) (hf : ∀ i, (f i).length = s) (i j : Nat) (hi : i < n) (hj : j < s) : ((List.range n).flatMap f)[i * s + j]? = (f i)[j]? := by
  induction n with
  | zero => omega
  | succ n ih =>
    have hl := flat_len' s n f hf
    rw [List.range_succ, List.flatMap_append]
    rcases Nat.lt_or_ge i n with h | h
    · have := Nat.mul_le_mul_right s (show i + 1 ≤ n by omega)
      rw [Nat.succ_mul] at this
      rw [List.getElem?_append_left (by rw [hl]; omega)]
      exact ih h
    · obtain rfl : i = n := by omega
      rw [List.getElem?_append_right (by rw [hl]; omega), hl]
      simp
/-- A document's node's cells. -/
def dcells (x : GN) (bv kv : Value) : List Value := [.int .i64 x.kind, .bool x.leaf, bv, kv, .int .i64 x.cnt]
def drows (N : List GN) (bv kv : Nat → Value) : List Value := (List.range N.length).flatMap fun i => dcells (gn N i) (bv i) (kv i)
theorem drows_len (N : List GN) (bv kv : Nat → Value) : (drows N bv kv).length = N.length * 5 := flat_len' 5 _ _ fun _ => rfl
theorem drows_get (N : List GN) (bv kv : Nat → Value) (i j : Nat) (hi : i < N.length) (hj : j < 5) : (drows N bv kv)[i * 5 + j]? = (dcells (gn N i) (bv i) (kv i))[j]? := flat_get' 5 _ _ (fun _ => rfl) i j hi hj
theorem drows_snoc (N : List GN) (x : GN) (bv kv : Nat → Value) (b k : Value) :
    drows (N ++ [x]) (fun i => if i = N.length then b else bv i) (fun i => if i = N.length then k else kv i) = drows N bv kv ++ dcells x b k := by
  unfold drows
  rw [List.length_append, List.length_singleton, List.range_succ, List.flatMap_append]
  congr 1
  · rw [List.flatMap_def, List.flatMap_def]
    congr 1
    refine List.map_congr_left fun i hi => ?_
    have hi' : i < N.length := by simpa using hi
    have hne : i ≠ N.length := by omega
    rw [gn_snoc_lt N x hi']
    simp [hne]
  · simp [gn_snoc_at]
/-- The document's nodes: each holds what it prints. -/
def DocN (w : World) (v : Value) (N : List GN) : Prop :=
  ∃ bv kv : Nat → Value, w.ownsRow 0 47 5 v N.length (drows N bv kv) ∧ ∀ i, i < N.length → w.ownsRow 0 5 1 (bv i) (pr N i).length (ints .u8 (pr N i)) ∧ w.ownsRow 0 3 1 (kv i) (gn N i).kids.length (ints .i64 (gn N i).kids)
theorem DocN.below {w w' : World} {v : Value} {N : List GN} (h : DocN w v N) (hb : Below w.heap.size w w') : DocN w' v N := by
  obtain ⟨bv, kv, ho, hi⟩ := h
  exact ⟨bv, kv, own_below ho hb, fun i h => ⟨own_below (hi i h).1 hb, own_below (hi i h).2 hb⟩⟩
theorem DocN.kept {w w' : World} {v : Value} {N : List GN} (h : DocN w v N) (hk : Kept9 w w') : DocN w' v N := by
  obtain ⟨bv, kv, ho, hi⟩ := h
  exact ⟨bv, kv, hk.own ho (by decide) (by decide), fun i h => ⟨hk.own (hi i h).1 (by decide) (by decide), hk.own (hi i h).2 (by decide) (by decide)⟩⟩
theorem DocN.drew {w : World} {v : Value} {N : List GN} (h : DocN w v N) : DocN w.drew v N := h
theorem DocN.nil (w : World) : DocN w (.slice none 0 0) [] := ⟨fun _ => .slice none 0 0, fun _ => .slice none 0 0, World.ownsRow_nil _ _ _ _, fun i h => absurd h (by simp)⟩
theorem DocN.form {w : World} {v : Value} {N : List GN} (h : DocN w v N) : ∃ A c, v = .slice A N.length c ∧ DocN w (.slice A N.length c) N := by
  obtain ⟨bv, kv, ho, hi⟩ := h
  obtain ⟨A, c, rfl, ho'⟩ := own_form ho
  exact ⟨A, c, rfl, bv, kv, ho', hi⟩
theorem dcells_one {x : GN} {b k : Value} (hb : b.oneCell' = true) (hk : k.oneCell' = true) : ∀ u ∈ dcells x b k, u.oneCell' = true := by
  intro u hu
  simp only [dcells, List.mem_cons, List.not_mem_nil, or_false] at hu
  rcases hu with rfl | rfl | rfl | rfl | rfl
  · rfl
  · rfl
  · exact hb
  · exact hk
  · rfl
theorem own_one {w : World} {B : Nat} {e : TypeId} {sz n : Nat} {v : Value} {xs : List Value} (h : w.ownsRow B e sz v n xs) : v.oneCell' = true := by
  obtain ⟨A, c, rfl, _⟩ := own_form h
  rfl
theorem drows_one {N : List GN} {bv kv : Nat → Value} (h : ∀ i, i < N.length → (bv i).oneCell' = true ∧ (kv i).oneCell' = true) : ∀ u ∈ drows N bv kv, u.oneCell' = true := by
  intro u hu
  simp only [drows, List.mem_flatMap, List.mem_range] at hu
  obtain ⟨i, hi, hu⟩ := hu
  exact dcells_one (h i hi).1 (h i hi).2 u hu
/-- What a walk reads of a document's node. -/
theorem DocN.node {w : World} {A : Option Addr} {n c : Nat} {N : List GN} (h : DocN w (.slice A n c) N) : n = N.length ∧ ∃ (g : Nat) (bv kv : Nat → Value), (0 < N.length → A = some ⟨g, 0, none⟩) ∧ ∀ i, i < N.length →
    w.cell? ⟨g, i * 5, none⟩ = some (.int .i64 (gn N i).kind) ∧ w.cell? ⟨g, i * 5 + 1, none⟩ = some (.bool (gn N i).leaf) ∧ w.cell? ⟨g, i * 5 + 2, none⟩ = some (bv i) ∧ w.cell? ⟨g, i * 5 + 3, none⟩ = some (kv i) ∧ w.cell? ⟨g, i * 5 + 4, none⟩ = some (.int .i64 (gn N i).cnt) ∧
    w.ownsRow 0 5 1 (bv i) (pr N i).length (ints .u8 (pr N i)) ∧ w.ownsRow 0 3 1 (kv i) (gn N i).kids.length (ints .i64 (gn N i).kids) := by
  obtain ⟨bv, kv, ho, hi⟩ := h
  obtain ⟨A', c', hv, ho⟩ := own_form ho
  injection hv with hA hn hc
  subst hA; subst hn; subst hc
  refine ⟨rfl, ?_⟩
  rcases Nat.eq_zero_or_pos N.length with h0 | h0
  · exact ⟨0, bv, kv, fun h => absurd h (by omega), fun i h => absurd h (by omega)⟩
  · obtain ⟨g, rfl⟩ := own_head ho h0
    have hc := (World.ownsRow.cells ho (g := g) rfl)
    refine ⟨g, bv, kv, fun _ => rfl, fun i h => ?_⟩
    have key : ∀ j u, j < 5 → (dcells (gn N i) (bv i) (kv i))[j]? = some u → w.cell? ⟨g, i * 5 + j, none⟩ = some u := fun j u hj hu => by
      have := hc (i * 5 + j) u (by rw [drows_get N bv kv i j h hj]; exact hu)
      rw [add_none, Nat.zero_add] at this
      exact this
    exact ⟨key 0 _ (by omega) rfl, key 1 _ (by omega) rfl, key 2 _ (by omega) rfl, key 3 _ (by omega) rfl, key 4 _ (by omega) rfl, (hi i h).1, (hi i h).2⟩
/-- A document's node more. -/
theorem DocN.snoc {w : World} {v : Value} {N : List GN} (hN : GoodN N) {x : GN} {bv kv : Nat → Value} {b k : Value} (hx : ∀ z ∈ x.kids, 0 ≤ z ∧ z < (N.length : Int))
    (ho : w.ownsRow 0 47 5 v (N.length + 1) (drows N bv kv ++ dcells x b k)) (hi : ∀ i, i < N.length → w.ownsRow 0 5 1 (bv i) (pr N i).length (ints .u8 (pr N i)) ∧ w.ownsRow 0 3 1 (kv i) (gn N i).kids.length (ints .i64 (gn N i).kids))
    {m : Nat} {l : List Int} (hb : w.ownsRow 0 5 1 b m (ints .u8 l)) (hl : l = x.b ++ x.kids.flatMap (pr N)) (hk : w.ownsRow 0 3 1 k x.kids.length (ints .i64 x.kids)) : DocN w v (N ++ [x]) := by
  refine ⟨(fun i => if i = N.length then b else bv i), (fun i => if i = N.length then k else kv i), by rw [drows_snoc, List.length_append]; exact ho, fun i hlt => ?_⟩
  rw [List.length_append, List.length_singleton] at hlt
  rcases Nat.lt_or_ge i N.length with h | h
  · have hn : i ≠ N.length := by omega
    rw [gn_snoc_lt N x h, pr_snoc hN x (by omega) (by omega)]
    simp only [hn, if_false]
    exact hi i h
  · obtain rfl : i = N.length := by omega
    rw [gn_snoc_at, pr_snoc_at hN hx, ← hl]
    simp only [if_true]
    have hm : l.length = m := by have := hb.1; simpa using this
    exact ⟨by rw [hm]; exact hb, hk⟩

theorem has24 (A : Option Addr) (n c : Nat) (z : Int) (w : World) : Calls Try.prog 24 #[.slice A n c, .int .i64 z] w fun e w' => e = .returned (.bool (decide (0 ≤ z ∧ z < n))) ∧ w = w' := by
  by_cases h0 : 0 ≤ z
  · by_cases h1 : z < n
    · go_enter Try.func24, Try.ntmps24
      go_wp2_with fail
      go_ret
      exact ⟨by simp [h0, h1], rfl⟩
    · have t1 : decide (z < (n : Int)) = false := by simpa using h1
      go_enter Try.func24, Try.ntmps24
      go_wp2_with fail
      go_ret
      exact ⟨by simp, rfl⟩
  · have t1 : decide (0 ≤ z) = false := by simpa using h0
    go_enter Try.func24, Try.ntmps24
    go_wp2_with fail
    go_ret
    exact ⟨by simp, rfl⟩
theorem st25 : ST Try.prog 25 47 5 72 := ST.mk' (z := .agg #[.int .i64 0, .bool false, .slice none 0 0, .slice none 0 0, .int .i64 0]) Try.underlying25 (by kernel_rfl) rfl (by decide)
end Go.Proofs.Ytbmbiffhgdkpiaa
