/- Cursors: the walks of Node, Kind, Text, Span, Has, Up. No condition. -/
import Derived.Test.YtbmbiffhgdkpiaaN22
namespace Go.Proofs.Ytbmbiffhgdkpiaa
open Go.RowKit

/-- A cursor's cells; as a value. -/
abbrev cc (a : Option Addr) (n f k : Int) (u : Option Addr) : Array Value := #[.pointer a, .int .i64 n, .int .i64 f, .int .i64 k, .pointer u]
/-- What a region of one call and a store into the answer leaves. -/
theorem node35 (a : Option Addr) (n f k : Int) (u : Option Addr) (w : World) : Calls Try.prog 35 #[.agg (cc a n f k u)] w fun e w' => e = .returned (.int .i64 n) ∧ Below w.heap.size w w' := by
  go_enter Try.func35, Try.ntmps35
  go_wp2_with fail
  go_ret
  exact ⟨rfl, (Below.refl _ _).alloc (Nat.le_refl _) _⟩
theorem kind36 (a : Option Addr) (n f k : Int) (u : Option Addr) (w : World) (r : Int) (C : ∀ W, Below w.heap.size w W → Calls Try.prog 23 #[.pointer a, .int .i64 n] W fun e w' => e = .returned (.int .i64 r) ∧ Below W.heap.size W w') :
    Calls Try.prog 36 #[.agg (cc a n f k u)] w fun e w' => e = .returned (.int .i64 r) ∧ Below w.heap.size w w' := by
  have b0 := Lib.hid (fun o => (Below.refl w.heap.size w).alloc (Nat.le_refl _) o)
  go_enter Try.func36, Try.ntmps36
  go_wp2_with (go_at_call 23; refine (C _ (b0.out _)).mono ?_; rintro e w1 ⟨rfl, b1⟩; clear C)
  go_ret
  exact ⟨rfl, (b0.out _).trans (b1.mono (b0.out _).size)⟩
theorem text45 (a : Option Addr) (n f k : Int) (u : Option Addr) (w : World) (m : Nat) (xs : List Value) (C : ∀ W, Below w.heap.size w W → Calls Try.prog 19 #[.pointer a, .int .i64 n] W (OwnSaid 5 m xs W)) :
    Calls Try.prog 45 #[.agg (cc a n f k u)] w (OwnSaid 5 m xs w) := by
  have b0 := Lib.hid (fun o => (Below.refl w.heap.size w).alloc (Nat.le_refl _) o)
  unfold OwnSaid at C ⊢
  go_enter Try.func45, Try.ntmps45
  go_wp2_with (go_at_call 19; refine (C _ (b0.out _)).mono ?_; rintro e w1 ⟨A1, c1, rfl, o1, b1⟩; clear C)
  go_ret
  exact ⟨A1, c1, rfl, own_mono o1 (b0.out _).size, (b0.out _).trans (b1.mono (b0.out _).size)⟩
set_option maxRecDepth 100000 in
set_option maxHeartbeats 1000000 in
theorem span46 (a : Option Addr) (n f k : Int) (u : Option Addr) (w : World) (r : Int) (C : ∀ W, Below w.heap.size w W → Calls Try.prog 18 #[.pointer a, .int .i64 n] W fun e w' => e = .returned (.int .i64 r) ∧ Below W.heap.size W w') (h0 : 0 ≤ f) (h1 : f ≤ 1000000) (h2 : 0 ≤ r) (h3 : r ≤ 4294967296) :
    Calls Try.prog 46 #[.agg (cc a n f k u)] w fun e w' => e = .returned (.agg #[.int .i64 f, .int .i64 (f + r)]) ∧ Below w.heap.size w w' := by
  go_enter Try.func46, Try.ntmps46
  go_wp2_with fail
  have xB : ((w.alloc (.cells (cc a n f k u) 59)).alloc (.cells #[.int .i64 0, .int .i64 0] 72)).heap[w.heap.size]? = some (.cells (cc a n f k u) 59 (0, 0)) := (heap_alloc_old _ _ (by simp)).trans (heap_alloc_new w _)
  have xR : ((w.alloc (.cells (cc a n f k u) 59)).alloc (.cells #[.int .i64 0, .int .i64 0] 72)).heap[w.heap.size + 1]? = some (.cells #[.int .i64 0, .int .i64 0] 72 (0, 0)) := by
    have := heap_alloc_new (w.alloc (.cells (cc a n f k u) 59)) (.cells #[.int .i64 0, .int .i64 0] 72)
    simpa using this
  have b1 := ((Below.refl w.heap.size w).alloc (Nat.le_refl _) (.cells (cc a n f k u) 59)).alloc (by simp) (.cells #[.int .i64 0, .int .i64 0] 72)
  have hs1 : w.heap.size + 1 < ((w.alloc (.cells (cc a n f k u) 59)).alloc (.cells #[.int .i64 0, .int .i64 0] 72)).heap.size := by simp
  have u1 : IntKind.i64.wrap (f + r) = f + r := IntWalk.i64_in _ (by omega)
  generalize (w.alloc (.cells (cc a n f k u) 59)).alloc (.cells #[.int .i64 0, .int .i64 0] 72) = w1 at *
  refine wp_region_held_drew (S := fun W => W.heap[w.heap.size]? = some (.cells (cc a n f k u) 59 (0, 0))) (by kernel_rfl) xB (fun hHeld => ?_)
  change wpAnyH _ _ _ _ _ 12 #[false, false, false, false, false, false, false, false, false, false, false, false] _ _
  refine wpAnyH_take (i := 0) (oi := _) (v := ?_) rfl (by kernel_rfl) (by kernel_rfl) (by kernel_rfl) (fun _ _ _ h => h) (Or.inl ⟨by rfl, ?_⟩) hHeld ?_
  rotate_left
  · intro w9 hSw; go_simp; (try with_reducible rfl)
  simp only [List.getElem_toArray, List.getElem_cons_zero, Act.put, List.setIfInBounds_toArray, List.set_cons_zero, List.set_cons_succ]
  refine wpAnyH_take (i := 2) (oi := _) (v := ?_) rfl (by kernel_rfl) (by kernel_rfl) (by kernel_rfl) (fun _ _ _ h => h) (Or.inl ⟨by rfl, ?_⟩) hHeld ?_
  rotate_left
  · intro w9 hSw; go_simp; (try with_reducible rfl)
  simp only [List.getElem_toArray, List.getElem_cons_zero, List.getElem_cons_succ, Act.put, List.setIfInBounds_toArray, List.set_cons_zero, List.set_cons_succ]
  refine wpAnyH_take (i := 4) (oi := _) (v := ?_) rfl (by kernel_rfl) (by kernel_rfl) (by kernel_rfl) (fun _ _ _ h => h) (Or.inl ⟨by rfl, ?_⟩) hHeld ?_
  rotate_left
  · intro w9 hSw; go_simp; (try with_reducible rfl)
  simp only [List.getElem_toArray, List.getElem_cons_zero, List.getElem_cons_succ, Act.put, List.setIfInBounds_toArray, List.set_cons_zero, List.set_cons_succ]
  refine wpAnyH_take (i := 6) (oi := _) (v := ?_) rfl (by kernel_rfl) (by kernel_rfl) (by kernel_rfl) (fun _ _ _ h => h) (Or.inl ⟨by rfl, ?_⟩) hHeld ?_
  rotate_left
  · intro w9 hSw; go_simp; (try with_reducible rfl)
  simp only [List.getElem_toArray, List.getElem_cons_zero, List.getElem_cons_succ, Act.put, List.setIfInBounds_toArray, List.set_cons_zero, List.set_cons_succ]
  refine wpAnyH_take (i := 1) (oi := _) (v := ?_) rfl (by kernel_rfl) (by kernel_rfl) (by kernel_rfl) (fun _ _ _ h => h) (Or.inl ⟨by rfl, ?_⟩) hHeld ?_
  rotate_left
  · intro w9 hSw; have s2 := (cell_of_row w9 w.heap.size 2 _ _ _ hSw).trans (show _ = some (.int .i64 f) from rfl); go_simp; (try with_reducible rfl)
  simp only [List.getElem_toArray, List.getElem_cons_zero, List.getElem_cons_succ, Act.put, List.setIfInBounds_toArray, List.set_cons_zero, List.set_cons_succ]
  refine wpAnyH_take (i := 3) (oi := _) (v := ?_) rfl (by kernel_rfl) (by kernel_rfl) (by kernel_rfl) (fun _ _ _ h => h) (Or.inl ⟨by rfl, ?_⟩) hHeld ?_
  rotate_left
  · intro w9 hSw; have s2 := (cell_of_row w9 w.heap.size 2 _ _ _ hSw).trans (show _ = some (.int .i64 f) from rfl); go_simp; (try with_reducible rfl)
  simp only [List.getElem_toArray, List.getElem_cons_zero, List.getElem_cons_succ, Act.put, List.setIfInBounds_toArray, List.set_cons_zero, List.set_cons_succ]
  refine wpAnyH_take (i := 5) (oi := _) (v := ?_) rfl (by kernel_rfl) (by kernel_rfl) (by kernel_rfl) (fun _ _ _ h => h) (Or.inl ⟨by rfl, ?_⟩) hHeld ?_
  rotate_left
  · intro w9 hSw; have s0 := (cell_of_row w9 w.heap.size 0 _ _ _ hSw).trans (show _ = some (.pointer a) from rfl); go_simp; (try with_reducible rfl)
  simp only [List.getElem_toArray, List.getElem_cons_zero, List.getElem_cons_succ, Act.put, List.setIfInBounds_toArray, List.set_cons_zero, List.set_cons_succ]
  refine wpAnyH_take (i := 7) (oi := _) (v := ?_) rfl (by kernel_rfl) (by kernel_rfl) (by kernel_rfl) (fun _ _ _ h => h) (Or.inl ⟨by rfl, ?_⟩) hHeld ?_
  rotate_left
  · intro w9 hSw; have s1 := (cell_of_row w9 w.heap.size 1 _ _ _ hSw).trans (show _ = some (.int .i64 n) from rfl); go_simp; (try with_reducible rfl)
  simp only [List.getElem_toArray, List.getElem_cons_zero, List.getElem_cons_succ, Act.put, List.setIfInBounds_toArray, List.set_cons_zero, List.set_cons_succ]
  refine wpAnyH_ready (rs := [8]) (by kernel_rfl) (by simp) ?_
  refine AllReadyH.cons (o := _) rfl (fun K hK => ?_) AllReadyH.nil
  go_simp
  refine (C _ b1.drew).mono ?_
  rintro e w2 ⟨rfl, hb2⟩
  refine hK.out _ _ ((hb2.block w.heap.size (Nat.lt_of_succ_lt hs1)).trans hHeld) (fun hS1 => ?_)
  clear hK
  have yR := (hb2.block (w.heap.size + 1) hs1).trans (show w1.drew.heap[w.heap.size + 1]? = _ from xR)
  have bw2 := b1.drew.trans (hb2.mono (show w.heap.size ≤ w1.heap.size by omega))
  refine wpAnyH_take (i := 9) (oi := _) (v := ?_) rfl (by kernel_rfl) (by kernel_rfl) (by kernel_rfl) (fun _ _ _ h => h) (Or.inl ⟨by rfl, ?_⟩) hS1 ?_
  rotate_left
  · intro w9 hSw; have s9 := u1; go_simp; (try with_reducible rfl)
  simp only [List.getElem_toArray, List.getElem_cons_zero, List.getElem_cons_succ, Act.put, List.setIfInBounds_toArray, List.set_cons_zero, List.set_cons_succ]
  refine wpAnyH_take (i := 10) (oi := _) (v := ?_) rfl (by kernel_rfl) (by kernel_rfl) (by kernel_rfl) (fun _ _ _ h => h) (Or.inl ⟨by rfl, ?_⟩) hS1 ?_
  rotate_left
  · intro w9 hSw; go_simp; (try with_reducible rfl)
  simp only [List.getElem_toArray, List.getElem_cons_zero, List.getElem_cons_succ, Act.put, List.setIfInBounds_toArray, List.set_cons_zero, List.set_cons_succ]
  have y0 := cell_of_row w2 _ 0 _ _ _ yR
  have f0 := frozen_of_row w2 (w.heap.size + 1) 0 _ _ yR
  have yR1 := heap_setCell_same w2 (w.heap.size + 1) 0 _ _ (.int .i64 f) yR
  have y1 := cell_of_row _ _ 1 _ _ _ yR1
  have f1 := frozen_of_row _ (w.heap.size + 1) 1 _ _ yR1
  have YR2 := Lib.hid (heap_setCell_same _ (w.heap.size + 1) 1 _ _ (.int .i64 (f + r)) yR1)
  have B2 := Lib.hid ((bw2.setCell (p := ⟨w.heap.size + 1, 0, none⟩) (Nat.le_succ _) (.int .i64 f)).setCell (p := ⟨w.heap.size + 1, 1, none⟩) (Nat.le_succ _) (.int .i64 (f + r)))
  clear yR yR1
  refine wpAnyH_ready (rs := [11]) (by kernel_rfl) (by simp) ?_
  refine AllReadyH.cons (o := _) rfl (fun K hK => ?_) AllReadyH.nil
  go_simp
  refine hK.out _ _ (((heap_setCell_other _ ⟨w.heap.size + 1, 1, none⟩ w.heap.size _ (Nat.ne_of_lt (Nat.lt_succ_self _))).trans ((heap_setCell_other w2 ⟨w.heap.size + 1, 0, none⟩ w.heap.size _ (Nat.ne_of_lt (Nat.lt_succ_self _))).trans hS1))) (fun hS2 => ?_)
  clear hK
  refine wpAnyH_done (by kernel_rfl) ?_ _
  clear hS1 hS2 y0 f0 y1 f1
  go_wp2_with fail
  exact bodyPost_ret (v := .agg #[.int .i64 f, .int .i64 (f + r)]) (results_cell_row rfl _ _ (w.heap.size + 1) 72 _ (0, 0) _ rfl YR2.out Try.underlying72 rfl (by kernel_rfl)) rfl ⟨rfl, B2.out⟩
theorem has58 (f t at_ : Int) (w : World) : Calls Try.prog 58 #[.agg #[.int .i64 f, .int .i64 t], .int .i64 at_] w fun e w' => e = .returned (.bool (decide (f ≤ at_ ∧ at_ < t))) ∧ Below w.heap.size w w' := by
  by_cases h0 : f ≤ at_
  · by_cases h1 : at_ < t
    · go_enter Try.func58, Try.ntmps58
      go_wp2_with fail
      go_ret
      exact ⟨by simp [h0, h1], (Below.refl _ _).alloc (Nat.le_refl _) _⟩
    · have t1 : decide (at_ < t) = false := by simpa using h1
      go_enter Try.func58, Try.ntmps58
      go_wp2_with fail
      go_ret
      exact ⟨by simp, (Below.refl _ _).alloc (Nat.le_refl _) _⟩
  · have t1 : decide (f ≤ at_) = false := by simpa using h0
    go_enter Try.func58, Try.ntmps58
    go_wp2_with fail
    go_ret
    exact ⟨by simp, (Below.refl _ _).alloc (Nat.le_refl _) _⟩
end Go.Proofs.Ytbmbiffhgdkpiaa
