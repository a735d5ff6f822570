/- Cursors: the walks of beside, Next, Prev. No condition. -/
import Derived.Test.YtbmbiffhgdkpiaaR2
namespace Go.Proofs.Ytbmbiffhgdkpiaa
open Go.RowKit

theorem step_putc {ops : Array Oper} {o : Oper} {a : Act} {w : World} {K : Act → World → Prop} {Q : Exit → Act → World → Prop} {E : Prop} (hgd : o.guard = none) (x y : Operand) (ho : o.op = .store 59 x y)
    (g : Nat) (a0 : Option Addr) (n f k : Int) (u : Option Addr) (hx : a.eval x = .pointer (some ⟨g, 0, none⟩)) (hy : a.eval y = .agg (cc a0 n f k u))
    {b0 : Option Addr} {n' f' k' : Int} {u' : Option Addr} (hg : w.heap[g]? = some (.cells (cc b0 n' f' k' u') 59 (0, 0)))
    (h : ∀ w', w'.heap[g]? = some (.cells (cc a0 n f k u) 59 (0, 0)) → w.grownBy w' (some g) → K (a.put o.dst undef) w') : if Region.wanted o (yielded ops a.tmps) = true then o.wp Try.prog a w K Q else E := by
  rw [if_pos (by simp [Region.wanted, hgd])]
  exact wp_store_row 59 x y ho g (cc a0 n f k u) hx hy 59 (cc b0 n' f' k' u') hg (by kernel_rfl) rfl (cc_one _ _ _ _ _) (h _ (setRow_heap w g (cc b0 n' f' k' u') _ 59 _ hg) (setRow_grown w g _))
theorem beside64_root (a : Option Addr) (n f k d : Int) (w : World) : Calls Try.prog 64 #[.agg (cc a n f k none), .int .i64 d] w (NoCur w) := by
  unfold NoCur
  have T := fun o o' => two_new w o o'
  go_enter Try.func64, Try.ntmps64
  go_wp2_with fail
  exact bodyPost_ret (v := .tuple #[.agg (cc none 0 0 0 none), .bool false]) (results_row2 rfl _ _ (w.heap.size + 1) 59 _ (0, 0) _ _ rfl rfl (T _ _).1 Try.underlying59 rfl (by kernel_rfl)) rfl ⟨rfl, (T _ _).2⟩
set_option maxRecDepth 100000 in
set_option maxHeartbeats 4000000 in
theorem beside64 {w : World} {B ga : Nat} {N : List GN} (h : Arena w B ga N) (hN : OkN N) (n f k d : Int) (b i : Nat) (f' k' : Int) (u' : Option Addr) (hbU : w.heap[b]? = some (.cells (cc (some ⟨ga, 0, none⟩) (i : Nat) f' k' u') 59 (0, 0))) (hi : i < N.length) (hf0 : 0 ≤ f') (hf1 : f' ≤ 1000000) (hw : (gn N i).w ≤ 1000000)
    (hk0 : 0 ≤ k) (hk1 : k ≤ 1000000) (hd0 : -1 ≤ d) (hd1 : d ≤ 1) :
    Calls Try.prog 64 #[.agg (cc (some ⟨ga, 0, none⟩) n f k (some ⟨b, 0, none⟩)), .int .i64 d] w (DownSaid ga N i f' k' u' (k + d) w) := by
  obtain ⟨q, hqd⟩ : ∃ q, q = k + d := ⟨_, rfl⟩
  have hkd := Lib.hid (show IntKind.i64.wrap (k + d) = q by rw [hqd]; exact IntWalk.i64_in _ (by omega))
  rw [← hqd]
  clear hqd
  unfold DownSaid
  have hbl := (Array.getElem?_eq_some_iff.1 hbU).1
  have T := fun o o' => two_new w o o'
  by_cases hq : 0 ≤ q ∧ q < (gn N i).kids.length
  · simp only [if_pos hq]
    go_enter Try.func64, Try.ntmps64
    go_wp2_with fail
    have xB : ((w.alloc (.cells (cc (some ⟨ga, 0, none⟩) n f k (some ⟨b, 0, none⟩)) 59)).alloc (.cells (cc none 0 0 0 none) 59)).heap[w.heap.size]? = some (.cells (cc (some ⟨ga, 0, none⟩) n f k (some ⟨b, 0, none⟩)) 59 (0, 0)) := (heap_alloc_old _ _ (by simp)).trans (heap_alloc_new w _)
    have xU : ((w.alloc (.cells (cc (some ⟨ga, 0, none⟩) n f k (some ⟨b, 0, none⟩)) 59)).alloc (.cells (cc none 0 0 0 none) 59)).heap[b]? = some (.cells (cc (some ⟨ga, 0, none⟩) (i : Nat) f' k' u') 59 (0, 0)) := (heap_alloc_old _ _ (by simp; omega)).trans ((heap_alloc_old _ _ hbl).trans hbU)
    have xR := (T (.cells (cc (some ⟨ga, 0, none⟩) n f k (some ⟨b, 0, none⟩)) 59) (.cells (cc none 0 0 0 none) 59)).1
    have b1 := (T (.cells (cc (some ⟨ga, 0, none⟩) n f k (some ⟨b, 0, none⟩)) 59) (.cells (cc none 0 0 0 none) 59)).2
    have hs1 : w.heap.size + 1 < ((w.alloc (.cells (cc (some ⟨ga, 0, none⟩) n f k (some ⟨b, 0, none⟩)) 59)).alloc (.cells (cc none 0 0 0 none) 59)).heap.size := by simp
    have h1 := h.below b1
    clear T
    change Code.wp _ _ _ _ ((w.alloc (.cells (cc (some ⟨ga, 0, none⟩) n f k (some ⟨b, 0, none⟩)) 59)).alloc (.cells (cc none 0 0 0 none) 59))
    generalize (w.alloc (.cells (cc (some ⟨ga, 0, none⟩) n f k (some ⟨b, 0, none⟩)) 59)).alloc (.cells (cc none 0 0 0 none) 59) = w1 at *
    have C40 := down40 h1.drew hN i hi f' k' u' q hf0 hf1 hw
    unfold DownSaid at C40
    simp only [if_pos hq] at C40
    clear hq
    refine wp_region_held_drew (S := fun W => W.heap[w.heap.size]? = some (.cells (cc (some ⟨ga, 0, none⟩) n f k (some ⟨b, 0, none⟩)) 59 (0, 0)) ∧ W.heap[b]? = some (.cells (cc (some ⟨ga, 0, none⟩) (i : Nat) f' k' u') 59 (0, 0))) (by kernel_rfl) ⟨xB, xU⟩ (fun hHeld => ?_)
    change wpAnyH _ _ _ _ _ 13 #[false, false, false, false, false, false, false, false, false, false, false, false, false] _ _
    refine wpAnyH_take (i := 0) (oi := _) (v := ?_) rfl (by kernel_rfl) (by kernel_rfl) (by kernel_rfl) (fun _ _ _ h => h) (Or.inl ⟨by rfl, ?_⟩) hHeld ?_
    rotate_left
    · intro w9 hSw; go_simp; (try with_reducible rfl)
    simp only [List.getElem_toArray, List.getElem_cons_zero, Act.put, List.setIfInBounds_toArray, List.set_cons_zero, List.set_cons_succ]
    refine wpAnyH_take (i := 4) (oi := _) (v := ?_) rfl (by kernel_rfl) (by kernel_rfl) (by kernel_rfl) (fun _ _ _ h => h) (Or.inl ⟨by rfl, ?_⟩) hHeld ?_
    rotate_left
    · intro w9 hSw; go_simp; (try with_reducible rfl)
    simp only [List.getElem_toArray, List.getElem_cons_zero, List.getElem_cons_succ, Act.put, List.setIfInBounds_toArray, List.set_cons_zero, List.set_cons_succ]
    refine wpAnyH_take (i := 6) (oi := _) (v := ?_) rfl (by kernel_rfl) (by kernel_rfl) (by kernel_rfl) (fun _ _ _ h => h) (Or.inl ⟨by rfl, ?_⟩) hHeld ?_
    rotate_left
    · intro w9 hSw; go_simp; (try with_reducible rfl)
    simp only [List.getElem_toArray, List.getElem_cons_zero, List.getElem_cons_succ, Act.put, List.setIfInBounds_toArray, List.set_cons_zero, List.set_cons_succ]
    refine wpAnyH_take (i := 1) (oi := _) (v := ?_) rfl (by kernel_rfl) (by kernel_rfl) (by kernel_rfl) (fun _ _ _ h => h) (Or.inl ⟨by rfl, ?_⟩) hHeld ?_
    rotate_left
    · intro w9 hSw; have s4 := (cell_of_row w9 w.heap.size 4 _ _ _ hSw.1).trans (show _ = some (.pointer (some ⟨b, 0, none⟩)) from rfl); go_simp; (try with_reducible rfl)
    simp only [List.getElem_toArray, List.getElem_cons_zero, List.getElem_cons_succ, Act.put, List.setIfInBounds_toArray, List.set_cons_zero, List.set_cons_succ]
    refine wpAnyH_take (i := 2) (oi := _) (v := ?_) rfl (by kernel_rfl) (by kernel_rfl) (by kernel_rfl) (fun _ _ _ h => h) (Or.inl ⟨by rfl, ?_⟩) hHeld ?_
    rotate_left
    · intro w9 hSw; go_simp; (try with_reducible rfl)
    simp only [List.getElem_toArray, List.getElem_cons_zero, List.getElem_cons_succ, Act.put, List.setIfInBounds_toArray, List.set_cons_zero, List.set_cons_succ]
    refine wpAnyH_take (i := 3) (oi := _) (v := ?_) rfl (by kernel_rfl) (by kernel_rfl) (by kernel_rfl) (fun _ _ _ h => h) (Or.inl ⟨by rfl, ?_⟩) hHeld ?_
    rotate_left
    · intro w9 hSw; have s0 := (cell_of_row w9 b 0 _ _ _ hSw.2).trans (show _ = some (.pointer (some ⟨ga, 0, none⟩)) from rfl); have s1 := (cell_of_row w9 b 1 _ _ _ hSw.2).trans (show _ = some (.int .i64 (i : Nat)) from rfl); have s2 := (cell_of_row w9 b 2 _ _ _ hSw.2).trans (show _ = some (.int .i64 f') from rfl); have s3 := (cell_of_row w9 b 3 _ _ _ hSw.2).trans (show _ = some (.int .i64 k') from rfl); have s4 := (cell_of_row w9 b 4 _ _ _ hSw.2).trans (show _ = some (.pointer u') from rfl); go_simp; (try with_reducible rfl)
    simp only [List.getElem_toArray, List.getElem_cons_zero, List.getElem_cons_succ, Act.put, List.setIfInBounds_toArray, List.set_cons_zero, List.set_cons_succ]
    refine wpAnyH_take (i := 5) (oi := _) (v := ?_) rfl (by kernel_rfl) (by kernel_rfl) (by kernel_rfl) (fun _ _ _ h => h) (Or.inl ⟨by rfl, ?_⟩) hHeld ?_
    rotate_left
    · intro w9 hSw; have s3 := (cell_of_row w9 w.heap.size 3 _ _ _ hSw.1).trans (show _ = some (.int .i64 k) from rfl); go_simp; (try with_reducible rfl)
    simp only [List.getElem_toArray, List.getElem_cons_zero, List.getElem_cons_succ, Act.put, List.setIfInBounds_toArray, List.set_cons_zero, List.set_cons_succ]
    refine wpAnyH_take (i := 7) (oi := _) (v := ?_) rfl (by kernel_rfl) (by kernel_rfl) (by kernel_rfl) (fun _ _ _ h => h) (Or.inl ⟨by rfl, ?_⟩) hHeld ?_
    rotate_left
    · intro w9 hSw; have s9 := hkd.out; go_simp; (try with_reducible rfl)
    simp only [List.getElem_toArray, List.getElem_cons_zero, List.getElem_cons_succ, Act.put, List.setIfInBounds_toArray, List.set_cons_zero, List.set_cons_succ]
    refine wpAnyH_ready (rs := [8]) (by kernel_rfl) (by simp) ?_
    refine AllReadyH.cons (o := _) rfl (fun K hK => ?_) AllReadyH.nil
    go_simp
    refine C40.mono ?_
    rintro e w2 ⟨⟨b2, rfl, hb2g, hb2⟩, hw2⟩
    refine hK.out _ _ (⟨(hw2.block w.heap.size (Nat.lt_of_succ_lt hs1)).trans hHeld.1, (hw2.block b (Nat.lt_trans hbl (Nat.lt_of_succ_lt hs1))).trans hHeld.2⟩) (fun hS1 => ?_)
    clear hK
    have yR := (hw2.block (w.heap.size + 1) hs1).trans (show w1.drew.heap[w.heap.size + 1]? = _ from xR)
    have bw2 := b1.drew.trans (hw2.mono (show w.heap.size ≤ w1.heap.size by omega))
    refine wpAnyH_take (i := 9) (oi := _) (v := ?_) rfl (by kernel_rfl) (by kernel_rfl) (by kernel_rfl) (fun _ _ _ h => h) (Or.inl ⟨by rfl, ?_⟩) hS1 ?_
    rotate_left
    · intro w9 hSw; go_simp; (try with_reducible rfl)
    simp only [List.getElem_toArray, List.getElem_cons_zero, List.getElem_cons_succ, Act.put, List.setIfInBounds_toArray, List.set_cons_zero, List.set_cons_succ]
    refine wpAnyH_take (i := 10) (oi := _) (v := ?_) rfl (by kernel_rfl) (by kernel_rfl) (by kernel_rfl) (fun _ _ _ h => h) (Or.inl ⟨by rfl, ?_⟩) hS1 ?_
    rotate_left
    · intro w9 hSw; go_simp; (try with_reducible rfl)
    simp only [List.getElem_toArray, List.getElem_cons_zero, List.getElem_cons_succ, Act.put, List.setIfInBounds_toArray, List.set_cons_zero, List.set_cons_succ]
    refine wpAnyH_ready (rs := [11]) (by kernel_rfl) (by simp) ?_
    refine AllReadyH.cons (o := _) rfl (fun K hK => ?_) AllReadyH.nil
    refine step_putc rfl _ _ rfl (w.heap.size + 1) (some ⟨ga, 0, none⟩) (gz (gn N i).kids q.toNat) (f' + bW N (gn N i).kids q.toNat) q (some ⟨b2, 0, none⟩) rfl rfl yR ?_
    intro w3 hR3 hg3
    have bw3 := Below.put bw2 (Nat.le_succ _) hg3 bw2.size
    have HB2 := Lib.hid ((hg3.block b2 (Array.getElem?_eq_some_iff.1 hb2).1 (fun e => by injection e with e; have h8 : w1.heap.size ≤ b2 := hb2g; omega)).trans hb2)
    refine hK.out _ _ (⟨(hg3.block w.heap.size (Array.getElem?_eq_some_iff.1 hS1.1).1 (by simp)).trans hS1.1, (hg3.block b (Array.getElem?_eq_some_iff.1 hS1.2).1 (fun e => by injection e with e; omega)).trans hS1.2⟩) (fun hS2 => ?_)
    clear hK
    refine wpAnyH_take (i := 12) (oi := _) (v := ?_) rfl (by kernel_rfl) (by kernel_rfl) (by kernel_rfl) (fun _ _ _ h => h) (Or.inl ⟨by rfl, ?_⟩) hS2 ?_
    rotate_left
    · intro w9 hSw; go_simp; (try with_reducible rfl)
    simp only [List.getElem_toArray, List.getElem_cons_zero, List.getElem_cons_succ, Act.put, List.setIfInBounds_toArray, List.set_cons_zero, List.set_cons_succ]
    refine wpAnyH_done (by kernel_rfl) ?_ _
    go_wp2_with fail
    exact bodyPost_ret (v := .tuple #[.agg (cc (some ⟨ga, 0, none⟩) (gz (gn N i).kids q.toNat) (f' + bW N (gn N i).kids q.toNat) q (some ⟨b2, 0, none⟩)), .bool true]) (results_row2 rfl _ _ (w.heap.size + 1) 59 _ (0, 0) _ _ rfl rfl hR3 Try.underlying59 rfl (by kernel_rfl)) rfl ⟨⟨b2, rfl, Nat.le_trans (Nat.le_of_lt (Nat.lt_of_succ_lt hs1)) hb2g, HB2.out⟩, bw3⟩
  · simp only [if_neg hq]
    go_enter Try.func64, Try.ntmps64
    go_wp2_with fail
    have xB : ((w.alloc (.cells (cc (some ⟨ga, 0, none⟩) n f k (some ⟨b, 0, none⟩)) 59)).alloc (.cells (cc none 0 0 0 none) 59)).heap[w.heap.size]? = some (.cells (cc (some ⟨ga, 0, none⟩) n f k (some ⟨b, 0, none⟩)) 59 (0, 0)) := (heap_alloc_old _ _ (by simp)).trans (heap_alloc_new w _)
    have xU : ((w.alloc (.cells (cc (some ⟨ga, 0, none⟩) n f k (some ⟨b, 0, none⟩)) 59)).alloc (.cells (cc none 0 0 0 none) 59)).heap[b]? = some (.cells (cc (some ⟨ga, 0, none⟩) (i : Nat) f' k' u') 59 (0, 0)) := (heap_alloc_old _ _ (by simp; omega)).trans ((heap_alloc_old _ _ hbl).trans hbU)
    have xR := (T (.cells (cc (some ⟨ga, 0, none⟩) n f k (some ⟨b, 0, none⟩)) 59) (.cells (cc none 0 0 0 none) 59)).1
    have b1 := (T (.cells (cc (some ⟨ga, 0, none⟩) n f k (some ⟨b, 0, none⟩)) 59) (.cells (cc none 0 0 0 none) 59)).2
    have hs1 : w.heap.size + 1 < ((w.alloc (.cells (cc (some ⟨ga, 0, none⟩) n f k (some ⟨b, 0, none⟩)) 59)).alloc (.cells (cc none 0 0 0 none) 59)).heap.size := by simp
    have h1 := h.below b1
    clear T
    change Code.wp _ _ _ _ ((w.alloc (.cells (cc (some ⟨ga, 0, none⟩) n f k (some ⟨b, 0, none⟩)) 59)).alloc (.cells (cc none 0 0 0 none) 59))
    generalize (w.alloc (.cells (cc (some ⟨ga, 0, none⟩) n f k (some ⟨b, 0, none⟩)) 59)).alloc (.cells (cc none 0 0 0 none) 59) = w1 at *
    have C40 := down40 h1.drew hN i hi f' k' u' q hf0 hf1 hw
    unfold DownSaid at C40
    simp only [if_neg hq] at C40
    clear hq
    refine wp_region_held_drew (S := fun W => W.heap[w.heap.size]? = some (.cells (cc (some ⟨ga, 0, none⟩) n f k (some ⟨b, 0, none⟩)) 59 (0, 0)) ∧ W.heap[b]? = some (.cells (cc (some ⟨ga, 0, none⟩) (i : Nat) f' k' u') 59 (0, 0))) (by kernel_rfl) ⟨xB, xU⟩ (fun hHeld => ?_)
    change wpAnyH _ _ _ _ _ 13 #[false, false, false, false, false, false, false, false, false, false, false, false, false] _ _
    refine wpAnyH_take (i := 0) (oi := _) (v := ?_) rfl (by kernel_rfl) (by kernel_rfl) (by kernel_rfl) (fun _ _ _ h => h) (Or.inl ⟨by rfl, ?_⟩) hHeld ?_
    rotate_left
    · intro w9 hSw; go_simp; (try with_reducible rfl)
    simp only [List.getElem_toArray, List.getElem_cons_zero, Act.put, List.setIfInBounds_toArray, List.set_cons_zero, List.set_cons_succ]
    refine wpAnyH_take (i := 4) (oi := _) (v := ?_) rfl (by kernel_rfl) (by kernel_rfl) (by kernel_rfl) (fun _ _ _ h => h) (Or.inl ⟨by rfl, ?_⟩) hHeld ?_
    rotate_left
    · intro w9 hSw; go_simp; (try with_reducible rfl)
    simp only [List.getElem_toArray, List.getElem_cons_zero, List.getElem_cons_succ, Act.put, List.setIfInBounds_toArray, List.set_cons_zero, List.set_cons_succ]
    refine wpAnyH_take (i := 6) (oi := _) (v := ?_) rfl (by kernel_rfl) (by kernel_rfl) (by kernel_rfl) (fun _ _ _ h => h) (Or.inl ⟨by rfl, ?_⟩) hHeld ?_
    rotate_left
    · intro w9 hSw; go_simp; (try with_reducible rfl)
    simp only [List.getElem_toArray, List.getElem_cons_zero, List.getElem_cons_succ, Act.put, List.setIfInBounds_toArray, List.set_cons_zero, List.set_cons_succ]
    refine wpAnyH_take (i := 1) (oi := _) (v := ?_) rfl (by kernel_rfl) (by kernel_rfl) (by kernel_rfl) (fun _ _ _ h => h) (Or.inl ⟨by rfl, ?_⟩) hHeld ?_
    rotate_left
    · intro w9 hSw; have s4 := (cell_of_row w9 w.heap.size 4 _ _ _ hSw.1).trans (show _ = some (.pointer (some ⟨b, 0, none⟩)) from rfl); go_simp; (try with_reducible rfl)
    simp only [List.getElem_toArray, List.getElem_cons_zero, List.getElem_cons_succ, Act.put, List.setIfInBounds_toArray, List.set_cons_zero, List.set_cons_succ]
    refine wpAnyH_take (i := 2) (oi := _) (v := ?_) rfl (by kernel_rfl) (by kernel_rfl) (by kernel_rfl) (fun _ _ _ h => h) (Or.inl ⟨by rfl, ?_⟩) hHeld ?_
    rotate_left
    · intro w9 hSw; go_simp; (try with_reducible rfl)
    simp only [List.getElem_toArray, List.getElem_cons_zero, List.getElem_cons_succ, Act.put, List.setIfInBounds_toArray, List.set_cons_zero, List.set_cons_succ]
    refine wpAnyH_take (i := 3) (oi := _) (v := ?_) rfl (by kernel_rfl) (by kernel_rfl) (by kernel_rfl) (fun _ _ _ h => h) (Or.inl ⟨by rfl, ?_⟩) hHeld ?_
    rotate_left
    · intro w9 hSw; have s0 := (cell_of_row w9 b 0 _ _ _ hSw.2).trans (show _ = some (.pointer (some ⟨ga, 0, none⟩)) from rfl); have s1 := (cell_of_row w9 b 1 _ _ _ hSw.2).trans (show _ = some (.int .i64 (i : Nat)) from rfl); have s2 := (cell_of_row w9 b 2 _ _ _ hSw.2).trans (show _ = some (.int .i64 f') from rfl); have s3 := (cell_of_row w9 b 3 _ _ _ hSw.2).trans (show _ = some (.int .i64 k') from rfl); have s4 := (cell_of_row w9 b 4 _ _ _ hSw.2).trans (show _ = some (.pointer u') from rfl); go_simp; (try with_reducible rfl)
    simp only [List.getElem_toArray, List.getElem_cons_zero, List.getElem_cons_succ, Act.put, List.setIfInBounds_toArray, List.set_cons_zero, List.set_cons_succ]
    refine wpAnyH_take (i := 5) (oi := _) (v := ?_) rfl (by kernel_rfl) (by kernel_rfl) (by kernel_rfl) (fun _ _ _ h => h) (Or.inl ⟨by rfl, ?_⟩) hHeld ?_
    rotate_left
    · intro w9 hSw; have s3 := (cell_of_row w9 w.heap.size 3 _ _ _ hSw.1).trans (show _ = some (.int .i64 k) from rfl); go_simp; (try with_reducible rfl)
    simp only [List.getElem_toArray, List.getElem_cons_zero, List.getElem_cons_succ, Act.put, List.setIfInBounds_toArray, List.set_cons_zero, List.set_cons_succ]
    refine wpAnyH_take (i := 7) (oi := _) (v := ?_) rfl (by kernel_rfl) (by kernel_rfl) (by kernel_rfl) (fun _ _ _ h => h) (Or.inl ⟨by rfl, ?_⟩) hHeld ?_
    rotate_left
    · intro w9 hSw; have s9 := hkd.out; go_simp; (try with_reducible rfl)
    simp only [List.getElem_toArray, List.getElem_cons_zero, List.getElem_cons_succ, Act.put, List.setIfInBounds_toArray, List.set_cons_zero, List.set_cons_succ]
    refine wpAnyH_ready (rs := [8]) (by kernel_rfl) (by simp) ?_
    refine AllReadyH.cons (o := _) rfl (fun K hK => ?_) AllReadyH.nil
    go_simp
    refine C40.mono ?_
    rintro e w2 ⟨rfl, hw2⟩
    refine hK.out _ _ (⟨(hw2.block w.heap.size (Nat.lt_of_succ_lt hs1)).trans hHeld.1, (hw2.block b (Nat.lt_trans hbl (Nat.lt_of_succ_lt hs1))).trans hHeld.2⟩) (fun hS1 => ?_)
    clear hK
    have yR := (hw2.block (w.heap.size + 1) hs1).trans (show w1.drew.heap[w.heap.size + 1]? = _ from xR)
    have bw2 := b1.drew.trans (hw2.mono (show w.heap.size ≤ w1.heap.size by omega))
    refine wpAnyH_take (i := 9) (oi := _) (v := ?_) rfl (by kernel_rfl) (by kernel_rfl) (by kernel_rfl) (fun _ _ _ h => h) (Or.inl ⟨by rfl, ?_⟩) hS1 ?_
    rotate_left
    · intro w9 hSw; go_simp; (try with_reducible rfl)
    simp only [List.getElem_toArray, List.getElem_cons_zero, List.getElem_cons_succ, Act.put, List.setIfInBounds_toArray, List.set_cons_zero, List.set_cons_succ]
    refine wpAnyH_take (i := 10) (oi := _) (v := ?_) rfl (by kernel_rfl) (by kernel_rfl) (by kernel_rfl) (fun _ _ _ h => h) (Or.inl ⟨by rfl, ?_⟩) hS1 ?_
    rotate_left
    · intro w9 hSw; go_simp; (try with_reducible rfl)
    simp only [List.getElem_toArray, List.getElem_cons_zero, List.getElem_cons_succ, Act.put, List.setIfInBounds_toArray, List.set_cons_zero, List.set_cons_succ]
    refine wpAnyH_ready (rs := [11]) (by kernel_rfl) (by simp) ?_
    refine AllReadyH.cons (o := _) rfl (fun K hK => ?_) AllReadyH.nil
    refine step_putc rfl _ _ rfl (w.heap.size + 1) none 0 0 0 none rfl rfl yR ?_
    intro w3 hR3 hg3
    have bw3 := Below.put bw2 (Nat.le_succ _) hg3 bw2.size
    refine hK.out _ _ (⟨(hg3.block w.heap.size (Array.getElem?_eq_some_iff.1 hS1.1).1 (by simp)).trans hS1.1, (hg3.block b (Array.getElem?_eq_some_iff.1 hS1.2).1 (fun e => by injection e with e; omega)).trans hS1.2⟩) (fun hS2 => ?_)
    clear hK
    refine wpAnyH_take (i := 12) (oi := _) (v := ?_) rfl (by kernel_rfl) (by kernel_rfl) (by kernel_rfl) (fun _ _ _ h => h) (Or.inl ⟨by rfl, ?_⟩) hS2 ?_
    rotate_left
    · intro w9 hSw; go_simp; (try with_reducible rfl)
    simp only [List.getElem_toArray, List.getElem_cons_zero, List.getElem_cons_succ, Act.put, List.setIfInBounds_toArray, List.set_cons_zero, List.set_cons_succ]
    refine wpAnyH_done (by kernel_rfl) ?_ _
    go_wp2_with fail
    exact bodyPost_ret (v := .tuple #[.agg (cc none 0 0 0 none), .bool false]) (results_row2 rfl _ _ (w.heap.size + 1) 59 _ (0, 0) _ _ rfl rfl hR3 Try.underlying59 rfl (by kernel_rfl)) rfl ⟨rfl, bw3⟩

/-- Next and Prev, at the root. -/
theorem next42_root (a : Option Addr) (n f k : Int) (w : World) : Calls Try.prog 42 #[.agg (cc a n f k none)] w (NoCur w) := by
  unfold NoCur
  have C64 := fun W => beside64_root a n f k 1 W
  unfold NoCur at C64
  go_enter Try.func42, Try.ntmps42
  go_wp2_with (first
    | (go_at_call 64; refine (C64 _).mono ?_; rintro e w1 ⟨rfl, b1⟩; obtain ⟨-, hR, bw, hsw⟩ := two_blocks b1)
    | (refine wpList_putc rfl _ _ rfl (w.heap.size + 1) none 0 0 0 none rfl rfl hR ?_; intro w2 hR2 hg2))
  exact bodyPost_ret (v := .tuple #[.agg (cc none 0 0 0 none), .bool false]) (results_row2 rfl _ _ (w.heap.size + 1) 59 _ (0, 0) _ _ rfl rfl hR2 Try.underlying59 rfl (by kernel_rfl)) rfl ⟨rfl, Below.put bw (Nat.le_succ _) hg2 bw.size⟩
theorem prev43_root (a : Option Addr) (n f k : Int) (w : World) : Calls Try.prog 43 #[.agg (cc a n f k none)] w (NoCur w) := by
  unfold NoCur
  have C64 := fun W => beside64_root a n f k (-1) W
  unfold NoCur at C64
  go_enter Try.func43, Try.ntmps43
  go_wp2_with (first
    | (go_at_call 64; refine (C64 _).mono ?_; rintro e w1 ⟨rfl, b1⟩; obtain ⟨-, hR, bw, hsw⟩ := two_blocks b1)
    | (refine wpList_putc rfl _ _ rfl (w.heap.size + 1) none 0 0 0 none rfl rfl hR ?_; intro w2 hR2 hg2))
  exact bodyPost_ret (v := .tuple #[.agg (cc none 0 0 0 none), .bool false]) (results_row2 rfl _ _ (w.heap.size + 1) 59 _ (0, 0) _ _ rfl rfl hR2 Try.underlying59 rfl (by kernel_rfl)) rfl ⟨rfl, Below.put bw (Nat.le_succ _) hg2 bw.size⟩
set_option maxRecDepth 100000 in
set_option maxHeartbeats 2000000 in
theorem next42 {w : World} {B ga : Nat} {N : List GN} (h : Arena w B ga N) (hN : OkN N) (n f k : Int) (b i : Nat) (f' k' : Int) (u' : Option Addr) (hbU : w.heap[b]? = some (.cells (cc (some ⟨ga, 0, none⟩) (i : Nat) f' k' u') 59 (0, 0))) (hi : i < N.length) (hf0 : 0 ≤ f') (hf1 : f' ≤ 1000000) (hw : (gn N i).w ≤ 1000000)
    (hk0 : 0 ≤ k) (hk1 : k ≤ 1000000) :
    Calls Try.prog 42 #[.agg (cc (some ⟨ga, 0, none⟩) n f k (some ⟨b, 0, none⟩))] w (DownSaid ga N i f' k' u' (k + 1) w) := by
  have hbl := (Array.getElem?_eq_some_iff.1 hbU).1
  have C64 := fun o o' => beside64 (h.below (two_new w o o').2) hN n f k (1) b i f' k' u' (((two_new w o o').2.block b hbl).trans hbU) hi hf0 hf1 hw hk0 hk1 (by omega) (by omega)
  unfold DownSaid at C64 ⊢
  generalize k + 1 = q at *
  by_cases hq : 0 ≤ q ∧ q < (gn N i).kids.length
  · simp only [if_pos hq] at C64 ⊢
    clear hq
    go_enter Try.func42, Try.ntmps42
    go_wp2_with (first
      | (go_at_call 64; refine (C64 _ _).mono ?_; rintro e w1 ⟨⟨b2, rfl, hb2g, hb2⟩, b1⟩; obtain ⟨-, hR, bw, hsw⟩ := two_blocks b1; have hb2g' : w.heap.size + 2 ≤ b2 := by simp at hb2g; omega)
      | (refine wpList_putc rfl _ _ rfl (w.heap.size + 1) (some ⟨ga, 0, none⟩) (gz (gn N i).kids q.toNat) (f' + bW N (gn N i).kids q.toNat) q (some ⟨b2, 0, none⟩) rfl rfl hR ?_; intro w2 hR2 hg2))
    exact bodyPost_ret (v := .tuple #[.agg (cc (some ⟨ga, 0, none⟩) (gz (gn N i).kids q.toNat) (f' + bW N (gn N i).kids q.toNat) q (some ⟨b2, 0, none⟩)), .bool true]) (results_row2 rfl _ _ (w.heap.size + 1) 59 _ (0, 0) _ _ rfl rfl hR2 Try.underlying59 rfl (by kernel_rfl)) rfl
      ⟨⟨b2, rfl, by omega, (hg2.block b2 (Array.getElem?_eq_some_iff.1 hb2).1 (fun e => by injection e with e; omega)).trans hb2⟩, Below.put bw (Nat.le_succ _) hg2 bw.size⟩
  · simp only [if_neg hq] at C64 ⊢
    clear hq
    go_enter Try.func42, Try.ntmps42
    go_wp2_with (first
      | (go_at_call 64; refine (C64 _ _).mono ?_; rintro e w1 ⟨rfl, b1⟩; obtain ⟨-, hR, bw, hsw⟩ := two_blocks b1)
      | (refine wpList_putc rfl _ _ rfl (w.heap.size + 1) none 0 0 0 none rfl rfl hR ?_; intro w2 hR2 hg2))
    exact bodyPost_ret (v := .tuple #[.agg (cc none 0 0 0 none), .bool false]) (results_row2 rfl _ _ (w.heap.size + 1) 59 _ (0, 0) _ _ rfl rfl hR2 Try.underlying59 rfl (by kernel_rfl)) rfl ⟨rfl, Below.put bw (Nat.le_succ _) hg2 bw.size⟩
set_option maxRecDepth 100000 in
set_option maxHeartbeats 2000000 in
theorem prev43 {w : World} {B ga : Nat} {N : List GN} (h : Arena w B ga N) (hN : OkN N) (n f k : Int) (b i : Nat) (f' k' : Int) (u' : Option Addr) (hbU : w.heap[b]? = some (.cells (cc (some ⟨ga, 0, none⟩) (i : Nat) f' k' u') 59 (0, 0))) (hi : i < N.length) (hf0 : 0 ≤ f') (hf1 : f' ≤ 1000000) (hw : (gn N i).w ≤ 1000000)
    (hk0 : 0 ≤ k) (hk1 : k ≤ 1000000) :
    Calls Try.prog 43 #[.agg (cc (some ⟨ga, 0, none⟩) n f k (some ⟨b, 0, none⟩))] w (DownSaid ga N i f' k' u' (k + -1) w) := by
  have hbl := (Array.getElem?_eq_some_iff.1 hbU).1
  have C64 := fun o o' => beside64 (h.below (two_new w o o').2) hN n f k (-1) b i f' k' u' (((two_new w o o').2.block b hbl).trans hbU) hi hf0 hf1 hw hk0 hk1 (by omega) (by omega)
  unfold DownSaid at C64 ⊢
  generalize k + -1 = q at *
  by_cases hq : 0 ≤ q ∧ q < (gn N i).kids.length
  · simp only [if_pos hq] at C64 ⊢
    clear hq
    go_enter Try.func43, Try.ntmps43
    go_wp2_with (first
      | (go_at_call 64; refine (C64 _ _).mono ?_; rintro e w1 ⟨⟨b2, rfl, hb2g, hb2⟩, b1⟩; obtain ⟨-, hR, bw, hsw⟩ := two_blocks b1; have hb2g' : w.heap.size + 2 ≤ b2 := by simp at hb2g; omega)
      | (refine wpList_putc rfl _ _ rfl (w.heap.size + 1) (some ⟨ga, 0, none⟩) (gz (gn N i).kids q.toNat) (f' + bW N (gn N i).kids q.toNat) q (some ⟨b2, 0, none⟩) rfl rfl hR ?_; intro w2 hR2 hg2))
    exact bodyPost_ret (v := .tuple #[.agg (cc (some ⟨ga, 0, none⟩) (gz (gn N i).kids q.toNat) (f' + bW N (gn N i).kids q.toNat) q (some ⟨b2, 0, none⟩)), .bool true]) (results_row2 rfl _ _ (w.heap.size + 1) 59 _ (0, 0) _ _ rfl rfl hR2 Try.underlying59 rfl (by kernel_rfl)) rfl
      ⟨⟨b2, rfl, by omega, (hg2.block b2 (Array.getElem?_eq_some_iff.1 hb2).1 (fun e => by injection e with e; omega)).trans hb2⟩, Below.put bw (Nat.le_succ _) hg2 bw.size⟩
  · simp only [if_neg hq] at C64 ⊢
    clear hq
    go_enter Try.func43, Try.ntmps43
    go_wp2_with (first
      | (go_at_call 64; refine (C64 _ _).mono ?_; rintro e w1 ⟨rfl, b1⟩; obtain ⟨-, hR, bw, hsw⟩ := two_blocks b1)
      | (refine wpList_putc rfl _ _ rfl (w.heap.size + 1) none 0 0 0 none rfl rfl hR ?_; intro w2 hR2 hg2))
    exact bodyPost_ret (v := .tuple #[.agg (cc none 0 0 0 none), .bool false]) (results_row2 rfl _ _ (w.heap.size + 1) 59 _ (0, 0) _ _ rfl rfl hR2 Try.underlying59 rfl (by kernel_rfl)) rfl ⟨rfl, Below.put bw (Nat.le_succ _) hg2 bw.size⟩
end Go.Proofs.Ytbmbiffhgdkpiaa
