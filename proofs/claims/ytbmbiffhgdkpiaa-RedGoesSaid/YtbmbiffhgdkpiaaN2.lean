/- The walks of an arena's add and Leaf. No condition. -/
import Derived.Test.YtbmbiffhgdkpiaaN1
namespace Go.Proofs.Ytbmbiffhgdkpiaa
open Go.RowKit

/-- What a call leaves that writes to arenas alone: all blocks but rows of nodes and arenas. -/
structure Kept9 (w w' : World) : Prop where
  os : w'.os = w.os
  tape : w'.tape = w.tape
  output : w'.output = w.output
  size : w.heap.size ≤ w'.heap.size
  blk : ∀ (k : Nat) (ob : Obj), w.heap[k]? = some ob → (∀ cs fr, ob ≠ Obj.cells cs 90 fr) → (∀ cs fr, ob ≠ Obj.cells cs 83 fr) → w'.heap[k]? = some ob
theorem Kept9.refl (w : World) : Kept9 w w := ⟨rfl, rfl, rfl, Nat.le_refl _, fun _ _ h _ _ => h⟩
theorem Kept9.trans {a b c : World} (h : Kept9 a b) (k : Kept9 b c) : Kept9 a c :=
  ⟨k.os.trans h.os, k.tape.trans h.tape, k.output.trans h.output, Nat.le_trans h.size k.size, fun i ob hi h1 h2 => k.blk i ob (h.blk i ob hi h1 h2) h1 h2⟩
theorem Kept9.of_below {w w' : World} (h : Below w.heap.size w w') : Kept9 w w' :=
  ⟨h.os, h.tape, h.output, h.size, fun k _ hk _ _ => (h.block k (Array.getElem?_eq_some_iff.1 hk).1).trans hk⟩
theorem Kept9.own {w w' : World} (h : Kept9 w w') {B : Nat} {e : TypeId} {sz n : Nat} {v : Value} {xs : List Value} (ho : w.ownsRow B e sz v n xs) (h1 : e ≠ 90) (h2 : e ≠ 83) : w'.ownsRow B e sz v n xs := by
  obtain ⟨hl, hn | ⟨g, cap, cur, hv, hb, hg, r⟩⟩ := ho
  · exact ⟨hl, .inl hn⟩
  · refine ⟨hl, .inr ⟨g, cap, cur, hv, hb, h.blk g _ hg (fun cs fr e => ?_) (fun cs fr e => ?_), r⟩⟩
    · injection e with _ e2 _; exact h1 e2
    · injection e with _ e2 _; exact h2 e2

/-- An arena's row of nodes grown by one, and the arena's cell set anew. -/
theorem arena_put {w w1 : World} {B ga : Nat} {N : List GN} {bv kv : Nat → Value} {v v1 bx kx : Value} {x : GN} (hBg : B ≤ ga) (hg : w.heap[ga]? = some (.cells #[v] 83 (0, 0))) (ho : w.ownsRow B 90 6 v N.length (rowsOf N bv kv))
    (hi : ∀ i, i < N.length → w.ownsRow B 5 1 (bv i) (gn N i).b.length (ints .u8 (gn N i).b) ∧ w.ownsRow B 3 1 (kv i) (gn N i).kids.length (ints .i64 (gn N i).kids))
    (h5 : w.ownsRow B 5 1 bx x.b.length (ints .u8 x.b)) (h6 : w.ownsRow B 3 1 kx x.kids.length (ints .i64 x.kids)) (hB : B ≤ w.heap.size)
    (ho1 : w1.ownsRow B 90 6 v1 (N.length + 1) (rowsOf N bv kv ++ gcells x bx kx)) (hgr : w.grownBy w1 v.ownBlock) :
    Arena (w1.setCell ⟨ga, 0, none⟩ v1) B ga (N ++ [x]) ∧ Kept9 w (w1.setCell ⟨ga, 0, none⟩ v1) ∧ Below B w (w1.setCell ⟨ga, 0, none⟩ v1) := by
  have hne := own_not ho hg (by decide)
  have hg1 := (hgr.block ga (Array.getElem?_eq_some_iff.1 hg).1 hne).trans hg
  have hne1 := own_not ho1 hg1 (by decide)
  have keep : ∀ {e : TypeId} {n : Nat} {u : Value} {xs : List Value}, e ≠ 90 → e ≠ 83 → w.ownsRow B e 1 u n xs → (w1.setCell ⟨ga, 0, none⟩ v1).ownsRow B e 1 u n xs := fun h90 h83 h => by
    have hk := h.kept hgr (own_apart ho h (Ne.symm h90))
    exact ownsRow_setCell_other hk (fun e => own_not hk hg1 h83 e.symm) v1
  refine ⟨⟨hBg, v1, (fun i => if i = N.length then bx else bv i), (fun i => if i = N.length then kx else kv i), heap_setCell_same w1 ga 0 _ _ v1 hg1, ?_, fun i hlt => ?_⟩, ⟨hgr.os, hgr.tape, hgr.output, Nat.le_trans hgr.size (by simp [World.setCell]), fun k ob hk h90 h83 => ?_⟩, ?_⟩
  · rw [rowsOf_snoc, List.length_append]
    exact ownsRow_setCell_other ho1 (fun e => hne1 e.symm) v1
  · rw [List.length_append, List.length_singleton] at hlt
    rcases Nat.lt_or_ge i N.length with h | h
    · have hn : i ≠ N.length := by omega
      rw [gn_snoc_lt N x h]
      simp only [hn, if_false]
      exact ⟨keep (by decide) (by decide) (hi i h).1, keep (by decide) (by decide) (hi i h).2⟩
    · obtain rfl : i = N.length := by omega
      rw [gn_snoc_at]
      simp only [if_true]
      exact ⟨keep (by decide) (by decide) h5, keep (by decide) (by decide) h6⟩
  · have hkg : k ≠ ga := fun e => by subst e; rw [hg] at hk; exact h83 _ _ (Option.some.inj hk).symm
    rw [heap_setCell_other _ _ _ _ hkg]
    refine (hgr.block k (Array.getElem?_eq_some_iff.1 hk).1 (fun e => ?_)).trans hk
    rcases ho.2 with ⟨rfl, _⟩ | ⟨g, cap, cur, rfl, _, hgg, _⟩
    · cases e
    · have : k = g := by simpa [Value.ownBlock] using e
      subst this
      rw [hgg] at hk
      exact h90 _ _ (Option.some.inj hk).symm
  · refine Below.setCell ?_ hBg v1
    exact (Below.refl B w).grown hgr hB (fun k hk => (ho.lt k hk).1)

set_option maxRecDepth 100000 in
set_option maxHeartbeats 4000000 in
theorem add56 {w : World} {B ga : Nat} {N : List GN} (h : Arena w B ga N) (x : GN) (A5 A6 : Option Addr) (n5 c5 n6 c6 : Nat) (h5 : w.ownsRow B 5 1 (.slice A5 n5 c5) x.b.length (ints .u8 x.b)) (h6 : w.ownsRow B 3 1 (.slice A6 n6 c6) x.kids.length (ints .i64 x.kids)) (hn : N.length ≤ 65536) (hB : B ≤ w.heap.size) :
    Calls Try.prog 56 #[.pointer (some ⟨ga, 0, none⟩), .agg #[.int .i64 x.kind, .int .i64 x.w, .int .i64 x.cnt, .bool x.leaf, .slice A5 n5 c5, .slice A6 n6 c6]] w fun e w' => e = .returned (.int .i64 N.length) ∧ Arena w' B ga (N ++ [x]) ∧ Kept9 w w' ∧ Below B w w' := by
  have hlt := h.lt
  obtain ⟨hBg, v, bv, kv, hg, ho, hi⟩ := h
  obtain ⟨A, c, rfl, ho⟩ := own_form ho
  have HG := Lib.hid hg
  have HI := Lib.hid hi
  have e0 : w.cell? ⟨ga, 0, none⟩ = some (.slice A N.length c) := cell_of_row w ga 0 _ _ _ hg
  clear hg hi
  go_enter Try.func56, Try.ntmps56
  go_wp2_with fail
  have hne := own_not ho HG.out (by decide)
  have t1 : IntKind.i64.wrap ((N.length : Int) + 1 - 1) = (N.length : Int) := by rw [show (N.length : Int) + 1 - 1 = N.length by omega]; exact IntWalk.i64_in _ (by omega)
  have hcell : ∀ u ∈ gcells x (.slice A5 n5 c5) (.slice A6 n6 c6), u.oneCell' = true := by intro u hu; simp [gcells] at hu; rcases hu with rfl | rfl | rfl | rfl | rfl | rfl <;> rfl
  refine wp_region_held_drew (S := fun W => W.cell? ⟨w.heap.size, 0, none⟩ = some (.int .i64 x.kind) ∧ W.cell? ⟨w.heap.size, 1, none⟩ = some (.int .i64 x.w) ∧ W.cell? ⟨w.heap.size, 2, none⟩ = some (.int .i64 x.cnt) ∧ W.cell? ⟨w.heap.size, 3, none⟩ = some (.bool x.leaf) ∧ W.cell? ⟨w.heap.size, 4, none⟩ = some (.slice A5 n5 c5) ∧ W.cell? ⟨w.heap.size, 5, none⟩ = some (.slice A6 n6 c6)) (by kernel_rfl) ⟨cell_in w _ 0 _ _ rfl, cell_in w _ 1 _ _ rfl, cell_in w _ 2 _ _ rfl, cell_in w _ 3 _ _ rfl, cell_in w _ 4 _ _ rfl, cell_in w _ 5 _ _ rfl⟩ (fun hHeld => ?_)
  change wpAnyH _ _ _ _ _ 11 #[false, false, false, false, false, false, false, false, false, false, false] _ _
  refine wpAnyH_take (i := 0) (oi := _) (v := ?_) rfl (by kernel_rfl) (by kernel_rfl) (by kernel_rfl) (fun _ _ _ h => h) (Or.inl ⟨by rfl, ?_⟩) hHeld ?_
  rotate_left
  · intro w9 hSw; obtain ⟨s0, s1, s2, s3, s4, s5⟩ := hSw; go_simp; (try with_reducible rfl)
  simp only [List.getElem_toArray, List.getElem_cons_zero, Act.put, List.setIfInBounds_toArray, List.set_cons_zero, List.set_cons_succ]
  refine wpAnyH_take (i := 1) (oi := _) (v := ?_) rfl (by kernel_rfl) (by kernel_rfl) (by kernel_rfl) (fun _ _ _ h => h) (Or.inl ⟨by rfl, ?_⟩) hHeld ?_
  rotate_left
  · intro w9 hSw; obtain ⟨s0, s1, s2, s3, s4, s5⟩ := hSw; go_simp; (try with_reducible rfl)
  simp only [List.getElem_toArray, List.getElem_cons_zero, List.getElem_cons_succ, Act.put, List.setIfInBounds_toArray, List.set_cons_zero, List.set_cons_succ]
  refine wpAnyH_take (i := 2) (oi := _) (v := ?_) rfl (by kernel_rfl) (by kernel_rfl) (by kernel_rfl) (fun _ _ _ h => h) (Or.inl ⟨by rfl, ?_⟩) hHeld ?_
  rotate_left
  · intro w9 hSw; obtain ⟨s0, s1, s2, s3, s4, s5⟩ := hSw; go_simp; (try with_reducible rfl)
  simp only [List.getElem_toArray, List.getElem_cons_zero, List.getElem_cons_succ, Act.put, List.setIfInBounds_toArray, List.set_cons_zero, List.set_cons_succ]
  refine wpAnyH_take (i := 3) (oi := _) (v := ?_) rfl (by kernel_rfl) (by kernel_rfl) (by kernel_rfl) (fun _ _ _ h => h) (Or.inl ⟨by rfl, ?_⟩) hHeld ?_
  rotate_left
  · intro w9 hSw; obtain ⟨s0, s1, s2, s3, s4, s5⟩ := hSw; go_simp; (try with_reducible rfl)
  simp only [List.getElem_toArray, List.getElem_cons_zero, List.getElem_cons_succ, Act.put, List.setIfInBounds_toArray, List.set_cons_zero, List.set_cons_succ]
  refine wpAnyH_take (i := 5) (oi := _) (v := ?_) rfl (by kernel_rfl) (by kernel_rfl) (by kernel_rfl) (fun _ _ _ h => h) (Or.inl ⟨by rfl, ?_⟩) hHeld ?_
  rotate_left
  · intro w9 hSw; obtain ⟨s0, s1, s2, s3, s4, s5⟩ := hSw; go_simp; (try with_reducible rfl)
  simp only [List.getElem_toArray, List.getElem_cons_zero, List.getElem_cons_succ, Act.put, List.setIfInBounds_toArray, List.set_cons_zero, List.set_cons_succ]
  have d0 := fun X => cell_old w ga 0 X _ e0
  obtain ⟨v1, w1, hrun, ho1, hg1⟩ := run_pushG (P := Try.prog) (W0 := (w.alloc (.cells #[.int .i64 x.kind, .int .i64 x.w, .int .i64 x.cnt, .bool x.leaf, .slice A5 n5 c5, .slice A6 n6 c6] 90)).drew) st81 81 _ (ho.alloc _).drew (gcells x (.slice A5 n5 c5) (.slice A6 n6 c6)) (w.heap.size + 1) (by simp) rfl hcell (by omega) (by omega) (by simp; omega)
  have hgr : w.grownBy w1 (Value.slice A N.length c).ownBlock := ⟨hg1.os, hg1.tape, hg1.output, Nat.le_trans (by simp) hg1.size, fun k hk hk2 => (hg1.block k (by simp; omega) hk2).trans (heap_alloc_old w _ hk)⟩
  have hbx : some w.heap.size ≠ (Value.slice A N.length c).ownBlock := fun e => absurd (ho.lt _ e.symm).2 (by omega)
  obtain ⟨q0, q1, q2, q3, q4, q5⟩ := id hHeld
  have b0 := hg1.cell q0 hbx
  have b1 := hg1.cell q1 hbx
  have b2 := hg1.cell q2 hbx
  have b3 := hg1.cell q3 hbx
  have b4 := hg1.cell q4 hbx
  have b5 := hg1.cell q5 hbx
  obtain ⟨A1, c1, rfl, ho1⟩ := own_form ho1
  have hG1 := (hgr.block ga hlt hne).trans HG.out
  have z0 : w1.cell? ⟨ga, 0, none⟩ = some (.slice A N.length c) := cell_of_row w1 ga 0 _ _ _ hG1
  have f0 := frozen_of_row w1 ga 0 _ _ hG1
  have hput := Lib.hid (arena_put hBg HG.out ho HI.out h5 h6 hB ho1 hgr)
  have hga : ∀ j u, w1.cell? ⟨w.heap.size, j, none⟩ = some u → (w1.setCell ⟨ga, 0, none⟩ (.slice A1 (N.length + 1) c1)).cell? ⟨w.heap.size, j, none⟩ = some u := fun j u h => by
    rw [World.cell?_setCell_other w1 _ _ _ (fun e => by injection e with e1; omega)]; exact h
  have k0 := hga _ _ b0
  have k1 := hga _ _ b1
  have k2 := hga _ _ b2
  have k3 := hga _ _ b3
  have k4 := hga _ _ b4
  have k5 := hga _ _ b5
  clear hga hG1 hg1 hgr hbx ho1 q0 q1 q2 q3 q4 q5
  change (Builtin.append_ #[81, 81] 81 #[.slice A N.length c, .slice (some ⟨w.heap.size + 1, 0, none⟩) 1 1]).run Try.prog ((w.alloc (.cells #[.int .i64 x.kind, .int .i64 x.w, .int .i64 x.cnt, .bool x.leaf, .slice A5 n5 c5, .slice A6 n6 c6] 90)).alloc (.cells #[.int .i64 x.kind, .int .i64 x.w, .int .i64 x.cnt, .bool x.leaf, .slice A5 n5 c5, .slice A6 n6 c6] 90)).drew = _ at hrun
  have o0 : ∀ j u, (w.alloc (.cells #[.int .i64 x.kind, .int .i64 x.w, .int .i64 x.cnt, .bool x.leaf, .slice A5 n5 c5, .slice A6 n6 c6] 90)).drew.cell? ⟨w.heap.size, j, none⟩ = some u → ((w.alloc (.cells #[.int .i64 x.kind, .int .i64 x.w, .int .i64 x.cnt, .bool x.leaf, .slice A5 n5 c5, .slice A6 n6 c6] 90)).alloc (.cells #[.int .i64 x.kind, .int .i64 x.w, .int .i64 x.cnt, .bool x.leaf, .slice A5 n5 c5, .slice A6 n6 c6] 90)).drew.cell? ⟨w.heap.size, j, none⟩ = some u := fun j u h => cell_old (w.alloc (.cells #[.int .i64 x.kind, .int .i64 x.w, .int .i64 x.cnt, .bool x.leaf, .slice A5 n5 c5, .slice A6 n6 c6] 90)) _ j _ u h
  refine wpAnyH_ready (rs := [4, 6]) (by kernel_rfl) (by simp) ?_
  refine AllReadyH.cons (o := _) rfl (fun K hK => ?_) (AllReadyH.cons (o := _) rfl (fun K hK => ?_) AllReadyH.nil)
  · go_simp
    refine hK.out _ _ hHeld (fun _ => ?_)
    clear hK
    refine wpAnyH_ready (rs := [6]) (by kernel_rfl) (by simp) ?_
    refine AllReadyH.cons (o := _) rfl (fun K hK => ?_) AllReadyH.nil
    go_simp
    obtain ⟨q0, q1, q2, q3, q4, q5⟩ := id hHeld
    refine hK.out _ _ ⟨o0 _ _ q0, o0 _ _ q1, o0 _ _ q2, o0 _ _ q3, o0 _ _ q4, o0 _ _ q5⟩ (fun _ => ?_)
    clear hK q0 q1 q2 q3 q4 q5
    refine wpAnyH_ready (rs := [7]) (by kernel_rfl) (by simp) ?_
    refine AllReadyH.cons (o := _) rfl (fun K hK => ?_) AllReadyH.nil
    refine wp_append 81 81 _ _ ⟨rfl, rfl⟩ _ _ rfl rfl _ _ hrun ?_
    refine hK.out _ _ ⟨b0, b1, b2, b3, b4, b5⟩ (fun hHeld2 => ?_)
    clear hK
    simp only [List.getElem_toArray, List.getElem_cons_zero, List.getElem_cons_succ, Act.put, List.setIfInBounds_toArray, List.set_cons_zero, List.set_cons_succ]
    refine wpAnyH_take (i := 8) (oi := _) (v := ?_) rfl (by kernel_rfl) (by kernel_rfl) (by kernel_rfl) (fun _ _ _ h => h) (Or.inl ⟨by rfl, ?_⟩) hHeld2 ?_
    rotate_left
    · intro w9 hSw; obtain ⟨s0, s1, s2, s3, s4, s5⟩ := hSw; go_simp; (try with_reducible rfl)
    simp only [List.getElem_toArray, List.getElem_cons_zero, List.getElem_cons_succ, Act.put, List.setIfInBounds_toArray, List.set_cons_zero, List.set_cons_succ]
    refine wpAnyH_take (i := 9) (oi := _) (v := ?_) rfl (by kernel_rfl) (by kernel_rfl) (by kernel_rfl) (fun _ _ _ h => h) (Or.inl ⟨by rfl, ?_⟩) hHeld2 ?_
    rotate_left
    · intro w9 hSw; obtain ⟨s0, s1, s2, s3, s4, s5⟩ := hSw; go_simp; (try with_reducible rfl)
    simp only [List.getElem_toArray, List.getElem_cons_zero, List.getElem_cons_succ, Act.put, List.setIfInBounds_toArray, List.set_cons_zero, List.set_cons_succ]
    refine wpAnyH_ready (rs := [10]) (by kernel_rfl) (by simp) ?_
    refine AllReadyH.cons (o := _) rfl (fun K hK => ?_) AllReadyH.nil
    go_simp
    refine hK.out _ _ ⟨k0, k1, k2, k3, k4, k5⟩ (fun _ => ?_)
    clear hK
    refine wpAnyH_done (by kernel_rfl) ?_ _
    clear b0 b1 b2 b3 b4 b5 k0 k1 k2 k3 k4 k5 hHeld hHeld2 hrun
    go_wp2_with fail
    go_ret
    exact ⟨rfl, hput.out.1, hput.out.2.1, hput.out.2.2⟩
  · go_simp
    obtain ⟨q0, q1, q2, q3, q4, q5⟩ := id hHeld
    refine hK.out _ _ ⟨o0 _ _ q0, o0 _ _ q1, o0 _ _ q2, o0 _ _ q3, o0 _ _ q4, o0 _ _ q5⟩ (fun hHeld1 => ?_)
    clear hK q0 q1 q2 q3 q4 q5
    refine wpAnyH_ready (rs := [4]) (by kernel_rfl) (by simp) ?_
    refine AllReadyH.cons (o := _) rfl (fun K hK => ?_) AllReadyH.nil
    go_simp
    refine hK.out _ _ hHeld1 (fun _ => ?_)
    clear hK hHeld1
    refine wpAnyH_ready (rs := [7]) (by kernel_rfl) (by simp) ?_
    refine AllReadyH.cons (o := _) rfl (fun K hK => ?_) AllReadyH.nil
    refine wp_append 81 81 _ _ ⟨rfl, rfl⟩ _ _ rfl rfl _ _ hrun ?_
    refine hK.out _ _ ⟨b0, b1, b2, b3, b4, b5⟩ (fun hHeld2 => ?_)
    clear hK
    simp only [List.getElem_toArray, List.getElem_cons_zero, List.getElem_cons_succ, Act.put, List.setIfInBounds_toArray, List.set_cons_zero, List.set_cons_succ]
    refine wpAnyH_take (i := 8) (oi := _) (v := ?_) rfl (by kernel_rfl) (by kernel_rfl) (by kernel_rfl) (fun _ _ _ h => h) (Or.inl ⟨by rfl, ?_⟩) hHeld2 ?_
    rotate_left
    · intro w9 hSw; obtain ⟨s0, s1, s2, s3, s4, s5⟩ := hSw; go_simp; (try with_reducible rfl)
    simp only [List.getElem_toArray, List.getElem_cons_zero, List.getElem_cons_succ, Act.put, List.setIfInBounds_toArray, List.set_cons_zero, List.set_cons_succ]
    refine wpAnyH_take (i := 9) (oi := _) (v := ?_) rfl (by kernel_rfl) (by kernel_rfl) (by kernel_rfl) (fun _ _ _ h => h) (Or.inl ⟨by rfl, ?_⟩) hHeld2 ?_
    rotate_left
    · intro w9 hSw; obtain ⟨s0, s1, s2, s3, s4, s5⟩ := hSw; go_simp; (try with_reducible rfl)
    simp only [List.getElem_toArray, List.getElem_cons_zero, List.getElem_cons_succ, Act.put, List.setIfInBounds_toArray, List.set_cons_zero, List.set_cons_succ]
    refine wpAnyH_ready (rs := [10]) (by kernel_rfl) (by simp) ?_
    refine AllReadyH.cons (o := _) rfl (fun K hK => ?_) AllReadyH.nil
    go_simp
    refine hK.out _ _ ⟨k0, k1, k2, k3, k4, k5⟩ (fun _ => ?_)
    clear hK
    refine wpAnyH_done (by kernel_rfl) ?_ _
    clear b0 b1 b2 b3 b4 b5 k0 k1 k2 k3 k4 k5 hHeld hHeld2 hrun
    go_wp2_with fail
    go_ret
    exact ⟨rfl, hput.out.1, hput.out.2.1, hput.out.2.2⟩

end Go.Proofs.Ytbmbiffhgdkpiaa
