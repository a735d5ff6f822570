/- The walks of an arena's of, and of what is asked of a node. No condition. -/
import Derived.Test.YtbmbiffhgdkpiaaN5
namespace Go.Proofs.Ytbmbiffhgdkpiaa
open Go.RowKit

/-- What is handed back of a node. -/
def NodeSaid (B : Nat) (x : GN) (w : World) (e : Ending) (w' : World) : Prop := ∃ A5 c5 A6 c6, e = .returned (.agg #[.int .i64 x.kind, .int .i64 x.w, .int .i64 x.cnt, .bool x.leaf, .slice A5 x.b.length c5, .slice A6 x.kids.length c6]) ∧
  w'.ownsRow B 5 1 (.slice A5 x.b.length c5) x.b.length (ints .u8 x.b) ∧ w'.ownsRow B 3 1 (.slice A6 x.kids.length c6) x.kids.length (ints .i64 x.kids) ∧ Below w.heap.size w w'

set_option maxRecDepth 100000 in
set_option maxHeartbeats 1000000 in
theorem of53_at {w : World} {B ga : Nat} {N : List GN} (h : Arena w B ga N) (i : Nat) (hi : i < N.length) : Calls Try.prog 53 #[.pointer (some ⟨ga, 0, none⟩), .int .i64 i] w (NodeSaid B (gn N i) w) := by
  unfold NodeSaid
  have C17 := fun (W : World) (hb : Below w.heap.size w W) => len17 (h.below hb)
  obtain ⟨g, c, bv, kv, hs, hn⟩ := h.node
  have hs := hs (by omega)
  obtain ⟨n0, n1, n2, n3, n4, n5, o5, o6⟩ := hn i hi
  obtain ⟨A5, c5, hv5, ho5⟩ := own_form o5
  obtain ⟨A6, c6, hv6, ho6⟩ := own_form o6
  rw [hv5] at n4
  rw [hv6] at n5
  have hlt := h.lt
  have hgl := World.block_lt_of_cell? _ _ n0
  clear hn o5 o6 hv5 hv6 h
  have C := C17 _ ((Below.refl w.heap.size w).alloc (Nat.le_refl _) (.cells #[.int .i64 0, .int .i64 0, .int .i64 0, .bool false, .slice none 0 0, .slice none 0 0] 90))
  clear C17
  have t0 : decide ((N.length : Int) ≤ (i : Int)) = false := by simp; omega
  generalize gn N i = x at *
  have ho5 := Lib.hid ho5
  have ho6 := Lib.hid ho6
  have m0 := fun X => cell_old w g (i * 6) X _ n0
  have m1 := fun X => cell_old w g (i * 6 + 1) X _ n1
  have m2 := fun X => cell_old w g (i * 6 + 2) X _ n2
  have m3 := fun X => cell_old w g (i * 6 + 3) X _ n3
  have m4 := fun X => cell_old w g (i * 6 + 4) X _ n4
  have m5 := fun X => cell_old w g (i * 6 + 5) X _ n5
  have ms := fun X => cell_old w ga 0 X _ hs
  clear n0 n1 n2 n3 n4 n5 hs
  go_enter Try.func53, Try.ntmps53
  go_wp2_with (go_at_call 17; refine C.mono ?_; rintro e w1 ⟨rfl, rfl⟩; clear C)
  exact bodyPost_ret (v := .agg #[.int .i64 x.kind, .int .i64 x.w, .int .i64 x.cnt, .bool x.leaf, .slice A5 x.b.length c5, .slice A6 x.kids.length c6]) (results_cell_row rfl _ _ w.heap.size 90 _ (0, 0) _ rfl (heap_alloc_new w _) Try.underlying90 rfl (by kernel_rfl)) rfl
    ⟨A5, c5, A6, c6, rfl, own_below ho5.out ((Below.refl _ _).alloc (Nat.le_refl _) _), own_below ho6.out ((Below.refl _ _).alloc (Nat.le_refl _) _), (Below.refl _ _).alloc (Nat.le_refl _) _⟩

/-- A node; the zero one, if there is none. -/
def gq (N : List GN) (n : Int) : GN := if 0 ≤ n ∧ n < N.length then gn N n.toNat else ⟨0, 0, 0, false, [], []⟩
set_option maxRecDepth 100000 in
set_option maxHeartbeats 1000000 in
theorem of53_out {w : World} {B ga : Nat} {N : List GN} (h : Arena w B ga N) (n : Int) (hn : ¬ (0 ≤ n ∧ n < N.length)) : Calls Try.prog 53 #[.pointer (some ⟨ga, 0, none⟩), .int .i64 n] w (NodeSaid B ⟨0, 0, 0, false, [], []⟩ w) := by
  unfold NodeSaid
  have C := len17 (h.below ((Below.refl w.heap.size w).alloc (Nat.le_refl _) (.cells #[.int .i64 0, .int .i64 0, .int .i64 0, .bool false, .slice none 0 0, .slice none 0 0] 90)))
  clear h
  have hcase : decide (n < 0) = true ∨ (decide (n < 0) = false ∧ decide ((N.length : Int) ≤ n) = true) := by simp; omega
  clear hn
  rcases hcase with t0 | ⟨t0, t1⟩
  all_goals
    go_enter Try.func53, Try.ntmps53
    go_wp2_with (go_at_call 17; refine C.mono ?_; rintro e w1 ⟨rfl, rfl⟩; clear C)
    exact bodyPost_ret (v := .agg #[.int .i64 0, .int .i64 0, .int .i64 0, .bool false, .slice none 0 0, .slice none 0 0]) (results_cell_row rfl _ _ w.heap.size 90 _ (0, 0) _ rfl (heap_alloc_new w _) Try.underlying90 rfl (by kernel_rfl)) rfl
      ⟨none, 0, none, 0, rfl, World.ownsRow_nil _ _ _ _, World.ownsRow_nil _ _ _ _, (Below.refl _ _).alloc (Nat.le_refl _) _⟩
theorem of53 {w : World} {B ga : Nat} {N : List GN} (h : Arena w B ga N) (n : Int) : Calls Try.prog 53 #[.pointer (some ⟨ga, 0, none⟩), .int .i64 n] w (NodeSaid B (gq N n) w) := by
  unfold gq
  by_cases hn : 0 ≤ n ∧ n < N.length
  · rw [if_pos hn]
    obtain ⟨i, rfl⟩ := Int.eq_ofNat_of_zero_le hn.1
    exact of53_at h i (by omega)
  · rw [if_neg hn]
    exact of53_out h n hn
set_option maxRecDepth 100000 in
theorem kind23 {w : World} {B ga : Nat} {N : List GN} (h : Arena w B ga N) (n : Int) : Calls Try.prog 23 #[.pointer (some ⟨ga, 0, none⟩), .int .i64 n] w fun e w' => e = .returned (.int .i64 (gq N n).kind) ∧ Below w.heap.size w w' := by
  have C := of53 h n
  unfold NodeSaid at C
  clear h
  generalize gq N n = x at C ⊢
  have q0 := fld0
  have q1 := fld1
  have q2 := fld2
  have q3 := fld3
  go_enter Try.func23, Try.ntmps23
  go_wp2_with (go_at_call 53; refine C.mono ?_; rintro e w1 ⟨A5, c5, A6, c6, rfl, _, _, hb1⟩; clear C)
  go_ret
  exact ⟨rfl, hb1⟩
set_option maxRecDepth 100000 in
theorem width18 {w : World} {B ga : Nat} {N : List GN} (h : Arena w B ga N) (n : Int) : Calls Try.prog 18 #[.pointer (some ⟨ga, 0, none⟩), .int .i64 n] w fun e w' => e = .returned (.int .i64 (gq N n).w) ∧ Below w.heap.size w w' := by
  have C := of53 h n
  unfold NodeSaid at C
  clear h
  generalize gq N n = x at C ⊢
  have q0 := fld0
  have q1 := fld1
  have q2 := fld2
  have q3 := fld3
  go_enter Try.func18, Try.ntmps18
  go_wp2_with (go_at_call 53; refine C.mono ?_; rintro e w1 ⟨A5, c5, A6, c6, rfl, _, _, hb1⟩; clear C)
  go_ret
  exact ⟨rfl, hb1⟩
set_option maxRecDepth 100000 in
theorem count30 {w : World} {B ga : Nat} {N : List GN} (h : Arena w B ga N) (n : Int) : Calls Try.prog 30 #[.pointer (some ⟨ga, 0, none⟩), .int .i64 n] w fun e w' => e = .returned (.int .i64 (gq N n).cnt) ∧ Below w.heap.size w w' := by
  have C := of53 h n
  unfold NodeSaid at C
  clear h
  generalize gq N n = x at C ⊢
  have q0 := fld0
  have q1 := fld1
  have q2 := fld2
  have q3 := fld3
  go_enter Try.func30, Try.ntmps30
  go_wp2_with (go_at_call 53; refine C.mono ?_; rintro e w1 ⟨A5, c5, A6, c6, rfl, _, _, hb1⟩; clear C)
  go_ret
  exact ⟨rfl, hb1⟩
set_option maxRecDepth 100000 in
theorem leafy29 {w : World} {B ga : Nat} {N : List GN} (h : Arena w B ga N) (n : Int) : Calls Try.prog 29 #[.pointer (some ⟨ga, 0, none⟩), .int .i64 n] w fun e w' => e = .returned (.bool (gq N n).leaf) ∧ Below w.heap.size w w' := by
  have C := of53 h n
  unfold NodeSaid at C
  clear h
  generalize gq N n = x at C ⊢
  have q0 := fld0
  have q1 := fld1
  have q2 := fld2
  have q3 := fld3
  go_enter Try.func29, Try.ntmps29
  go_wp2_with (go_at_call 53; refine C.mono ?_; rintro e w1 ⟨A5, c5, A6, c6, rfl, _, _, hb1⟩; clear C)
  go_ret
  exact ⟨rfl, hb1⟩
set_option maxRecDepth 100000 in
theorem bytes27 {w : World} {B ga : Nat} {N : List GN} (h : Arena w B ga N) (n : Int) (hl : (gq N n).b.length ≤ 65536) : Calls Try.prog 27 #[.pointer (some ⟨ga, 0, none⟩), .int .i64 n] w (OwnSaid 5 (gq N n).b.length (ints .u8 (gq N n).b) w) := by
  have C := of53 h n
  unfold NodeSaid at C
  unfold OwnSaid
  clear h
  generalize gq N n = x at C hl ⊢
  have q4 := fld4
  have q5 := fld5
  have CC := fun A c W hW => clone57 A x.b.length c x.b W hW hl
  unfold OwnSaid at CC
  go_enter Try.func27, Try.ntmps27
  go_wp2_with (first | (go_at_call 53; refine C.mono ?_; rintro e w1 ⟨A5, c5, A6, c6, rfl, o5, o6, hb1⟩; clear C) | (go_at_call 57; refine (CC _ _ _ (Rd.of_own o5)).mono ?_; rintro e w2 ⟨A7, c7, rfl, o7, hb2⟩; clear CC))
  go_ret
  exact ⟨A7, c7, rfl, own_mono o7 hb1.size, hb1.trans (hb2.mono hb1.size)⟩
set_option maxRecDepth 100000 in
theorem kids28 {w : World} {B ga : Nat} {N : List GN} (h : Arena w B ga N) (n : Int) (hl : (gq N n).kids.length ≤ 65536) : Calls Try.prog 28 #[.pointer (some ⟨ga, 0, none⟩), .int .i64 n] w (OwnSaid 3 (gq N n).kids.length (ints .i64 (gq N n).kids) w) := by
  have C := of53 h n
  unfold NodeSaid at C
  unfold OwnSaid
  clear h
  generalize gq N n = x at C hl ⊢
  have q4 := fld4
  have q5 := fld5
  have CC := fun A c W hW => clone55 A x.kids.length c x.kids W hW hl
  unfold OwnSaid at CC
  go_enter Try.func28, Try.ntmps28
  go_wp2_with (first | (go_at_call 53; refine C.mono ?_; rintro e w1 ⟨A5, c5, A6, c6, rfl, o5, o6, hb1⟩; clear C) | (go_at_call 55; refine (CC _ _ _ (Rd.of_own o6)).mono ?_; rintro e w2 ⟨A7, c7, rfl, o7, hb2⟩; clear CC))
  go_ret
  exact ⟨A7, c7, rfl, own_mono o7 hb1.size, hb1.trans (hb2.mono hb1.size)⟩

end Go.Proofs.Ytbmbiffhgdkpiaa
