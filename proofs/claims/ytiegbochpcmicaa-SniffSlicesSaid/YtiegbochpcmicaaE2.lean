/- The walk of sniff.Decode. No condition. -/
import Derived.Test.YtiegbochpcmicaaD9
import Derived.Test.YtiegbochpcmicaaE1
namespace Go.Proofs.Ytiegbochpcmicaa
open Go.RowKit

set_option maxRecDepth 100000 in
set_option maxHeartbeats 4000000 in
theorem decode42_core (A : Option Addr) (n c p : Nat) (kd : Int) (zs : List Int) (L : List It) (w : World) (h0 : Rd w w.heap.size 1 A n c (ints .u8 zs)) (hn : n ≤ 4096) (hp : p ≤ n) (hL : L.length ≤ 4096) (hat : ∀ k (h : k < L.length), L[k].2.1 ≤ 4096)
    (C44 : ∀ W, Below w.heap.size w W → Calls Try.prog 44 #[.slice A n c] W fun e w' => e = .returned (.tuple #[.int .i64 kd, .int .i64 (p : Nat)]) ∧ Below W.heap.size W w')
    (C46 : ∀ W A' c', Rd W W.heap.size 1 A' (n - p) c' (ints .u8 (zs.drop p)) → Calls Try.prog 46 #[.int .i64 kd, .slice A' (n - p) c'] W (PItemsSaid L W)) :
    Calls Try.prog 42 #[.slice A n c] w (DecIs kd p n L w) := by
  unfold DecIs
  have hcap := h0.cap
  have hmax := h0.max
  unfold maxLen at hmax
  have HAT := Lib.hid hat; clear hat
  have HB := ((Below.refl w.heap.size w).alloc (Nat.le_refl _) (.cells #[.int .i64 0, .int .i64 0, .slice none 0 0, .slice none 0 0] 50)).alloc (by simp) (.cells #[.int .i64 0, .int .i64 0, .slice none 0 0, .slice none 0 0] 50)
  have K44 := C44 _ HB; clear C44
  go_enter Try.func42, Try.ntmps42
  go_wp2_with (go_at_call 44; refine K44.mono ?_; rintro e w1 ⟨rfl, hb1⟩; clear K44; have hG := hb1.block (w.heap.size + 1) (by simp); rw [heap_alloc2_new] at hG; have hR := hb1.block w.heap.size (by simp; omega); rw [heap_alloc2_old] at hR; have hb0 := HB.trans (hb1.mono (by simp; omega)); have hsz1 : w.heap.size + 2 ≤ w1.heap.size := (by have := hb1.size; simp at this; omega); clear hb1 HB; have y0 : w1.cell? ⟨w.heap.size + 1, 0, none⟩ = some (.int .i64 0) := cell_of_row w1 (w.heap.size + 1) 0 _ _ _ hG; have y1 : w1.cell? ⟨w.heap.size + 1, 1, none⟩ = some (.int .i64 0) := cell_of_row w1 (w.heap.size + 1) 1 _ _ _ hG; have f1 := fun i => frozen_of_row w1 (w.heap.size + 1) i _ _ hG; have HG1 := Lib.hid (blk_set1 (blk_set0 hG (.int .i64 kd)) (.int .i64 (p : Nat))); have HR1 := Lib.hid ((heap_setCell_other (w1.setCell ⟨w.heap.size + 1, 0, none⟩ (.int .i64 kd)) ⟨w.heap.size + 1, 1, none⟩ w.heap.size (.int .i64 (p : Nat)) (by simp)).trans ((heap_setCell_other w1 ⟨w.heap.size + 1, 0, none⟩ w.heap.size (.int .i64 kd) (by simp)).trans hR)); clear hG hR; have hb2 := (hb0.setCell (p := ⟨w.heap.size + 1, 0, none⟩) (by simp) (.int .i64 kd)).setCell (p := ⟨w.heap.size + 1, 1, none⟩) (by simp) (.int .i64 (p : Nat)); clear hb0)
  clear y0 y1 f1
  generalize hW2 : (w1.setCell ⟨w.heap.size + 1, 0, none⟩ (.int .i64 kd)).setCell ⟨w.heap.size + 1, 1, none⟩ (.int .i64 (p : Nat)) = w2 at *
  have hsz2 : w.heap.size + 2 ≤ w2.heap.size := by rw [← hW2]; simpa [World.setCell] using hsz1
  clear hW2 hsz1
  refine wp_region_held_drew (S := fun W => W.cell? ⟨w.heap.size + 1, 0, none⟩ = some (.int .i64 kd) ∧ W.cell? ⟨w.heap.size + 1, 1, none⟩ = some (.int .i64 (p : Nat))) (by kernel_rfl) ⟨cell_of_row w2 (w.heap.size + 1) 0 _ _ _ HG1.out, cell_of_row w2 (w.heap.size + 1) 1 _ _ _ HG1.out⟩ (fun hHeld => ?_)
  change wpAnyH _ _ _ _ _ 9 #[false, false, false, false, false, false, false, false, false] _ _
  refine wpAnyH_take (i := 0) (oi := _) (v := ?_) rfl (by kernel_rfl) (by kernel_rfl) (by kernel_rfl) (fun _ _ _ h => h) (Or.inl ⟨by rfl, ?_⟩) hHeld ?_
  rotate_left
  · intro w9 hSw; obtain ⟨s0, s1⟩ := hSw; go_simp; (try with_reducible rfl)
  simp only [List.getElem_toArray, List.getElem_cons_zero, Act.put, List.setIfInBounds_toArray, List.set_cons_zero, List.set_cons_succ]
  refine wpAnyH_take (i := 1) (oi := _) (v := ?_) rfl (by kernel_rfl) (by kernel_rfl) (by kernel_rfl) (fun _ _ _ h => h) (Or.inl ⟨by rfl, ?_⟩) hHeld ?_
  rotate_left
  · intro w9 hSw; obtain ⟨s0, s1⟩ := hSw; go_simp; (try with_reducible rfl)
  simp only [List.getElem_toArray, List.getElem_cons_zero, List.getElem_cons_succ, Act.put, List.setIfInBounds_toArray, List.set_cons_zero, List.set_cons_succ]
  refine wpAnyH_take (i := 2) (oi := _) (v := ?_) rfl (by kernel_rfl) (by kernel_rfl) (by kernel_rfl) (fun _ _ _ h => h) (Or.inl ⟨by rfl, ?_⟩) hHeld ?_
  rotate_left
  · intro w9 hSw; obtain ⟨s0, s1⟩ := hSw; go_simp; (try with_reducible rfl)
  simp only [List.getElem_toArray, List.getElem_cons_zero, List.getElem_cons_succ, Act.put, List.setIfInBounds_toArray, List.set_cons_zero, List.set_cons_succ]
  refine wpAnyH_take (i := 3) (oi := _) (v := ?_) rfl (by kernel_rfl) (by kernel_rfl) (by kernel_rfl) (fun _ _ _ h => h) (Or.inl ⟨by rfl, ?_⟩) hHeld ?_
  rotate_left
  · intro w9 hSw; obtain ⟨s0, s1⟩ := hSw; go_simp; (try with_reducible rfl)
  simp only [List.getElem_toArray, List.getElem_cons_zero, List.getElem_cons_succ, Act.put, List.setIfInBounds_toArray, List.set_cons_zero, List.set_cons_succ]
  refine wpAnyH_take (i := 4) (oi := _) (v := ?_) rfl (by kernel_rfl) (by kernel_rfl) (by kernel_rfl) (fun _ _ _ h => h) (Or.inl ⟨by rfl, ?_⟩) hHeld ?_
  rotate_left
  · intro w9 hSw; obtain ⟨s0, s1⟩ := hSw; go_simp; (try with_reducible rfl)
  simp only [List.getElem_toArray, List.getElem_cons_zero, List.getElem_cons_succ, Act.put, List.setIfInBounds_toArray, List.set_cons_zero, List.set_cons_succ]
  refine wpAnyH_take (i := 5) (oi := _) (v := ?_) rfl (by kernel_rfl) (by kernel_rfl) (by kernel_rfl) (fun _ _ _ h => h) (Or.inl ⟨by rfl, ?_⟩) hHeld ?_
  rotate_left
  · intro w9 hSw; obtain ⟨s0, s1⟩ := hSw; go_simp; (try with_reducible rfl)
  simp only [List.getElem_toArray, List.getElem_cons_zero, List.getElem_cons_succ, Act.put, List.setIfInBounds_toArray, List.set_cons_zero, List.set_cons_succ]
  refine wpAnyH_take (i := 8) (oi := _) (v := ?_) rfl (by kernel_rfl) (by kernel_rfl) (by kernel_rfl) (fun _ _ _ h => h) (Or.inl ⟨by rfl, ?_⟩) hHeld ?_
  rotate_left
  · intro w9 hSw; obtain ⟨s0, s1⟩ := hSw; go_simp; (try with_reducible rfl)
  simp only [List.getElem_toArray, List.getElem_cons_zero, List.getElem_cons_succ, Act.put, List.setIfInBounds_toArray, List.set_cons_zero, List.set_cons_succ]
  have h5 := h0.from5 hp
  generalize (if c = p then A else Option.map (fun x => x.add p) A) = A5 at h5 ⊢
  have h6 : Rd w2.drew w2.drew.heap.size 1 A5 (n - p) (c - p) (ints .u8 (zs.drop p)) := (h5.below hb2.drew).more hb2.size
  clear h5 h0
  refine wpAnyH_ready (rs := [6]) (by kernel_rfl) (by simp) ?_
  refine AllReadyH.cons (o := _) rfl (fun K hK => ?_) AllReadyH.nil
  go_simp
  refine (C46 _ _ _ h6).mono ?_
  rintro e w3 ⟨A3, c3, rfl, hr3, hb3⟩
  refine hK.out _ _ ?_ (fun hHeld2 => ?_)
  · refine ⟨(hb3.cell ?_).trans hHeld.1, (hb3.cell ?_).trans hHeld.2⟩ <;> (simp; omega)
  clear hK

  refine wpAnyH_take (i := 7) (oi := _) (v := ?_) rfl (by kernel_rfl) (by kernel_rfl) (by kernel_rfl) (fun _ _ _ h => h) (Or.inl ⟨by rfl, ?_⟩) hHeld2 ?_
  rotate_left
  · intro w9 hSw; obtain ⟨s0, s1⟩ := hSw; go_simp; (try with_reducible rfl)
  simp only [List.getElem_toArray, List.getElem_cons_zero, List.getElem_cons_succ, Act.put, List.setIfInBounds_toArray, List.set_cons_zero, List.set_cons_succ]
  refine wpAnyH_done (by kernel_rfl) ?_ _
  have HB3 := Lib.hid ((hb3.block (w.heap.size + 1) (by simp; omega)).trans HG1.out)
  have HB2 := Lib.hid ((hb3.block w.heap.size (by simp; omega)).trans HR1.out)
  have hb0 := hb2.drew.trans (hb3.mono hb2.size)
  have hsz3 : w.heap.size + 2 ≤ w3.heap.size := by have := hb3.size; simp at this; omega
  clear hb3 hb2 HG1 HR1 hsz2 hHeld hHeld2 h6 C46
  go_wp2_with fail

  go_loopw [22] (fun i wr => ∃ (k : Nat) (vR vO : Value), k ≤ L.length ∧ i = .int .i64 k ∧ Hid (wr.heap[w.heap.size + 1]? = some (.cells #[.int .i64 kd, .int .i64 (p : Nat), vR, vO] 50 (0, 0))) ∧ wr.ownsRow w3.heap.size 21 1 vR k (ints .i32 (runesOf (L.take k))) ∧ wr.ownsRow w3.heap.size 3 1 vO k (ints .i64 (offsOf p (L.take k))) ∧ Hid (w3.grownBy wr (some (w.heap.size + 1))))
    (fun i _ => L.length - (intOf i).toNat)
  case atStart => exact ⟨0, .slice none 0 0, .slice none 0 0, Nat.zero_le _, rfl, HB3, World.ownsRow_nil _ _ _ _, World.ownsRow_nil _ _ _ _, World.grownBy.refl _ _⟩
  case round =>
    obtain ⟨k, vR, vO, hk, rfl, HB, hR, hO, HG⟩ := hrel
    have hsz := HG.out.size
    by_cases hlt : k < L.length
    · have hat := HAT.out k hlt
      have hs1 := runesOf_snoc L k hlt
      have hs2 := offsOf_snoc p L k hlt
      obtain ⟨b, off, rfl, hbb, hc⟩ := hr3.it_form (by omega)
      have hbg := not_text rfl rfl (hc 0 (by omega)).1 HB3.out
      obtain ⟨x0, x1, x2⟩ := hc k hlt
      have hbg' : some b ≠ some (w.heap.size + 1) := by simpa using hbg
      have x0 := HG.out.cell x0 hbg'
      have x1 := HG.out.cell x1 hbg'
      have x2 := HG.out.cell x2 hbg'
      have HC := Lib.hid hc
      clear hc hbg'
      generalize L[k] = it at x0 x1 x2 hat hs1 hs2
      obtain ⟨r, q, N⟩ := it
      simp only at x0 x1 x2 hat hs1 hs2
      have HS1 := Lib.hid hs1
      have HS2 := Lib.hid hs2
      clear hs1 hs2
      have y2 : ∀ X, (wr.alloc X).cell? ⟨w.heap.size + 1, 2, none⟩ = some vR := fun X => cell_old wr (w.heap.size + 1) 2 X _ (cell_of_row wr (w.heap.size + 1) 2 _ _ _ HB.out)
      have t1 : IntKind.i64.wrap ((q : Int) + (p : Int)) = (q : Int) + (p : Int) := IntWalk.i64_in _ (by omega)
      go_wp2_with (first | (at_builtin; refine wpList_pushG st37 rfl _ _ rfl _ rfl (hR.alloc _) [.int .i32 r] (wr.heap.size + 1) rfl (by simp) rfl (by simp [Value.oneCell']) (by omega) (by omega) (by simp; omega) ?_; intro v1 w1 hR1 hg1; obtain ⟨AR, cR, rfl, hR1⟩ := own_form hR1; have HB1 := (hg1.block (w.heap.size + 1) (by simp; omega) (own_not hR HB.out (by decide))).trans ((heap_alloc_old wr _ (by omega)).trans HB.out); have e1 : w1.cell? ⟨wr.heap.size, 1, none⟩ = some (.int .i64 (q : Nat)) := hg1.cell (cell_in wr _ 1 _ _ rfl) (own_ne hR (Nat.le_refl _)); have hO1 := (hO.alloc _).kept hg1 (own_apart hR hO (by decide)); have HG1 := Lib.hid ((HG.out.trans (World.grownBy_alloc wr _ _)).andThen hg1 (fun j hj => .inl (hR.lt j hj).1)); have hsz1 := HG1.out.size; have z1 : w1.cell? ⟨w.heap.size + 1, 1, none⟩ = some (.int .i64 (p : Nat)) := cell_of_row w1 (w.heap.size + 1) 1 _ _ _ HB1; have z2 : w1.cell? ⟨w.heap.size + 1, 2, none⟩ = some vR := cell_of_row w1 (w.heap.size + 1) 2 _ _ _ HB1; have z3 : w1.cell? ⟨w.heap.size + 1, 3, none⟩ = some vO := cell_of_row w1 (w.heap.size + 1) 3 _ _ _ HB1; have f2 := frozen_of_row w1 (w.heap.size + 1) 2 _ _ HB1; have f3 := frozen_of_row w1 (w.heap.size + 1) 3 _ _ HB1; have HB1 := Lib.hid HB1; have hR2 := ownsRow_setCell_below hR1 (a := ⟨w.heap.size + 1, 2, none⟩) (show w.heap.size + 1 < w3.heap.size by omega) (.slice AR (k + 1) cR); have hO2 := ownsRow_setCell_below hO1 (a := ⟨w.heap.size + 1, 2, none⟩) (show w.heap.size + 1 < w3.heap.size by omega) (.slice AR (k + 1) cR); clear hR1 hO1; clear hR hO HG HB hg1) | (at_builtin; refine wpList_pushG st48 rfl _ _ rfl _ rfl hO2 [.int .i64 ((q : Int) + (p : Int))] w1.heap.size rfl (by simp [World.setCell]) rfl (by simp [Value.oneCell']) (by omega) (by omega) (by simp; omega) ?_; intro v2 w2 hO3 hg2; obtain ⟨AO, cO, rfl, hO3⟩ := own_form hO3; have hS1 := blk_set2 HB1.out (.slice AR (k + 1) cR); have HB4 := (hg2.block (w.heap.size + 1) (by simp; omega) (own_not hO2 hS1 (by decide))).trans hS1; have hR3 := hR2.kept hg2 (own_apart hO2 hR2 (by decide)); have HG2 := Lib.hid ((HG1.out.trans (grownBy_set w1 (w.heap.size + 1) 2 (.slice AR (k + 1) cR))).andThen hg2 (fun j hj => .inl (hO2.lt j hj).1)); have hsz2 := HG2.out.size; have z4 : w2.cell? ⟨w.heap.size + 1, 3, none⟩ = some vO := cell_of_row w2 (w.heap.size + 1) 3 _ _ _ HB4; have f4 := frozen_of_row w2 (w.heap.size + 1) 3 _ _ HB4; have HB4 := Lib.hid HB4; clear hS1 hR2 hO2 hg2))
      go_roundw
      case rel => exact ⟨k + 1, _, _, by omega, by go_num, Lib.hid (blk_set3 HB4.out (.slice AO (k + 1) cO)), own_as (ownsRow_setCell_below hR3 (a := ⟨w.heap.size + 1, 3, none⟩) (show w.heap.size + 1 < w3.heap.size by omega) (.slice AO (k + 1) cO)) rfl (by rw [HS1.out]; simp [ints]), own_as (ownsRow_setCell_below hO3 (a := ⟨w.heap.size + 1, 3, none⟩) (show w.heap.size + 1 < w3.heap.size by omega) (.slice AO (k + 1) cO)) rfl (by rw [HS2.out]; simp [ints]), Lib.hid (HG2.out.trans (grownBy_set w2 (w.heap.size + 1) 3 (.slice AO (k + 1) cO)))⟩
      case measure => simp [intOf]; omega
    · obtain rfl : k = L.length := by omega
      rw [List.take_length] at hR hO
      have y3 : ∀ X, (wr.alloc X).cell? ⟨w.heap.size + 1, 3, none⟩ = some vO := fun X => cell_old wr (w.heap.size + 1) 3 X _ (cell_of_row wr (w.heap.size + 1) 3 _ _ _ HB.out)
      have y3' : wr.cell? ⟨w.heap.size + 1, 3, none⟩ = some vO := cell_of_row wr (w.heap.size + 1) 3 _ _ _ HB.out
      obtain ⟨AR, cR, rfl, hR⟩ := own_form hR
      go_wp2_with (at_builtin; refine wpList_pushG st48 rfl _ _ rfl _ rfl hO [.int .i64 n] wr.heap.size rfl rfl rfl (by simp [Value.oneCell']) (by omega) (by omega) (by omega) ?_; intro v1 w1 hO1 hg1; obtain ⟨AO, cO, rfl, hO1⟩ := own_form hO1; have HB1 := (hg1.block (w.heap.size + 1) (by omega) (own_not hO HB.out (by decide))).trans HB.out; have HR1 := (hg1.block w.heap.size (by omega) (fun e => absurd (hO.lt _ e.symm).1 (by omega))).trans ((HG.out.block w.heap.size (by omega) (some_ne_succ _)).trans HB2.out); have hR1 := hR.kept hg1 (own_apart hO hR (by decide)); have HG1 := Lib.hid (HG.out.andThen hg1 (fun j hj => .inl (hO.lt j hj).1)); have hsz1 := HG1.out.size; have z0 : w1.cell? ⟨w.heap.size + 1, 0, none⟩ = some (.int .i64 kd) := cell_of_row w1 (w.heap.size + 1) 0 _ _ _ HB1; have z1 : w1.cell? ⟨w.heap.size + 1, 1, none⟩ = some (.int .i64 (p : Nat)) := cell_of_row w1 (w.heap.size + 1) 1 _ _ _ HB1; have z2 : w1.cell? ⟨w.heap.size + 1, 2, none⟩ = some (.slice AR L.length cR) := cell_of_row w1 (w.heap.size + 1) 2 _ _ _ HB1; have z3 : w1.cell? ⟨w.heap.size + 1, 3, none⟩ = some vO := cell_of_row w1 (w.heap.size + 1) 3 _ _ _ HB1; have f3 := fun i => frozen_of_row w1 (w.heap.size + 1) i _ _ HB1; have r0 : w1.cell? ⟨w.heap.size, 0, none⟩ = some (.int .i64 0) := cell_of_row w1 w.heap.size 0 _ _ _ HR1; have r1 : w1.cell? ⟨w.heap.size, 1, none⟩ = some (.int .i64 0) := cell_of_row w1 w.heap.size 1 _ _ _ HR1; have r2 : w1.cell? ⟨w.heap.size, 2, none⟩ = some (.slice none 0 0) := cell_of_row w1 w.heap.size 2 _ _ _ HR1; have r3 : w1.cell? ⟨w.heap.size, 3, none⟩ = some (.slice none 0 0) := cell_of_row w1 w.heap.size 3 _ _ _ HR1; have f4 := fun i => frozen_of_row w1 w.heap.size i _ _ HR1; have HB1 := Lib.hid HB1; have HR1 := Lib.hid HR1; clear hR hO HG HB hg1)
      obtain ⟨e1, e2, e3, e4⟩ := dec_end (kd := kd) hb0 hsz3 HG1.out HR1.out hR1 hO1 _ rfl
      exact bodyPost_ret (v := .agg #[.int .i64 kd, .int .i64 (p : Nat), .slice AR L.length cR, .slice AO (L.length + 1) cO]) (results_cell_row rfl _ _ w.heap.size 50 _ (0, 0) _ rfl e1 Try.underlying50 rfl (by kernel_rfl)) rfl ⟨AR, cR, AO, cO, rfl, e2, e3, e4⟩

theorem decode42 (A : Option Addr) (n c : Nat) (zs : List Int) (w : World) (h : Rd w w.heap.size 1 A n c (ints .u8 zs)) (hz : Bytes8 zs) (hn : n ≤ 4096) :
    Calls Try.prog 42 #[.slice A n c] w (DecIs (pKind zs).1 (dBom zs) n (dItems zs) w) := by
  have hl := h.int_len
  have hp := dBom_le zs
  have hk := pKind_bd zs
  have hlen := dItems_le hz
  refine decode42_core A n c (dBom zs) (pKind zs).1 zs (dItems zs) w h hn (by omega) (by omega) (fun k hk' => ?_) (fun W hb => ?_) (fun W A' c' hr => ?_)
  · have := pItems_at (pKind zs).1 ⟨hk.1, hk.2.1⟩ (hz.drop (dBom zs)) k hk'
    rw [List.length_drop] at this
    exact Nat.le_trans this (by omega)
  · have := kind44 A n c zs W ((h.below hb).more hb.size) hz
    rw [dBom_eq] at this
    exact this
  · exact pieces46 (pKind zs).1 A' (n - dBom zs) c' (zs.drop (dBom zs)) W hr (hz.drop _) (by omega)
end Go.Proofs.Ytiegbochpcmicaa
