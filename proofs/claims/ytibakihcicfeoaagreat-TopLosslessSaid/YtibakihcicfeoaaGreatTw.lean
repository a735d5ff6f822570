/- The walks of a tree's Print and Cursor, of bytes.Equal, of the law's Short. No condition. -/
import Derived.Test.YtibakihcicfeoaaGreatTk
import Derived.Test.YtibakihcicfeoaaGreatTc
namespace Go.Proofs.YtibakihcicfeoaaGreat
open Go.RowKit

theorem cells5 {W : World} {b : Nat} {a0 : Option Addr} {n f k : Int} {u : Option Addr} (h : W.heap[b]? = some (.cells (cc a0 n f k u) 54 (0, 0))) :
    W.cell? ⟨b, 0, none⟩ = some (.pointer a0) ∧ W.cell? ⟨b, 1, none⟩ = some (.int .i64 n) ∧ W.cell? ⟨b, 2, none⟩ = some (.int .i64 f) ∧ W.cell? ⟨b, 3, none⟩ = some (.int .i64 k) ∧ W.cell? ⟨b, 4, none⟩ = some (.pointer u) :=
  ⟨cell_of_row W b 0 _ _ _ h, cell_of_row W b 1 _ _ _ h, cell_of_row W b 2 _ _ _ h, cell_of_row W b 3 _ _ _ h, cell_of_row W b 4 _ _ _ h⟩
/-- A tree's cells. -/
abbrev tcs (kd bom : Int) (AR : Option Addr) (nR cR : Nat) (AO : Option Addr) (nO cO : Nat) (ga : Nat) (root : Int) (AD : Option Addr) (nD cD : Nat) : Array Value := #[.int .i64 kd, .int .i64 bom, .slice AR nR cR, .slice AO nO cO, .pointer (some ⟨ga, 0, none⟩), .int .i64 root, .slice AD nD cD]
section
variable (kd bom : Int) (AR : Option Addr) (nR cR : Nat) (AO : Option Addr) (nO cO : Nat) (AD : Option Addr) (nD cD : Nat)
set_option maxRecDepth 100000 in
theorem print6 {w : World} {B ga root : Nat} {N : List GN} (h : Arena w B ga N) (hN : OkN N) (hr : root < N.length) (hp : (pr N (root : Nat)).length ≤ 65536) :
    Calls Tryz.prog 6 #[.agg (tcs kd bom AR nR cR AO nO cO ga (root : Nat) AD nD cD)] w (OwnSaid 5 (pr N (root : Nat)).length (ints .u8 (pr N (root : Nat))) w) := by
  have b0 := Lib.hid (fun o => (Below.refl w.heap.size w).alloc (Nat.le_refl _) o)
  have C := fun o => print19_at (h.below (b0.out o)) hr hN hp
  unfold OwnSaid at C ⊢
  go_enter Tryz.func6, Tryz.ntmps6
  go_wp2_with (go_at_call 16; refine (C _).mono ?_; rintro e w1 ⟨A1, c1, rfl, o1, b1⟩; clear C)
  go_ret
  exact ⟨A1, c1, rfl, own_mono o1 (b0.out _).size, (b0.out _).trans (b1.mono (b0.out _).size)⟩
set_option maxRecDepth 100000 in
theorem cursor19 {w : World} {B ga root : Nat} {N : List GN} (h : Arena w B ga N) (hr : root < N.length) :
    Calls Tryz.prog 19 #[.agg (tcs kd bom AR nR cR AO nO cO ga (root : Nat) AD nD cD)] w fun e w' => e = .returned (.agg (cc (some ⟨ga, 0, none⟩) (root : Nat) 0 0 none)) ∧ Below w.heap.size w w' := by
  have hX0 := (heap_alloc_old (w.alloc (.cells (tcs kd bom AR nR cR AO nO cO ga (root : Nat) AD nD cD) 31)) (.cells (cc none 0 0 0 none) 54) (by simp)).trans (heap_alloc_new w (.cells (tcs kd bom AR nR cR AO nO cO ga (root : Nat) AD nD cD) 31))
  have hT := two_new w (.cells (tcs kd bom AR nR cR AO nO cO ga (root : Nat) AD nD cD) 31) (.cells (cc none 0 0 0 none) 54)
  obtain ⟨X, hX⟩ : ∃ X, (w.alloc (.cells (tcs kd bom AR nR cR AO nO cO ga (root : Nat) AD nD cD) 31)).alloc (.cells (cc none 0 0 0 none) 54) = X := ⟨_, rfl⟩
  rw [hX] at hT hX0
  have x4 : X.cell? ⟨w.heap.size, 4, none⟩ = some (.pointer (some ⟨ga, 0, none⟩)) := cell_of_row X _ 4 _ _ _ hX0
  have x5 : X.cell? ⟨w.heap.size, 5, none⟩ = some (.int .i64 (root : Nat)) := cell_of_row X _ 5 _ _ _ hX0
  have hlt : w.heap.size + 1 < X.heap.size := by rw [← hX]; simp
  have C := (root32 (h.below hT.2) (root : Nat)).mono fun e w' hh => (show e = .returned (.tuple #[.agg (cc (some ⟨ga, 0, none⟩) (root : Nat) 0 0 none), .int .i64 0]) ∧ Below X.heap.size X w' from ⟨by
    have := hh.1
    rw [if_pos ⟨by omega, by omega⟩] at this
    exact this, hh.2⟩)
  have HT := Lib.hid hT.1
  have HB := Lib.hid hT.2
  clear hT hX0
  go_enter Tryz.func19, Tryz.ntmps19
  go_wp2_with fail
  refine C.mono ?_
  rintro e w1 ⟨rfl, b1⟩
  have HT1 := Lib.hid ((b1.block _ hlt).trans HT.out)
  have HB1 := Lib.hid (HB.out.trans (b1.mono HB.out.size))
  have hR := heap_alloc_new w1 (.cells (cc none 0 0 0 none) 54)
  have hsz : w.heap.size + 1 < w1.heap.size := Nat.lt_of_lt_of_le hlt b1.size
  clear C b1
  go_wp2_with (first
    | (refine wpList_putc rfl _ _ rfl w1.heap.size (some ⟨ga, 0, none⟩) (root : Nat) 0 0 none rfl rfl hR ?_; go_loud (intro w2 hR2 hg2; have HT2 := Lib.hid ((hg2.block (w.heap.size + 1) (by simp; omega) (by intro e; injection e with e; omega)).trans ((heap_alloc_old w1 _ hsz).trans HT1.out)); have HB2 := Lib.hid (Below.put (HB1.out.alloc HB1.out.size _) HB1.out.size hg2 (by have := HB1.out.size; simp; omega)); have d0 := (cells5 hR2).1; have d1 := (cells5 hR2).2.1; have d2 := (cells5 hR2).2.2.1; have d3 := (cells5 hR2).2.2.2.1; have d4 := (cells5 hR2).2.2.2.2; clear hR hg2))
    | (refine wpList_putc rfl _ _ rfl (w.heap.size + 1) (some ⟨ga, 0, none⟩) (root : Nat) 0 0 none rfl rfl HT2.out ?_; go_loud (intro w3 hR3 hg3; have HB3 := Lib.hid (Below.put HB2.out (by omega) hg3 HB2.out.size))))
  exact bodyPost_ret (results_cell_row rfl _ _ (w.heap.size + 1) 54 _ (0, 0) _ rfl hR3 Tryz.underlying54 rfl (by kernel_rfl)) rfl ⟨rfl, HB3.out⟩
end
set_option maxRecDepth 100000 in
theorem equal18 {w : World} {B1 B2 : Nat} (A A2 : Option Addr) (m c m2 c2 : Nat) (l : List Int) (h : Rd w B1 1 A m c (ints .u8 l)) (h2 : Rd w B2 1 A2 m2 c2 (ints .u8 l)) :
    Calls Tryz.prog 18 #[.slice A m c, .slice A2 m2 c2] w fun e w' => e = .returned (.bool true) ∧ Below w.heap.size w w' := by
  have s1 := run_str' h
  have s2 := run_str' h2
  clear h h2
  go_enter Tryz.func18, Tryz.ntmps18
  go_wp2_with fail
  go_ret
  exact ⟨by simp, Below.refl _ _⟩
set_option maxRecDepth 100000 in
/-- The first 400 bytes. -/
theorem short4 {w : World} (A : Option Addr) (n c : Nat) (zs : List Int) (h : Rd w w.heap.size 1 A n c (ints .u8 zs)) (hn : n ≤ 9223372036854775807) :
    Calls Tryz.prog 4 #[.slice A n c] w fun e w' => (∃ m c', e = .returned (.slice A m c') ∧ m ≤ 400 ∧ Rd w w.heap.size 1 A m c' (ints .u8 (zs.take m))) ∧ w = w' := by
  have hc := h.cap
  have HH := Lib.hid h
  clear h
  by_cases hm : 400 < n
  · have t0 : decide ((400 : Int) < (n : Int)) = true := by simp; omega
    have t1 : 400 ≤ c := by omega
    go_enter Tryz.func4, Tryz.ntmps4
    go_wp2_with fail
    go_ret
    refine ⟨⟨400, c, rfl, by omega, ?_⟩, rfl⟩
    have := HH.out.take (k := 400) (by omega)
    simpa [ints, List.map_take] using this
  · have t0 : decide ((400 : Int) < (n : Int)) = false := by simp; omega
    go_enter Tryz.func4, Tryz.ntmps4
    go_wp2_with fail
    go_ret
    refine ⟨⟨n, c, rfl, by omega, ?_⟩, rfl⟩
    rw [List.take_of_length_le (by rw [HH.out.int_len]; omega)]
    exact HH.out
end Go.Proofs.YtibakihcicfeoaaGreat
