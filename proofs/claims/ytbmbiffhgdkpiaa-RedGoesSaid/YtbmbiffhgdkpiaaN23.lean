/- Calls that came in, in memory; the walk of the law GreenPlays. No condition. -/
import Derived.Test.YtbmbiffhgdkpiaaN22
import Derived.Deep.Slices
import Derived.Deep.Fields
import Derived.ChangeSame
import Derived.OpenShut
namespace Go.Proofs.Ytbmbiffhgdkpiaa
open Go.RowKit Go.ChangeShapes Go.WideShapes Go.Deep

/-- A call in memory. -/
def OpAt (w : World) (B b o : Nat) : Prop := ∃ (o0 o1 o4 o5 : Int) (AB : Option Addr) (nB cB : Nat) (AK : Option Addr) (nK cK : Nat) (AP : Option Addr) (nP cP : Nat) (back : Bool),
  w.cell? ⟨b, o, none⟩ = some (.int .i64 o0) ∧ w.cell? ⟨b, o + 1, none⟩ = some (.int .i64 o1) ∧ w.cell? ⟨b, o + 2, none⟩ = some (.slice AB nB cB) ∧ w.cell? ⟨b, o + 3, none⟩ = some (.slice AK nK cK) ∧
  w.cell? ⟨b, o + 4, none⟩ = some (.int .i64 o4) ∧ w.cell? ⟨b, o + 5, none⟩ = some (.int .i64 o5) ∧ w.cell? ⟨b, o + 6, none⟩ = some (.slice AP nP cP) ∧ w.cell? ⟨b, o + 7, none⟩ = some (.bool back) ∧ OpIn w B AB nB cB AK nK cK AP nP cP
/-- Calls that came in. -/
structure OpsIn (w : World) (B : Nat) (A : Option Addr) (n : Nat) : Prop where
  max : n ≤ maxLen
  at_ : 0 < n → ∃ b off, A = some ⟨b, off, none⟩ ∧ b < B ∧ ∀ i, i < n → OpAt w B b (off + i * 8)
theorem OpAt.below {w w' : World} {B b o : Nat} (h : OpAt w B b o) (hb : b < B) (hk : Below B w w') : OpAt w' B b o := by
  obtain ⟨o0, o1, o4, o5, AB, nB, cB, AK, nK, cK, AP, nP, cP, back, h0, h1, h2, h3, h4, h5, h6, h7, ⟨zB, hB⟩, ⟨zK, hK⟩, ⟨zP, hP⟩⟩ := h
  exact ⟨o0, o1, o4, o5, AB, nB, cB, AK, nK, cK, AP, nP, cP, back, (hk.cell hb).trans h0, (hk.cell hb).trans h1, (hk.cell hb).trans h2, (hk.cell hb).trans h3, (hk.cell hb).trans h4, (hk.cell hb).trans h5, (hk.cell hb).trans h6, (hk.cell hb).trans h7, ⟨zB, hB.below hk⟩, ⟨zK, hK.below hk⟩, ⟨zP, hP.below hk⟩⟩
theorem OpsIn.below {w w' : World} {B : Nat} {A : Option Addr} {n : Nat} (h : OpsIn w B A n) (hk : Below B w w') : OpsIn w' B A n :=
  ⟨h.max, fun hn => by
    obtain ⟨b, off, e, hb, hi⟩ := h.at_ hn
    exact ⟨b, off, e, hb, fun i hl => (hi i hl).below hb hk⟩⟩
section
variable {H : Type} {enc : TypeId × Value → H} {w : World} {base : Nat} {spare : Nat → Bool} {held : Bool}
/-- A field's slice of integers, as it came in. -/
theorem field_ints {t e : TypeId} {k : IntKind} {fuel : Nat} {cs : List Value} {x : DataW H × List MemPlace} (ht : Try.prog.underlying t = some (.slice e)) (he : Try.prog.underlying e = some (.int k)) (hc : Try.prog.cellsOf e = 1)
    (h : DataW.trod enc Try.prog w base spare held fuel t cs = some x) : ∃ A n c, cs = [.slice A n c] ∧ ∃ zs, Rd w w.heap.size 1 A n c (ints k zs) := by
  rcases open_ints ht he hc h with ⟨rfl, _⟩ | ⟨x, l, c, zs, rfl, _, hl, hm, hz, _, hcell, hwz⟩
  · exact ⟨none, 0, 0, rfl, [], Rd.nil_⟩
  · by_cases hs : spare x.block = true
    · rw [if_pos hs] at hz
      exact ⟨some x, l, c, rfl, _, (Rd.of_row (k := k) (zs := zs) (.inr ⟨x, rfl, hl, hm, hz, hcell, hwz⟩)).1⟩
    · rw [if_neg hs] at hz
      have h1 := (Rd.of_row (k := k) (a := some x) (len := l) (cap := l) (zs := zs) (.inr ⟨x, rfl, Nat.le_refl _, by omega, hz, hcell, hwz⟩)).1
      exact ⟨some x, l, c, rfl, _, ⟨h1.len, hl, hm, h1.at_⟩⟩
/-- Calls that came in, opened. -/
theorem ops_in {A : Option Addr} {n c : Nat} {d : DataW H} {ps : List MemPlace} (h : DataW.Trod enc Try.prog w base spare held 22 (.slice A n c) d ps) : OpsIn w w.heap.size A n := by
  obtain ⟨fuel, hf⟩ := h
  rcases open_slice Try.underlying22 hf with ⟨hcs, _⟩ | ⟨a, len, cap, m, n', D, Pl, hcs, hb, hl, hm, hmm, _, hi⟩
  · simp only [Value.cells, List.cons.injEq, Value.slice.injEq, and_true] at hcs
    obtain ⟨rfl, rfl, rfl⟩ := hcs
    exact ⟨by simp [maxLen], fun h => absurd h (by omega)⟩
  · simp only [Value.cells, List.cons.injEq, Value.slice.injEq, and_true] at hcs
    obtain ⟨rfl, rfl, rfl⟩ := hcs
    refine ⟨by omega, fun hn => ?_⟩
    have hnm : n ≤ m := by rw [hmm]; split <;> omega
    rw [show Try.prog.cellsOf 29 = 8 from by kernel_rfl] at hi
    have key : ∀ i, i < n → ∃ cs' : List Value, cs'.length = 8 ∧ (∀ j, j < 8 → w.cell? ((a.add (i * 8)).add j) = cs'[j]?) ∧ ∃ k, DataW.trod enc Try.prog w base spare held k 29 cs' = some (D i, Pl i) := fun i hlt => by
      obtain ⟨cs', h1, h2⟩ := hi i (by omega)
      obtain ⟨_, h3, h4⟩ := World.cells?_some h1
      exact ⟨cs', h3, h4, n', h2⟩
    clear hi hf
    obtain ⟨b, off, spot⟩ := a
    have hspot : spot = none := by
      obtain ⟨cs', h3, h4, _⟩ := key 0 hn
      have h5 := h4 0 (by omega)
      rw [List.getElem?_eq_getElem (by omega)] at h5
      simpa [Addr.add] using World.cell?_spot h5
    subst hspot
    refine ⟨b, off, rfl, ?_, fun i hlt => ?_⟩
    · obtain ⟨cs', h3, h4, _⟩ := key 0 hn
      have h5 := h4 0 (by omega)
      rw [List.getElem?_eq_getElem (by omega)] at h5
      simpa [Addr.add] using World.block_lt_of_cell? w _ h5
    · obtain ⟨cs', h3, h4, k, ht⟩ := key i hlt
      match cs', h3 with
      | [c0, c1, c2, c3, c4, c5, c6, c7], _ =>
        obtain ⟨xs, n'', _, _, _, hxl, hg⟩ := DataW.trod_struct Try.underlying29 ht
        have ex : ∀ j, j < 8 → ∃ y, xs[j]? = some y := fun j hj => ⟨xs[j]'(by rw [hxl]; exact hj), List.getElem?_eq_getElem _⟩
        have C3 : Try.prog.cellsOf 3 = 1 := by kernel_rfl
        have C4 : Try.prog.cellsOf 4 = 1 := by kernel_rfl
        have C5 : Try.prog.cellsOf 5 = 1 := by kernel_rfl
        have C26 : Try.prog.cellsOf 26 = 1 := by kernel_rfl
        have C27 : Try.prog.cellsOf 27 = 1 := by kernel_rfl
        obtain ⟨y0, e0⟩ := ex 0 (by omega)
        obtain ⟨y1, e1⟩ := ex 1 (by omega)
        obtain ⟨y2, e2⟩ := ex 2 (by omega)
        obtain ⟨y3, e3⟩ := ex 3 (by omega)
        obtain ⟨y4, e4⟩ := ex 4 (by omega)
        obtain ⟨y5, e5⟩ := ex 5 (by omega)
        obtain ⟨y6, e6⟩ := ex 6 (by omega)
        obtain ⟨y7, e7⟩ := ex 7 (by omega)
        have g0 : DataW.trod enc Try.prog w base spare held n'' 3 (([c0, c1, c2, c3, c4, c5, c6, c7].drop 0).take (Try.prog.cellsOf 3)) = some y0 := (hg 0 _ rfl).trans e0
        rw [C3] at g0
        replace g0 : DataW.trod enc Try.prog w base spare held n'' 3 [c0] = some y0 := g0
        have g1 : DataW.trod enc Try.prog w base spare held n'' 3 (([c0, c1, c2, c3, c4, c5, c6, c7].drop 1).take (Try.prog.cellsOf 3)) = some y1 := (hg 1 _ rfl).trans e1
        rw [C3] at g1
        replace g1 : DataW.trod enc Try.prog w base spare held n'' 3 [c1] = some y1 := g1
        have g2 : DataW.trod enc Try.prog w base spare held n'' 26 (([c0, c1, c2, c3, c4, c5, c6, c7].drop 2).take (Try.prog.cellsOf 26)) = some y2 := (hg 2 _ rfl).trans e2
        rw [C26] at g2
        replace g2 : DataW.trod enc Try.prog w base spare held n'' 26 [c2] = some y2 := g2
        have g3 : DataW.trod enc Try.prog w base spare held n'' 27 (([c0, c1, c2, c3, c4, c5, c6, c7].drop 3).take (Try.prog.cellsOf 27)) = some y3 := (hg 3 _ rfl).trans e3
        rw [C27] at g3
        replace g3 : DataW.trod enc Try.prog w base spare held n'' 27 [c3] = some y3 := g3
        have g4 : DataW.trod enc Try.prog w base spare held n'' 3 (([c0, c1, c2, c3, c4, c5, c6, c7].drop 4).take (Try.prog.cellsOf 3)) = some y4 := (hg 4 _ rfl).trans e4
        rw [C3] at g4
        replace g4 : DataW.trod enc Try.prog w base spare held n'' 3 [c4] = some y4 := g4
        have g5 : DataW.trod enc Try.prog w base spare held n'' 3 (([c0, c1, c2, c3, c4, c5, c6, c7].drop 5).take (Try.prog.cellsOf 3)) = some y5 := (hg 5 _ rfl).trans e5
        rw [C3] at g5
        replace g5 : DataW.trod enc Try.prog w base spare held n'' 3 [c5] = some y5 := g5
        have g6 : DataW.trod enc Try.prog w base spare held n'' 27 (([c0, c1, c2, c3, c4, c5, c6, c7].drop 6).take (Try.prog.cellsOf 27)) = some y6 := (hg 6 _ rfl).trans e6
        rw [C27] at g6
        replace g6 : DataW.trod enc Try.prog w base spare held n'' 27 [c6] = some y6 := g6
        have g7 : DataW.trod enc Try.prog w base spare held n'' 4 (([c0, c1, c2, c3, c4, c5, c6, c7].drop 7).take (Try.prog.cellsOf 4)) = some y7 := (hg 7 _ rfl).trans e7
        rw [C4] at g7
        replace g7 : DataW.trod enc Try.prog w base spare held n'' 4 [c7] = some y7 := g7
        obtain ⟨o0, hv0, _⟩ := DataW.trod_int Try.underlying3 g0
        obtain ⟨o1, hv1, _⟩ := DataW.trod_int Try.underlying3 g1
        obtain ⟨o4, hv4, _⟩ := DataW.trod_int Try.underlying3 g4
        obtain ⟨o5, hv5, _⟩ := DataW.trod_int Try.underlying3 g5
        obtain ⟨bk, hv7, _⟩ := DataW.trod_bool Try.underlying4 g7
        obtain ⟨AB, nB, cB, hv2, rB⟩ := field_ints Try.underlying26 Try.underlying5 C5 g2
        obtain ⟨AK, nK, cK, hv3, rK⟩ := field_ints Try.underlying27 Try.underlying3 C3 g3
        obtain ⟨AP, nP, cP, hv6, rP⟩ := field_ints Try.underlying27 Try.underlying3 C3 g6
        simp only [List.cons.injEq, and_true] at hv0 hv1 hv2 hv3 hv4 hv5 hv6 hv7
        subst hv0 hv1 hv2 hv3 hv4 hv5 hv6 hv7
        have at' : ∀ j u, j < 8 → ([Value.int .i64 o0, .int .i64 o1, .slice AB nB cB, .slice AK nK cK, .int .i64 o4, .int .i64 o5, .slice AP nP cP, .bool bk] : List Value)[j]? = some u → w.cell? ⟨b, off + i * 8 + j, none⟩ = some u := fun j u hj hu => by
          have := h4 j hj
          rw [add_none, add_none] at this
          exact this.trans hu
        exact ⟨o0, o1, o4, o5, AB, nB, cB, AK, nK, cK, AP, nP, cP, bk, at' 0 _ (by omega) rfl, at' 1 _ (by omega) rfl, at' 2 _ (by omega) rfl, at' 3 _ (by omega) rfl, at' 4 _ (by omega) rfl, at' 5 _ (by omega) rfl, at' 6 _ (by omega) rfl, at' 7 _ (by omega) rfl, rB, rK, rP⟩
end
end Go.Proofs.Ytbmbiffhgdkpiaa
