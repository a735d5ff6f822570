/- The walk of the document's Decode of layer 3. No condition. -/
import Derived.Test.YtiegbochpcmicaaMem3
import Derived.Test.YtiegbochpcmicaaPlainDec
namespace Go.Proofs.Ytiegbochpcmicaa
open Go.RowKit

theorem st37 : ST Try.prog 37 21 1 4 := ST.mk' (z := .int .i32 0) Try.underlying37 (by kernel_rfl) rfl (by decide)
theorem st48 : ST Try.prog 48 3 1 8 := ST.mk' (z := .int .i64 0) Try.underlying48 (by kernel_rfl) rfl (by decide)

/-- What a Decode answers: a kind, a mark, the runes and places of pieces, and where all ends. -/
def DecIs (kd : Int) (p n : Nat) (L : List It) (w : World) (e : Ending) (w' : World) : Prop :=
  ∃ A1 c1 A2 c2, e = .returned (.agg #[.int .i64 kd, .int .i64 (p : Nat), .slice A1 L.length c1, .slice A2 (L.length + 1) c2]) ∧
    Rd w' w'.heap.size 1 A1 L.length c1 (ints .i32 (runesOf L)) ∧ Rd w' w'.heap.size 1 A2 (L.length + 1) c2 (ints .i64 (offsOf p L ++ [(n : Int)])) ∧ Below w.heap.size w w'

theorem some_ne_succ (n : Nat) : some n ≠ some (n + 1) := by simp
theorem not_text {w : World} {b i g : Nat} {r kd p : Int} {v1 v2 : Value} {t : TypeId} {fr : Nat × Nat} {A1 A2 : Option Addr} {n1 c1 n2 c2 : Nat} (h1 : v1 = .slice A1 n1 c1) (h2 : v2 = .slice A2 n2 c2) (hx : w.cell? ⟨b, i, none⟩ = some (.int .i32 r))
    (hg : w.heap[g]? = some (.cells #[.int .i64 kd, .int .i64 p, v1, v2] t fr)) : b ≠ g := by
  rintro rfl
  subst h1; subst h2
  rw [cell_of_row w b i _ t fr hg] at hx
  rcases i with _ | _ | _ | _ | i <;> simp at hx
theorem Rd.from2 {w : World} {B n c p : Nat} {A : Option Addr} {zs : List Int} (h : Rd w B 1 A n c (ints .u8 zs)) (hp : p ≤ n) :
    (c = p → Rd w B 1 A (n - p) 0 (ints .u8 (zs.drop p))) ∧ (¬ c = p → Rd w B 1 (A.map (·.add p)) (n - p) (c - p) (ints .u8 (zs.drop p))) := by
  have hc := h.cap
  have hl := h.int_len
  have := h.cut (l := p) (k := n) (m := c) hp (Nat.le_refl _) (Nat.le_refl _) (by omega)
  rw [Nat.mul_one, Nat.mul_one, List.take_of_length_le (by simp; omega), ← List.map_drop] at this
  refine ⟨fun e => ?_, fun e => ?_⟩
  · rw [if_pos e, show c - p = 0 by omega] at this
    exact this
  · rw [if_neg e] at this
    exact this

theorem Rd.from5 {w : World} {B n c p : Nat} {A : Option Addr} {zs : List Int} (h : Rd w B 1 A n c (ints .u8 zs)) (hp : p ≤ n) :
    Rd w B 1 (if c = p then A else Option.map (fun x => x.add p) A) (n - p) (c - p) (ints .u8 (zs.drop p)) := by
  have hl := h.int_len
  have hc := h.cap
  have := h.cut (l := p) (k := n) (m := c) hp (Nat.le_refl _) (Nat.le_refl _) (by omega)
  rw [Nat.mul_one, Nat.mul_one, List.take_of_length_le (by simp; omega), ← List.map_drop] at this
  exact this
/-- The slice behind the mark, whatever the world behind. -/
theorem Rd.from3 {w : World} {n c p : Nat} {A : Option Addr} {zs : List Int} (h : Rd w w.heap.size 1 A n c (ints .u8 zs)) (hp : p ≤ n) (e : c = p) (W : World) (hb : Below w.heap.size w W) : Rd W W.heap.size 1 A (n - p) 0 (ints .u8 (zs.drop p)) :=
  (((h.from2 hp).1 e).below hb).more hb.size
theorem Rd.from4 {w : World} {n c p : Nat} {A : Option Addr} {zs : List Int} (h : Rd w w.heap.size 1 A n c (ints .u8 zs)) (hp : p ≤ n) (e : ¬ c = p) (W : World) (hb : Below w.heap.size w W) : Rd W W.heap.size 1 (A.map (·.add p)) (n - p) (c - p) (ints .u8 (zs.drop p)) :=
  (((h.from2 hp).2 e).below hb).more hb.size

/-- The end of a Decode: the last place laid down, the struct read and put where the answer lies. -/
theorem dec_end {w w3 w1 : World} {t : TypeId} {kd : Int} {p n : Nat} {L : List It} {AR AO : Option Addr} {cR cO : Nat} {a0 a1 a2 a3 : Value} (hb0 : Below w.heap.size w w3) (hsz3 : w.heap.size + 2 ≤ w3.heap.size) (HG1 : w3.grownBy w1 (some (w.heap.size + 1)))
    (HR1 : w1.heap[w.heap.size]? = some (.cells #[a0, a1, a2, a3] t (0, 0)))
    (hR1 : w1.ownsRow w3.heap.size 21 1 (.slice AR L.length cR) L.length (ints .i32 (runesOf L)))
    (hO1 : w1.ownsRow w3.heap.size 3 1 (.slice AO (L.length + 1) cO) (L.length + 1) (ints .i64 (offsOf p L) ++ [.int .i64 n])) (W : World)
    (hW : W = ((((w1.setCell ⟨w.heap.size + 1, 3, none⟩ (.slice AO (L.length + 1) cO)).setCell ⟨w.heap.size, 0, none⟩ (.int .i64 kd)).setCell ⟨w.heap.size, 1, none⟩ (.int .i64 (p : Nat))).setCell ⟨w.heap.size, 2, none⟩ (.slice AR L.length cR)).setCell ⟨w.heap.size, 3, none⟩ (.slice AO (L.length + 1) cO)) :
    W.heap[w.heap.size]? = some (.cells #[.int .i64 kd, .int .i64 (p : Nat), .slice AR L.length cR, .slice AO (L.length + 1) cO] t (0, 0)) ∧ Rd W W.heap.size 1 AR L.length cR (ints .i32 (runesOf L)) ∧ Rd W W.heap.size 1 AO (L.length + 1) cO (ints .i64 (offsOf p L ++ [(n : Int)])) ∧ Below w.heap.size w W := by
  subst hW
  have h1 : w.heap.size + 1 < w3.heap.size := by omega
  have h0 : w.heap.size < w3.heap.size := by omega
  refine ⟨?_, .of_own (base := w3.heap.size) (e := 21) ?_, .of_own (base := w3.heap.size) (e := 3) ?_, ?_⟩
  · refine blk_set3 (a := .int .i64 kd) (b := .int .i64 (p : Nat)) (c := .slice AR L.length cR) (d := a3) ?_ _
    refine blk_set2 (a := .int .i64 kd) (b := .int .i64 (p : Nat)) (c := a2) (d := a3) ?_ _
    refine blk_set1 (a := .int .i64 kd) (b := a1) (c := a2) (d := a3) ?_ _
    refine blk_set0 (a := a0) (b := a1) (c := a2) (d := a3) ?_ _
    rw [heap_setCell_other _ _ _ _ (by simp)]
    exact HR1
  · exact ownsRow_setCell_below (ownsRow_setCell_below (ownsRow_setCell_below (ownsRow_setCell_below (ownsRow_setCell_below hR1 h1 _) h0 _) h0 _) h0 _) h0 _
  · have := ownsRow_setCell_below (ownsRow_setCell_below (ownsRow_setCell_below (ownsRow_setCell_below (ownsRow_setCell_below hO1 (a := ⟨w.heap.size + 1, 3, none⟩) h1 (.slice AO (L.length + 1) cO)) (a := ⟨w.heap.size, 0, none⟩) h0 (.int .i64 kd)) (a := ⟨w.heap.size, 1, none⟩) h0 (.int .i64 (p : Nat))) (a := ⟨w.heap.size, 2, none⟩) h0 (.slice AR L.length cR)) (a := ⟨w.heap.size, 3, none⟩) h0 (.slice AO (L.length + 1) cO)
    exact own_as this rfl (by simp [ints])
  · have hb1 := hb0.grown HG1 (by omega) (fun k hk => by cases hk; omega)
    exact ((((hb1.setCell (by simp) _).setCell (by simp) _).setCell (by simp) _).setCell (by simp) _).setCell (by simp) _

set_option maxRecDepth 100000 in
set_option maxHeartbeats 4000000 in
theorem decode43_core (A : Option Addr) (n c p : Nat) (kd : Int) (zs : List Int) (L : List It) (w : World) (h0 : Rd w w.heap.size 1 A n c (ints .u8 zs)) (hn : n ≤ 4096) (hp : p ≤ n) (hL : L.length ≤ 4096) (hat : ∀ k (h : k < L.length), L[k].2.1 ≤ 4096)
    (C54 : ∀ W, Below w.heap.size w W → Calls Try.prog 54 #[.slice A n c] W fun e w' => e = .returned (.tuple #[.int .i64 kd, .int .i64 (p : Nat)]) ∧ W = w')
    (C47 : ∀ W A' c', Rd W W.heap.size 1 A' (n - p) c' (ints .u8 (zs.drop p)) → Calls Try.prog 47 #[.slice A' (n - p) c', .int .i64 kd] W (PItemsSaid L W)) :
    Calls Try.prog 43 #[.slice A n c] w (DecIs kd p n L w) := by
  unfold DecIs
  have hcap := h0.cap
  have hmax := h0.max
  unfold maxLen at hmax
  have HAT := Lib.hid hat; clear hat
  have K54 := C54 _ ((Below.refl w.heap.size w).alloc (Nat.le_refl _) (.cells #[.int .i64 0, .int .i64 0, .slice none 0 0, .slice none 0 0] 52)); clear C54
  have HB := ((Below.refl w.heap.size w).alloc (Nat.le_refl _) (.cells #[.int .i64 0, .int .i64 0, .slice none 0 0, .slice none 0 0] 52)).alloc (by simp) (.cells #[.int .i64 kd, .int .i64 (p : Nat), .slice none 0 0, .slice none 0 0] 52)
  go_enter Try.func43, Try.ntmps43
  go_wp2_with (go_at_call 54; refine K54.mono ?_; rintro e w1 ⟨rfl, rfl⟩; clear K54)
  all_goals
    go_at_call 47
    refine (C47 _ _ _ ?_).mono ?_
    · first | exact h0.from3 hp h _ HB | exact h0.from4 hp h _ HB
    clear C47 h
    rintro e w3 ⟨A3, c3, rfl, hr3, hb3⟩
    have hB3 := hb3.block (w.heap.size + 1) (by simp)
    rw [heap_alloc2_new] at hB3
    have hB2 := hb3.block w.heap.size (by simp; omega)
    rw [heap_alloc2_old] at hB2
    have hb0 := HB.trans (hb3.mono (by simp; omega))
    have hsz3 : w.heap.size + 2 ≤ w3.heap.size := by have := hb3.size; simp at this; omega
    clear hb3 HB h0
    have HB3 := Lib.hid hB3
    have HB2 := Lib.hid hB2
    clear hB3 hB2
    go_wp2_with fail
    go_loopw [22] (fun i wr => ∃ (k : Nat) (vR vO : Value), k ≤ L.length ∧ i = .int .i64 k ∧ Hid (wr.heap[w.heap.size + 1]? = some (.cells #[.int .i64 kd, .int .i64 (p : Nat), vR, vO] 52 (0, 0))) ∧ wr.ownsRow w3.heap.size 21 1 vR k (ints .i32 (runesOf (L.take k))) ∧ wr.ownsRow w3.heap.size 3 1 vO k (ints .i64 (offsOf p (L.take k))) ∧ Hid (w3.grownBy wr (some (w.heap.size + 1))))
      (fun i _ => L.length - (intOf i).toNat)
    case atStart => exact ⟨0, .slice none 0 0, .slice none 0 0, Nat.zero_le _, rfl, HB3, World.ownsRow_nil _ _ _ _, World.ownsRow_nil _ _ _ _, World.grownBy.refl _ _⟩
    case round =>
      obtain ⟨k, vR, vO, hk, rfl, HB, hR, hO, HG⟩ := hrel
      have hsz := HG.out.size
      by_cases hlt : k < L.length
      · have hat := HAT.out k hlt
        have hs1 := runesOf_snoc L k hlt
        have hs2 := offsOf_snoc p L k hlt
        obtain ⟨b, off, rfl, hbb, hc⟩ := hr3.it_form (by omega)
        have hbg := not_text rfl rfl (hc 0 (by omega)).1 HB3.out
        obtain ⟨x0, x1, x2⟩ := hc k hlt
        have hbg' : some b ≠ some (w.heap.size + 1) := by simpa using hbg
        have x0 := HG.out.cell x0 hbg'
        have x1 := HG.out.cell x1 hbg'
        have x2 := HG.out.cell x2 hbg'
        have HC := Lib.hid hc
        clear hc hbg'
        generalize L[k] = it at x0 x1 x2 hat hs1 hs2
        obtain ⟨r, q, N⟩ := it
        simp only at x0 x1 x2 hat hs1 hs2
        have HS1 := Lib.hid hs1
        have HS2 := Lib.hid hs2
        clear hs1 hs2
        have y2 : ∀ X, (wr.alloc X).cell? ⟨w.heap.size + 1, 2, none⟩ = some vR := fun X => cell_old wr (w.heap.size + 1) 2 X _ (cell_of_row wr (w.heap.size + 1) 2 _ _ _ HB.out)
        have t1 : IntKind.i64.wrap ((p : Int) + (q : Int)) = (p : Int) + (q : Int) := IntWalk.i64_in _ (by omega)
        go_wp2_with (first | (at_builtin; refine wpList_pushG st37 rfl _ _ rfl _ rfl (hR.alloc _) [.int .i32 r] (wr.heap.size + 1) rfl (by simp) rfl (by simp [Value.oneCell']) (by omega) (by omega) (by simp; omega) ?_; intro v1 w1 hR1 hg1; obtain ⟨AR, cR, rfl, hR1⟩ := own_form hR1; have HB1 := (hg1.block (w.heap.size + 1) (by simp; omega) (own_not hR HB.out (by decide))).trans ((heap_alloc_old wr _ (by omega)).trans HB.out); have e1 : w1.cell? ⟨wr.heap.size, 1, none⟩ = some (.int .i64 (q : Nat)) := hg1.cell (cell_in wr _ 1 _ _ rfl) (own_ne hR (Nat.le_refl _)); have hO1 := (hO.alloc _).kept hg1 (own_apart hR hO (by decide)); have HG1 := Lib.hid ((HG.out.trans (World.grownBy_alloc wr _ _)).andThen hg1 (fun j hj => .inl (hR.lt j hj).1)); have hsz1 := HG1.out.size; have z2 : w1.cell? ⟨w.heap.size + 1, 2, none⟩ = some vR := cell_of_row w1 (w.heap.size + 1) 2 _ _ _ HB1; have z3 : w1.cell? ⟨w.heap.size + 1, 3, none⟩ = some vO := cell_of_row w1 (w.heap.size + 1) 3 _ _ _ HB1; have f2 := frozen_of_row w1 (w.heap.size + 1) 2 _ _ HB1; have f3 := frozen_of_row w1 (w.heap.size + 1) 3 _ _ HB1; have HB1 := Lib.hid HB1; have hR2 := ownsRow_setCell_below hR1 (a := ⟨w.heap.size + 1, 2, none⟩) (show w.heap.size + 1 < w3.heap.size by omega) (.slice AR (k + 1) cR); have hO2 := ownsRow_setCell_below hO1 (a := ⟨w.heap.size + 1, 2, none⟩) (show w.heap.size + 1 < w3.heap.size by omega) (.slice AR (k + 1) cR); clear hR1 hO1; clear hR hO HG HB hg1) | (at_builtin; refine wpList_pushG st48 rfl _ _ rfl _ rfl hO2 [.int .i64 ((p : Int) + (q : Int))] w1.heap.size rfl (by simp [World.setCell]) rfl (by simp [Value.oneCell']) (by omega) (by omega) (by simp; omega) ?_; intro v2 w2 hO3 hg2; obtain ⟨AO, cO, rfl, hO3⟩ := own_form hO3; have hS1 := blk_set2 HB1.out (.slice AR (k + 1) cR); have HB4 := (hg2.block (w.heap.size + 1) (by simp; omega) (own_not hO2 hS1 (by decide))).trans hS1; have hR3 := hR2.kept hg2 (own_apart hO2 hR2 (by decide)); have HG2 := Lib.hid ((HG1.out.trans (grownBy_set w1 (w.heap.size + 1) 2 (.slice AR (k + 1) cR))).andThen hg2 (fun j hj => .inl (hO2.lt j hj).1)); have hsz2 := HG2.out.size; have z4 : w2.cell? ⟨w.heap.size + 1, 3, none⟩ = some vO := cell_of_row w2 (w.heap.size + 1) 3 _ _ _ HB4; have f4 := frozen_of_row w2 (w.heap.size + 1) 3 _ _ HB4; have HB4 := Lib.hid HB4; clear hS1 hR2 hO2 hg2))
        go_roundw
        case rel => exact ⟨k + 1, _, _, by omega, by go_num, Lib.hid (blk_set3 HB4.out (.slice AO (k + 1) cO)), own_as (ownsRow_setCell_below hR3 (a := ⟨w.heap.size + 1, 3, none⟩) (show w.heap.size + 1 < w3.heap.size by omega) (.slice AO (k + 1) cO)) rfl (by rw [HS1.out]; simp [ints]), own_as (ownsRow_setCell_below hO3 (a := ⟨w.heap.size + 1, 3, none⟩) (show w.heap.size + 1 < w3.heap.size by omega) (.slice AO (k + 1) cO)) rfl (by rw [HS2.out]; simp [ints]; omega), Lib.hid (HG2.out.trans (grownBy_set w2 (w.heap.size + 1) 3 (.slice AO (k + 1) cO)))⟩
        case measure => simp [intOf]; omega
      · obtain rfl : k = L.length := by omega
        rw [List.take_length] at hR hO
        have y3 : ∀ X, (wr.alloc X).cell? ⟨w.heap.size + 1, 3, none⟩ = some vO := fun X => cell_old wr (w.heap.size + 1) 3 X _ (cell_of_row wr (w.heap.size + 1) 3 _ _ _ HB.out)
        have y3' : wr.cell? ⟨w.heap.size + 1, 3, none⟩ = some vO := cell_of_row wr (w.heap.size + 1) 3 _ _ _ HB.out
        obtain ⟨AR, cR, rfl, hR⟩ := own_form hR
        go_wp2_with (at_builtin; refine wpList_pushG st48 rfl _ _ rfl _ rfl hO [.int .i64 n] wr.heap.size rfl rfl rfl (by simp [Value.oneCell']) (by omega) (by omega) (by omega) ?_; intro v1 w1 hO1 hg1; obtain ⟨AO, cO, rfl, hO1⟩ := own_form hO1; have HB1 := (hg1.block (w.heap.size + 1) (by omega) (own_not hO HB.out (by decide))).trans HB.out; have HR1 := (hg1.block w.heap.size (by omega) (fun e => absurd (hO.lt _ e.symm).1 (by omega))).trans ((HG.out.block w.heap.size (by omega) (some_ne_succ _)).trans HB2.out); have hR1 := hR.kept hg1 (own_apart hO hR (by decide)); have HG1 := Lib.hid (HG.out.andThen hg1 (fun j hj => .inl (hO.lt j hj).1)); have hsz1 := HG1.out.size; have z0 : w1.cell? ⟨w.heap.size + 1, 0, none⟩ = some (.int .i64 kd) := cell_of_row w1 (w.heap.size + 1) 0 _ _ _ HB1; have z1 : w1.cell? ⟨w.heap.size + 1, 1, none⟩ = some (.int .i64 (p : Nat)) := cell_of_row w1 (w.heap.size + 1) 1 _ _ _ HB1; have z2 : w1.cell? ⟨w.heap.size + 1, 2, none⟩ = some (.slice AR L.length cR) := cell_of_row w1 (w.heap.size + 1) 2 _ _ _ HB1; have z3 : w1.cell? ⟨w.heap.size + 1, 3, none⟩ = some vO := cell_of_row w1 (w.heap.size + 1) 3 _ _ _ HB1; have f3 := fun i => frozen_of_row w1 (w.heap.size + 1) i _ _ HB1; have r0 : w1.cell? ⟨w.heap.size, 0, none⟩ = some (.int .i64 0) := cell_of_row w1 w.heap.size 0 _ _ _ HR1; have r1 : w1.cell? ⟨w.heap.size, 1, none⟩ = some (.int .i64 0) := cell_of_row w1 w.heap.size 1 _ _ _ HR1; have r2 : w1.cell? ⟨w.heap.size, 2, none⟩ = some (.slice none 0 0) := cell_of_row w1 w.heap.size 2 _ _ _ HR1; have r3 : w1.cell? ⟨w.heap.size, 3, none⟩ = some (.slice none 0 0) := cell_of_row w1 w.heap.size 3 _ _ _ HR1; have f4 := fun i => frozen_of_row w1 w.heap.size i _ _ HR1; have HB1 := Lib.hid HB1; have HR1 := Lib.hid HR1; clear hR hO HG HB hg1)
        obtain ⟨e1, e2, e3, e4⟩ := dec_end (kd := kd) hb0 hsz3 HG1.out HR1.out hR1 hO1 _ rfl
        exact bodyPost_ret (v := .agg #[.int .i64 kd, .int .i64 (p : Nat), .slice AR L.length cR, .slice AO (L.length + 1) cO]) (results_cell_row rfl _ _ w.heap.size 52 _ (0, 0) _ rfl e1 Try.underlying52 rfl (by kernel_rfl)) rfl ⟨AR, cR, AO, cO, rfl, e2, e3, e4⟩
theorem decode43 (A : Option Addr) (n c : Nat) (zs : List Int) (w : World) (h : Rd w w.heap.size 1 A n c (ints .u8 zs)) (hz : Bytes8 zs) (hn : n ≤ 4096) :
    Calls Try.prog 43 #[.slice A n c] w (DecIs (pKind zs).1 (dBom zs) n (dItems zs) w) := by
  have hl := h.int_len
  have hp := dBom_le zs
  have hk := pKind_bd zs
  have hlen := dItems_le hz
  refine decode43_core A n c (dBom zs) (pKind zs).1 zs (dItems zs) w h hn (by omega) (by omega) (fun k hk' => ?_) (fun W hb => ?_) (fun W A' c' hr => ?_)
  · have := pItems_at (pKind zs).1 ⟨hk.1, hk.2.1⟩ (hz.drop (dBom zs)) k hk'
    rw [List.length_drop] at this
    exact Nat.le_trans this (by omega)
  · have := kind54 A n c zs W ((h.below hb).more hb.size) hz
    rw [dBom_eq] at this
    exact this
  · exact items47 (pKind zs).1 A' (n - dBom zs) c' (zs.drop (dBom zs)) W hr (hz.drop _) (by omega) ⟨hk.1, hk.2.1⟩
end Go.Proofs.Ytiegbochpcmicaa
