/- The walks of slices.Clone, of a text's 'in' and of its Slice. No condition. -/
import Derived.Test.YtibakihcicfeoaaGreatTf
import Derived.Lib.SliceRun
namespace Go.Proofs.YtibakihcicfeoaaGreat
open Go.RowKit

theorem Rd.none_S {w : World} {B sz n c : Nat} {xs : List Value} (h : Rd w B sz none n c xs) : n = 0 := by
  rcases Nat.eq_zero_or_pos n with h0 | h0
  · exact h0
  · obtain ⟨b, off, e, _⟩ := h.at_ h0
    cases e
/-- Bytes that a callee hands back. -/
def PBytesSaid (n : Nat) (zs : List Int) (w : World) (e : Ending) (w' : World) : Prop := ∃ A c, e = .returned (.slice A n c) ∧ Rd w' w'.heap.size 1 A n c (ints .u8 zs) ∧ Below w.heap.size w w'

set_option maxHeartbeats 1000000 in
set_option maxRecDepth 100000 in
theorem clone69 (A : Option Addr) (n c : Nat) (zs : List Int) (w : World) (h : Rd w w.heap.size 1 A n c (ints .u8 zs)) (hn : n ≤ 4096) :
    Calls Tryz.prog 41 #[.slice A n c] w (PBytesSaid n zs w) := by
  unfold PBytesSaid
  have q := fun (w : World) (a : Option Addr) (n c n' c' : Nat) => Lib.run_eql_slice_nil (P := Tryz.prog) w 22 5 a n c n' c' Tryz.underlying22
  rcases A with _ | ad
  · obtain rfl := h.none_S
    have hz : zs = [] := List.eq_nil_of_length_eq_zero h.int_len
    have HZ := Lib.hid hz
    clear h hz
    go_enter Tryz.func41, Tryz.ntmps41
    go_wp2_with fail
    go_ret
    exact ⟨none, 0, rfl, by rw [HZ.out]; exact Rd.nil_, Below.refl _ _⟩
  · go_enter Tryz.func41, Tryz.ntmps41
    go_wp2_with (at_builtin; go_loud (refine wpList_pushes st22S rfl _ _ rfl _ rfl (own_emptyS w 5 1 w.heap.size (Nat.le_refl _)) rfl (h.alloc (Nat.le_refl _) _) (ints_cellsS _ _) (by omega) (by omega) ((Below.refl _ w).alloc (Nat.le_refl _) _) (by simp) ?_); intro v1 w1 hown1 hb1 _; obtain ⟨A1, c1, rfl, hown1⟩ := own_form hown1; simp only [Nat.zero_add, List.nil_append] at hown1)
    go_ret
    exact ⟨A1, c1, by simp, .of_own hown1, hb1⟩
end Go.Proofs.YtibakihcicfeoaaGreat
/- The walks of a text's 'in' and of its Slice. No condition. -/
namespace Go.Proofs.YtibakihcicfeoaaGreat
open Go.RowKit

set_option maxRecDepth 100000 in
theorem in68 (kd p : Int) (A1 A2 : Option Addr) (m c1 n2 c2 : Nat) (i j : Int) (w : World) :
    Calls Tryz.prog 162 #[.agg #[.int .i64 kd, .int .i64 p, .slice A1 m c1, .slice A2 n2 c2], .int .i64 i, .int .i64 j] w fun e w' => e = .returned (.bool (decide (0 ≤ i ∧ i ≤ j ∧ j ≤ m))) ∧ Below w.heap.size w w' := by
  by_cases h0 : 0 ≤ i
  · by_cases h1 : i ≤ j
    · by_cases h2 : j ≤ m
      · have HV := Lib.hid (show decide (0 ≤ i ∧ i ≤ j ∧ j ≤ m) = true by simp; omega)
        have t0 : decide (0 ≤ i) = true := by simpa using h0
        have t1 : decide (i ≤ j) = true := by simpa using h1
        have t2 : decide (j ≤ (m : Int)) = true := by simpa using h2
        clear h0 h1 h2
        go_enter Tryz.func162, Tryz.ntmps162
        go_wp2_with fail
        go_ret
        exact ⟨by rw [HV.out]; rfl, (Below.refl _ _).alloc (Nat.le_refl _) _⟩
      · have HV := Lib.hid (show decide (0 ≤ i ∧ i ≤ j ∧ j ≤ m) = false by simp; omega)
        have t0 : decide (0 ≤ i) = true := by simpa using h0
        have t1 : decide (i ≤ j) = true := by simpa using h1
        have t2 : decide (j ≤ (m : Int)) = false := by simpa using h2
        clear h0 h1 h2
        go_enter Tryz.func162, Tryz.ntmps162
        go_wp2_with fail
        go_ret
        exact ⟨by rw [HV.out]; rfl, (Below.refl _ _).alloc (Nat.le_refl _) _⟩
    · have HV := Lib.hid (show decide (0 ≤ i ∧ i ≤ j ∧ j ≤ m) = false by simp; omega)
      have t0 : decide (0 ≤ i) = true := by simpa using h0
      have t1 : decide (i ≤ j) = false := by simpa using h1
      clear h0 h1
      go_enter Tryz.func162, Tryz.ntmps162
      go_wp2_with fail
      go_ret
      exact ⟨by rw [HV.out]; rfl, (Below.refl _ _).alloc (Nat.le_refl _) _⟩
  · have HV := Lib.hid (show decide (0 ≤ i ∧ i ≤ j ∧ j ≤ m) = false by simp; omega)
    have t0 : decide (0 ≤ i) = false := by simpa using h0
    clear h0
    go_enter Tryz.func162, Tryz.ntmps162
    go_wp2_with fail
    go_ret
    exact ⟨by rw [HV.out]; rfl, (Below.refl _ _).alloc (Nat.le_refl _) _⟩

set_option maxRecDepth 100000 in
theorem slice50_bad (kd p : Int) (A1 A2 A : Option Addr) (m c1 n2 c2 n c : Nat) (i j : Int) (w : World) (hij : ¬ (0 ≤ i ∧ i ≤ j ∧ j ≤ m)) :
    Calls Tryz.prog 109 #[.agg #[.int .i64 kd, .int .i64 p, .slice A1 m c1, .slice A2 n2 c2], .slice A n c, .int .i64 i, .int .i64 j] w fun e w' => e = .returned (.slice none 0 0) ∧ Below w.heap.size w w' := by
  have C68 := fun W => in68 kd p A1 A2 m c1 n2 c2 i j W
  rw [decide_eq_false hij] at C68
  clear hij
  go_enter Tryz.func109, Tryz.ntmps109
  go_wp2_with (go_at_call 162; refine (C68 _).mono ?_; rintro e w1 ⟨rfl, hb1⟩; clear C68)
  go_ret
  exact ⟨rfl, ((Below.refl _ _).alloc (Nat.le_refl _) _).trans (hb1.mono (by simp))⟩

/-- One block laid, and what a callee leaves of it. -/
theorem one_block {w w3 : World} {cs : Array Value} {t : TypeId} (hb : Below (w.alloc (.cells cs t)).heap.size (w.alloc (.cells cs t)) w3) :
    w3.heap[w.heap.size]? = some (.cells cs t (0, 0)) ∧ Below w.heap.size w w3 :=
  ⟨(hb.block w.heap.size (by simp)).trans (heap_alloc_new w _), ((Below.refl w.heap.size w).alloc (Nat.le_refl _) _).trans (hb.mono (by simp))⟩
theorem Rd.cut2 {w : World} {B n c lo hi : Nat} {A : Option Addr} {zs : List Int} (h : Rd w B 1 A n c (ints .u8 zs)) (h1 : lo ≤ hi) (h2 : hi ≤ n) :
    (c = lo → Rd w B 1 A (hi - lo) 0 (ints .u8 ((zs.drop lo).take (hi - lo)))) ∧ (¬ c = lo → Rd w B 1 (A.map (·.add lo)) (hi - lo) (c - lo) (ints .u8 ((zs.drop lo).take (hi - lo)))) := by
  have hc := h.cap
  have := h.cut (l := lo) (k := hi) (m := c) h1 h2 (Nat.le_refl _) (by omega)
  rw [Nat.mul_one, Nat.mul_one, ← List.map_drop, ← List.map_take] at this
  refine ⟨fun e => ?_, fun e => ?_⟩
  · rw [if_pos e, show c - lo = 0 by omega] at this
    exact this
  · rw [if_neg e] at this
    exact this

set_option maxRecDepth 100000 in
set_option maxHeartbeats 4000000 in
theorem slice50_good (kd p : Int) (A1 A2 A : Option Addr) (m c1 c2 n c lo hi la i j : Nat) (O zs : List Int) (w : World) (hO : Rd w w.heap.size 1 A2 (m + 1) c2 (ints .i64 O)) (h0 : Rd w w.heap.size 1 A n c (ints .u8 zs))
    (hij : i ≤ j) (hjm : j ≤ m) (hlo : gz O i = lo) (hhi : gz O j = hi) (hla : gz O m = la) (hln : la ≤ n) (hlh : lo ≤ hi) (hhn : hi ≤ n) (hn : n ≤ 4096) (hm : m ≤ 4096) :
    Calls Tryz.prog 109 #[.agg #[.int .i64 kd, .int .i64 p, .slice A1 m c1, .slice A2 (m + 1) c2], .slice A n c, .int .i64 i, .int .i64 j] w (PBytesSaid (hi - lo) ((zs.drop lo).take (hi - lo)) w) := by
  unfold PBytesSaid
  have C68 := fun W => in68 kd p A1 A2 m c1 (m + 1) c2 i j W
  rw [decide_eq_true (show (0 : Int) ≤ i ∧ (i : Int) ≤ j ∧ (j : Int) ≤ m by omega)] at C68
  have C69 := fun A' c' W hW => clone69 A' (hi - lo) c' ((zs.drop lo).take (hi - lo)) W hW (by omega)
  obtain ⟨b, off, rfl, hbb, hc⟩ := hO.int_form (by omega)
  have x0 := hc i (by omega)
  have x1 := hc j (by omega)
  have x2 := hc m (by omega)
  rw [hlo] at x0
  rw [hhi] at x1
  rw [hla] at x2
  have hcap := h0.cap
  have hmax := h0.max
  unfold maxLen at hmax
  have t0 : decide ((m : Int) + 1 ≤ (j : Int)) = false := by simp; omega
  have w1 : IntKind.i64.wrap ((m : Int) + 1 - 1) = (m : Int) := by rw [show (m : Int) + 1 - 1 = m by omega]; exact IntWalk.i64_in _ (by omega)
  have t2 : decide (n < la) = false := by simp; omega
  have t3 : decide (hi < lo) = false := by simp; omega
  have t4 : decide (n < hi) = false := by simp; omega
  have HO := Lib.hid hO
  have H0 := Lib.hid h0
  clear hc hO h0 hlo hhi hla
  go_enter Tryz.func109, Tryz.ntmps109
  go_wp2_with (go_at_call 162; refine (C68 _).mono ?_; rintro e w1 ⟨rfl, hb1⟩; clear C68; obtain ⟨hg, hb2⟩ := one_block hb1; obtain ⟨y0, y1, y2, y3⟩ := text_cells hg; have x0 := (hb2.cell (p := ⟨b, off + i, none⟩) hbb).trans x0; have x1 := (hb2.cell (p := ⟨b, off + j, none⟩) hbb).trans x1; have x2 := (hb2.cell (p := ⟨b, off + m, none⟩) hbb).trans x2; clear hb1 hg)
  go_quiet (fail)
  go_wp2_with fail
  all_goals
    go_at_call 41
    refine (C69 _ _ _ ?_).mono ?_
    · first | exact ((((H0.out.cut2 hlh hhn).1 h).below hb2).more hb2.size).drewN _ | exact ((((H0.out.cut2 hlh hhn).2 h).below hb2).more hb2.size).drewN _
    clear C69 h
    rintro e w3 ⟨A3, c3, rfl, hr3, hb3⟩
    go_wp2_with fail
    go_ret
    exact ⟨A3, c3, rfl, hr3, hb2.trans (((Below.drewN_ (Below.refl _ w1) nq).trans (hb3.mono (Nat.le_refl _))).mono hb2.size)⟩
end Go.Proofs.YtibakihcicfeoaaGreat
