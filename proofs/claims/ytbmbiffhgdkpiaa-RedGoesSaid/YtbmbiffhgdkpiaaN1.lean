/- The walks of an arena's small functions: New, Len, the two Clone, add, Leaf. No condition. -/
import Derived.Test.YtbmbiffhgdkpiaaChecked
import Derived.Test.YtbmbiffhgdkpiaaN0
import Derived.Lib.SliceRun
namespace Go.Proofs.Ytbmbiffhgdkpiaa
open Go.RowKit

theorem st26 : ST Try.prog 26 5 1 1 := ST.mk' (z := .int .u8 0) Try.underlying26 (by kernel_rfl) rfl (by decide)
theorem st27 : ST Try.prog 27 3 1 8 := ST.mk' (z := .int .i64 0) Try.underlying27 (by kernel_rfl) rfl (by decide)
theorem st81 : ST Try.prog 81 90 6 80 := ST.mk' (z := .agg #[.int .i64 0, .int .i64 0, .int .i64 0, .bool false, .slice none 0 0, .slice none 0 0]) Try.underlying81 (by kernel_rfl) rfl (by decide)
theorem ints_cells (k : IntKind) (zs : List Int) : ∀ u ∈ ints k zs, u.oneCell' = true := by
  intro u hu
  simp at hu
  obtain ⟨z, _, rfl⟩ := hu
  rfl
theorem own_empty (w : World) (t : TypeId) (sz : Nat) (B : Nat) (hB : B ≤ w.heap.size) : (w.alloc (.cells #[] t)).ownsRow B t sz (.slice (some ⟨w.heap.size, 0, none⟩) 0 0) 0 [] :=
  World.ownsRow_made w #[] 0 hB (by simp [maxLen]) (by simp)
theorem Rd.none_ {w : World} {B sz n c : Nat} {xs : List Value} (h : Rd w B sz none n c xs) : n = 0 := by
  rcases Nat.eq_zero_or_pos n with h0 | h0
  · exact h0
  · obtain ⟨b, off, e, _⟩ := h.at_ h0
    cases e

theorem new12 (w : World) : Calls Try.prog 12 #[] w fun e w' => e = .returned (.pointer (some ⟨w.heap.size, 0, none⟩)) ∧ Arena w' w.heap.size w.heap.size [] ∧ Below w.heap.size w w' := by
  have hf := Arena.fresh w
  go_enter Try.func12, Try.ntmps12
  go_wp2_with fail
  go_ret
  exact ⟨rfl, hf, (Below.refl _ _).alloc (Nat.le_refl _) _⟩
theorem len17 {w : World} {B ga : Nat} {N : List GN} (h : Arena w B ga N) : Calls Try.prog 17 #[.pointer (some ⟨ga, 0, none⟩)] w fun e w' => e = .returned (.int .i64 N.length) ∧ w = w' := by
  obtain ⟨A, c, h0⟩ := h.head
  clear h
  go_enter Try.func17, Try.ntmps17
  go_wp2_with fail
  go_ret
  exact ⟨rfl, rfl⟩
theorem len17_nil (w : World) : Calls Try.prog 17 #[.pointer none] w fun e w' => e = .returned (.int .i64 0) ∧ w = w' := by
  go_enter Try.func17, Try.ntmps17
  go_wp2_with fail
  go_ret
  exact ⟨rfl, rfl⟩

/-- A row of a callee's own. -/
def OwnSaid (t : TypeId) (n : Nat) (xs : List Value) (w : World) (e : Ending) (w' : World) : Prop := ∃ A c, e = .returned (.slice A n c) ∧ w'.ownsRow w.heap.size t 1 (.slice A n c) n xs ∧ Below w.heap.size w w'
set_option maxHeartbeats 1000000 in
theorem clone57 (A : Option Addr) (n c : Nat) (zs : List Int) (w : World) (h : Rd w w.heap.size 1 A n c (ints .u8 zs)) (hn : n ≤ 65536) :
    Calls Try.prog 57 #[.slice A n c] w (OwnSaid 5 n (ints .u8 zs) w) := by
  unfold OwnSaid
  have q := fun (w : World) (a : Option Addr) (n c n' c' : Nat) => Lib.run_eql_slice_nil (P := Try.prog) w 26 5 a n c n' c' Try.underlying26
  rcases A with _ | ad
  · obtain rfl := h.none_
    have HZ := Lib.hid (show zs = [] from List.eq_nil_of_length_eq_zero h.int_len)
    clear h
    go_enter Try.func57, Try.ntmps57
    go_wp2_with fail
    go_ret
    exact ⟨none, 0, rfl, by rw [HZ.out]; exact World.ownsRow_nil _ _ _ _, Below.refl _ _⟩
  · go_enter Try.func57, Try.ntmps57
    go_wp2_with (at_builtin; refine wpList_pushes st26 rfl _ _ rfl _ rfl (own_empty w 5 1 w.heap.size (Nat.le_refl _)) rfl (h.alloc (Nat.le_refl _) _) (ints_cells _ _) (by omega) (by omega) ((Below.refl _ w).alloc (Nat.le_refl _) _) (by simp) ?_; intro v1 w1 hown1 hb1 _; obtain ⟨A1, c1, rfl, hown1⟩ := own_form hown1; simp only [Nat.zero_add, List.nil_append] at hown1)
    go_ret
    exact ⟨A1, c1, by simp, hown1, hb1⟩
set_option maxHeartbeats 1000000 in
theorem clone55 (A : Option Addr) (n c : Nat) (zs : List Int) (w : World) (h : Rd w w.heap.size 1 A n c (ints .i64 zs)) (hn : n ≤ 65536) :
    Calls Try.prog 55 #[.slice A n c] w (OwnSaid 3 n (ints .i64 zs) w) := by
  unfold OwnSaid
  have q := fun (w : World) (a : Option Addr) (n c n' c' : Nat) => Lib.run_eql_slice_nil (P := Try.prog) w 27 3 a n c n' c' Try.underlying27
  rcases A with _ | ad
  · obtain rfl := h.none_
    have HZ := Lib.hid (show zs = [] from List.eq_nil_of_length_eq_zero h.int_len)
    clear h
    go_enter Try.func55, Try.ntmps55
    go_wp2_with fail
    go_ret
    exact ⟨none, 0, rfl, by rw [HZ.out]; exact World.ownsRow_nil _ _ _ _, Below.refl _ _⟩
  · go_enter Try.func55, Try.ntmps55
    go_wp2_with (at_builtin; refine wpList_pushes st27 rfl _ _ rfl _ rfl (own_empty w 3 1 w.heap.size (Nat.le_refl _)) rfl (h.alloc (Nat.le_refl _) _) (ints_cells _ _) (by omega) (by omega) ((Below.refl _ w).alloc (Nat.le_refl _) _) (by simp) ?_; intro v1 w1 hown1 hb1 _; obtain ⟨A1, c1, rfl, hown1⟩ := own_form hown1; simp only [Nat.zero_add, List.nil_append] at hown1)
    go_ret
    exact ⟨A1, c1, by simp, hown1, hb1⟩
end Go.Proofs.Ytbmbiffhgdkpiaa
