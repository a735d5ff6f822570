/- 'append(append([]int{}, p...), z)' in a statement that draws its order: what each order leaves. No condition. -/
import Derived.Test.YtbmbiffhgdkpiaaR19
namespace Go.Proofs.Ytbmbiffhgdkpiaa
open Go.RowKit

/-- What both appends leave, told of the second. -/
def App2 (ra : World) (m : Nat) (P : List Int) (z : Int) (v1 : Value) (g : Nat) (W : World) : Prop :=
  ∃ A2 c2 w2, (Builtin.append_ #[27, 27] 27 #[v1, .slice (some ⟨g, 0, none⟩) 1 1]).run Try.prog W = .ok (.slice A2 (m + 1) c2) w2 ∧ Below ra.heap.size ra w2 ∧ Rd w2 w2.heap.size 1 A2 (m + 1) c2 (ints .i64 (P ++ [z]))
theorem app2_two {ra W : World} {B m g : Nat} {P : List Int} {z : Int} {v1 : Value} (hb : Below ra.heap.size ra W) (hB : B = ra.heap.size) (ho : W.ownsRow B 3 1 v1 m (ints .i64 P)) (hg : W.heap[g]? = some (.cells #[.int .i64 z] 3 (0, 0))) (hm : m ≤ 65536) : App2 ra m P z v1 g W := by
  subst hB
  have hr : Rd W W.heap.size 1 (some ⟨g, 0, none⟩) 1 1 (ints .i64 [z]) := ⟨rfl, Nat.le_refl _, by simp [maxLen], fun _ => ⟨g, 0, rfl, (Array.getElem?_eq_some_iff.1 hg).1, fun j u hu => by
    rw [cell_of_row W g (0 + j) _ _ _ hg]; simpa using hu⟩⟩
  obtain ⟨v2, w2, hrun, h2, hg2⟩ := run_pushesG (P := Try.prog) st27 27 v1 ho hr (ints_cells _ _) (by omega) (by omega) hb.size
  obtain ⟨A2, c2, rfl, h2⟩ := own_form h2
  refine ⟨A2, c2, w2, hrun, hb.grown hg2 hb.size fun k hk => (ho.lt k hk).1, ?_⟩
  have := Rd.of_own h2
  rwa [show ints IntKind.i64 P ++ ints .i64 [z] = ints .i64 (P ++ [z]) by simp] at this
theorem app2_a1 {ra : World} {A : Option Addr} {m c : Nat} {P : List Int} (hP : Rd ra ra.heap.size 1 A m c (ints .i64 P)) (hm : m ≤ 65536) (z : Int) :
    ∃ v1 w1, (Builtin.append_ #[27, 27] 27 #[.slice (some ⟨ra.heap.size, 0, none⟩) 0 0, .slice A m c]).run Try.prog (ra.alloc (.cells #[] 3)) = .ok v1 w1 ∧ Below ra.heap.size ra w1 ∧ Below ra.heap.size ra (w1.alloc (.cells #[.int .i64 z] 3)) ∧ App2 ra m P z v1 w1.heap.size (w1.alloc (.cells #[.int .i64 z] 3)) := by
  have hal := (Below.refl ra.heap.size ra).alloc (Nat.le_refl _) (.cells #[] 3)
  have he := own_empty ra 3 1 ra.heap.size (Nat.le_refl _)
  obtain ⟨v1, w1, hrun, h1, hg1⟩ := run_pushesG (P := Try.prog) st27 27 _ he (hP.on hal) (ints_cells _ _) (by omega) (by omega) hal.size
  have b1 := hal.grown hg1 hal.size fun k hk => (he.lt k hk).1
  rw [Nat.zero_add, List.nil_append] at h1
  have b2 := b1.alloc b1.size (.cells #[.int .i64 z] 3)
  exact ⟨v1, w1, hrun, b1, b2, app2_two b2 rfl (h1.alloc _) (heap_alloc_new w1 _) hm⟩
theorem app2_g {ra W : World} {A : Option Addr} {m c e g : Nat} {P : List Int} (hb : Below ra.heap.size ra W) (he : W.ownsRow ra.heap.size 3 1 (.slice (some ⟨e, 0, none⟩) 0 0) 0 []) {z : Int} (hg : W.heap[g]? = some (.cells #[.int .i64 z] 3 (0, 0))) (hne : g ≠ e) (hP : Rd ra ra.heap.size 1 A m c (ints .i64 P)) (hm : m ≤ 65536) :
    ∃ v1 w1, (Builtin.append_ #[27, 27] 27 #[.slice (some ⟨e, 0, none⟩) 0 0, .slice A m c]).run Try.prog W = .ok v1 w1 ∧ Below ra.heap.size ra w1 ∧ App2 ra m P z v1 g w1 := by
  obtain ⟨v1, w1, hrun, h1, hg1⟩ := run_pushesG (P := Try.prog) st27 27 _ he (hP.on hb) (ints_cells _ _) (by omega) (by omega) hb.size
  have b1 := hb.grown hg1 hb.size fun k hk => (he.lt k hk).1
  rw [Nat.zero_add, List.nil_append] at h1
  exact ⟨v1, w1, hrun, b1, app2_two b1 rfl h1 ((hg1.block g (Array.getElem?_eq_some_iff.1 hg).1 (by simp [Value.ownBlock]; exact hne)).trans hg) hm⟩
theorem app2_a2 {ra : World} {A : Option Addr} {m c : Nat} {P : List Int} (hP : Rd ra ra.heap.size 1 A m c (ints .i64 P)) (hm : m ≤ 65536) (z : Int) :
    Below ra.heap.size ra ((ra.alloc (.cells #[] 3)).alloc (.cells #[.int .i64 z] 3)) ∧ ∃ v1 w1, (Builtin.append_ #[27, 27] 27 #[.slice (some ⟨ra.heap.size, 0, none⟩) 0 0, .slice A m c]).run Try.prog ((ra.alloc (.cells #[] 3)).alloc (.cells #[.int .i64 z] 3)) = .ok v1 w1 ∧ Below ra.heap.size ra w1 ∧ App2 ra m P z v1 (ra.heap.size + 1) w1 := by
  have hal := (Below.refl ra.heap.size ra).alloc (Nat.le_refl _) (.cells #[] 3)
  have b2 := hal.alloc hal.size (.cells #[.int .i64 z] 3)
  have hn := heap_alloc_new (ra.alloc (.cells #[] 3)) (.cells #[.int .i64 z] 3)
  rw [show (ra.alloc (.cells #[] 3)).heap.size = ra.heap.size + 1 by simp] at hn
  exact ⟨b2, app2_g b2 ((own_empty ra 3 1 ra.heap.size (Nat.le_refl _)).alloc _) hn (by omega) hP hm⟩
theorem app2_b {ra : World} {A : Option Addr} {m c : Nat} {P : List Int} (hP : Rd ra ra.heap.size 1 A m c (ints .i64 P)) (hm : m ≤ 65536) (z : Int) :
    Below ra.heap.size ra (ra.alloc (.cells #[.int .i64 z] 3)) ∧ Below ra.heap.size ra ((ra.alloc (.cells #[.int .i64 z] 3)).alloc (.cells #[] 3)) ∧ ∃ v1 w1, (Builtin.append_ #[27, 27] 27 #[.slice (some ⟨ra.heap.size + 1, 0, none⟩) 0 0, .slice A m c]).run Try.prog ((ra.alloc (.cells #[.int .i64 z] 3)).alloc (.cells #[] 3)) = .ok v1 w1 ∧ Below ra.heap.size ra w1 ∧ App2 ra m P z v1 ra.heap.size w1 := by
  have hal := (Below.refl ra.heap.size ra).alloc (Nat.le_refl _) (.cells #[.int .i64 z] 3)
  have b2 := hal.alloc hal.size (.cells #[] 3)
  have he := own_empty (ra.alloc (.cells #[.int .i64 z] 3)) 3 1 ra.heap.size hal.size
  rw [show (ra.alloc (.cells #[.int .i64 z] 3)).heap.size = ra.heap.size + 1 by simp] at he
  exact ⟨hal, b2, app2_g b2 he ((heap_alloc_old _ _ (by simp)).trans (heap_alloc_new ra _)) (by omega) hP hm⟩
end Go.Proofs.Ytbmbiffhgdkpiaa
