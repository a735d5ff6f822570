/- Cursors: the walks of Down of the zero cursor, Up, beside, Next, Prev, Root. No condition. -/
import Derived.Test.YtbmbiffhgdkpiaaR1
namespace Go.Proofs.Ytbmbiffhgdkpiaa
open Go.RowKit

/-- The zero cursor and false. -/
def NoCur (w : World) (e : Ending) (w' : World) : Prop := e = .returned (.tuple #[.agg (cc none 0 0 0 none), .bool false]) ∧ Below w.heap.size w w'
set_option maxRecDepth 100000 in
theorem down40_nil (n f k : Int) (u : Option Addr) (q : Int) (w : World) : Calls Try.prog 40 #[.agg (cc none n f k u), .int .i64 q] w (NoCur w) := by
  unfold NoCur
  have hcase : decide (q < 0) = true ∨ (decide (q < 0) = false ∧ decide (0 ≤ q) = true) := by simp; omega
  rcases hcase with t0 | ⟨t0, t1⟩
  all_goals
    go_enter Try.func40, Try.ntmps40
    go_wp2_with (first
      | (go_at_call 28; refine (kids28_nil n _).mono ?_; rintro e w1 ⟨A1, c1, rfl, b1⟩; obtain ⟨-, hR, bw, hsw⟩ := two_blocks b1)
      | (refine wpList_putc rfl _ _ rfl (w.heap.size + 1) none 0 0 0 none rfl rfl hR ?_; intro w2 hR2 hg2))
    exact bodyPost_ret (v := .tuple #[.agg (cc none 0 0 0 none), .bool false]) (results_row2 rfl _ _ (w.heap.size + 1) 59 _ (0, 0) _ _ rfl rfl hR2 Try.underlying59 rfl (by kernel_rfl)) rfl ⟨rfl, Below.put bw (Nat.le_succ _) hg2 bw.size⟩
theorem two_new (w : World) (o o' : Obj) : ((w.alloc o).alloc o').heap[w.heap.size + 1]? = some o' ∧ Below w.heap.size w ((w.alloc o).alloc o') := by
  refine ⟨?_, ((Below.refl w.heap.size w).alloc (Nat.le_refl _) o).alloc (by simp) o'⟩
  have := heap_alloc_new (w.alloc o) o'
  rwa [show (w.alloc o).heap.size = w.heap.size + 1 by simp] at this
theorem up41_root (a : Option Addr) (n f k : Int) (w : World) : Calls Try.prog 41 #[.agg (cc a n f k none)] w (NoCur w) := by
  unfold NoCur
  have T := fun o o' => two_new w o o'
  go_enter Try.func41, Try.ntmps41
  go_wp2_with fail
  exact bodyPost_ret (v := .tuple #[.agg (cc none 0 0 0 none), .bool false]) (results_row2 rfl _ _ (w.heap.size + 1) 59 _ (0, 0) _ _ rfl rfl (T _ _).1 Try.underlying59 rfl (by kernel_rfl)) rfl ⟨rfl, (T _ _).2⟩
theorem up41_kid (a : Option Addr) (n f k : Int) (b : Nat) (a' : Option Addr) (n' f' k' : Int) (u' : Option Addr) (w : World) (hb : w.heap[b]? = some (.cells (cc a' n' f' k' u') 59 (0, 0))) :
    Calls Try.prog 41 #[.agg (cc a n f k (some ⟨b, 0, none⟩))] w fun e w' => e = .returned (.tuple #[.agg (cc a' n' f' k' u'), .bool true]) ∧ Below w.heap.size w w' := by
  have T := fun o o' => two_new w o o'
  have z := fun (o o' : Obj) (j : Nat) (u : Value) (h : w.cell? ⟨b, j, none⟩ = some u) => cell_old _ b j o' u (cell_old w b j o u h)
  have z0 := fun o o' => z o o' 0 _ (cell_of_row w b 0 _ _ _ hb)
  have z1 := fun o o' => z o o' 1 _ (cell_of_row w b 1 _ _ _ hb)
  have z2 := fun o o' => z o o' 2 _ (cell_of_row w b 2 _ _ _ hb)
  have z3 := fun o o' => z o o' 3 _ (cell_of_row w b 3 _ _ _ hb)
  have z4 := fun o o' => z o o' 4 _ (cell_of_row w b 4 _ _ _ hb)
  clear z
  go_enter Try.func41, Try.ntmps41
  go_wp2_with fail
  exact bodyPost_ret (v := .tuple #[.agg (cc a' n' f' k' u'), .bool true]) (results_row2 rfl _ _ (w.heap.size + 1) 59 _ (0, 0) _ _ rfl rfl (T _ _).1 Try.underlying59 rfl (by kernel_rfl)) rfl ⟨rfl, (T _ _).2⟩
/-- What Root hands back. -/
def RootSaid (ga : Nat) (N : List GN) (n : Int) (w : World) (e : Ending) (w' : World) : Prop :=
  (if 0 ≤ n ∧ n < N.length then e = .returned (.tuple #[.agg (cc (some ⟨ga, 0, none⟩) n 0 0 none), .int .i64 0]) else e = .returned (.tuple #[.agg (cc none 0 0 0 none), .int .i64 6])) ∧ Below w.heap.size w w'
theorem root32_nil (n : Int) (w : World) : Calls Try.prog 32 #[.pointer none, .int .i64 n] w fun e w' => e = .returned (.tuple #[.agg (cc none 0 0 0 none), .int .i64 2]) ∧ Below w.heap.size w w' := by
  have T := fun o => (⟨heap_alloc_new w o, (Below.refl w.heap.size w).alloc (Nat.le_refl _) o⟩ : _ ∧ Below w.heap.size w (w.alloc o))
  go_enter Try.func32, Try.ntmps32
  go_wp2_with fail
  exact bodyPost_ret (v := .tuple #[.agg (cc none 0 0 0 none), .int .i64 2]) (results_row2 rfl _ _ w.heap.size 59 _ (0, 0) _ _ rfl rfl (T _).1 Try.underlying59 rfl (by kernel_rfl)) rfl ⟨rfl, (T _).2⟩
theorem root32 {w : World} {B ga : Nat} {N : List GN} (h : Arena w B ga N) (n : Int) : Calls Try.prog 32 #[.pointer (some ⟨ga, 0, none⟩), .int .i64 n] w (RootSaid ga N n w) := by
  unfold RootSaid
  have T := fun o => (⟨heap_alloc_new w o, (Below.refl w.heap.size w).alloc (Nat.le_refl _) o⟩ : _ ∧ Below w.heap.size w (w.alloc o))
  have C17 := fun o => len17 (h.below (T o).2)
  by_cases hn : 0 ≤ n ∧ n < N.length
  · simp only [if_pos hn]
    obtain ⟨i, rfl⟩ := Int.eq_ofNat_of_zero_le hn.1
    have t1 : decide ((N.length : Int) ≤ (i : Int)) = false := by simp; omega
    go_enter Try.func32, Try.ntmps32
    go_wp2_with (go_at_call 17; refine (C17 _).mono ?_; rintro e w1 ⟨rfl, rfl⟩)
    exact bodyPost_ret (v := .tuple #[.agg (cc (some ⟨ga, 0, none⟩) i 0 0 none), .int .i64 0]) (results_row2 rfl _ _ w.heap.size 59 _ (0, 0) _ _ rfl rfl (T _).1 Try.underlying59 rfl (by kernel_rfl)) rfl ⟨rfl, (T _).2⟩
  · simp only [if_neg hn]
    have hcase : decide (n < 0) = true ∨ (decide (n < 0) = false ∧ decide ((N.length : Int) ≤ n) = true) := by simp; omega
    clear hn
    rcases hcase with t0 | ⟨t0, t1⟩
    all_goals
      go_enter Try.func32, Try.ntmps32
      go_wp2_with (go_at_call 17; refine (C17 _).mono ?_; rintro e w1 ⟨rfl, rfl⟩)
      exact bodyPost_ret (v := .tuple #[.agg (cc none 0 0 0 none), .int .i64 6]) (results_row2 rfl _ _ w.heap.size 59 _ (0, 0) _ _ rfl rfl (T _).1 Try.underlying59 rfl (by kernel_rfl)) rfl ⟨rfl, (T _).2⟩
end Go.Proofs.Ytbmbiffhgdkpiaa
