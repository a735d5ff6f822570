/- What a node prints, in plain words. No condition. -/
import Derived.Test.YtbmbiffhgdkpiaaN7
namespace Go.Proofs.Ytbmbiffhgdkpiaa
open Go.RowKit

/-- What a node prints, d steps deep. -/
def prF (N : List GN) : Nat → Int → List Int
  | 0, _ => []
  | d + 1, z => (gn N z.toNat).b ++ (gn N z.toNat).kids.flatMap (prF N d)
/-- How many nodes its tree has, d steps deep. -/
def szF (N : List GN) : Nat → Int → Nat
  | 0, _ => 0
  | d + 1, z => 1 + ((gn N z.toNat).kids.map (szF N d)).sum
/-- The kids of a node there is, as a list. -/
theorem good_kid {N : List GN} (hN : GoodN N) {i : Nat} (hi : i < N.length) {z : Int} (hz : z ∈ (gn N i).kids) : 0 ≤ z ∧ z < i := by
  obtain ⟨j, hj, rfl⟩ := List.getElem_of_mem hz
  have := hN i hi j hj
  rw [gz_eq hj] at this
  exact this
theorem flatMap_ext {f g : Int → List Int} : ∀ (l : List Int), (∀ z ∈ l, f z = g z) → l.flatMap f = l.flatMap g
  | [], _ => rfl
  | a :: l, h => by
    rw [List.flatMap_cons, List.flatMap_cons, h a (List.mem_cons_self ..), flatMap_ext l (fun z hz => h z (List.mem_cons_of_mem _ hz))]
theorem prF_stable {N : List GN} (hN : GoodN N) : ∀ (d : Nat) (z : Int), 0 ≤ z → z < d → z < N.length → ∀ e, d ≤ e → prF N e z = prF N d z := by
  intro d
  induction d with
  | zero => intro z h0 h1; omega
  | succ d ih =>
    intro z h0 h1 h2 e he
    obtain ⟨e, rfl⟩ : ∃ e', e = e' + 1 := ⟨e - 1, by omega⟩
    show (gn N z.toNat).b ++ (gn N z.toNat).kids.flatMap (prF N e) = (gn N z.toNat).b ++ (gn N z.toNat).kids.flatMap (prF N d)
    congr 1
    refine flatMap_ext _ fun y hy => ?_
    have hk := good_kid hN (i := z.toNat) (by omega) hy
    exact ih y hk.1 (by omega) (by omega) e (by omega)
theorem szF_stable {N : List GN} (hN : GoodN N) : ∀ (d : Nat) (z : Int), 0 ≤ z → z < d → z < N.length → ∀ e, d ≤ e → szF N e z = szF N d z := by
  intro d
  induction d with
  | zero => intro z h0 h1; omega
  | succ d ih =>
    intro z h0 h1 h2 e he
    obtain ⟨e, rfl⟩ : ∃ e', e = e' + 1 := ⟨e - 1, by omega⟩
    show 1 + ((gn N z.toNat).kids.map (szF N e)).sum = 1 + ((gn N z.toNat).kids.map (szF N d)).sum
    congr 2
    refine List.map_congr_left fun y hy => ?_
    have hk := good_kid hN (i := z.toNat) (by omega) hy
    exact ih y hk.1 (by omega) (by omega) e (by omega)
/-- What a node prints; how many nodes its tree has. -/
def pr (N : List GN) (z : Int) : List Int := prF N N.length z
def sz (N : List GN) (z : Int) : Nat := szF N N.length z
theorem pr_eq {N : List GN} (hN : GoodN N) {z : Int} (h0 : 0 ≤ z) (h1 : z < N.length) : pr N z = (gn N z.toNat).b ++ (gn N z.toNat).kids.flatMap (pr N) := by
  unfold pr
  rw [← prF_stable hN N.length z h0 h1 h1 (N.length + 1) (by omega)]
  rfl
theorem sz_eq {N : List GN} (hN : GoodN N) {z : Int} (h0 : 0 ≤ z) (h1 : z < N.length) : sz N z = 1 + ((gn N z.toNat).kids.map (sz N)).sum := by
  unfold sz
  rw [← szF_stable hN N.length z h0 h1 h1 (N.length + 1) (by omega)]
  rfl
/-- Each node's width is the length of what it prints. -/
def WideN (N : List GN) : Prop := ∀ i, i < N.length → (gn N i).w = (pr N i).length

/-- What stands on the stack, the last one first, is still to be printed. -/
def todo (N : List GN) (s : List Int) : List Int := s.reverse.flatMap (pr N)
theorem todo_snoc (N : List GN) (s : List Int) (z : Int) : todo N (s ++ [z]) = pr N z ++ todo N s := by simp [todo]
/-- The kids from the last one down to the k-th one that print something. -/
def push (N : List GN) (kids : List Int) (k : Nat) : List Int := ((kids.drop k).filter fun z => decide (0 < (pr N z).length)).reverse
theorem push_all (N : List GN) (kids : List Int) : push N kids kids.length = [] := by simp [push]
theorem push_step (N : List GN) (kids : List Int) (k : Nat) (h : k < kids.length) : push N kids k = push N kids (k + 1) ++ (if 0 < (pr N (gz kids k)).length then [gz kids k] else []) := by
  unfold push
  rw [List.drop_eq_getElem_cons h, List.filter_cons, gz_eq h]
  split
  · rename_i hc
    rw [if_pos (by simpa using hc), List.reverse_cons]
  · rename_i hc
    rw [if_neg (by simpa using hc), List.append_nil]
theorem todo_push (N : List GN) (s kids : List Int) : todo N (s ++ push N kids 0) = kids.flatMap (pr N) ++ todo N s := by
  unfold todo push
  rw [List.reverse_append, List.reverse_reverse, List.flatMap_append, List.drop_zero]
  congr 1
  induction kids with
  | nil => rfl
  | cons a l ih =>
    rw [List.filter_cons, List.flatMap_cons]
    split
    · rw [List.flatMap_cons, ih]
    · rename_i hc
      have : pr N a = [] := by
        have : ¬ 0 < (pr N a).length := by simpa using hc
        exact List.eq_nil_of_length_eq_zero (by omega)
      rw [ih, this, List.nil_append]
end Go.Proofs.Ytbmbiffhgdkpiaa
