/- The walk of the document's Leaf. No condition. -/
import Derived.Test.YtbmbiffhgdkpiaaN14
namespace Go.Proofs.Ytbmbiffhgdkpiaa
open Go.RowKit

/-- The row of nodes grown by one, all else kept. -/
theorem doc_put {w w2 w3 : World} {N : List GN} (hN : GoodN N) {x : GN} (hx : ∀ z ∈ x.kids, 0 ≤ z ∧ z < (N.length : Int)) {v1 v3 b k : Value} {bv kv : Nat → Value}
    (hi : ∀ i, i < N.length → w.ownsRow 0 5 1 (bv i) (pr N i).length (ints .u8 (pr N i)) ∧ w.ownsRow 0 3 1 (kv i) (gn N i).kids.length (ints .i64 (gn N i).kids))
    (hb : Below w.heap.size w w2) (hown1 : w2.ownsRow w.heap.size 47 5 v1 N.length (drows N bv kv)) {m : Nat} {l : List Int} (h5 : w2.ownsRow w.heap.size 5 1 b m (ints .u8 l)) (hl : l = x.b ++ x.kids.flatMap (pr N)) (h3 : w2.ownsRow w.heap.size 3 1 k x.kids.length (ints .i64 x.kids))
    (hgr : w2.grownBy w3 v1.ownBlock) (hown3 : w3.ownsRow w.heap.size 47 5 v3 (N.length + 1) (drows N bv kv ++ dcells x b k)) : DocN w3 v3 (N ++ [x]) ∧ Below w.heap.size w w3 := by
  have keep : ∀ {B : Nat} {e : TypeId} {n : Nat} {u : Value} {xs : List Value}, e ≠ 47 → w2.ownsRow B e 1 u n xs → w3.ownsRow B e 1 u n xs := fun he h => h.kept hgr (own_apart hown1 h (Ne.symm he))
  refine ⟨DocN.snoc hN hx (own_mono hown3 (Nat.zero_le _)) (fun i h => ⟨keep (by decide) (own_below (hi i h).1 hb), keep (by decide) (own_below (hi i h).2 hb)⟩) (keep (by decide) (own_mono h5 (Nat.zero_le _))) hl (keep (by decide) (own_mono h3 (Nat.zero_le _))), ?_⟩
  exact hb.grown hgr hb.size fun k hk => (hown1.lt k hk).1
/-- The document's nodes, handed back. -/
def DocSaid (N : List GN) (w : World) (e : Ending) (w' : World) : Prop := ∃ A c, e = .returned (.slice A N.length c) ∧ DocN w' (.slice A N.length c) N ∧ Below w.heap.size w w'
set_option maxRecDepth 100000 in
set_option maxHeartbeats 2000000 in
theorem leaf50 {w : World} {A : Option Addr} {n c : Nat} {N : List GN} (h : DocN w (.slice A n c) N) (hN : GoodN N) (kind : Int) (A2 : Option Addr) (m c2 : Nat) (zs : List Int) (hr : Rd w w.heap.size 1 A2 m c2 (ints .u8 zs)) (hn : N.length ≤ 65536) (hm : m ≤ 65536) :
    Calls Try.prog 50 #[.slice A n c, .int .i64 kind, .slice A2 m c2] w (DocSaid (N ++ [⟨kind, m, 1, true, zs, []⟩]) w) := by
  unfold DocSaid
  obtain ⟨rfl, _⟩ := h.node
  obtain ⟨bv, kv, ho, hi⟩ := h
  have hone := drows_one (N := N) (bv := bv) (kv := kv) (fun i hl => ⟨own_one (hi i hl).1, own_one (hi i hl).2⟩)
  have hrow := Rd.of_own ho
  have HI := Lib.hid hi
  have HG := Lib.hid hN
  clear hi ho hN
  go_enter Try.func50, Try.ntmps50
  go_wp2_with (first
    | (at_builtin; refine wpList_pushesG st25 rfl _ _ rfl _ rfl (own_empty w 47 5 w.heap.size (Nat.le_refl _)) rfl (hrow.alloc (Nat.le_refl _) _) hone (by omega) (by omega) (by simp) ?_; intro v1 w1 hown1 hg1; obtain ⟨A1, c1, rfl, hown1⟩ := own_form hown1; simp only [Nat.zero_add, List.nil_append] at hown1; have hb1 := ((Below.refl w.heap.size w).alloc (Nat.le_refl _) _).grown hg1 (by simp) (fun k hk => ((own_empty w 47 5 w.heap.size (Nat.le_refl _)).lt k hk).1); have hr1 := hr.on hb1; have hs1 := hb1.size; clear hg1 hrow)
    | (at_builtin; refine wpList_pushesG st26 rfl _ _ rfl _ rfl (own_empty w1 5 1 w1.heap.size (Nat.le_refl _)) rfl (hr1.alloc (Nat.le_refl _) _) (ints_cells _ _) (by omega) (by omega) (by simp) ?_; intro v2 w2 hown2 hg2; obtain ⟨A2', c2', rfl, hown2⟩ := own_form hown2; simp only [Nat.zero_add, List.nil_append] at hown2; have hb2 := ((Below.refl w1.heap.size w1).alloc (Nat.le_refl _) _).grown hg2 (by simp) (fun k hk => ((own_empty w1 5 1 w1.heap.size (Nat.le_refl _)).lt k hk).1); have hown1' := own_below hown1 hb2; have hs2 := hb2.size; clear hg2 hr1 hown1)
    | (at_builtin; refine wpList_pushG st25 rfl _ _ rfl _ rfl hown1' (dcells ⟨kind, m, 1, true, zs, []⟩ (.slice A2' m c2') (.slice none 0 0)) _ rfl rfl rfl (dcells_one rfl rfl) (by omega) (by omega) (by omega) ?_; intro v3 w3 hown3 hg3; obtain ⟨A3, c3, rfl, hown3⟩ := own_form hown3))
  go_ret
  have hput := doc_put (x := ⟨kind, m, 1, true, zs, []⟩) HG.out (by simp) HI.out (hb1.trans (hb2.mono hs1)) hown1' (own_mono hown2 hs1) (by simp) (World.ownsRow_nil _ _ _ _) hg3 hown3
  refine ⟨A3, c3, by simp, ?_, hput.2⟩
  rw [List.length_append]
  exact hput.1
end Go.Proofs.Ytbmbiffhgdkpiaa
