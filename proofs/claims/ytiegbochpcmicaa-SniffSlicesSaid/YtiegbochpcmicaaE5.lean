/- The walk of the law SniffDecodes. No condition. -/
import Derived.Test.YtiegbochpcmicaaE4
namespace Go.Proofs.Ytiegbochpcmicaa
open Go.RowKit

theorem gz_last {l : List Int} {k : Nat} (h : l.length = k) (n : Int) : gz (l ++ [n]) k = n := by subst h; simp [gz]
/-- Two blocks laid one behind the other, and what a callee leaves of them. -/
theorem two_blocks {w w3 : World} {cs1 cs2 : Array Value} {t1 t2 : TypeId} (hb : Below ((w.alloc (.cells cs1 t1)).alloc (.cells cs2 t2)).heap.size ((w.alloc (.cells cs1 t1)).alloc (.cells cs2 t2)) w3) :
    w3.heap[w.heap.size]? = some (.cells cs1 t1 (0, 0)) ∧ w3.heap[w.heap.size + 1]? = some (.cells cs2 t2 (0, 0)) ∧ Below w.heap.size w w3 := by
  refine ⟨(hb.block w.heap.size (by simp; omega)).trans (heap_alloc2_old w _ _), (hb.block (w.heap.size + 1) (by simp)).trans (heap_alloc2_new w _ _), ?_⟩
  exact (((Below.refl w.heap.size w).alloc (Nat.le_refl _) _).alloc (by simp) _).trans (hb.mono (by simp; omega))
/-- The cells of a text in a block. -/
theorem text_cells {w : World} {g : Nat} {t : TypeId} {a b c d : Value} (h : w.heap[g]? = some (.cells #[a, b, c, d] t (0, 0))) :
    w.cell? ⟨g, 0, none⟩ = some a ∧ w.cell? ⟨g, 1, none⟩ = some b ∧ w.cell? ⟨g, 2, none⟩ = some c ∧ w.cell? ⟨g, 3, none⟩ = some d :=
  ⟨cell_of_row w g 0 _ _ _ h, cell_of_row w g 1 _ _ _ h, cell_of_row w g 2 _ _ _ h, cell_of_row w g 3 _ _ _ h⟩

set_option maxRecDepth 100000 in
set_option maxHeartbeats 4000000 in
theorem walk12 (A : Option Addr) (n c : Nat) (zs : List Int) (w : World) (h : Rd w w.heap.size 1 A n c (ints .u8 zs)) (hz : Bytes8 zs) :
    Calls Try.prog 12 #[.slice A n c] w fun e w' => e = .returned (.bool true) ∧ Below w.heap.size w w' := by
  have hz2 := hz.take 200
  have hm : min n 200 ≤ 200 := Nat.min_le_right _ _
  have C41 := short41' h
  have h2' := short_facts h
  generalize min n 200 = m at h2' hm C41
  generalize zs.take 200 = ys at h2' hz2
  clear h hz
  have C42 := decode42 A m c ys w h2' hz2 (by omega)
  have C43 := fun W hW => decode43 A m c ys W hW hz2 (by omega)
  have C44 := fun W hW => kind44 A m c ys W hW hz2
  have hlm : (dItems ys).length ≤ 200 := by have h1 := dItems_le hz2; have h3 := h2'.int_len; omega
  rw [dBom_eq] at C44
  have hrl : (runesOf (dItems ys)).length = (dItems ys).length := by simp [runesOf]
  have hol : (offsOf (dBom ys) (dItems ys)).length = (dItems ys).length := by simp [offsOf]
  clear hz2
  generalize dItems ys = L at C42 C43 hlm hrl hol
  generalize dBom ys = p at C42 C43 C44 hol
  generalize (pKind ys).1 = kd at C42 C43 C44
  have HRL := Lib.hid hrl
  have HOL := Lib.hid hol
  clear hrl hol
  go_enter Try.func12, Try.ntmps12
  go_wp2_with (first | (go_at_call 41; refine C41.mono ?_; rintro e w' ⟨rfl, rfl⟩; clear C41) | (go_at_call 42; refine C42.mono ?_; rintro e w1 ⟨A1, c1, A2, c2, rfl, hr1, ho1, hb1⟩; clear C42; have h3 := h2'.on hb1) | (go_at_call 43; refine (C43 _ h3).mono ?_; rintro e w2 ⟨A3, c3, A4, c4, rfl, hr2, ho2, hb2⟩; clear C43; have hr1 := hr1.on hb2; have ho1 := ho1.on hb2; have h4 := h3.on hb2; have hb0 := hb1.trans (hb2.mono hb1.size); clear h3 hb1 hb2) | (go_at_call 44; refine (C44 _ (((h4.alloc (Nat.le_refl _) _).alloc (by simp) _).more (by simp; omega))).mono ?_; rintro e w3 ⟨rfl, hb3⟩; clear C44; obtain ⟨hg1, hg2, hb4⟩ := two_blocks hb3; obtain ⟨y0, y1, y2, y3⟩ := text_cells hg1; obtain ⟨z0, z1, z2, z3⟩ := text_cells hg2; have hr1 := hr1.on hb4; have ho1 := ho1.on hb4; have hr2 := hr2.on hb4; have ho2 := ho2.on hb4; have hb5 := hb0.trans (hb4.mono hb0.size); clear hb3 hg1 hg2 hb4 hb0 h4))
  go_loopw [65] (fun i wr => ∃ k : Nat, k ≤ L.length ∧ i = .int .i64 k ∧ ∃ a : Nat, wr = w3.drewN a)
    (fun i _ => L.length - (intOf i).toNat)
  case atStart => exact ⟨0, Nat.zero_le _, rfl, 0, rfl⟩
  case round =>
    obtain ⟨k, hk, rfl, a, rfl⟩ := hrel
    obtain ⟨b2, o2, rfl, hbb2, hc2⟩ := ho1.int_form (by omega)
    by_cases hlt : k < L.length
    · obtain ⟨b1, o1, rfl, hbb1, hc1⟩ := hr1.int_form (by omega)
      obtain ⟨b3, o3, rfl, hbb3, hc3⟩ := hr2.int_form (by omega)
      obtain ⟨b4, o4, rfl, hbb4, hc4⟩ := ho2.int_form (by omega)
      have x1 := hc1 k hlt
      have x2 := hc2 k (by omega)
      have x3 := hc3 k hlt
      have x4 := hc4 k (by omega)
      have HC := Lib.hid (And.intro hc1 (And.intro hc2 (And.intro hc3 hc4)))
      clear hc1 hc2 hc3 hc4
      go_wp2_with fail
      go_quiet (fail)
      go_wp2_with fail
      go_roundw
      case rel => exact ⟨k + 1, by omega, by go_num, _, rfl⟩
      case measure => simp [intOf]; omega
    · obtain rfl : k = L.length := by omega
      have x2 := hc2 L.length (by omega)
      rw [gz_last HOL.out] at x2
      have HC := Lib.hid hc2
      clear hc2
      go_wp2_with (go_at_call 45; refine (awake45 _).mono ?_; rintro e w4 ⟨rfl, hb6⟩)
      go_ret
      exact ⟨rfl, hb5.trans ((Below.drewN_ (Below.refl _ _) a).trans (hb6.mono (Nat.le_refl _)) |>.mono hb5.size)⟩
end Go.Proofs.Ytiegbochpcmicaa
