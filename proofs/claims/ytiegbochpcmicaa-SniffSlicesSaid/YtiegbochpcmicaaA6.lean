import Derived.Test.YtiegbochpcmicaaA5
import Derived.Test.YtiegbochpcmicaaPlainTw
namespace Go.Proofs.Ytiegbochpcmicaa
open Go.RowKit

theorem st22 : ST Try.prog 22 5 1 1 := ST.mk' (z := .int .u8 0) Try.underlying22 (by kernel_rfl) rfl (by decide)
theorem ints_cells (k : IntKind) (zs : List Int) : ∀ u ∈ ints k zs, u.oneCell' = true := by
  intro u hu
  simp at hu
  obtain ⟨z, _, rfl⟩ := hu
  rfl
theorem own_empty (w : World) (t : TypeId) (sz : Nat) (B : Nat) (hB : B ≤ w.heap.size) : (w.alloc (.cells #[] t)).ownsRow B t sz (.slice (some ⟨w.heap.size, 0, none⟩) 0 0) 0 [] :=
  World.ownsRow_made w #[] 0 hB (by simp [maxLen]) (by simp)
/-- An owned row with an element begins at the head of a block. -/
theorem own_head {w : World} {B n c : Nat} {e : TypeId} {sz : Nat} {A : Option Addr} {xs : List Value} (h : w.ownsRow B e sz (.slice A n c) n xs) (hn : 0 < n) : ∃ g, A = some ⟨g, 0, none⟩ ∧ B ≤ g ∧ g < w.heap.size ∧ n ≤ c := by
  rcases h.2 with ⟨_, h0⟩ | ⟨g, cap, cur, hv, hb, hg, hnc, _⟩
  · omega
  · injection hv with h1 _ h3
    subst h3
    exact ⟨g, h1, hb, (Array.getElem?_eq_some_iff.1 hg).1, hnc⟩

set_option maxRecDepth 100000 in
set_option maxHeartbeats 4000000 in
theorem walk4 (A : Option Addr) (n c : Nat) (zs : List Int) (big : Bool) (w : World) (h : Rd w w.heap.size 1 A n c (ints .u8 zs)) (hz : Bytes8 zs) :
    Calls Try.prog 4 #[.slice A n c, .bool big] w fun e w' => e = .returned (.bool true) ∧ Below w.heap.size w w' := by
  have hz2 := hz.take 200
  have hm : min n 200 ≤ 200 := Nat.min_le_right _ _
  have C20 := short20 A n c w _ _ h
  have h2' : Rd w w.heap.size 1 A (min n 200) c (ints .u8 (zs.take 200)) := by
    have := (h.take (k := min n 200) (Nat.min_le_left _ _))
    rw [← List.map_take, Nat.mul_one] at this
    rw [ints, show zs.take 200 = zs.take (min n 200) by rw [List.take_eq_take_iff, h.int_len]; omega]
    exact this
  generalize min n 200 = m at h2' hm C20
  generalize zs.take 200 = ys at h2' hz2
  clear h hz
  have HL := Lib.hid h2'.int_len
  go_enter Try.func4, Try.ntmps4
  go_wp2_with (first | (go_at_call 20; refine C20.mono ?_; rintro e w' ⟨⟨rfl, _⟩, rfl⟩; clear C20) | (at_builtin; refine wpList_pushes st22 rfl _ _ rfl _ rfl (own_empty w 5 1 w.heap.size (Nat.le_refl _)) rfl (h2'.alloc (Nat.le_refl _) _) (ints_cells _ _) (by omega) (by omega) ((Below.refl _ w).alloc (Nat.le_refl _) _) (by simp) ?_; intro v1 w1 hown1 hb1 _; obtain ⟨A1, c1, rfl, hown1⟩ := own_form hown1; simp only [Nat.zero_add, List.nil_append] at hown1))
  go_loopw [6] (fun i wr => ∃ k : Nat, k ≤ m ∧ k % 2 = 0 ∧ i = .int .i64 k ∧ wr.ownsRow w.heap.size 5 1 (.slice A1 m c1) m (ints .u8 (tw ys k)) ∧ Below w.heap.size w wr)
    (fun i _ => m - (intOf i).toNat)
  case atStart => exact ⟨0, Nat.zero_le _, rfl, rfl, by rw [tw_zero]; exact hown1, hb1⟩
  case round =>
    obtain ⟨k, hk, hev, rfl, hown, hb⟩ := hrel
    have HV := Lib.hid hev; clear hev
    by_cases hlt : k + 1 < m
    · obtain ⟨g, rfl, hBg, hgl, hmc⟩ := own_head hown (by omega)
      have x0 : wr.cell? ⟨g, k, none⟩ = some (.int .u8 (gz ys k)) := by rw [hown.cellAt k (by omega), ints_get _ _ _ (by rw [tw_len, HL.out]; omega), gz_tw _ _ _ (by rw [HL.out]; omega), if_neg (by omega)]
      have x1 : wr.cell? ⟨g, k + 1, none⟩ = some (.int .u8 (gz ys (k + 1))) := by rw [hown.cellAt (k + 1) (by omega), ints_get _ _ _ (by rw [tw_len, HL.out]; omega), gz_tw _ _ _ (by rw [HL.out]; omega), if_neg (by omega)]
      have f0 := hown.frozenAt k
      have f1 := hown.frozenAt (k + 1)
      have hown2 := ((hown.stored k (.int .u8 (gz ys (k + 1)))).1.stored (k + 1) (.int .u8 (gz ys k))).1
      rw [ints_set, ints_set, tw_step ys k HV.out (by rw [HL.out]; exact hlt)] at hown2
      have hb2 := (hb.setCell (p := ⟨g, k, none⟩) hBg (.int .u8 (gz ys (k + 1)))).setCell (p := ⟨g, k + 1, none⟩) hBg (.int .u8 (gz ys k))
      clear hown hb
      go_wp2_with fail
      go_roundw
      case rel => exact ⟨k + 2, by omega, by have := HV.out; omega, by go_num, hown2, hb2⟩
      case measure => simp [intOf]; omega
    · have htw := tw_end ys k HV.out (by rw [HL.out]; omega)
      have hrd := Rd.of_own hown
      rw [htw] at hrd
      have hsz := hb.size
      have C1 := items21 A m c ys big _ (h2'.on hb) hz2 (by omega)
      have C2 := fun W hW => items21 A1 m c1 (tw ys ys.length) (!big) W hW (hz2.tw _) (by omega)
      rw [items_turned] at C2
      have hlm : (wItems ys big).length ≤ m := by have := runItems_len_le (wStep_good ys big); have h3 := h2'.int_len; unfold wItems; omega
      generalize wItems ys big = L at C1 C2 hlm
      clear hown hb1 hown1 h2' hz2 htw
      go_wp2_with fail
      refine C1.mono ?_
      rintro e w3 ⟨A3, c3, rfl, hr3, hb3⟩
      clear C1
      go_wp2_with fail
      refine (C2 _ (hrd.on hb3)).mono ?_
      rintro e w4 ⟨A4, c4, rfl, hr4, hb4⟩
      clear C2
      have hr3 := hr3.on hb4
      have hb0 := hb.trans ((hb3.trans (hb4.mono hb3.size)).mono hsz)
      clear hb hb3 hb4 hsz hrd
      go_wp2_with fail
      go_loopw [54] (fun i wr => ∃ k : Nat, k ≤ L.length ∧ i = .int .i64 k ∧ Below w4.heap.size w4 wr)
        (fun i _ => L.length - (intOf i).toNat)
      case atStart => exact ⟨0, Nat.zero_le _, rfl, Below.refl _ _⟩
      case round =>
        obtain ⟨k, hk, rfl, hb⟩ := hrel
        by_cases hlt : k < L.length
        · obtain ⟨b1, o1, rfl, hbb1, hc1⟩ := (hr3.below hb).it_form (by omega)
          obtain ⟨b2, o2, rfl, hbb2, hc2⟩ := (hr4.below hb).it_form (by omega)
          obtain ⟨x0, x1, x2⟩ := hc1 k hlt
          obtain ⟨y0, y1, y2⟩ := hc2 k hlt
          generalize L[k] = it at x0 x1 x2 y0 y1 y2
          obtain ⟨r, p, N⟩ := it
          simp only at x0 x1 x2 y0 y1 y2
          have HY := Lib.hid (And.intro hc1 hc2)
          clear hc1 hc2
          go_wp2_with fail
          go_quiet (fail)
          go_wp2_with fail
          go_roundw
          case rel => exact ⟨k + 1, by omega, by go_num, Below.drewN_ hb _⟩
          case measure => simp [intOf]; omega
        · obtain rfl : k = L.length := by omega
          go_wp2_with (go_at_call 23; refine (awake23 _).mono ?_; rintro e w5 ⟨rfl, hb5⟩)
          go_ret
          exact ⟨rfl, hb0.trans ((hb.trans (hb5.mono hb.size)).mono hb0.size)⟩
end Go.Proofs.Ytiegbochpcmicaa
