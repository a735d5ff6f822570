/- The walk of the law SniffOffsets. No condition. -/
import Derived.Test.YtiegbochpcmicaaE11
namespace Go.Proofs.Ytiegbochpcmicaa
open Go.RowKit

theorem pOff_take (kind : Int) (l : List Int) (k : Nat) : (pEnc kind (l.take k)).length = pOff kind l k := rfl

set_option maxRecDepth 100000 in
set_option maxHeartbeats 4000000 in
theorem walk18 (kind : Int) (A : Option Addr) (n c : Nat) (zl : List Int) (w : World) (h : Rd w w.heap.size 1 A n c (ints .i32 zl)) :
    Calls Try.prog 18 #[.int .i64 kind, .slice A n c] w fun e w' => e = .returned (.bool true) ∧ Below w.heap.size w w' := by
  have hm : min n 60 ≤ 60 := Nat.min_le_right _ _
  have C52 := few52 A n c w w.heap.size _ h
  have h2' := few_facts h
  generalize min n 60 = m at h2' hm C52
  generalize zl.take 60 = l at h2'
  clear h
  have HL := Lib.hid h2'.int_len
  have C55 := offsets55 kind A m c l w h2' (by omega)
  have HGET := Lib.hid (pOffs_get kind l m)
  generalize pOffs kind l m = O at C55 HGET
  have hmc := h2'.cap
  go_enter Try.func18, Try.ntmps18
  go_wp2_with (first | (go_at_call 52; refine C52.mono ?_; rintro e w1 ⟨rfl, rfl⟩; clear C52) | (go_at_call 55; refine C55.mono ?_; rintro e w1 ⟨A1, c1, rfl, hr1, hb1⟩; clear C55; have hl1 := h2'.on hb1; clear h2'))
  go_loopw [20] (fun i wr => ∃ k : Nat, k ≤ m + 1 ∧ i = .int .i64 k ∧ Below w1.heap.size w1 wr)
    (fun i _ => m + 1 - (intOf i).toNat)
  case atStart => exact ⟨0, Nat.zero_le _, rfl, Below.refl _ _⟩
  case round =>
    obtain ⟨k, hk, rfl, hb⟩ := hrel
    have hsz := hb.size
    by_cases hlt : k < m + 1
    · obtain ⟨b, off, rfl, hbb, hc⟩ := (hr1.below hb).int_form (by omega)
      have x0 := hc k hlt
      rw [HGET.out k (by omega)] at x0
      have hlk := (hl1.on hb).take (k := k) (by omega)
      rw [← List.map_take, Nat.mul_one] at hlk
      have C53 := fun W hW => encode53 kind A k c (l.take k) W hW (by omega)
      have HPT := Lib.hid (pOff_take kind l k)
      generalize pEnc kind (l.take k) = bs at C53 HPT
      rw [← HPT.out] at x0
      have hkc : k ≤ c := by omega
      have HC := Lib.hid hc
      clear hc HPT
      go_wp2_with fail
      refine wp_region_held_drew (S := fun W => W.cell? ⟨b, off + k, none⟩ = some (.int .i64 bs.length)) (by kernel_rfl) x0 (fun hHeld => ?_)
      change wpAnyH _ _ _ _ _ 11 #[false, false, false, false, false, false, false, false, false, false, false] _ _
      refine wpAnyH_take (i := 0) (oi := _) (v := ?_) rfl (by kernel_rfl) (by kernel_rfl) (by kernel_rfl) (fun _ _ _ h => h) (Or.inl ⟨by rfl, ?_⟩) hHeld ?_
      rotate_left
      · intro w9 hSw; (try dsimp only at hSw); go_simp; (try with_reducible rfl)
      simp only [List.getElem_toArray, List.getElem_cons_zero, Act.put, List.setIfInBounds_toArray, List.set_cons_zero, List.set_cons_succ]
      refine wpAnyH_take (i := 1) (oi := _) (v := ?_) rfl (by kernel_rfl) (by kernel_rfl) (by kernel_rfl) (fun _ _ _ h => h) (Or.inl ⟨by rfl, ?_⟩) hHeld ?_
      rotate_left
      · intro w9 hSw; (try dsimp only at hSw); go_simp; (try with_reducible rfl)
      simp only [List.getElem_toArray, List.getElem_cons_zero, List.getElem_cons_succ, Act.put, List.setIfInBounds_toArray, List.set_cons_zero, List.set_cons_succ]
      refine wpAnyH_take (i := 2) (oi := _) (v := ?_) rfl (by kernel_rfl) (by kernel_rfl) (by kernel_rfl) (fun _ _ _ h => h) (Or.inl ⟨by rfl, ?_⟩) hHeld ?_
      rotate_left
      · intro w9 hSw; (try dsimp only at hSw); go_simp; (try with_reducible rfl)
      simp only [List.getElem_toArray, List.getElem_cons_zero, List.getElem_cons_succ, Act.put, List.setIfInBounds_toArray, List.set_cons_zero, List.set_cons_succ]
      refine wpAnyH_take (i := 3) (oi := _) (v := ?_) rfl (by kernel_rfl) (by kernel_rfl) (by kernel_rfl) (fun _ _ _ h => h) (Or.inl ⟨by rfl, ?_⟩) hHeld ?_
      rotate_left
      · intro w9 hSw; (try dsimp only at hSw); go_simp; (try with_reducible rfl)
      simp only [List.getElem_toArray, List.getElem_cons_zero, List.getElem_cons_succ, Act.put, List.setIfInBounds_toArray, List.set_cons_zero, List.set_cons_succ]
      refine wpAnyH_take (i := 4) (oi := _) (v := ?_) rfl (by kernel_rfl) (by kernel_rfl) (by kernel_rfl) (fun _ _ _ h => h) (Or.inl ⟨by rfl, ?_⟩) hHeld ?_
      rotate_left
      · intro w9 hSw; (try dsimp only at hSw); go_simp; (try with_reducible rfl)
      simp only [List.getElem_toArray, List.getElem_cons_zero, List.getElem_cons_succ, Act.put, List.setIfInBounds_toArray, List.set_cons_zero, List.set_cons_succ]
      refine wpAnyH_take (i := 5) (oi := _) (v := ?_) rfl (by kernel_rfl) (by kernel_rfl) (by kernel_rfl) (fun _ _ _ h => h) (Or.inl ⟨by rfl, ?_⟩) hHeld ?_
      rotate_left
      · intro w9 hSw; (try dsimp only at hSw); go_simp; (try with_reducible rfl)
      simp only [List.getElem_toArray, List.getElem_cons_zero, List.getElem_cons_succ, Act.put, List.setIfInBounds_toArray, List.set_cons_zero, List.set_cons_succ]
      refine wpAnyH_take (i := 6) (oi := _) (v := ?_) rfl (by kernel_rfl) (by kernel_rfl) (by kernel_rfl) (fun _ _ _ h => h) (Or.inl ⟨by rfl, ?_⟩) hHeld ?_
      rotate_left
      · intro w9 hSw; (try dsimp only at hSw); go_simp; (try with_reducible rfl)
      simp only [List.getElem_toArray, List.getElem_cons_zero, List.getElem_cons_succ, Act.put, List.setIfInBounds_toArray, List.set_cons_zero, List.set_cons_succ]
      refine wpAnyH_take (i := 7) (oi := _) (v := ?_) rfl (by kernel_rfl) (by kernel_rfl) (by kernel_rfl) (fun _ _ _ h => h) (Or.inl ⟨by rfl, ?_⟩) hHeld ?_
      rotate_left
      · intro w9 hSw; (try dsimp only at hSw); go_simp; (try with_reducible rfl)
      simp only [List.getElem_toArray, List.getElem_cons_zero, List.getElem_cons_succ, Act.put, List.setIfInBounds_toArray, List.set_cons_zero, List.set_cons_succ]
      refine wpAnyH_ready (rs := [8]) (by kernel_rfl) (by simp) ?_
      refine AllReadyH.cons (o := _) rfl (fun K hK => ?_) AllReadyH.nil
      go_simp
      refine (C53 _ hlk.drew).mono ?_
      rintro e w3 ⟨A3, c3, rfl, ho3, hb3⟩
      refine hK.out _ _ ((hb3.cell (show b < wr.heap.size by omega)).trans hHeld) (fun hHeld2 => ?_)
      clear hK
      refine wpAnyH_take (i := 9) (oi := _) (v := ?_) rfl (by kernel_rfl) (by kernel_rfl) (by kernel_rfl) (fun _ _ _ h => h) (Or.inl ⟨by rfl, ?_⟩) hHeld2 ?_
      rotate_left
      · intro w9 hSw; (try dsimp only at hSw); go_simp; (try with_reducible rfl)
      simp only [List.getElem_toArray, List.getElem_cons_zero, List.getElem_cons_succ, Act.put, List.setIfInBounds_toArray, List.set_cons_zero, List.set_cons_succ]
      refine wpAnyH_take (i := 10) (oi := _) (v := ?_) rfl (by kernel_rfl) (by kernel_rfl) (by kernel_rfl) (fun _ _ _ h => h) (Or.inl ⟨by rfl, ?_⟩) hHeld2 ?_
      rotate_left
      · intro w9 hSw; (try dsimp only at hSw); go_simp; (try with_reducible rfl)
      simp only [List.getElem_toArray, List.getElem_cons_zero, List.getElem_cons_succ, Act.put, List.setIfInBounds_toArray, List.set_cons_zero, List.set_cons_succ]
      refine wpAnyH_done (by kernel_rfl) ?_ _
      go_wp2_with fail
      go_roundw
      case rel => exact ⟨k + 1, by omega, by go_num, hb.trans ((Below.refl _ _).drew.trans (hb3.mono (Nat.le_refl _)) |>.mono hsz)⟩
      case measure => simp [intOf]; omega
    · obtain rfl : k = m + 1 := by omega
      go_wp2_with (go_at_call 45; refine (awake45 _).mono ?_; rintro e w4 ⟨rfl, hb4⟩)
      go_ret
      exact ⟨rfl, hb1.trans ((hb.trans (hb4.mono hb.size)).mono hb1.size)⟩
end Go.Proofs.Ytiegbochpcmicaa
