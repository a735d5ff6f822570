/- The walk of the law WideBytes. No condition. -/
import Derived.Test.YtiegbochpcmicaaC3
import Derived.Test.YtiegbochpcmicaaA5
import Derived.Test.YtiegbochpcmicaaB8
namespace Go.Proofs.Ytiegbochpcmicaa
open Go.RowKit

set_option maxRecDepth 100000 in
set_option maxHeartbeats 4000000 in
theorem walk10 (A : Option Addr) (n c : Nat) (zs : List Int) (big : Bool) (w : World) (h : Rd w w.heap.size 1 A n c (ints .i32 zs)) :
    Calls Try.prog 10 #[.slice A n c, .bool big] w fun e w' => e = .returned (.bool true) ∧ Below w.heap.size w w' := by
  have hm : min n 60 ≤ 60 := Nat.min_le_right _ _
  have C36 := few36 A n c w _ _ h
  have h2 := few_facts h
  generalize min n 60 = m at h2 hm C36
  generalize zs.take 60 = l at h2
  clear h
  have HL := Lib.hid h2.int_len
  have C39 := fun W hW => bytes39 big A m c l W hW (by omega)
  have C40 := fun W hW => bytes40 big A m c l W hW (by omega)
  go_enter Try.func10, Try.ntmps10
  go_wp2_with (go_at_call 36; refine C36.mono ?_; rintro e w' ⟨rfl, rfl⟩; clear C36)
  go_loopw [11] (fun i wr => ∃ k : Nat, k ≤ m ∧ i = .int .i64 k ∧ wr = w)
    (fun i _ => m - (intOf i).toNat)
  case atStart => exact ⟨0, Nat.zero_le _, rfl, rfl⟩
  case round =>
    obtain ⟨k, hk, rfl, rfl⟩ := hrel
    by_cases hlt : k < m
    · obtain ⟨b, off, rfl, hbb, hc⟩ := h2.int_form (by omega)
      have x0 := hc k hlt
      clear hc
      go_wp2_with (first | (go_at_call 37; refine (width37 _ _).mono ?_; rintro e w1 ⟨rfl, rfl⟩) | (go_at_call 38; refine (width38 _ _).mono ?_; rintro e w1 ⟨rfl, rfl⟩))
      go_roundw
      case rel => exact ⟨k + 1, by omega, by go_num, by first | trivial | rfl⟩
      case measure => simp [intOf]; omega
    · obtain rfl : k = m := by omega
      go_wp2_with fail
      refine wp_region_held_drew (S := fun _ => True) (by kernel_rfl) True.intro (fun hHeld => ?_)
      change wpAnyH _ _ _ _ _ 13 #[false, false, false, false, false, false, false, false, false, false, false, false, false] _ _
      refine wpAnyH_take (i := 0) (oi := _) (v := ?_) rfl (by kernel_rfl) (by kernel_rfl) (by kernel_rfl) (fun _ _ _ h => h) (Or.inl ⟨by rfl, ?_⟩) hHeld ?_
      rotate_left
      · intro w9 hSw; (try dsimp only at hSw); go_simp; (try with_reducible rfl)
      simp only [List.getElem_toArray, List.getElem_cons_zero, Act.put, List.setIfInBounds_toArray, List.set_cons_zero, List.set_cons_succ]
      refine wpAnyH_take (i := 1) (oi := _) (v := ?_) rfl (by kernel_rfl) (by kernel_rfl) (by kernel_rfl) (fun _ _ _ h => h) (Or.inl ⟨by rfl, ?_⟩) hHeld ?_
      rotate_left
      · intro w9 hSw; (try dsimp only at hSw); go_simp; (try with_reducible rfl)
      simp only [List.getElem_toArray, List.getElem_cons_zero, List.getElem_cons_succ, Act.put, List.setIfInBounds_toArray, List.set_cons_zero, List.set_cons_succ]
      refine wpAnyH_take (i := 4) (oi := _) (v := ?_) rfl (by kernel_rfl) (by kernel_rfl) (by kernel_rfl) (fun _ _ _ h => h) (Or.inl ⟨by rfl, ?_⟩) hHeld ?_
      rotate_left
      · intro w9 hSw; (try dsimp only at hSw); go_simp; (try with_reducible rfl)
      simp only [List.getElem_toArray, List.getElem_cons_zero, List.getElem_cons_succ, Act.put, List.setIfInBounds_toArray, List.set_cons_zero, List.set_cons_succ]
      refine wpAnyH_take (i := 5) (oi := _) (v := ?_) rfl (by kernel_rfl) (by kernel_rfl) (by kernel_rfl) (fun _ _ _ h => h) (Or.inl ⟨by rfl, ?_⟩) hHeld ?_
      rotate_left
      · intro w9 hSw; (try dsimp only at hSw); go_simp; (try with_reducible rfl)
      simp only [List.getElem_toArray, List.getElem_cons_zero, List.getElem_cons_succ, Act.put, List.setIfInBounds_toArray, List.set_cons_zero, List.set_cons_succ]
      refine wpAnyH_ready (rs := [2]) (by kernel_rfl) (by simp) ?_
      refine AllReadyH.cons (o := _) rfl (fun K hK => ?_) AllReadyH.nil
      go_simp
      refine (C39 _ h2.drew).mono ?_
      rintro e w3 ⟨A3, c3, rfl, ho3, hb3⟩
      refine hK.out _ _ True.intro (fun _ => ?_)
      clear hK
      have hr3 := Rd.of_own ho3
      have h3 := h2.drew.on hb3
      refine wpAnyH_mono (S' := fun W => (convert 22 9 (.slice A3 (wencs big l).length c3)).run Try.prog W = .ok (.string (strOfNums (wencs big l))) W) (fun W _ => True.intro) _ _ _ _ ?_
      have hHeld3 : (fun W => (convert 22 9 (.slice A3 (wencs big l).length c3)).run Try.prog W = .ok (.string (strOfNums (wencs big l))) W) _ := run_str' hr3
      refine wpAnyH_take (i := 3) (oi := _) (v := ?_) rfl (by kernel_rfl) (by kernel_rfl) (by kernel_rfl) (fun _ _ _ h => h) (Or.inl ⟨by rfl, ?_⟩) hHeld3 ?_
      rotate_left
      · intro w9 hSw; (try dsimp only at hSw); go_simp; (try with_reducible rfl)
      simp only [List.getElem_toArray, List.getElem_cons_zero, List.getElem_cons_succ, Act.put, List.setIfInBounds_toArray, List.set_cons_zero, List.set_cons_succ]
      refine wpAnyH_ready (rs := [6]) (by kernel_rfl) (by simp) ?_
      refine AllReadyH.cons (o := _) rfl (fun K hK => ?_) AllReadyH.nil
      go_simp
      refine (C40 _ h3).mono ?_
      rintro e w4 ⟨A4, c4, rfl, ho4, hb4⟩
      have hr4 := Rd.of_own ho4
      refine hK.out _ _ (run_str' (hr3.on hb4)) (fun _ => ?_)
      clear hK
      refine wpAnyH_mono (S' := fun W => (convert 22 9 (.slice A4 (wencs big l).length c4)).run Try.prog W = .ok (.string (strOfNums (wencs big l))) W ∧ (convert 22 9 (.slice A3 (wencs big l).length c3)).run Try.prog W = .ok (.string (strOfNums (wencs big l))) W) (fun W h => h.2) _ _ _ _ ?_
      have hHeld4 : (fun W => (convert 22 9 (.slice A4 (wencs big l).length c4)).run Try.prog W = .ok (.string (strOfNums (wencs big l))) W ∧ (convert 22 9 (.slice A3 (wencs big l).length c3)).run Try.prog W = .ok (.string (strOfNums (wencs big l))) W) _ := ⟨run_str' hr4, run_str' (hr3.on hb4)⟩
      refine wpAnyH_take (i := 7) (oi := _) (v := ?_) rfl (by kernel_rfl) (by kernel_rfl) (by kernel_rfl) (fun _ _ _ h => h) (Or.inl ⟨by rfl, ?_⟩) hHeld4 ?_
      rotate_left
      · intro w9 hSw; (try dsimp only at hSw); go_simp; (try with_reducible rfl)
      simp only [List.getElem_toArray, List.getElem_cons_zero, List.getElem_cons_succ, Act.put, List.setIfInBounds_toArray, List.set_cons_zero, List.set_cons_succ]
      refine wpAnyH_take (i := 8) (oi := _) (v := ?_) rfl (by kernel_rfl) (by kernel_rfl) (by kernel_rfl) (fun _ _ _ h => h) (Or.inl ⟨by rfl, ?_⟩) hHeld4 ?_
      rotate_left
      · intro w9 hSw; (try dsimp only at hSw); go_simp; (try with_reducible rfl)
      simp only [List.getElem_toArray, List.getElem_cons_zero, List.getElem_cons_succ, Act.put, List.setIfInBounds_toArray, List.set_cons_zero, List.set_cons_succ]
      refine wpAnyH_take (i := 9) (oi := _) (v := ?_) rfl (by kernel_rfl) (by kernel_rfl) (by kernel_rfl) (fun _ _ _ h => h) (Or.inl ⟨by rfl, ?_⟩) hHeld4 ?_
      rotate_left
      · intro w9 hSw; (try dsimp only at hSw); go_simp; (try with_reducible rfl)
      simp only [List.getElem_toArray, List.getElem_cons_zero, List.getElem_cons_succ, Act.put, List.setIfInBounds_toArray, List.set_cons_zero, List.set_cons_succ]
      refine wpAnyH_ready (rs := [10]) (by kernel_rfl) (by simp) ?_
      refine AllReadyH.cons (o := _) rfl (fun K hK => ?_) AllReadyH.nil
      go_simp
      refine (awake23 _).mono ?_
      rintro e w5 ⟨rfl, hb5⟩
      refine hK.out _ _ ⟨run_str' (hr4.on hb5), run_str' ((hr3.on hb4).on hb5)⟩ (fun hHeld5 => ?_)
      clear hK
      refine wpAnyH_take (i := 11) (oi := _) (v := ?_) rfl (by kernel_rfl) (by kernel_rfl) (by kernel_rfl) (fun _ _ _ h => h) (Or.inl ⟨by rfl, ?_⟩) hHeld5 ?_
      rotate_left
      · intro w9 hSw; (try dsimp only at hSw); go_simp; (try with_reducible rfl)
      simp only [List.getElem_toArray, List.getElem_cons_zero, List.getElem_cons_succ, Act.put, List.setIfInBounds_toArray, List.set_cons_zero, List.set_cons_succ]
      refine wpAnyH_take (i := 12) (oi := _) (v := ?_) rfl (by kernel_rfl) (by kernel_rfl) (by kernel_rfl) (fun _ _ _ h => h) (Or.inl ⟨by rfl, ?_⟩) hHeld5 ?_
      rotate_left
      · intro w9 hSw; (try dsimp only at hSw); go_simp; (try with_reducible rfl)
      simp only [List.getElem_toArray, List.getElem_cons_zero, List.getElem_cons_succ, Act.put, List.setIfInBounds_toArray, List.set_cons_zero, List.set_cons_succ]
      refine wpAnyH_done (by kernel_rfl) ?_ _
      go_wp2_with fail
      go_ret
      exact ⟨rfl, (Below.refl _ _).drew.trans (hb3.trans ((hb4.trans (hb5.mono hb4.size)).mono hb3.size))⟩
end Go.Proofs.Ytiegbochpcmicaa
