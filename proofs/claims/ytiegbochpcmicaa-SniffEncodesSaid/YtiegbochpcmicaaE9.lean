/- The walk of the law SniffEncodes. No condition. -/
import Derived.Test.YtiegbochpcmicaaE3
namespace Go.Proofs.Ytiegbochpcmicaa
open Go.RowKit

set_option maxRecDepth 100000 in
set_option maxHeartbeats 4000000 in
theorem walk16 (kind : Int) (A : Option Addr) (n c : Nat) (zs : List Int) (w : World) (h : Rd w w.heap.size 1 A n c (ints .i32 zs)) :
    Calls Try.prog 16 #[.int .i64 kind, .slice A n c] w fun e w' => e = .returned (.bool true) ∧ Below w.heap.size w w' := by
  have hm : min n 60 ≤ 60 := Nat.min_le_right _ _
  have C52 := fun W hW => few52 A n c W w.heap.size (ints .i32 zs) hW
  have h2 := few_facts h
  generalize min n 60 = m at h2 hm C52
  generalize zs.take 60 = l at h2
  have HL := Lib.hid h2.int_len
  have C51 := fun W hW => encode51 kind A m c l W hW (by omega)
  have C53 := fun W hW => encode53 kind A m c l W hW (by omega)
  generalize pEnc kind l = bs at C51 C53
  go_enter Try.func16, Try.ntmps16
  go_wp2_with fail
  refine wp_region_held_drew (S := fun _ => True) (by kernel_rfl) True.intro (fun hHeld => ?_)
  change wpAnyH _ _ _ _ _ 15 #[false, false, false, false, false, false, false, false, false, false, false, false, false, false, false] _ _
  refine wpAnyH_take (i := 0) (oi := _) (v := ?_) rfl (by kernel_rfl) (by kernel_rfl) (by kernel_rfl) (fun _ _ _ h => h) (Or.inl ⟨by rfl, ?_⟩) hHeld ?_
  rotate_left
  · intro w9 hSw; (try dsimp only at hSw); go_simp; (try with_reducible rfl)
  simp only [List.getElem_toArray, List.getElem_cons_zero, Act.put, List.setIfInBounds_toArray, List.set_cons_zero, List.set_cons_succ]
  refine wpAnyH_take (i := 1) (oi := _) (v := ?_) rfl (by kernel_rfl) (by kernel_rfl) (by kernel_rfl) (fun _ _ _ h => h) (Or.inl ⟨by rfl, ?_⟩) hHeld ?_
  rotate_left
  · intro w9 hSw; (try dsimp only at hSw); go_simp; (try with_reducible rfl)
  simp only [List.getElem_toArray, List.getElem_cons_zero, List.getElem_cons_succ, Act.put, List.setIfInBounds_toArray, List.set_cons_zero, List.set_cons_succ]
  refine wpAnyH_take (i := 5) (oi := _) (v := ?_) rfl (by kernel_rfl) (by kernel_rfl) (by kernel_rfl) (fun _ _ _ h => h) (Or.inl ⟨by rfl, ?_⟩) hHeld ?_
  rotate_left
  · intro w9 hSw; (try dsimp only at hSw); go_simp; (try with_reducible rfl)
  simp only [List.getElem_toArray, List.getElem_cons_zero, List.getElem_cons_succ, Act.put, List.setIfInBounds_toArray, List.set_cons_zero, List.set_cons_succ]
  refine wpAnyH_take (i := 6) (oi := _) (v := ?_) rfl (by kernel_rfl) (by kernel_rfl) (by kernel_rfl) (fun _ _ _ h => h) (Or.inl ⟨by rfl, ?_⟩) hHeld ?_
  rotate_left
  · intro w9 hSw; (try dsimp only at hSw); go_simp; (try with_reducible rfl)
  simp only [List.getElem_toArray, List.getElem_cons_zero, List.getElem_cons_succ, Act.put, List.setIfInBounds_toArray, List.set_cons_zero, List.set_cons_succ]
  refine wpAnyH_ready (rs := [2]) (by kernel_rfl) (by simp) ?_
  refine AllReadyH.cons (o := _) rfl (fun K hK => ?_) AllReadyH.nil
  go_simp
  refine (C52 _ h.drew).mono ?_
  rintro e w9 ⟨rfl, rfl⟩
  refine hK.out _ _ True.intro (fun _ => ?_)
  clear hK
  simp only [List.setIfInBounds_toArray, List.set_cons_zero, List.set_cons_succ]
  refine wpAnyH_ready (rs := [3]) (by kernel_rfl) (by simp) ?_
  refine AllReadyH.cons (o := _) rfl (fun K hK => ?_) AllReadyH.nil
  go_simp
  refine (C51 _ h2.drew).mono ?_
  rintro e w3 ⟨A3, c3, rfl, ho3, hb3⟩
  refine hK.out _ _ True.intro (fun _ => ?_)
  clear hK
  have hr3 := Rd.of_own ho3
  have h3 := h2.drew.on hb3
  refine wpAnyH_mono (S' := fun W => (convert 22 9 (.slice A3 bs.length c3)).run Try.prog W = .ok (.string (strOfNums bs)) W) (fun W _ => True.intro) _ _ _ _ ?_
  have hHeld3 : (fun W => (convert 22 9 (.slice A3 bs.length c3)).run Try.prog W = .ok (.string (strOfNums bs)) W) _ := run_str' hr3
  refine wpAnyH_take (i := 4) (oi := _) (v := ?_) rfl (by kernel_rfl) (by kernel_rfl) (by kernel_rfl) (fun _ _ _ h => h) (Or.inl ⟨by rfl, ?_⟩) hHeld3 ?_
  rotate_left
  · intro w9 hSw; (try dsimp only at hSw); go_simp; (try with_reducible rfl)
  simp only [List.getElem_toArray, List.getElem_cons_zero, List.getElem_cons_succ, Act.put, List.setIfInBounds_toArray, List.set_cons_zero, List.set_cons_succ]
  refine wpAnyH_ready (rs := [7]) (by kernel_rfl) (by simp) ?_
  refine AllReadyH.cons (o := _) rfl (fun K hK => ?_) AllReadyH.nil
  go_simp
  refine (C52 _ (h.drew.belowAt hb3 (Nat.le_refl _))).mono ?_
  rintro e w9 ⟨rfl, rfl⟩
  refine hK.out _ _ hHeld3 (fun _ => ?_)
  clear hK
  simp only [List.setIfInBounds_toArray, List.set_cons_zero, List.set_cons_succ]
  refine wpAnyH_ready (rs := [8]) (by kernel_rfl) (by simp) ?_
  refine AllReadyH.cons (o := _) rfl (fun K hK => ?_) AllReadyH.nil
  go_simp
  refine (C53 _ h3).mono ?_
  rintro e w4 ⟨A4, c4, rfl, ho4, hb4⟩
  have hr4 := Rd.of_own ho4
  refine hK.out _ _ (run_str' (hr3.on hb4)) (fun _ => ?_)
  clear hK
  refine wpAnyH_mono (S' := fun W => (convert 22 9 (.slice A4 bs.length c4)).run Try.prog W = .ok (.string (strOfNums bs)) W ∧ (convert 22 9 (.slice A3 bs.length c3)).run Try.prog W = .ok (.string (strOfNums bs)) W) (fun W h => h.2) _ _ _ _ ?_
  have hHeld4 : (fun W => (convert 22 9 (.slice A4 bs.length c4)).run Try.prog W = .ok (.string (strOfNums bs)) W ∧ (convert 22 9 (.slice A3 bs.length c3)).run Try.prog W = .ok (.string (strOfNums bs)) W) _ := ⟨run_str' hr4, run_str' (hr3.on hb4)⟩
  refine wpAnyH_take (i := 9) (oi := _) (v := ?_) rfl (by kernel_rfl) (by kernel_rfl) (by kernel_rfl) (fun _ _ _ h => h) (Or.inl ⟨by rfl, ?_⟩) hHeld4 ?_
  rotate_left
  · intro w9 hSw; (try dsimp only at hSw); go_simp; (try with_reducible rfl)
  simp only [List.getElem_toArray, List.getElem_cons_zero, List.getElem_cons_succ, Act.put, List.setIfInBounds_toArray, List.set_cons_zero, List.set_cons_succ]
  refine wpAnyH_take (i := 10) (oi := _) (v := ?_) rfl (by kernel_rfl) (by kernel_rfl) (by kernel_rfl) (fun _ _ _ h => h) (Or.inl ⟨by rfl, ?_⟩) hHeld4 ?_
  rotate_left
  · intro w9 hSw; (try dsimp only at hSw); go_simp; (try with_reducible rfl)
  simp only [List.getElem_toArray, List.getElem_cons_zero, List.getElem_cons_succ, Act.put, List.setIfInBounds_toArray, List.set_cons_zero, List.set_cons_succ]
  refine wpAnyH_take (i := 11) (oi := _) (v := ?_) rfl (by kernel_rfl) (by kernel_rfl) (by kernel_rfl) (fun _ _ _ h => h) (Or.inl ⟨by rfl, ?_⟩) hHeld4 ?_
  rotate_left
  · intro w9 hSw; (try dsimp only at hSw); go_simp; (try with_reducible rfl)
  simp only [List.getElem_toArray, List.getElem_cons_zero, List.getElem_cons_succ, Act.put, List.setIfInBounds_toArray, List.set_cons_zero, List.set_cons_succ]
  refine wpAnyH_ready (rs := [12]) (by kernel_rfl) (by simp) ?_
  refine AllReadyH.cons (o := _) rfl (fun K hK => ?_) AllReadyH.nil
  go_simp
  refine (awake45 _).mono ?_
  rintro e w5 ⟨rfl, hb5⟩
  refine hK.out _ _ ⟨run_str' (hr4.on hb5), run_str' ((hr3.on hb4).on hb5)⟩ (fun hHeld5 => ?_)
  clear hK
  refine wpAnyH_take (i := 13) (oi := _) (v := ?_) rfl (by kernel_rfl) (by kernel_rfl) (by kernel_rfl) (fun _ _ _ h => h) (Or.inl ⟨by rfl, ?_⟩) hHeld5 ?_
  rotate_left
  · intro w9 hSw; (try dsimp only at hSw); go_simp; (try with_reducible rfl)
  simp only [List.getElem_toArray, List.getElem_cons_zero, List.getElem_cons_succ, Act.put, List.setIfInBounds_toArray, List.set_cons_zero, List.set_cons_succ]
  refine wpAnyH_take (i := 14) (oi := _) (v := ?_) rfl (by kernel_rfl) (by kernel_rfl) (by kernel_rfl) (fun _ _ _ h => h) (Or.inl ⟨by rfl, ?_⟩) hHeld5 ?_
  rotate_left
  · intro w9 hSw; (try dsimp only at hSw); go_simp; (try with_reducible rfl)
  simp only [List.getElem_toArray, List.getElem_cons_zero, List.getElem_cons_succ, Act.put, List.setIfInBounds_toArray, List.set_cons_zero, List.set_cons_succ]
  refine wpAnyH_done (by kernel_rfl) ?_ _
  go_wp2_with fail
  go_ret
  exact ⟨rfl, (Below.refl _ _).drew.trans (hb3.trans ((hb4.trans (hb5.mono hb4.size)).mono hb3.size))⟩
end Go.Proofs.Ytiegbochpcmicaa
