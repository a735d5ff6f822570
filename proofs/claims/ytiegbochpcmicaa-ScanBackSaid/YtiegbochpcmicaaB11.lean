/- The walk of the law ScanBack. No condition. -/
import Derived.Test.YtiegbochpcmicaaB8
import Derived.Test.YtiegbochpcmicaaPlainBack2
namespace Go.Proofs.Ytiegbochpcmicaa
open Go.RowKit

theorem st37 : ST Try.prog 37 21 1 4 := ST.mk' (z := .int .i32 0) Try.underlying37 (by kernel_rfl) rfl (by decide)
theorem map_take_succ (L : List It) (k : Nat) (h : k < L.length) : (L.take (k + 1)).map (·.1) = (L.take k).map (·.1) ++ [L[k].1] := by
  rw [List.take_succ_eq_append_getElem h, List.map_append]; rfl

set_option maxRecDepth 100000 in
set_option maxHeartbeats 4000000 in
theorem walk9 (A : Option Addr) (n c : Nat) (zl : List Int) (B : Option Addr) (nb cb : Nat) (zs : List Int) (w : World) (h : Rd w w.heap.size 1 A n c (ints .i32 zl)) (hB : Rd w w.heap.size 1 B nb cb (ints .u8 zs)) (hz : Bytes8 zs) :
    Calls Try.prog 9 #[.slice A n c, .slice B nb cb] w fun e w' => e = .returned (.bool true) ∧ Below w.heap.size w w' := by
  have hz2 := hz.take 200
  have hmb : min nb 200 ≤ 200 := Nat.min_le_right _ _
  have C24 := short24 B nb cb w _ _ hB
  have hb2 := short_facts hB
  generalize min nb 200 = mb at hb2 hmb C24
  generalize zs.take 200 = ys at hb2 hz2
  have hm : min n 60 ≤ 60 := Nat.min_le_right _ _
  have C30 := few30 A n c w _ _ h
  have h2' := few_facts h
  generalize min n 60 = m at h2' hm C30
  generalize zl.take 60 = l at h2'
  clear h hB hz
  have HL := Lib.hid h2'.int_len
  have HYL := Lib.hid hb2.int_len
  have C32 := bytes32 A m c l w h2' (by omega)
  have hel : (encs l).length ≤ 4 * m := by have := encs_len_le l; rw [h2'.int_len] at this; exact this
  have C25a := fun W A' c' hW => items25 A' (encs l).length c' (encs l) W hW (encs_bytes l) (by omega)
  have HBL := Lib.hid (back_len l)
  have HBG := Lib.hid (back_get l)
  have hbl : (sItems (encs l)).length ≤ 240 := by have := sItems_le (encs_bytes l); omega
  generalize sItems (encs l) = I at C25a HBL HBG hbl
  go_enter Try.func9, Try.ntmps9
  go_wp2_with (first | (go_at_call 30; refine C30.mono ?_; rintro e w' ⟨rfl, rfl⟩; clear C30) | (go_at_call 24; refine C24.mono ?_; rintro e w' ⟨⟨rfl, _⟩, rfl⟩; clear C24) | (go_at_call 32; refine C32.mono ?_; rintro e w1 ⟨A1, c1, rfl, ho1, hb1⟩; clear C32) | (go_at_call 25; refine (C25a _ _ _ (Rd.of_own ho1)).mono ?_; rintro e w2 ⟨A2, c2, rfl, hr2, hb3⟩; clear C25a))
  have hb0 := hb1.trans (hb3.mono hb1.size)
  have hl2 := h2'.on hb0
  have hbs := hb2.on hb0
  clear ho1 hb1 hb3 h2' hb2
  go_loopw [5, 21] (fun k j wr => ∃ i : Nat, i ≤ m ∧ j = .int .i64 i ∧ k = .int .i64 (vn l i : Nat) ∧ wr = w2)
    (fun _ j _ => m - (intOf j).toNat)
  case atStart => exact ⟨0, Nat.zero_le _, rfl, rfl, rfl⟩
  case round =>
    obtain ⟨i, hi, rfl, rfl, rfl⟩ := hrel
    by_cases hlt : i < m
    · obtain ⟨b, off, rfl, hbb, hc⟩ := hl2.int_form (by omega)
      have x0 := hc i hlt
      have CW := fun W => width26 (gz l i) W
      have hvn := vn_le l i
      clear hc
      by_cases hw : wd (gz l i) = 0
      · have HV := Lib.hid (vn_skip l i (by rw [HL.out]; exact hlt) hw)
        rw [hw] at CW
        clear hw
        go_wp2_with (go_at_call 26; refine (CW _).mono ?_; rintro e w1 ⟨rfl, rfl⟩)
        go_roundw
        case rel => exact ⟨i + 1, by omega, by go_num, by rw [HV.out], by first | trivial | rfl⟩
        case measure => simp [intOf]; omega
      · obtain ⟨v1, v2, v3⟩ := vn_next l i (by rw [HL.out]; exact hlt) hw
        have HV := Lib.hid v1
        have t1 : ((wd (gz l i) : Nat) : Int) ≠ 0 := by omega
        have t2 : (((wd (gz l i) : Nat) : Int) == 0) = false := by simpa using t1
        have hvi : vn l i < I.length := by rw [HBL.out]; exact v2
        have hget := HBG.out (vn l i) hvi
        rw [v3] at hget
        obtain ⟨b2, o2, rfl, hbb2, hc2⟩ := hr2.it_form (by omega)
        obtain ⟨y0, _, _⟩ := hc2 (vn l i) hvi
        rw [hget] at y0
        have HC2 := Lib.hid hc2
        clear v1 v2 v3 hw hget t1 hc2
        generalize vn l i = q at *
        go_wp2_with (go_at_call 26; refine (CW _).mono ?_; rintro e w1 ⟨rfl, rfl⟩)
        go_roundw
        case rel => exact ⟨i + 1, by omega, by go_num, by rw [HV.out]; go_num, by first | trivial | rfl⟩
        case measure => simp [intOf]; omega
    · obtain rfl : i = m := by omega
      have hvl : vn l i = I.length := by rw [HBL.out, ← HL.out]; exact vn_all l
      rw [hvl]
      clear hvl HBG HBL hr2 hel
      have C25 := fun W hW => items25 B mb cb ys W hW hz2 (by omega)
      have C29 := fun W hW => valid29 B mb cb ys W hW hz2 (by omega)
      have hlm : (sItems ys).length ≤ 200 := by have h1 := sItems_le hz2; have h3 := HYL.out; omega
      have HEQ := Lib.hid (encs_items hz2)
      generalize sItems ys = L at C25 C29 hlm HEQ
      go_wp2_with (go_at_call 25; refine (C25 _ hbs).mono ?_; rintro e w3 ⟨A3, c3, rfl, hr3, hb3⟩; clear C25)
      have hbs3 := hbs.on hb3
      go_loopw [9, 47] (fun out j wr => ∃ k : Nat, k ≤ L.length ∧ j = .int .i64 k ∧ wr.ownsRow w3.heap.size 21 1 out k (ints .i32 ((L.take k).map (·.1))) ∧ Below w3.heap.size w3 wr)
        (fun _ j _ => L.length - (intOf j).toNat)
      case atStart => exact ⟨0, Nat.zero_le _, rfl, World.ownsRow_nil _ _ _ _, Below.refl _ _⟩
      case round =>
        obtain ⟨k, hk, rfl, hown, hb⟩ := hrel
        have hsz := hb.size
        by_cases hlt : k < L.length
        · obtain ⟨b1, o1, rfl, hbb1, hc1⟩ := (hr3.below hb).it_form (by omega)
          obtain ⟨x0, x1, x2⟩ := hc1 k hlt
          have HM := Lib.hid (map_take_succ L k hlt)
          generalize L[k] = it at x0 x1 x2 HM
          obtain ⟨r, p, N⟩ := it
          simp only at x0 x1 x2 HM
          clear hc1
          go_wp2_with (at_builtin; refine wpList_push st37 rfl _ _ rfl _ rfl (hown.alloc _) [.int .i32 r] (wr.heap.size + 1) rfl (by simp) rfl (ints_cells' .i32 [r]) (by omega) (by omega) (hb.alloc hsz _) (by simp; omega) ?_; intro v4 w4 hown4 hb4 _; clear hown)
          go_roundw
          case rel => exact ⟨k + 1, by omega, by go_num, own_as hown4 rfl (by rw [HM.out, ints, ints, List.map_append]; rfl), hb4⟩
          case measure => simp [intOf]; omega
        · obtain rfl : k = L.length := by omega
          rw [List.take_length] at hown
          obtain ⟨A4, c4, rfl, ho4⟩ := own_form hown
          have hall := (Rd.of_own ho4).drew
          have hbs4 := (hbs3.on hb).drew
          have hbs0 := hb0.trans (((hb3.trans (hb.mono hb3.size))).mono hb0.size)
          have e0 := run_str' hbs4
          have C32b := fun W hW => bytes32 A4 L.length c4 (L.map (·.1)) W hW (by omega)
          clear hown ho4
          have tb : ((strOfNums (encs (L.map (·.1)))).toList == (strOfNums ys).toList) = okTo L L.length := by rw [str_beq (encs_bytes _) hz2, HEQ.out, okTo, List.take_length]
          generalize okTo L L.length = vb at tb C29
          go_wp2_with fail
          refine wp_region_held_drew (S := fun W => (convert 22 9 (.slice B mb cb)).run Try.prog W = .ok (.string (strOfNums ys)) W) (by kernel_rfl) e0 (fun hHeld => ?_)
          change wpAnyH _ _ _ _ _ 19 #[false, false, false, false, false, false, false, false, false, false, false, false, false, false, false, false, false, false, false] _ _
          refine wpAnyH_take (i := 0) (oi := _) (v := ?_) rfl (by kernel_rfl) (by kernel_rfl) (by kernel_rfl) (fun _ _ _ h => h) (Or.inl ⟨by rfl, ?_⟩) hHeld ?_
          rotate_left
          · intro w9 hSw; (try dsimp only at hSw); go_simp; (try with_reducible rfl)
          simp only [List.getElem_toArray, List.getElem_cons_zero, Act.put, List.setIfInBounds_toArray, List.set_cons_zero, List.set_cons_succ]
          refine wpAnyH_take (i := 1) (oi := _) (v := ?_) rfl (by kernel_rfl) (by kernel_rfl) (by kernel_rfl) (fun _ _ _ h => h) (Or.inl ⟨by rfl, ?_⟩) hHeld ?_
          rotate_left
          · intro w9 hSw; (try dsimp only at hSw); go_simp; (try with_reducible rfl)
          simp only [List.getElem_toArray, List.getElem_cons_zero, List.getElem_cons_succ, Act.put, List.setIfInBounds_toArray, List.set_cons_zero, List.set_cons_succ]
          refine wpAnyH_take (i := 2) (oi := _) (v := ?_) rfl (by kernel_rfl) (by kernel_rfl) (by kernel_rfl) (fun _ _ _ h => h) (Or.inl ⟨by rfl, ?_⟩) hHeld ?_
          rotate_left
          · intro w9 hSw; (try dsimp only at hSw); go_simp; (try with_reducible rfl)
          simp only [List.getElem_toArray, List.getElem_cons_zero, List.getElem_cons_succ, Act.put, List.setIfInBounds_toArray, List.set_cons_zero, List.set_cons_succ]
          refine wpAnyH_take (i := 3) (oi := _) (v := ?_) rfl (by kernel_rfl) (by kernel_rfl) (by kernel_rfl) (fun _ _ _ h => h) (Or.inl ⟨by rfl, ?_⟩) hHeld ?_
          rotate_left
          · intro w9 hSw; (try dsimp only at hSw); go_simp; (try with_reducible rfl)
          simp only [List.getElem_toArray, List.getElem_cons_zero, List.getElem_cons_succ, Act.put, List.setIfInBounds_toArray, List.set_cons_zero, List.set_cons_succ]
          refine wpAnyH_take (i := 4) (oi := _) (v := ?_) rfl (by kernel_rfl) (by kernel_rfl) (by kernel_rfl) (fun _ _ _ h => h) (Or.inl ⟨by rfl, ?_⟩) hHeld ?_
          rotate_left
          · intro w9 hSw; (try dsimp only at hSw); go_simp; (try with_reducible rfl)
          simp only [List.getElem_toArray, List.getElem_cons_zero, List.getElem_cons_succ, Act.put, List.setIfInBounds_toArray, List.set_cons_zero, List.set_cons_succ]
          refine wpAnyH_take (i := 5) (oi := _) (v := ?_) rfl (by kernel_rfl) (by kernel_rfl) (by kernel_rfl) (fun _ _ _ h => h) (Or.inl ⟨by rfl, ?_⟩) hHeld ?_
          rotate_left
          · intro w9 hSw; (try dsimp only at hSw); go_simp; (try with_reducible rfl)
          simp only [List.getElem_toArray, List.getElem_cons_zero, List.getElem_cons_succ, Act.put, List.setIfInBounds_toArray, List.set_cons_zero, List.set_cons_succ]
          refine wpAnyH_take (i := 8) (oi := _) (v := ?_) rfl (by kernel_rfl) (by kernel_rfl) (by kernel_rfl) (fun _ _ _ h => h) (Or.inl ⟨by rfl, ?_⟩) hHeld ?_
          rotate_left
          · intro w9 hSw; (try dsimp only at hSw); go_simp; (try with_reducible rfl)
          simp only [List.getElem_toArray, List.getElem_cons_zero, List.getElem_cons_succ, Act.put, List.setIfInBounds_toArray, List.set_cons_zero, List.set_cons_succ]
          refine wpAnyH_take (i := 9) (oi := _) (v := ?_) rfl (by kernel_rfl) (by kernel_rfl) (by kernel_rfl) (fun _ _ _ h => h) (Or.inl ⟨by rfl, ?_⟩) hHeld ?_
          rotate_left
          · intro w9 hSw; (try dsimp only at hSw); go_simp; (try with_reducible rfl)
          simp only [List.getElem_toArray, List.getElem_cons_zero, List.getElem_cons_succ, Act.put, List.setIfInBounds_toArray, List.set_cons_zero, List.set_cons_succ]
          refine wpAnyH_take (i := 11) (oi := _) (v := ?_) rfl (by kernel_rfl) (by kernel_rfl) (by kernel_rfl) (fun _ _ _ h => h) (Or.inl ⟨by rfl, ?_⟩) hHeld ?_
          rotate_left
          · intro w9 hSw; (try dsimp only at hSw); go_simp; (try with_reducible rfl)
          simp only [List.getElem_toArray, List.getElem_cons_zero, List.getElem_cons_succ, Act.put, List.setIfInBounds_toArray, List.set_cons_zero, List.set_cons_succ]
          refine wpAnyH_ready (rs := [6]) (by kernel_rfl) (by simp) ?_
          refine AllReadyH.cons (o := _) rfl (fun K hK => ?_) AllReadyH.nil
          · go_simp
            refine (C32b _ hall).mono ?_
            rintro e w5 ⟨A7, c7, rfl, ho7, hb7⟩
            have hbW := hbs4.on hb7
            refine hK.out _ _ (run_str' hbW) (fun _ => ?_)
            clear hK
            refine wpAnyH_mono (S' := fun W => (convert 22 9 (.slice A7 (encs (L.map (·.1))).length c7)).run Try.prog W = .ok (.string (strOfNums (encs (L.map (·.1))))) W ∧ (convert 22 9 (.slice B mb cb)).run Try.prog W = .ok (.string (strOfNums ys)) W) (fun W h => h.2) _ _ _ _ ?_
            have hHeld3 : (fun W => (convert 22 9 (.slice A7 (encs (L.map (·.1))).length c7)).run Try.prog W = .ok (.string (strOfNums (encs (L.map (·.1))))) W ∧ (convert 22 9 (.slice B mb cb)).run Try.prog W = .ok (.string (strOfNums ys)) W) _ := ⟨run_str' (Rd.of_own ho7), run_str' hbW⟩
            refine wpAnyH_take (i := 7) (oi := _) (v := ?_) rfl (by kernel_rfl) (by kernel_rfl) (by kernel_rfl) (fun _ _ _ h => h) (Or.inl ⟨by rfl, ?_⟩) hHeld3 ?_
            rotate_left
            · intro w9 hSw; (try dsimp only at hSw); go_simp; (try with_reducible rfl)
            simp only [List.getElem_toArray, List.getElem_cons_zero, List.getElem_cons_succ, Act.put, List.setIfInBounds_toArray, List.set_cons_zero, List.set_cons_succ]
            refine wpAnyH_take (i := 10) (oi := _) (v := ?_) rfl (by kernel_rfl) (by kernel_rfl) (by kernel_rfl) (fun _ _ _ h => h) (Or.inl ⟨by rfl, ?_⟩) hHeld3 ?_
            rotate_left
            · intro w9 hSw; (try dsimp only at hSw); go_simp; (try with_reducible rfl)
            simp only [List.getElem_toArray, List.getElem_cons_zero, List.getElem_cons_succ, Act.put, List.setIfInBounds_toArray, List.set_cons_zero, List.set_cons_succ]
            refine wpAnyH_ready (rs := [12]) (by kernel_rfl) (by simp) ?_
            refine AllReadyH.cons (o := _) rfl (fun K hK => ?_) AllReadyH.nil
            go_simp
            refine (C29 _ hbW).mono ?_
            rintro e w6 ⟨rfl, hb8⟩
            have hr7 := (Rd.of_own ho7).on hb8
            have hbW2 := hbW.on hb8
            refine hK.out _ _ ⟨run_str' hr7, run_str' hbW2⟩ (fun hHeld4 => ?_)
            clear hK
            refine wpAnyH_take (i := 13) (oi := _) (v := ?_) rfl (by kernel_rfl) (by kernel_rfl) (by kernel_rfl) (fun _ _ _ h => h) (Or.inl ⟨by rfl, ?_⟩) hHeld4 ?_
            rotate_left
            · intro w9 hSw; (try dsimp only at hSw); go_simp; (try with_reducible rfl)
            simp only [List.getElem_toArray, List.getElem_cons_zero, List.getElem_cons_succ, Act.put, List.setIfInBounds_toArray, List.set_cons_zero, List.set_cons_succ]
            refine wpAnyH_take (i := 14) (oi := _) (v := ?_) rfl (by kernel_rfl) (by kernel_rfl) (by kernel_rfl) (fun _ _ _ h => h) (Or.inl ⟨by rfl, ?_⟩) hHeld4 ?_
            rotate_left
            · intro w9 hSw; (try dsimp only at hSw); go_simp; (try with_reducible rfl)
            simp only [List.getElem_toArray, List.getElem_cons_zero, List.getElem_cons_succ, Act.put, List.setIfInBounds_toArray, List.set_cons_zero, List.set_cons_succ]
            refine wpAnyH_take (i := 15) (oi := _) (v := ?_) rfl (by kernel_rfl) (by kernel_rfl) (by kernel_rfl) (fun _ _ _ h => h) (Or.inl ⟨by rfl, ?_⟩) hHeld4 ?_
            rotate_left
            · intro w9 hSw; (try dsimp only at hSw); go_simp; (try with_reducible rfl)
            simp only [List.getElem_toArray, List.getElem_cons_zero, List.getElem_cons_succ, Act.put, List.setIfInBounds_toArray, List.set_cons_zero, List.set_cons_succ]
            refine wpAnyH_ready (rs := [16]) (by kernel_rfl) (by simp) ?_
            refine AllReadyH.cons (o := _) rfl (fun K hK => ?_) AllReadyH.nil
            go_simp
            refine (awake27 _).mono ?_
            rintro e w7 ⟨rfl, hb9⟩
            refine hK.out _ _ ⟨run_str' (hr7.on hb9), run_str' (hbW2.on hb9)⟩ (fun hHeld5 => ?_)
            clear hK
            refine wpAnyH_take (i := 17) (oi := _) (v := ?_) rfl (by kernel_rfl) (by kernel_rfl) (by kernel_rfl) (fun _ _ _ h => h) (Or.inl ⟨by rfl, ?_⟩) hHeld5 ?_
            rotate_left
            · intro w9 hSw; (try dsimp only at hSw); go_simp; (try with_reducible rfl)
            simp only [List.getElem_toArray, List.getElem_cons_zero, List.getElem_cons_succ, Act.put, List.setIfInBounds_toArray, List.set_cons_zero, List.set_cons_succ]
            refine wpAnyH_take (i := 18) (oi := _) (v := ?_) rfl (by kernel_rfl) (by kernel_rfl) (by kernel_rfl) (fun _ _ _ h => h) (Or.inl ⟨by rfl, ?_⟩) hHeld5 ?_
            rotate_left
            · intro w9 hSw; (try dsimp only at hSw); go_simp; (try with_reducible rfl)
            simp only [List.getElem_toArray, List.getElem_cons_zero, List.getElem_cons_succ, Act.put, List.setIfInBounds_toArray, List.set_cons_zero, List.set_cons_succ]
            refine wpAnyH_done (by kernel_rfl) ?_ _
            go_wp2_with fail
            go_ret
            exact ⟨rfl, hbs0.drew.trans ((hb7.trans ((hb8.trans (hb9.mono hb8.size)).mono hb7.size)).mono hbs0.size)⟩
end Go.Proofs.Ytiegbochpcmicaa
