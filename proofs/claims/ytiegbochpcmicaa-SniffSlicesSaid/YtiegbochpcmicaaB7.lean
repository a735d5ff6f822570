/- The walk of the document's First. No condition. -/
import Derived.Test.YtiegbochpcmicaaB5
import Derived.Test.YtiegbochpcmicaaPlainFirst
import Derived.Deep.RegionWith
namespace Go.Proofs.Ytiegbochpcmicaa
open Go.RowKit

theorem lead_at (m : Nat) (h : m ≤ 4) : (#[Value.int .i64 0, .int .i64 0, .int .i64 192, .int .i64 224, .int .i64 240] : Array Value)[m]? = some (.int .i64 (leadOf m)) := by
  match m, h with
  | 0, _ => rfl
  | 1, _ => rfl
  | 2, _ => rfl
  | 3, _ => rfl
  | 4, _ => rfl

/-- What First says of bytes. -/
def firstOf (zs : List Int) : Int × Nat := if zs.length = 0 then (0, 0) else sStep zs 0

theorem first35_nil (A : Option Addr) (c : Nat) (w : World) : Calls Try.prog 35 #[.slice A 0 c] w fun e w' => e = .returned (.tuple #[.int .i32 0, .int .i64 0]) ∧ Below w.heap.size w w' := by
  go_enter Try.func35, Try.ntmps35
  go_wp2_with fail
  go_ret2
  exact ⟨rfl, Below.refl _ _⟩

theorem wpAnyH_mono {P : Program} {md : Region.Mode} {ops : Array Oper} {Q : Exit → Act → World → Prop} {S S' : World → Prop} (h : ∀ w, S' w → S w) :
    ∀ (fuel : Nat) (listed : Array Bool) (a : Act) (w : World), wpAnyH P md ops Q S' fuel listed a w → wpAnyH P md ops Q S fuel listed a w
  | 0, _, _, _, hw => hw
  | fuel + 1, _, _, _, hw => ⟨hw.1, fun i hi => wpOp_mono (fun a' w' hq => ⟨h _ hq.1, wpAnyH_mono h fuel _ a' w' hq.2⟩) (hw.2 i hi)⟩

set_option maxRecDepth 100000 in
set_option maxHeartbeats 2000000 in
theorem first35_some (A : Option Addr) (n c : Nat) (zs : List Int) (w : World) (h : Rd w w.heap.size 1 A n c (ints .u8 zs)) (hz : Bytes8 zs) (hn : n ≤ 4096) (hpos : 0 < n) :
    Calls Try.prog 35 #[.slice A n c] w fun e w' => e = .returned (.tuple #[.int .i32 (sStep zs 0).1, .int .i64 (sStep zs 0).2]) ∧ Below w.heap.size w w' := by
  have HL := Lib.hid h.int_len
  have hcap := h.cap
  have hne : ((n : Int) == 0) = false := by simp; omega
  obtain ⟨b, off, rfl, hbb, hc⟩ := h.int_form hpos
  have h00 := hc 0 hpos
  rw [Nat.add_zero] at h00
  have hlead : ∀ (W : World) (m : Nat), m ≤ 4 → Below (w.alloc (.cells #[Value.int .i64 0, .int .i64 0, .int .i64 192, .int .i64 224, .int .i64 240] 3)).heap.size (w.alloc (.cells #[Value.int .i64 0, .int .i64 0, .int .i64 192, .int .i64 224, .int .i64 240] 3)) W → W.cell? ⟨w.heap.size, m, none⟩ = some (.int .i64 (leadOf m)) := fun W m hm hW => by
    rw [hW.cell (p := ⟨w.heap.size, m, none⟩) (by simp), cell_in w w.heap.size m _ 3 rfl, lead_at m hm]
  have hbase := (Below.refl w.heap.size w).alloc (Nat.le_refl _) (.cells #[Value.int .i64 0, .int .i64 0, .int .i64 192, .int .i64 224, .int .i64 240] 3)
  go_enter Try.func35, Try.ntmps35
  go_wp2_with fail
  clear hne
  go_loopw [5] (fun i wr => ∃ m : Nat, 1 ≤ m ∧ m ≤ 5 ∧ i = .int .i64 m ∧ Hid (∀ j, 1 ≤ j → j < m → j ≤ zs.length → ¬ Acc zs j) ∧ Below (w.alloc (.cells #[Value.int .i64 0, .int .i64 0, .int .i64 192, .int .i64 224, .int .i64 240] 3)).heap.size (w.alloc (.cells #[Value.int .i64 0, .int .i64 0, .int .i64 192, .int .i64 224, .int .i64 240] 3)) wr)
    (fun i _ => 5 - (intOf i).toNat)
  case atStart => exact ⟨1, by omega, by omega, rfl, fun j h1 h2 => by omega, Below.refl _ _⟩
  case round =>
    obtain ⟨m, hm1, hm5, rfl, HN, hb⟩ := hrel
    have HB := Lib.hid hb
    have hW := hbase.trans (hb.mono (by simp))
    have HW := Lib.hid hW
    by_cases hlt : m ≤ 4 ∧ m ≤ n
    · obtain ⟨hm4, hmn⟩ := hlt
      have x0 := (hW.cell (p := ⟨b, off, none⟩) hbb).trans h00
      have y0 := hlead wr m hm4 hb
      have hbl := pv_bd hz m 1 (by omega)
      have e1 : Hid (gz zs 0 - leadOf m = pv zs m 1) := rfl
      have hlb : 0 ≤ leadOf m ∧ leadOf m ≤ 240 := by unfold leadOf; repeat' split
                                                     all_goals omega
      have hb0 := hz.at_ 0
      clear hlead hW hb
      go_wp2_with fail
      go_quiet (fail)
      go_wp2_with fail
      rw [e1.out]
      go_loop [6, 7] (fun v i => ∃ k : Nat, 1 ≤ k ∧ k ≤ m ∧ i = .int .i64 k ∧ v = .int .i64 (pv zs m k)) (fun _ i => m - (intOf i).toNat)
      case atStart => exact ⟨1, by omega, by omega, rfl, rfl⟩
      case round =>
        obtain ⟨k, hk1, hkm, rfl, rfl⟩ := hrel
        have hv := pv_bd hz m k (by omega)
        by_cases hkl : k < m
        · have z0 := (HW.out.cell (p := ⟨b, off + k, none⟩) hbb).trans (hc k (by omega))
          have hbk := hz.at_ k
          have e2 := Lib.hid (pv_step zs m k hk1)
          go_wp2_with fail
          go_round
          case rel => exact ⟨k + 1, by omega, by omega, by go_num, by rw [e2.out]⟩
          case measure => simp [intOf]; omega
        · obtain rfl : k = m := by omega
          by_cases hr : 0 ≤ pv zs k k ∧ pv zs k k ≤ 1114111
          · obtain ⟨hr0, hr1⟩ := hr
            have CR := fun W => rune62 (pv zs k k) W
            have hra := (h.below HW.out).take (k := k) hmn
            rw [← List.map_take, Nat.mul_one] at hra
            have hb' := Below.drewN_ HB.out nq
            have hra' := hra.drewN nq
            have HW' := Below.drewN_ HW.out nq
            go_wp2_with fail
            clear hra HB HW
            generalize wr.drewN nq = W0 at hb' hra' HW' ⊢
            obtain ⟨A0, hA0⟩ : ∃ A0 : Option Addr, A0 = some ⟨b, off, none⟩ := ⟨_, rfl⟩
            rw [← hA0] at hra' ⊢
            have HA := Lib.hid hA0; clear hA0
            have HC := Lib.hid hc; clear hc
            have HH := Lib.hid h; clear h
            have e0 := run_str' hra'.drew
            have hszW := HW'.size
            have s0 : (0 : Int) ≤ (k : Int) := by omega
            have s1 : (k : Int) ≤ (c : Int) := by omega
            have s2 : (k : Int).toNat = k := by omega
            have r1 : IntKind.i32.wrap (pv zs k k) = pv zs k k := IntWalk.i32_in _ (by omega)
            have HX := Lib.hid HW'; clear HW'
            have HY := Lib.hid hb'; clear hb'
            by_cases hacc : enc (pv zs k k) = zs.take k
            · have t1 : ((strOfNums (enc (pv zs k k))).toList == (strOfNums (zs.take k)).toList) = true := by rw [str_beq (enc_bytes _) (hz.take _)]; simpa using hacc
              have HD := Lib.hid (acc_dec hz hm1 hm4 (by rw [HL.out]; exact hmn) ⟨hr0, hr1, hacc⟩)
              clear hacc
              refine wp_region_held_drew (S := fun W => (convert 22 9 (.slice A0 k c)).run Try.prog W = .ok (.string (strOfNums (zs.take k))) W) (by kernel_rfl) e0 (fun hHeld => ?_)
              change wpAnyH _ _ _ _ _ 17 #[false, false, false, false, false, false, false, false, false, false, false, false, false, false, false, false, false] _ _
              refine wpAnyH_take (i := 0) (oi := _) (v := ?_) rfl (by kernel_rfl) (by kernel_rfl) (by kernel_rfl) (fun _ _ _ h => h) (Or.inl ⟨by rfl, ?_⟩) hHeld ?_
              rotate_left
              · intro w9 hSw; (try dsimp only at hSw); go_simp; (try with_reducible rfl)
              simp only [List.getElem_toArray, List.getElem_cons_zero, Act.put, List.setIfInBounds_toArray, List.set_cons_zero, List.set_cons_succ]
              refine wpAnyH_take (i := 1) (oi := _) (v := ?_) rfl (by kernel_rfl) (by kernel_rfl) (by kernel_rfl) (fun _ _ _ h => h) (Or.inl ⟨by rfl, ?_⟩) hHeld ?_
              rotate_left
              · intro w9 hSw; (try dsimp only at hSw); go_simp; (try with_reducible rfl)
              simp only [List.getElem_toArray, List.getElem_cons_zero, List.getElem_cons_succ, Act.put, List.setIfInBounds_toArray, List.set_cons_zero, List.set_cons_succ]
              refine wpAnyH_take (i := 2) (oi := _) (v := ?_) rfl (by kernel_rfl) (by kernel_rfl) (by kernel_rfl) (fun _ _ _ h => h) (Or.inl ⟨by rfl, ?_⟩) hHeld ?_
              rotate_left
              · intro w9 hSw; (try dsimp only at hSw); go_simp; (try with_reducible rfl)
              simp only [List.getElem_toArray, List.getElem_cons_zero, List.getElem_cons_succ, Act.put, List.setIfInBounds_toArray, List.set_cons_zero, List.set_cons_succ]
              refine wpAnyH_take (i := 3) (oi := _) (v := ?_) rfl (by kernel_rfl) (by kernel_rfl) (by kernel_rfl) (fun _ _ _ h => h) (Or.inl ⟨by rfl, ?_⟩) hHeld ?_
              rotate_left
              · intro w9 hSw; (try dsimp only at hSw); go_simp; (try with_reducible rfl)
              simp only [List.getElem_toArray, List.getElem_cons_zero, List.getElem_cons_succ, Act.put, List.setIfInBounds_toArray, List.set_cons_zero, List.set_cons_succ]
              refine wpAnyH_take (i := 4) (oi := _) (v := ?_) rfl (by kernel_rfl) (by kernel_rfl) (by kernel_rfl) (fun _ _ _ h => h) (Or.inl ⟨by rfl, ?_⟩) hHeld ?_
              rotate_left
              · intro w9 hSw; (try dsimp only at hSw); go_simp; (try with_reducible rfl)
              simp only [List.getElem_toArray, List.getElem_cons_zero, List.getElem_cons_succ, Act.put, List.setIfInBounds_toArray, List.set_cons_zero, List.set_cons_succ]
              refine wpAnyH_take (i := 5) (oi := _) (v := ?_) rfl (by kernel_rfl) (by kernel_rfl) (by kernel_rfl) (fun _ _ _ h => h) (Or.inl ⟨by rfl, ?_⟩) hHeld ?_
              rotate_left
              · intro w9 hSw; (try dsimp only at hSw); go_simp; (try with_reducible rfl)
              simp only [List.getElem_toArray, List.getElem_cons_zero, List.getElem_cons_succ, Act.put, List.setIfInBounds_toArray, List.set_cons_zero, List.set_cons_succ]
              refine wpAnyH_take (i := 6) (oi := _) (v := ?_) rfl (by kernel_rfl) (by kernel_rfl) (by kernel_rfl) (fun _ _ _ h => h) (Or.inl ⟨by rfl, ?_⟩) hHeld ?_
              rotate_left
              · intro w9 hSw; (try dsimp only at hSw); go_simp; (try with_reducible rfl)
              simp only [List.getElem_toArray, List.getElem_cons_zero, List.getElem_cons_succ, Act.put, List.setIfInBounds_toArray, List.set_cons_zero, List.set_cons_succ]
              refine wpAnyH_take (i := 7) (oi := _) (v := ?_) rfl (by kernel_rfl) (by kernel_rfl) (by kernel_rfl) (fun _ _ _ h => h) (Or.inl ⟨by rfl, ?_⟩) hHeld ?_
              rotate_left
              · intro w9 hSw; (try dsimp only at hSw); go_simp; (try with_reducible rfl)
              simp only [List.getElem_toArray, List.getElem_cons_zero, List.getElem_cons_succ, Act.put, List.setIfInBounds_toArray, List.set_cons_zero, List.set_cons_succ]
              refine wpAnyH_take (i := 8) (oi := _) (v := ?_) rfl (by kernel_rfl) (by kernel_rfl) (by kernel_rfl) (fun _ _ _ h => h) (Or.inl ⟨by rfl, ?_⟩) hHeld ?_
              rotate_left
              · intro w9 hSw; (try dsimp only at hSw); go_simp; (try with_reducible rfl)
              simp only [List.getElem_toArray, List.getElem_cons_zero, List.getElem_cons_succ, Act.put, List.setIfInBounds_toArray, List.set_cons_zero, List.set_cons_succ]
              refine wpAnyH_take (i := 11) (oi := _) (v := ?_) rfl (by kernel_rfl) (by kernel_rfl) (by kernel_rfl) (fun _ _ _ h => h) (Or.inl ⟨by rfl, ?_⟩) hHeld ?_
              rotate_left
              · intro w9 hSw; (try dsimp only at hSw); go_simp; (try with_reducible rfl)
              simp only [List.getElem_toArray, List.getElem_cons_zero, List.getElem_cons_succ, Act.put, List.setIfInBounds_toArray, List.set_cons_zero, List.set_cons_succ]
              refine wpAnyH_take (i := 12) (oi := _) (v := ?_) rfl (by kernel_rfl) (by kernel_rfl) (by kernel_rfl) (fun _ _ _ h => h) (Or.inl ⟨by rfl, ?_⟩) hHeld ?_
              rotate_left
              · intro w9 hSw; (try dsimp only at hSw); go_simp; (try with_reducible rfl)
              simp only [List.getElem_toArray, List.getElem_cons_zero, List.getElem_cons_succ, Act.put, List.setIfInBounds_toArray, List.set_cons_zero, List.set_cons_succ]
              refine wpAnyH_take (i := 13) (oi := _) (v := ?_) rfl (by kernel_rfl) (by kernel_rfl) (by kernel_rfl) (fun _ _ _ h => h) (Or.inl ⟨by rfl, ?_⟩) hHeld ?_
              rotate_left
              · intro w9 hSw; (try dsimp only at hSw); go_simp; (try with_reducible rfl)
              simp only [List.getElem_toArray, List.getElem_cons_zero, List.getElem_cons_succ, Act.put, List.setIfInBounds_toArray, List.set_cons_zero, List.set_cons_succ]
              refine wpAnyH_take (i := 14) (oi := _) (v := ?_) rfl (by kernel_rfl) (by kernel_rfl) (by kernel_rfl) (fun _ _ _ h => h) (Or.inl ⟨by rfl, ?_⟩) hHeld ?_
              rotate_left
              · intro w9 hSw; (try dsimp only at hSw); go_simp; (try with_reducible rfl)
              simp only [List.getElem_toArray, List.getElem_cons_zero, List.getElem_cons_succ, Act.put, List.setIfInBounds_toArray, List.set_cons_zero, List.set_cons_succ]
              refine wpAnyH_ready (rs := [9]) (by kernel_rfl) (by simp) ?_
              refine AllReadyH.cons (o := _) rfl (fun K hK => ?_) AllReadyH.nil
              go_simp
              refine (CR _).mono ?_
              rintro e w2 ⟨A7, c7, rfl, ho7, hb7⟩
              have e7 := run_str' (Rd.of_own ho7)
              have e8 := run_str' (hra'.drew.belowAt hb7 (by simp; omega))
              refine hK.out _ _ e8 (fun hHeld2 => ?_)
              clear hK
              refine wpAnyH_mono (S' := fun W => (convert 22 9 (.slice A7 (wd (pv zs k k)) c7)).run Try.prog W = .ok (.string (strOfNums (enc (pv zs k k)))) W ∧ (convert 22 9 (.slice A0 k c)).run Try.prog W = .ok (.string (strOfNums (zs.take k))) W) (fun W h => h.2) _ _ _ _ ?_
              have hHeld3 : (fun W => (convert 22 9 (.slice A7 (wd (pv zs k k)) c7)).run Try.prog W = .ok (.string (strOfNums (enc (pv zs k k)))) W ∧ (convert 22 9 (.slice A0 k c)).run Try.prog W = .ok (.string (strOfNums (zs.take k))) W) w2 := ⟨e7, e8⟩
              refine wpAnyH_take (i := 10) (oi := _) (v := ?_) rfl (by kernel_rfl) (by kernel_rfl) (by kernel_rfl) (fun _ _ _ h => h) (Or.inl ⟨by rfl, ?_⟩) hHeld3 ?_
              rotate_left
              · intro w9 hSw; (try dsimp only at hSw); go_simp; (try with_reducible rfl)
              simp only [List.getElem_toArray, List.getElem_cons_zero, List.getElem_cons_succ, Act.put, List.setIfInBounds_toArray, List.set_cons_zero, List.set_cons_succ]
              refine wpAnyH_take (i := 15) (oi := _) (v := ?_) rfl (by kernel_rfl) (by kernel_rfl) (by kernel_rfl) (fun _ _ _ h => h) (Or.inl ⟨by rfl, ?_⟩) hHeld3 ?_
              rotate_left
              · intro w9 hSw; (try dsimp only at hSw); go_simp; (try with_reducible rfl)
              simp only [List.getElem_toArray, List.getElem_cons_zero, List.getElem_cons_succ, Act.put, List.setIfInBounds_toArray, List.set_cons_zero, List.set_cons_succ]
              refine wpAnyH_take (i := 16) (oi := _) (v := ?_) rfl (by kernel_rfl) (by kernel_rfl) (by kernel_rfl) (fun _ _ _ h => h) (Or.inl ⟨by rfl, ?_⟩) hHeld3 ?_
              rotate_left
              · intro w9 hSw; (try dsimp only at hSw); go_simp; (try with_reducible rfl)
              simp only [List.getElem_toArray, List.getElem_cons_zero, List.getElem_cons_succ, Act.put, List.setIfInBounds_toArray, List.set_cons_zero, List.set_cons_succ]
              refine wpAnyH_done (by kernel_rfl) ?_ _
              go_wp2_with fail
              go_ret2
              exact ⟨by rw [HD.out]; rfl, HX.out.drew.trans (hb7.mono (by simp; omega))⟩
            · have t1 : ((strOfNums (enc (pv zs k k))).toList == (strOfNums (zs.take k)).toList) = false := by rw [str_beq (enc_bytes _) (hz.take _)]; simpa using hacc
              have HN2 := Lib.hid (fun j h1 h2 h3 => if e : j = k then (fun (g : Acc zs j) => hacc (by rw [← e]; exact g.2.2)) else HN.out j h1 (by omega) h3 : ∀ j, 1 ≤ j → j < k + 1 → j ≤ zs.length → ¬ Acc zs j)
              clear hacc
              refine wp_region_held_drew (S := fun W => (convert 22 9 (.slice A0 k c)).run Try.prog W = .ok (.string (strOfNums (zs.take k))) W) (by kernel_rfl) e0 (fun hHeld => ?_)
              change wpAnyH _ _ _ _ _ 17 #[false, false, false, false, false, false, false, false, false, false, false, false, false, false, false, false, false] _ _
              refine wpAnyH_take (i := 0) (oi := _) (v := ?_) rfl (by kernel_rfl) (by kernel_rfl) (by kernel_rfl) (fun _ _ _ h => h) (Or.inl ⟨by rfl, ?_⟩) hHeld ?_
              rotate_left
              · intro w9 hSw; (try dsimp only at hSw); go_simp; (try with_reducible rfl)
              simp only [List.getElem_toArray, List.getElem_cons_zero, Act.put, List.setIfInBounds_toArray, List.set_cons_zero, List.set_cons_succ]
              refine wpAnyH_take (i := 1) (oi := _) (v := ?_) rfl (by kernel_rfl) (by kernel_rfl) (by kernel_rfl) (fun _ _ _ h => h) (Or.inl ⟨by rfl, ?_⟩) hHeld ?_
              rotate_left
              · intro w9 hSw; (try dsimp only at hSw); go_simp; (try with_reducible rfl)
              simp only [List.getElem_toArray, List.getElem_cons_zero, List.getElem_cons_succ, Act.put, List.setIfInBounds_toArray, List.set_cons_zero, List.set_cons_succ]
              refine wpAnyH_take (i := 2) (oi := _) (v := ?_) rfl (by kernel_rfl) (by kernel_rfl) (by kernel_rfl) (fun _ _ _ h => h) (Or.inl ⟨by rfl, ?_⟩) hHeld ?_
              rotate_left
              · intro w9 hSw; (try dsimp only at hSw); go_simp; (try with_reducible rfl)
              simp only [List.getElem_toArray, List.getElem_cons_zero, List.getElem_cons_succ, Act.put, List.setIfInBounds_toArray, List.set_cons_zero, List.set_cons_succ]
              refine wpAnyH_take (i := 3) (oi := _) (v := ?_) rfl (by kernel_rfl) (by kernel_rfl) (by kernel_rfl) (fun _ _ _ h => h) (Or.inl ⟨by rfl, ?_⟩) hHeld ?_
              rotate_left
              · intro w9 hSw; (try dsimp only at hSw); go_simp; (try with_reducible rfl)
              simp only [List.getElem_toArray, List.getElem_cons_zero, List.getElem_cons_succ, Act.put, List.setIfInBounds_toArray, List.set_cons_zero, List.set_cons_succ]
              refine wpAnyH_take (i := 4) (oi := _) (v := ?_) rfl (by kernel_rfl) (by kernel_rfl) (by kernel_rfl) (fun _ _ _ h => h) (Or.inl ⟨by rfl, ?_⟩) hHeld ?_
              rotate_left
              · intro w9 hSw; (try dsimp only at hSw); go_simp; (try with_reducible rfl)
              simp only [List.getElem_toArray, List.getElem_cons_zero, List.getElem_cons_succ, Act.put, List.setIfInBounds_toArray, List.set_cons_zero, List.set_cons_succ]
              refine wpAnyH_take (i := 5) (oi := _) (v := ?_) rfl (by kernel_rfl) (by kernel_rfl) (by kernel_rfl) (fun _ _ _ h => h) (Or.inl ⟨by rfl, ?_⟩) hHeld ?_
              rotate_left
              · intro w9 hSw; (try dsimp only at hSw); go_simp; (try with_reducible rfl)
              simp only [List.getElem_toArray, List.getElem_cons_zero, List.getElem_cons_succ, Act.put, List.setIfInBounds_toArray, List.set_cons_zero, List.set_cons_succ]
              refine wpAnyH_take (i := 6) (oi := _) (v := ?_) rfl (by kernel_rfl) (by kernel_rfl) (by kernel_rfl) (fun _ _ _ h => h) (Or.inl ⟨by rfl, ?_⟩) hHeld ?_
              rotate_left
              · intro w9 hSw; (try dsimp only at hSw); go_simp; (try with_reducible rfl)
              simp only [List.getElem_toArray, List.getElem_cons_zero, List.getElem_cons_succ, Act.put, List.setIfInBounds_toArray, List.set_cons_zero, List.set_cons_succ]
              refine wpAnyH_take (i := 7) (oi := _) (v := ?_) rfl (by kernel_rfl) (by kernel_rfl) (by kernel_rfl) (fun _ _ _ h => h) (Or.inl ⟨by rfl, ?_⟩) hHeld ?_
              rotate_left
              · intro w9 hSw; (try dsimp only at hSw); go_simp; (try with_reducible rfl)
              simp only [List.getElem_toArray, List.getElem_cons_zero, List.getElem_cons_succ, Act.put, List.setIfInBounds_toArray, List.set_cons_zero, List.set_cons_succ]
              refine wpAnyH_take (i := 8) (oi := _) (v := ?_) rfl (by kernel_rfl) (by kernel_rfl) (by kernel_rfl) (fun _ _ _ h => h) (Or.inl ⟨by rfl, ?_⟩) hHeld ?_
              rotate_left
              · intro w9 hSw; (try dsimp only at hSw); go_simp; (try with_reducible rfl)
              simp only [List.getElem_toArray, List.getElem_cons_zero, List.getElem_cons_succ, Act.put, List.setIfInBounds_toArray, List.set_cons_zero, List.set_cons_succ]
              refine wpAnyH_take (i := 11) (oi := _) (v := ?_) rfl (by kernel_rfl) (by kernel_rfl) (by kernel_rfl) (fun _ _ _ h => h) (Or.inl ⟨by rfl, ?_⟩) hHeld ?_
              rotate_left
              · intro w9 hSw; (try dsimp only at hSw); go_simp; (try with_reducible rfl)
              simp only [List.getElem_toArray, List.getElem_cons_zero, List.getElem_cons_succ, Act.put, List.setIfInBounds_toArray, List.set_cons_zero, List.set_cons_succ]
              refine wpAnyH_take (i := 12) (oi := _) (v := ?_) rfl (by kernel_rfl) (by kernel_rfl) (by kernel_rfl) (fun _ _ _ h => h) (Or.inl ⟨by rfl, ?_⟩) hHeld ?_
              rotate_left
              · intro w9 hSw; (try dsimp only at hSw); go_simp; (try with_reducible rfl)
              simp only [List.getElem_toArray, List.getElem_cons_zero, List.getElem_cons_succ, Act.put, List.setIfInBounds_toArray, List.set_cons_zero, List.set_cons_succ]
              refine wpAnyH_take (i := 13) (oi := _) (v := ?_) rfl (by kernel_rfl) (by kernel_rfl) (by kernel_rfl) (fun _ _ _ h => h) (Or.inl ⟨by rfl, ?_⟩) hHeld ?_
              rotate_left
              · intro w9 hSw; (try dsimp only at hSw); go_simp; (try with_reducible rfl)
              simp only [List.getElem_toArray, List.getElem_cons_zero, List.getElem_cons_succ, Act.put, List.setIfInBounds_toArray, List.set_cons_zero, List.set_cons_succ]
              refine wpAnyH_take (i := 14) (oi := _) (v := ?_) rfl (by kernel_rfl) (by kernel_rfl) (by kernel_rfl) (fun _ _ _ h => h) (Or.inl ⟨by rfl, ?_⟩) hHeld ?_
              rotate_left
              · intro w9 hSw; (try dsimp only at hSw); go_simp; (try with_reducible rfl)
              simp only [List.getElem_toArray, List.getElem_cons_zero, List.getElem_cons_succ, Act.put, List.setIfInBounds_toArray, List.set_cons_zero, List.set_cons_succ]
              refine wpAnyH_ready (rs := [9]) (by kernel_rfl) (by simp) ?_
              refine AllReadyH.cons (o := _) rfl (fun K hK => ?_) AllReadyH.nil
              go_simp
              refine (CR _).mono ?_
              rintro e w2 ⟨A7, c7, rfl, ho7, hb7⟩
              have e7 := run_str' (Rd.of_own ho7)
              have e8 := run_str' (hra'.drew.belowAt hb7 (by simp; omega))
              refine hK.out _ _ e8 (fun hHeld2 => ?_)
              clear hK
              refine wpAnyH_mono (S' := fun W => (convert 22 9 (.slice A7 (wd (pv zs k k)) c7)).run Try.prog W = .ok (.string (strOfNums (enc (pv zs k k)))) W ∧ (convert 22 9 (.slice A0 k c)).run Try.prog W = .ok (.string (strOfNums (zs.take k))) W) (fun W h => h.2) _ _ _ _ ?_
              have hHeld3 : (fun W => (convert 22 9 (.slice A7 (wd (pv zs k k)) c7)).run Try.prog W = .ok (.string (strOfNums (enc (pv zs k k)))) W ∧ (convert 22 9 (.slice A0 k c)).run Try.prog W = .ok (.string (strOfNums (zs.take k))) W) w2 := ⟨e7, e8⟩
              refine wpAnyH_take (i := 10) (oi := _) (v := ?_) rfl (by kernel_rfl) (by kernel_rfl) (by kernel_rfl) (fun _ _ _ h => h) (Or.inl ⟨by rfl, ?_⟩) hHeld3 ?_
              rotate_left
              · intro w9 hSw; (try dsimp only at hSw); go_simp; (try with_reducible rfl)
              simp only [List.getElem_toArray, List.getElem_cons_zero, List.getElem_cons_succ, Act.put, List.setIfInBounds_toArray, List.set_cons_zero, List.set_cons_succ]
              refine wpAnyH_take (i := 15) (oi := _) (v := ?_) rfl (by kernel_rfl) (by kernel_rfl) (by kernel_rfl) (fun _ _ _ h => h) (Or.inl ⟨by rfl, ?_⟩) hHeld3 ?_
              rotate_left
              · intro w9 hSw; (try dsimp only at hSw); go_simp; (try with_reducible rfl)
              simp only [List.getElem_toArray, List.getElem_cons_zero, List.getElem_cons_succ, Act.put, List.setIfInBounds_toArray, List.set_cons_zero, List.set_cons_succ]
              refine wpAnyH_take (i := 16) (oi := _) (v := ?_) rfl (by kernel_rfl) (by kernel_rfl) (by kernel_rfl) (fun _ _ _ h => h) (Or.inl ⟨by rfl, ?_⟩) hHeld3 ?_
              rotate_left
              · intro w9 hSw; (try dsimp only at hSw); go_simp; (try with_reducible rfl)
              simp only [List.getElem_toArray, List.getElem_cons_zero, List.getElem_cons_succ, Act.put, List.setIfInBounds_toArray, List.set_cons_zero, List.set_cons_succ]
              refine wpAnyH_done (by kernel_rfl) ?_ _
              have HA1 := HA.out
              subst HA1
              go_wp2_with fail
              go_roundw
              case rel => exact ⟨k + 1, by omega, by omega, by go_num, HN2, HY.out.drew.trans (hb7.mono HY.out.size)⟩
              case measure => simp [intOf]; omega
          · have HN2 := Lib.hid (fun j h1 h2 h3 => if e : j = k then (fun (g : Acc zs j) => hr (by rw [← e]; exact ⟨g.1, g.2.1⟩)) else HN.out j h1 (by omega) h3 : ∀ j, 1 ≤ j → j < k + 1 → j ≤ zs.length → ¬ Acc zs j)
            by_cases hr0 : 0 ≤ pv zs k k
            · have t2 : decide (pv zs k k ≤ 1114111) = false := by simp; omega
              go_wp2_with fail
              go_quiet (fail)
              go_wp2_with fail
              go_roundw
              case rel => exact ⟨k + 1, by omega, by omega, by go_num, HN2, Below.drewN_ HB.out _⟩
              case measure => simp [intOf]; omega
            · have t2 : decide (0 ≤ pv zs k k) = false := by simp; omega
              go_wp2_with fail
              go_quiet (fail)
              go_wp2_with fail
              go_roundw
              case rel => exact ⟨k + 1, by omega, by omega, by go_num, HN2, Below.drewN_ HB.out _⟩
              case measure => simp [intOf]; omega
    · have hne := Lib.hid (none_dec hz (by rw [HL.out]; exact hpos) (fun j h1 h2 h3 => HN.out j h1 (by rw [HL.out] at h3; omega) h3))
      by_cases h4 : m ≤ 4
      · go_wp2_with fail
        go_ret2
        exact ⟨by rw [hne.out]; rfl, HW.out⟩
      · have t2 : decide ((m : Int) ≤ 4) = false := by simp; omega
        go_wp2_with fail
        go_ret2
        exact ⟨by rw [hne.out]; rfl, HW.out⟩
end Go.Proofs.Ytiegbochpcmicaa
