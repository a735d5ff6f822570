import Derived.Test.YtiegbochpcmicaaA1
namespace Go.Proofs.Ytiegbochpcmicaa
open Go.RowKit


set_option maxRecDepth 100000 in
set_option maxHeartbeats 4000000 in
theorem items21_true (A : Option Addr) (n c : Nat) (zs : List Int) (w : World) (h : Rd w w.heap.size 1 A n c (ints .u8 zs)) (hz : Bytes8 zs) (hn : n ≤ 4096) :
    Calls Try.prog 21 #[.slice A n c, .bool true] w fun e w' => ∃ v, e = .returned v ∧ w'.ownsRow w.heap.size 30 3 v (wItems zs true).length (flat (wItems zs true)) ∧ Below w.heap.size w w' := by
  have HL := Lib.hid h.int_len
  go_enter Try.func21, Try.ntmps21
  go_wp2_with (go_at_call 58; refine (units_any _ _).mono ?_; rintro e w' ⟨rfl, rfl⟩)
  go_loopw [5, 7] (fun out at_ wr => ∃ (k p : Nat) (acc : List It), Hid (wGo zs true k = (acc, p)) ∧ at_ = .int .i64 p ∧ wr.ownsRow w.heap.size 30 3 out acc.length (flat acc) ∧ Below w.heap.size w wr)
    (fun _ at_ _ => n - (intOf at_).toNat)
  case atStart => exact ⟨0, 0, [], rfl, rfl, World.ownsRow_nil _ _ _ _, Below.refl _ _⟩
  case round =>
    obtain ⟨k, p, acc, HP, rfl, hown, hb⟩ := hrel
    obtain ⟨hal, hpn⟩ := wGo_acc HP HL
    have hsz := hb.size
    by_cases hp : p < n
    · obtain ⟨b, off, rfl, hbb, hc⟩ := (h.below hb).int_form (by omega)
      have c0 := hc p hp
      by_cases h1 : p + 1 = n
      · have HS := wGo_next HP (by rw [HL.out]; exact hp) (r := -1) (m := 1) (by unfold wStep; rw [HL.out, if_pos h1])
        subst h1
        have s0 : ((p : Int) + 1 - (p : Int)) = 1 := by omega
        go_wp2_with fail
        go_quiet (fail)
        go_wp2_with (at_builtin; refine wpList_push st24 rfl _ _ rfl _ rfl (own_drewN (hown.alloc _) _) [.int .i32 (-1), .int .i64 p, .int .i64 1] (wr.heap.size + 1) rfl (by simp) rfl (flat_cells [(-1, p, 1)]) (by omega) (by omega) (Below.drewN_ (hb.alloc hsz _) _) (by simp; omega) ?_; intro v1 w1 hown1 hb1 hk1; have hx1 := hk1 ⟨wr.heap.size, 2, none⟩ (.int .i64 1) (cell_in wr _ 2 _ _ rfl) (own_ne hown (Nat.le_refl _)); clear hk1 hown)
        go_roundw
        case rel => exact ⟨k + 1, p + 1, acc ++ [(-1, p, 1)], HS, by go_num, own_as hown1 (by simp) (flat_snoc acc (-1, p, 1)), hb1⟩
        case measure => simp [intOf]
      · have c1 := hc (p + 1) (by omega)
        have b0 := hz.at_ p
        have b1 := hz.at_ (p + 1)
        have CU := fun W => units1 (gz zs p) (gz zs (p + 1)) W b0 b1
        have hub := unitOf_bd (big := true) b0 b1
        generalize hu : unitOf true (gz zs p) (gz zs (p + 1)) = u at CU hub
        have HU := Lib.hid hu; clear hu
        obtain ⟨hu0, hu1⟩ := hub
        have s1 : IntKind.i64.wrap ((p : Int) + 1) = (p : Int) + 1 := IntWalk.i64_in _ (by omega)
        have s2 : (0 : Int) ≤ (p : Int) + 1 := by omega
        have s3 : ((p : Int) + 1).toNat = p + 1 := by omega
        have s4 : (p : Int) + 1 < (n : Int) := by omega
        go_wp2_with fail
        go_region_held3 (fun w' => w'.cell? ⟨b, off + p, none⟩ = some (.int .u8 (gz zs p)) ∧ w'.cell? ⟨b, off + (p + 1), none⟩ = some (.int .u8 (gz zs (p + 1)))) (go_keep)
          (first
            | (go_at_call 73; refine (CU _).mono ?_; rintro e w' ⟨rfl, rfl⟩))
        clear s1 s2 s3 s4 CU b0 b1
        by_cases hlo : u < 55296
        · have HS := wGo_next HP (by rw [HL.out]; exact hp) (r := u) (m := 2) (by unfold wStep; rw [HL.out, if_neg h1, HU.out, if_pos (.inl hlo)])
          have t1 : decide (55296 ≤ u) = false := by simp; omega
          go_wp2_with fail
          go_quiet (fail)
          go_wp2_with (at_builtin; refine wpList_push st24 rfl _ _ rfl _ rfl (own_drewN (hown.alloc _) _) [.int .i32 u, .int .i64 p, .int .i64 2] (wr.heap.size + 1) rfl (by simp) rfl (flat_cells [(u, p, 2)]) (by omega) (by omega) (Below.drewN_ (hb.alloc hsz _) _) (by simp; omega) ?_; intro v1 w1 hown1 hb1 hk1; have hx1 := hk1 ⟨wr.heap.size, 2, none⟩ (.int .i64 2) (cell_in wr _ 2 _ _ rfl) (own_ne hown (Nat.le_refl _)); clear hk1 hown)
          go_roundw
          case rel => exact ⟨k + 1, p + 2, acc ++ [(u, p, 2)], HS, by go_num, own_as hown1 (by simp) (flat_snoc acc (u, p, 2)), hb1⟩
          case measure => simp [intOf]; omega
        · by_cases hhi : 57343 < u
          · have HS := wGo_next HP (by rw [HL.out]; exact hp) (r := u) (m := 2) (by unfold wStep; rw [HL.out, if_neg h1, HU.out, if_pos (.inr hhi)])
            have t1 : decide (55296 ≤ u) = true := by simp; omega
            have t2 : decide (u < 56320) = false := by simp; omega
            have t3 : decide (u < 57344) = false := by simp; omega
            go_wp2_with fail
            go_quiet (fail)
            go_wp2_with (at_builtin; refine wpList_push st24 rfl _ _ rfl _ rfl (own_drewN (hown.alloc _) _) [.int .i32 u, .int .i64 p, .int .i64 2] (wr.heap.size + 1) rfl (by simp) rfl (flat_cells [(u, p, 2)]) (by omega) (by omega) (Below.drewN_ (hb.alloc hsz _) _) (by simp; omega) ?_; intro v1 w1 hown1 hb1 hk1; have hx1 := hk1 ⟨wr.heap.size, 2, none⟩ (.int .i64 2) (cell_in wr _ 2 _ _ rfl) (own_ne hown (Nat.le_refl _)); clear hk1 hown)
            go_roundw
            case rel => exact ⟨k + 1, p + 2, acc ++ [(u, p, 2)], HS, by go_num, own_as hown1 (by simp) (flat_snoc acc (u, p, 2)), hb1⟩
            case measure => simp [intOf]; omega
          · have t1 : decide (55296 ≤ u) = true := by simp; omega
            have t3 : decide (u < 57344) = true := by simp; omega
            by_cases hmd : 56319 < u
            · have HS := wGo_next HP (by rw [HL.out]; exact hp) (r := -1) (m := 2) (by unfold wStep; rw [HL.out, if_neg h1, HU.out, if_neg (by omega), if_pos (.inl hmd)])
              have t2 : decide (u < 56320) = false := by simp; omega
              go_wp2_with fail
              go_quiet (fail)
              go_wp2_with (at_builtin; refine wpList_push st24 rfl _ _ rfl _ rfl (own_drewN (hown.alloc _) _) [.int .i32 (-1), .int .i64 p, .int .i64 2] (wr.heap.size + 1) rfl (by simp) rfl (flat_cells [(-1, p, 2)]) (by omega) (by omega) (Below.drewN_ (hb.alloc hsz _) _) (by simp; omega) ?_; intro v1 w1 hown1 hb1 hk1; have hx1 := hk1 ⟨wr.heap.size, 2, none⟩ (.int .i64 2) (cell_in wr _ 2 _ _ rfl) (own_ne hown (Nat.le_refl _)); clear hk1 hown)
              go_roundw
              case rel => exact ⟨k + 1, p + 2, acc ++ [(-1, p, 2)], HS, by go_num, own_as hown1 (by simp) (flat_snoc acc (-1, p, 2)), hb1⟩
              case measure => simp [intOf]; omega
            · have t2 : decide (u < 56320) = true := by simp; omega
              have r0 : IntKind.i64.wrap ((n : Int) - (p : Int)) = (n : Int) - (p : Int) := IntWalk.i64_in _ (by omega)
              by_cases hsh : n < p + 4
              · have HS := wGo_next HP (by rw [HL.out]; exact hp) (r := -1) (m := 2) (by unfold wStep; rw [HL.out, if_neg h1, HU.out, if_neg (by omega), if_pos (.inr hsh)])
                have t4 : decide (4 ≤ (n : Int) - (p : Int)) = false := by simp; omega
                go_wp2_with fail
                go_quiet (fail)
                go_wp2_with (at_builtin; refine wpList_push st24 rfl _ _ rfl _ rfl (own_drewN (hown.alloc _) _) [.int .i32 (-1), .int .i64 p, .int .i64 2] (wr.heap.size + 1) rfl (by simp) rfl (flat_cells [(-1, p, 2)]) (by omega) (by omega) (Below.drewN_ (hb.alloc hsz _) _) (by simp; omega) ?_; intro v1 w1 hown1 hb1 hk1; have hx1 := hk1 ⟨wr.heap.size, 2, none⟩ (.int .i64 2) (cell_in wr _ 2 _ _ rfl) (own_ne hown (Nat.le_refl _)); clear hk1 hown)
                go_roundw
                case rel => exact ⟨k + 1, p + 2, acc ++ [(-1, p, 2)], HS, by go_num, own_as hown1 (by simp) (flat_snoc acc (-1, p, 2)), hb1⟩
                case measure => simp [intOf]; omega
              · have t4 : decide (4 ≤ (n : Int) - (p : Int)) = true := by simp; omega
                have c2 := fun X => cell_old wr b (off + (p + 2)) X _ (hc (p + 2) (by omega))
                have c3 := fun X => cell_old wr b (off + (p + 2 + 1)) X _ (hc (p + 2 + 1) (by omega))
                have b2 := hz.at_ (p + 2)
                have b3 := hz.at_ (p + 2 + 1)
                have CV := fun W => units1 (gz zs (p + 2)) (gz zs (p + 2 + 1)) W b2 b3
                have hvb := unitOf_bd (big := true) b2 b3
                generalize hv : unitOf true (gz zs (p + 2)) (gz zs (p + 2 + 1)) = v at CV hvb
                have HV := Lib.hid hv; clear hv
                obtain ⟨hv0, hv1⟩ := hvb
                have r1 : IntKind.i64.wrap ((p : Int) + 2) = (p : Int) + 2 := IntWalk.i64_in _ (by omega)
                have r2 : (0 : Int) ≤ (p : Int) + 2 := by omega
                have r3 : ((p : Int) + 2).toNat = p + 2 := by omega
                have r4 : (p : Int) + 2 < (n : Int) := by omega
                have r5 : IntKind.i64.wrap ((p : Int) + 2 + 1) = (p : Int) + 2 + 1 := IntWalk.i64_in _ (by omega)
                have r6 : (0 : Int) ≤ (p : Int) + 2 + 1 := by omega
                have r7 : ((p : Int) + 2 + 1).toNat = p + 2 + 1 := by omega
                have r8 : (p : Int) + 2 + 1 < (n : Int) := by omega
                by_cases hlw : v < 56320 ∨ 57343 < v
                · have HS := wGo_next HP (by rw [HL.out]; exact hp) (r := -1) (m := 2) (by unfold wStep; rw [HL.out, if_neg h1, HU.out, if_neg (by omega), if_neg (by omega), show p + 3 = p + 2 + 1 by omega, HV.out, if_pos hlw])
                  have t5 : (bits BinOp.andNot IntKind.i32 v 1023 == 56320) = false := low_no ⟨hv0, hv1⟩ hlw
                  go_wp2_with fail
                  go_quiet ((go_at_call 73; first | exact quiet_add_left (CV _) | exact quiet_left (CV _)))
                  clear r1 r2 r3 r4 r5 r6 r7 r8
                  go_wp2_with (at_builtin; refine wpList_push st24 rfl _ _ rfl _ rfl (own_drewN (hown.alloc _) _) [.int .i32 (-1), .int .i64 p, .int .i64 2] (wr.heap.size + 1) rfl (by simp) rfl (flat_cells [(-1, p, 2)]) (by omega) (by omega) (Below.drewN_ (hb.alloc hsz _) _) (by simp; omega) ?_; intro v1 w1 hown1 hb1 hk1; have hx1 := hk1 ⟨wr.heap.size, 2, none⟩ (.int .i64 2) (cell_in wr _ 2 _ _ rfl) (own_ne hown (Nat.le_refl _)); clear hk1 hown)
                  go_roundw
                  case rel => exact ⟨k + 1, p + 2, acc ++ [(-1, p, 2)], HS, by go_num, own_as hown1 (by simp) (flat_snoc acc (-1, p, 2)), hb1⟩
                  case measure => simp [intOf]; omega
                · have t5 : (bits BinOp.andNot IntKind.i32 v 1023 == 56320) = true := low_yes ⟨hv0, hv1⟩ hlw
                  have HS := wGo_next HP (by rw [HL.out]; exact hp) (r := 65536 + 1024 * (u - 55296) + (v - 56320)) (m := 4) (by unfold wStep; rw [HL.out, if_neg h1, HU.out, if_neg (by omega), if_neg (by omega), show p + 3 = p + 2 + 1 by omega, HV.out, if_neg hlw])
                  have t6 : bits BinOp.and IntKind.i32 v 1023 = v - 56320 := low_of ⟨hv0, hv1⟩ hlw
                  go_wp2_with fail
                  go_quiet ((go_at_call 73; first | exact quiet_add_left (CV _) | exact quiet_left (CV _)))
                  go_wp2_with fail
                  have r9 : IntKind.i32.wrap (u - 55296) = u - 55296 := IntWalk.i32_in _ (by omega)
                  have r10 : IntKind.i32.wrap ((u - 55296) * 1024) = (u - 55296) * 1024 := IntWalk.i32_in _ (by omega)
                  have r11 : IntKind.i32.wrap (65536 + (u - 55296) * 1024) = 65536 + (u - 55296) * 1024 := IntWalk.i32_in _ (by omega)
                  have r12 : IntKind.i32.wrap (65536 + (u - 55296) * 1024 + (v - 56320)) = 65536 + (u - 55296) * 1024 + (v - 56320) := IntWalk.i32_in _ (by omega)
                  refine region_tail 20 (by kernel_rfl) (by kernel_rfl) ?_
                  intro W HW
                  have d0 : W.cell? ⟨wr.heap.size, 0, none⟩ = some (.int .i32 u) := by rw [HW.out]; exact cell_in wr _ 0 _ _ rfl
                  have d2 : W.cell? ⟨b, off + (p + 2), none⟩ = some (.int .u8 (gz zs (p + 2))) := by rw [HW.out]; exact c2 _
                  have d3 : W.cell? ⟨b, off + (p + 2 + 1), none⟩ = some (.int .u8 (gz zs (p + 2 + 1))) := by rw [HW.out]; exact c3 _
                  simp only [List.take_succ_cons, List.take_zero, List.drop_succ_cons, List.drop_zero]
                  repeat (first | (refine wpStill_step (fun K hK => ?_); go_simp; first | (refine hK _ ?_; clear hK K) | (refine ⟨_, (CV _).mono fun _ _ ⟨a, b⟩ => ⟨a, b.symm⟩, hK _ ?_⟩; clear hK K)))
                  refine wpStill_nil ?_
                  rw [HW.out]
                  clear HW d0 d2 d3
                  clear r1 r2 r3 r4 r5 r6 r7 r8 r9 r10 r11 r12 t5 t6 CV
                  go_wp2_with (at_builtin; go_loud (refine wpList_push st24 rfl _ _ rfl _ rfl (own_drewN (hown.alloc _) _) [.int .i32 (65536 + (u - 55296) * 1024 + (v - 56320)), .int .i64 p, .int .i64 4] (wr.heap.size + 1) rfl (by simp) rfl (flat_cells [(65536 + (u - 55296) * 1024 + (v - 56320), p, 4)]) (by omega) (by omega) (Below.drewN_ (hb.alloc hsz _) _) (by simp; omega) ?_); intro v1 w1 hown1 hb1 hk1; have hx1 := hk1 ⟨wr.heap.size, 2, none⟩ (.int .i64 4) (cell_in wr _ 2 _ _ rfl) (own_ne hown (Nat.le_refl _)); clear hk1 hown)
                  go_roundw
                  case rel => exact ⟨k + 1, p + 4, acc ++ [(65536 + 1024 * (u - 55296) + (v - 56320), p, 4)], HS, by go_num, own_as hown1 (by simp) (by rw [← flat_snoc, Int.mul_comm 1024]; rfl), hb1⟩
                  case measure => simp [intOf]; omega
    · have HE := wGo_end HP HL (by omega)
      go_wp2_with fail
      go_ret
      exact ⟨_, rfl, own_as hown (by rw [HE.out]) (by rw [HE.out]), hb⟩

end Go.Proofs.Ytiegbochpcmicaa
