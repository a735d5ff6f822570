/- The walk of the law SniffSlices. No condition. -/
import Derived.Test.YtiegbochpcmicaaG5
import Derived.Test.YtiegbochpcmicaaF3
namespace Go.Proofs.Ytiegbochpcmicaa
open Go.RowKit

theorem cells_on {w w' : World} {a : Addr} {v : Value} (hb : Below w.heap.size w w') (h : w.cell? a = some v) : w'.cell? a = some v := (hb.cell (World.block_lt_of_cell? w _ h)).trans h
theorem Rd.cut5 {w : World} {B n c lo hi : Nat} {A : Option Addr} {k : IntKind} {zs : List Int} (h : Rd w B 1 A n c (ints k zs)) (h1 : lo ≤ hi) (h2 : hi ≤ n) :
    Rd w B 1 (if c = lo then A else Option.map (fun x => x.add lo) A) (hi - lo) (c - lo) (ints k ((zs.drop lo).take (hi - lo))) := by
  have hc := h.cap
  have := h.cut (l := lo) (k := hi) (m := c) h1 h2 (Nat.le_refl _) (by omega)
  rw [Nat.mul_one, Nat.mul_one, ← List.map_drop, ← List.map_take] at this
  exact this

set_option maxRecDepth 100000 in
set_option maxHeartbeats 8000000 in
theorem walk19 (A : Option Addr) (n c : Nat) (zs : List Int) (a1 a2 off : Int) (w : World) (h : Rd w w.heap.size 1 A n c (ints .u8 zs)) (hz : Bytes8 zs) :
    Calls Try.prog 19 #[.slice A n c, .int .i64 a1, .int .i64 a2, .int .i64 off] w fun e w' => e = .returned (.bool true) ∧ Below w.heap.size w w' := by
  have hz2 := hz.take 200
  have hm : min n 200 ≤ 200 := Nat.min_le_right _ _
  have C41 := short41' h
  have h2' := short_facts h
  generalize min n 200 = m at h2' hm C41
  generalize zs.take 200 = ys at h2' hz2
  clear h hz
  have hl := h2'.int_len
  have hcap := h2'.cap
  have C42 := decode42 A m c ys w h2' hz2 (by omega)
  have C43 := fun W hW => decode43 A m c ys W hW hz2 (by omega)
  obtain ⟨F, f0, f1, f2, f3⟩ := dec_chain hz2
  have hlm : (dItems ys).length ≤ 200 := by have h1 := dItems_le hz2; omega
  have hp := dBom_le ys
  have hFm : ∀ i j, i ≤ j → j ≤ (dItems ys).length → F i ≤ F j := fun i j hij => by
    induction j with
    | zero => intro _; rw [show i = 0 by omega]; exact Nat.le_refl _
    | succ j ih =>
      intro hj
      rcases Nat.lt_or_ge i (j + 1) with h | h
      · exact Nat.le_trans (ih (by omega) (by omega)) (f3 j (by omega)).1
      · obtain rfl : i = j + 1 := by omega
        exact Nat.le_refl _
  rw [hl] at f1 f2 f3 hp
  have hru : decR ys = runesOf (dItems ys) := rfl
  clear hz2 hru
  generalize dItems ys = L at C42 C43 hlm f1 f2 f3 hFm
  generalize dBom ys = p at C42 C43 f0 f2 hp
  generalize (pKind ys).1 = kd at C42 C43
  unfold DecIs at C42 C43
  generalize offsOf p L ++ [(m : Int)] = O at C42 C43 f2
  generalize runesOf L = R at C42 C43
  have HF := Lib.hid (And.intro f2 (And.intro f3 hFm))
  have HF1 := Lib.hid f1
  have HL := Lib.hid hl
  clear f0 f1 f2 f3 hl hFm
  go_enter Try.func19, Try.ntmps19
  go_wp2_with (first | (go_at_call 41; refine C41.mono ?_; rintro e w' ⟨rfl, rfl⟩; clear C41) | (go_at_call 42; refine C42.mono ?_; rintro e w1 ⟨A1, c1, A2, c2, rfl, hr1, ho1, hb1⟩; clear C42; have h3 := h2'.on hb1) | (go_at_call 43; refine (C43 _ h3).mono ?_; rintro e w2 ⟨A3, c3, A4, c4, rfl, hr2, ho2, hb2⟩; clear C43; have hr1 := hr1.on hb2; have ho1 := ho1.on hb2; have h4 := h3.on hb2; have hb0 := hb1.trans (hb2.mono hb1.size); clear h3 hb1 hb2 h2'))
  obtain ⟨b4, o4, rfl, hbb4, hc4⟩ := ho2.int_form (by omega)
  have HC4 := Lib.hid hc4
  clear hc4
  go_loopw [11] (fun at_ wr => ∃ k : Nat, k ≤ L.length ∧ at_ = .int .i64 k ∧ Hid (∀ j, j < k → gz O j < off) ∧ Below w2.heap.size w2 wr ∧ Hid (wr.heap[w2.heap.size]? = some (.cells #[.int .i64 kd, .int .i64 (p : Nat), .slice A1 L.length c1, .slice A2 (L.length + 1) c2] 50 (0, 0))) ∧ Hid (wr.heap[w2.heap.size + 1]? = some (.cells #[.int .i64 kd, .int .i64 (p : Nat), .slice A3 L.length c3, .slice (some ⟨b4, o4, none⟩) (L.length + 1) c4] 52 (0, 0))))
    (fun at_ _ => L.length - (intOf at_).toNat)
  case atStart => exact ⟨0, Nat.zero_le _, rfl, Lib.hid (fun j hj => absurd hj (by omega)), ((Below.refl _ _).alloc (Nat.le_refl _) _).alloc (by simp) _, Lib.hid (heap_alloc2_old w2 _ _), Lib.hid (heap_alloc2_new w2 _ _)⟩
  case round =>
    obtain ⟨k, hk, rfl, HK, hb, HG1, HG2⟩ := hrel
    have hsz := hb.size
    obtain ⟨y0, y1, y2, y3⟩ := text_cells HG1.out
    obtain ⟨z0, z1, z2, z3⟩ := text_cells HG2.out
    by_cases hgo : k < L.length ∧ gz O k < off
    · have x0 := (hb.cell (p := ⟨b4, o4 + k, none⟩) hbb4).trans (HC4.out k (by omega))
      have hlt := hgo.1
      have t0 : decide (gz O k < off) = true := by simpa using hgo.2
      have HI := Lib.hid (show ∀ j, j < k + 1 → gz O j < off from fun j hj => by
        rcases Nat.lt_or_ge j k with h | h
        · exact HK.out j h
        · obtain rfl : j = k := by omega
          exact hgo.2)
      clear hgo
      generalize gz O k = z at t0 x0
      go_wp2_with fail
      go_roundw
      case rel => exact ⟨k + 1, by omega, by go_num, HI, hb, HG1, HG2⟩
      case measure => simp [intOf]; omega
    · have HI := Lib.hid (show IsAt O off L.length k from ⟨hk, HK.out, by omega⟩)
      have C56 := fun W hW => at56 kd p off A1 A2 L.length c1 c2 O W hW (by omega)
      have x0 := (hb.cell (p := ⟨b4, o4 + k, none⟩) hbb4).trans (HC4.out k (by omega))
      have hr1 := hr1.on hb
      have ho1 := ho1.on hb
      have hr2 := hr2.on hb
      have h5 := h4.on hb
      have C56 := C56 _ ho1
      have hq : k < L.length → decide (gz O k < off) = false := fun hkl => by simp; omega
      generalize hzk : gz O k = z at x0 hq
      clear hzk hgo
      by_cases hin : 0 ≤ a1 ∧ a1 ≤ a2 ∧ a2 ≤ (L.length : Int)
      · have u0 : decide (a1 < 0) = false := by simp; omega
        have u1 : decide (a2 < a1) = false := by simp; omega
        have u2 : decide ((L.length : Int) < a2) = false := by simp; omega
        obtain ⟨i, rfl⟩ := Int.eq_ofNat_of_zero_le hin.1
        obtain ⟨j, rfl⟩ := Int.eq_ofNat_of_zero_le (Int.le_trans hin.1 hin.2.1)
        have hij : i ≤ j := by omega
        have hjm : j ≤ L.length := by omega
        clear hin
        by_cases hkl : k < L.length
        · have t0 := hq hkl
          clear hq
          go_wp2_with (go_at_call 56; refine C56.mono ?_; rintro e w4 ⟨k2, rfl, hk2, hb4⟩; clear C56; obtain rfl := isAt_uniq hk2 HI.out; have y0 := cells_on hb4 y0; have y1 := cells_on hb4 y1; have y2 := cells_on hb4 y2; have y3 := cells_on hb4 y3; have z2 := cells_on hb4 z2; have z3 := cells_on hb4 z3; have hr1 := hr1.on hb4; have ho1 := ho1.on hb4; have hr2 := hr2.on hb4; have ho3 := (ho2.on hb).on hb4; have h5 := h5.on hb4; have hb := hb.trans (hb4.mono hsz); have hsz := hb.size; clear hb4 hk2)
          have xi := (hb.cell (p := ⟨b4, o4 + i, none⟩) hbb4).trans (HC4.out i (by omega))
          have xj := (hb.cell (p := ⟨b4, o4 + j, none⟩) hbb4).trans (HC4.out j (by omega))
          rw [HF.out.1 i (by omega)] at xi
          rw [HF.out.1 j (by omega)] at xj
          have hlh := HF.out.2.2 i j hij hjm
          have hhm : F j ≤ m := by have := HF.out.2.2 j L.length hjm (Nat.le_refl _); have h9 := HF1.out; omega
          have hhc : F j ≤ c := by omega
          have hc3 := hr2.cap
          have hjc : j ≤ c3 := by omega
          have hi9 : (i : Int) < (L.length : Int) + 1 := by omega
          have hj9 : (j : Int) < (L.length : Int) + 1 := by omega
          have C50 := fun W hO hb => slice50_good kd p A1 A2 A L.length c1 c2 m c (F i) (F j) (F L.length) i j O ys W hO hb hij hjm (HF.out.1 i (by omega)) (HF.out.1 j (by omega)) (HF.out.1 L.length (Nat.le_refl _)) (by rw [HF1.out]; exact Nat.le_refl _) hlh hhm (by omega) (by omega)
          have C57 := fun W hR => string57 kd p A1 A2 L.length c1 (L.length + 1) c2 i j R W hR hij hjm (by omega)
          have h94 := (h5.cut5 hlh hhm).drew
          have h29 := (hr2.cut5 hij hjm).drew
          have C33 := fun A' c' W hW => bytes33 A' (j - i) c' ((R.drop i).take (j - i)) W hW (by omega)
          unfold PBytesSaid at C50
          generalize (R.drop i).take (j - i) = sub at C57 h29 C33
          generalize (ys.drop (F i)).take (F j - F i) = ss at C50 h94
          refine wp_region_held_drew (S := fun W => W.cell? ⟨w2.heap.size, 0, none⟩ = some (.int .i64 kd) ∧ W.cell? ⟨w2.heap.size, 1, none⟩ = some (.int .i64 (p : Nat)) ∧ W.cell? ⟨w2.heap.size, 2, none⟩ = some (.slice A1 L.length c1) ∧ W.cell? ⟨w2.heap.size, 3, none⟩ = some (.slice A2 (L.length + 1) c2) ∧ W.cell? ⟨w2.heap.size + 1, 2, none⟩ = some (.slice A3 L.length c3) ∧ W.cell? ⟨w2.heap.size + 1, 3, none⟩ = some (.slice (some ⟨b4, o4, none⟩) (L.length + 1) c4) ∧ W.cell? ⟨b4, o4 + i, none⟩ = some (.int .i64 (F i : Nat)) ∧ W.cell? ⟨b4, o4 + j, none⟩ = some (.int .i64 (F j : Nat))) (by kernel_rfl) ⟨y0, y1, y2, y3, z2, z3, xi, xj⟩ (fun hHeld => ?_)
          change wpAnyH _ _ _ _ _ 38 #[false, false, false, false, false, false, false, false, false, false, false, false, false, false, false, false, false, false, false, false, false, false, false, false, false, false, false, false, false, false, false, false, false, false, false, false, false, false] _ _
          refine wpAnyH_take (i := 0) (oi := _) (v := ?_) rfl (by kernel_rfl) (by kernel_rfl) (by kernel_rfl) (fun _ _ _ h => h) (Or.inl ⟨by rfl, ?_⟩) hHeld ?_
          rotate_left
          · intro w9 hSw; obtain ⟨s0, s1, s2, s3, s4, s5, s6, s7⟩ := hSw; go_simp; (try with_reducible rfl)
          simp only [List.getElem_toArray, List.getElem_cons_zero, Act.put, List.setIfInBounds_toArray, List.set_cons_zero, List.set_cons_succ]
          refine wpAnyH_take (i := 1) (oi := _) (v := ?_) rfl (by kernel_rfl) (by kernel_rfl) (by kernel_rfl) (fun _ _ _ h => h) (Or.inl ⟨by rfl, ?_⟩) hHeld ?_
          rotate_left
          · intro w9 hSw; obtain ⟨s0, s1, s2, s3, s4, s5, s6, s7⟩ := hSw; go_simp; (try with_reducible rfl)
          simp only [List.getElem_toArray, List.getElem_cons_zero, List.getElem_cons_succ, Act.put, List.setIfInBounds_toArray, List.set_cons_zero, List.set_cons_succ]
          refine wpAnyH_take (i := 2) (oi := _) (v := ?_) rfl (by kernel_rfl) (by kernel_rfl) (by kernel_rfl) (fun _ _ _ h => h) (Or.inl ⟨by rfl, ?_⟩) hHeld ?_
          rotate_left
          · intro w9 hSw; obtain ⟨s0, s1, s2, s3, s4, s5, s6, s7⟩ := hSw; go_simp; (try with_reducible rfl)
          simp only [List.getElem_toArray, List.getElem_cons_zero, List.getElem_cons_succ, Act.put, List.setIfInBounds_toArray, List.set_cons_zero, List.set_cons_succ]
          refine wpAnyH_take (i := 3) (oi := _) (v := ?_) rfl (by kernel_rfl) (by kernel_rfl) (by kernel_rfl) (fun _ _ _ h => h) (Or.inl ⟨by rfl, ?_⟩) hHeld ?_
          rotate_left
          · intro w9 hSw; obtain ⟨s0, s1, s2, s3, s4, s5, s6, s7⟩ := hSw; go_simp; (try with_reducible rfl)
          simp only [List.getElem_toArray, List.getElem_cons_zero, List.getElem_cons_succ, Act.put, List.setIfInBounds_toArray, List.set_cons_zero, List.set_cons_succ]
          refine wpAnyH_take (i := 6) (oi := _) (v := ?_) rfl (by kernel_rfl) (by kernel_rfl) (by kernel_rfl) (fun _ _ _ h => h) (Or.inl ⟨by rfl, ?_⟩) hHeld ?_
          rotate_left
          · intro w9 hSw; obtain ⟨s0, s1, s2, s3, s4, s5, s6, s7⟩ := hSw; go_simp; (try with_reducible rfl)
          simp only [List.getElem_toArray, List.getElem_cons_zero, List.getElem_cons_succ, Act.put, List.setIfInBounds_toArray, List.set_cons_zero, List.set_cons_succ]
          refine wpAnyH_take (i := 7) (oi := _) (v := ?_) rfl (by kernel_rfl) (by kernel_rfl) (by kernel_rfl) (fun _ _ _ h => h) (Or.inl ⟨by rfl, ?_⟩) hHeld ?_
          rotate_left
          · intro w9 hSw; obtain ⟨s0, s1, s2, s3, s4, s5, s6, s7⟩ := hSw; go_simp; (try with_reducible rfl)
          simp only [List.getElem_toArray, List.getElem_cons_zero, List.getElem_cons_succ, Act.put, List.setIfInBounds_toArray, List.set_cons_zero, List.set_cons_succ]
          refine wpAnyH_take (i := 8) (oi := _) (v := ?_) rfl (by kernel_rfl) (by kernel_rfl) (by kernel_rfl) (fun _ _ _ h => h) (Or.inl ⟨by rfl, ?_⟩) hHeld ?_
          rotate_left
          · intro w9 hSw; obtain ⟨s0, s1, s2, s3, s4, s5, s6, s7⟩ := hSw; go_simp; (try with_reducible rfl)
          simp only [List.getElem_toArray, List.getElem_cons_zero, List.getElem_cons_succ, Act.put, List.setIfInBounds_toArray, List.set_cons_zero, List.set_cons_succ]
          refine wpAnyH_take (i := 9) (oi := _) (v := ?_) rfl (by kernel_rfl) (by kernel_rfl) (by kernel_rfl) (fun _ _ _ h => h) (Or.inl ⟨by rfl, ?_⟩) hHeld ?_
          rotate_left
          · intro w9 hSw; obtain ⟨s0, s1, s2, s3, s4, s5, s6, s7⟩ := hSw; go_simp; (try with_reducible rfl)
          simp only [List.getElem_toArray, List.getElem_cons_zero, List.getElem_cons_succ, Act.put, List.setIfInBounds_toArray, List.set_cons_zero, List.set_cons_succ]
          refine wpAnyH_take (i := 10) (oi := _) (v := ?_) rfl (by kernel_rfl) (by kernel_rfl) (by kernel_rfl) (fun _ _ _ h => h) (Or.inl ⟨by rfl, ?_⟩) hHeld ?_
          rotate_left
          · intro w9 hSw; obtain ⟨s0, s1, s2, s3, s4, s5, s6, s7⟩ := hSw; go_simp; (try with_reducible rfl)
          simp only [List.getElem_toArray, List.getElem_cons_zero, List.getElem_cons_succ, Act.put, List.setIfInBounds_toArray, List.set_cons_zero, List.set_cons_succ]
          refine wpAnyH_take (i := 11) (oi := _) (v := ?_) rfl (by kernel_rfl) (by kernel_rfl) (by kernel_rfl) (fun _ _ _ h => h) (Or.inl ⟨by rfl, ?_⟩) hHeld ?_
          rotate_left
          · intro w9 hSw; obtain ⟨s0, s1, s2, s3, s4, s5, s6, s7⟩ := hSw; go_simp; (try with_reducible rfl)
          simp only [List.getElem_toArray, List.getElem_cons_zero, List.getElem_cons_succ, Act.put, List.setIfInBounds_toArray, List.set_cons_zero, List.set_cons_succ]
          refine wpAnyH_take (i := 12) (oi := _) (v := ?_) rfl (by kernel_rfl) (by kernel_rfl) (by kernel_rfl) (fun _ _ _ h => h) (Or.inl ⟨by rfl, ?_⟩) hHeld ?_
          rotate_left
          · intro w9 hSw; obtain ⟨s0, s1, s2, s3, s4, s5, s6, s7⟩ := hSw; go_simp; (try with_reducible rfl)
          simp only [List.getElem_toArray, List.getElem_cons_zero, List.getElem_cons_succ, Act.put, List.setIfInBounds_toArray, List.set_cons_zero, List.set_cons_succ]
          refine wpAnyH_take (i := 13) (oi := _) (v := ?_) rfl (by kernel_rfl) (by kernel_rfl) (by kernel_rfl) (fun _ _ _ h => h) (Or.inl ⟨by rfl, ?_⟩) hHeld ?_
          rotate_left
          · intro w9 hSw; obtain ⟨s0, s1, s2, s3, s4, s5, s6, s7⟩ := hSw; go_simp; (try with_reducible rfl)
          simp only [List.getElem_toArray, List.getElem_cons_zero, List.getElem_cons_succ, Act.put, List.setIfInBounds_toArray, List.set_cons_zero, List.set_cons_succ]
          refine wpAnyH_take (i := 14) (oi := _) (v := ?_) rfl (by kernel_rfl) (by kernel_rfl) (by kernel_rfl) (fun _ _ _ h => h) (Or.inl ⟨by rfl, ?_⟩) hHeld ?_
          rotate_left
          · intro w9 hSw; obtain ⟨s0, s1, s2, s3, s4, s5, s6, s7⟩ := hSw; go_simp; (try with_reducible rfl)
          simp only [List.getElem_toArray, List.getElem_cons_zero, List.getElem_cons_succ, Act.put, List.setIfInBounds_toArray, List.set_cons_zero, List.set_cons_succ]
          refine wpAnyH_take (i := 15) (oi := _) (v := ?_) rfl (by kernel_rfl) (by kernel_rfl) (by kernel_rfl) (fun _ _ _ h => h) (Or.inl ⟨by rfl, ?_⟩) hHeld ?_
          rotate_left
          · intro w9 hSw; obtain ⟨s0, s1, s2, s3, s4, s5, s6, s7⟩ := hSw; go_simp; (try with_reducible rfl)
          simp only [List.getElem_toArray, List.getElem_cons_zero, List.getElem_cons_succ, Act.put, List.setIfInBounds_toArray, List.set_cons_zero, List.set_cons_succ]
          refine wpAnyH_take (i := 16) (oi := _) (v := ?_) rfl (by kernel_rfl) (by kernel_rfl) (by kernel_rfl) (fun _ _ _ h => h) (Or.inl ⟨by rfl, ?_⟩) hHeld ?_
          rotate_left
          · intro w9 hSw; obtain ⟨s0, s1, s2, s3, s4, s5, s6, s7⟩ := hSw; go_simp; (try with_reducible rfl)
          simp only [List.getElem_toArray, List.getElem_cons_zero, List.getElem_cons_succ, Act.put, List.setIfInBounds_toArray, List.set_cons_zero, List.set_cons_succ]
          refine wpAnyH_take (i := 17) (oi := _) (v := ?_) rfl (by kernel_rfl) (by kernel_rfl) (by kernel_rfl) (fun _ _ _ h => h) (Or.inl ⟨by rfl, ?_⟩) hHeld ?_
          rotate_left
          · intro w9 hSw; obtain ⟨s0, s1, s2, s3, s4, s5, s6, s7⟩ := hSw; go_simp; (try with_reducible rfl)
          simp only [List.getElem_toArray, List.getElem_cons_zero, List.getElem_cons_succ, Act.put, List.setIfInBounds_toArray, List.set_cons_zero, List.set_cons_succ]
          generalize (if c = F i then A else Option.map (fun x => x.add (F i)) A) = A94 at h94 ⊢
          refine wpAnyH_mono (S' := fun W => ((convert 22 9 (.slice A94 (F j - F i) (c - F i))).run Try.prog W = .ok (.string (strOfNums ss)) W) ∧ W.cell? ⟨w2.heap.size, 0, none⟩ = some (.int .i64 kd) ∧ W.cell? ⟨w2.heap.size, 1, none⟩ = some (.int .i64 (p : Nat)) ∧ W.cell? ⟨w2.heap.size, 2, none⟩ = some (.slice A1 L.length c1) ∧ W.cell? ⟨w2.heap.size, 3, none⟩ = some (.slice A2 (L.length + 1) c2) ∧ W.cell? ⟨w2.heap.size + 1, 2, none⟩ = some (.slice A3 L.length c3) ∧ W.cell? ⟨w2.heap.size + 1, 3, none⟩ = some (.slice (some ⟨b4, o4, none⟩) (L.length + 1) c4) ∧ W.cell? ⟨b4, o4 + i, none⟩ = some (.int .i64 (F i : Nat)) ∧ W.cell? ⟨b4, o4 + j, none⟩ = some (.int .i64 (F j : Nat))) (fun W h => h.2) _ _ _ _ ?_
          have hHeld1 : (fun W => ((convert 22 9 (.slice A94 (F j - F i) (c - F i))).run Try.prog W = .ok (.string (strOfNums ss)) W) ∧ W.cell? ⟨w2.heap.size, 0, none⟩ = some (.int .i64 kd) ∧ W.cell? ⟨w2.heap.size, 1, none⟩ = some (.int .i64 (p : Nat)) ∧ W.cell? ⟨w2.heap.size, 2, none⟩ = some (.slice A1 L.length c1) ∧ W.cell? ⟨w2.heap.size, 3, none⟩ = some (.slice A2 (L.length + 1) c2) ∧ W.cell? ⟨w2.heap.size + 1, 2, none⟩ = some (.slice A3 L.length c3) ∧ W.cell? ⟨w2.heap.size + 1, 3, none⟩ = some (.slice (some ⟨b4, o4, none⟩) (L.length + 1) c4) ∧ W.cell? ⟨b4, o4 + i, none⟩ = some (.int .i64 (F i : Nat)) ∧ W.cell? ⟨b4, o4 + j, none⟩ = some (.int .i64 (F j : Nat))) _ := ⟨run_str' h94, hHeld⟩
          refine wpAnyH_take (i := 18) (oi := _) (v := ?_) rfl (by kernel_rfl) (by kernel_rfl) (by kernel_rfl) (fun _ _ _ h => h) (Or.inl ⟨by rfl, ?_⟩) hHeld1 ?_
          rotate_left
          · intro w9 hSw; obtain ⟨q2, s0, s1, s2, s3, s4, s5, s6, s7⟩ := hSw; go_simp; (try with_reducible rfl)
          simp only [List.getElem_toArray, List.getElem_cons_zero, List.getElem_cons_succ, Act.put, List.setIfInBounds_toArray, List.set_cons_zero, List.set_cons_succ]
          refine wpAnyH_ready (rs := [4]) (by kernel_rfl) (by simp) ?_
          refine AllReadyH.cons (o := _) rfl (fun K hK => ?_) AllReadyH.nil
          go_simp
          refine (C50 _ ho1.drew h5.drew).mono ?_
          rintro e w5 ⟨A5, c5, rfl, hr5, hb5⟩
          obtain ⟨s0, s1, s2, s3, s4, s5, s6, s7⟩ := hHeld
          refine hK.out _ _ ⟨run_str' (h94.on hb5), cells_on hb5 s0, cells_on hb5 s1, cells_on hb5 s2, cells_on hb5 s3, cells_on hb5 s4, cells_on hb5 s5, cells_on hb5 s6, cells_on hb5 s7⟩ (fun hHeld2 => ?_)
          clear hK s0 s1 s2 s3 s4 s5 s6 s7
          have h94 := h94.on hb5
          have h29 := h29.on hb5
          have hr1 := hr1.drew.on hb5
          refine wpAnyH_mono (S' := fun W => ((convert 22 9 (.slice A5 (F j - F i) c5)).run Try.prog W = .ok (.string (strOfNums ss)) W ∧ (convert 22 9 (.slice A94 (F j - F i) (c - F i))).run Try.prog W = .ok (.string (strOfNums ss)) W) ∧ W.cell? ⟨w2.heap.size, 0, none⟩ = some (.int .i64 kd) ∧ W.cell? ⟨w2.heap.size, 1, none⟩ = some (.int .i64 (p : Nat)) ∧ W.cell? ⟨w2.heap.size, 2, none⟩ = some (.slice A1 L.length c1) ∧ W.cell? ⟨w2.heap.size, 3, none⟩ = some (.slice A2 (L.length + 1) c2) ∧ W.cell? ⟨w2.heap.size + 1, 2, none⟩ = some (.slice A3 L.length c3) ∧ W.cell? ⟨w2.heap.size + 1, 3, none⟩ = some (.slice (some ⟨b4, o4, none⟩) (L.length + 1) c4) ∧ W.cell? ⟨b4, o4 + i, none⟩ = some (.int .i64 (F i : Nat)) ∧ W.cell? ⟨b4, o4 + j, none⟩ = some (.int .i64 (F j : Nat))) (fun W h => ⟨h.1.2, h.2⟩) _ _ _ _ ?_
          have hHeld3 : (fun W => ((convert 22 9 (.slice A5 (F j - F i) c5)).run Try.prog W = .ok (.string (strOfNums ss)) W ∧ (convert 22 9 (.slice A94 (F j - F i) (c - F i))).run Try.prog W = .ok (.string (strOfNums ss)) W) ∧ W.cell? ⟨w2.heap.size, 0, none⟩ = some (.int .i64 kd) ∧ W.cell? ⟨w2.heap.size, 1, none⟩ = some (.int .i64 (p : Nat)) ∧ W.cell? ⟨w2.heap.size, 2, none⟩ = some (.slice A1 L.length c1) ∧ W.cell? ⟨w2.heap.size, 3, none⟩ = some (.slice A2 (L.length + 1) c2) ∧ W.cell? ⟨w2.heap.size + 1, 2, none⟩ = some (.slice A3 L.length c3) ∧ W.cell? ⟨w2.heap.size + 1, 3, none⟩ = some (.slice (some ⟨b4, o4, none⟩) (L.length + 1) c4) ∧ W.cell? ⟨b4, o4 + i, none⟩ = some (.int .i64 (F i : Nat)) ∧ W.cell? ⟨b4, o4 + j, none⟩ = some (.int .i64 (F j : Nat))) _ := ⟨⟨run_str' hr5, run_str' h94⟩, hHeld2.2⟩
          refine wpAnyH_take (i := 5) (oi := _) (v := ?_) rfl (by kernel_rfl) (by kernel_rfl) (by kernel_rfl) (fun _ _ _ h => h) (Or.inl ⟨by rfl, ?_⟩) hHeld3 ?_
          rotate_left
          · intro w9 hSw; obtain ⟨⟨q1, q2⟩, s0, s1, s2, s3, s4, s5, s6, s7⟩ := hSw; go_simp; (try with_reducible rfl)
          simp only [List.getElem_toArray, List.getElem_cons_zero, List.getElem_cons_succ, Act.put, List.setIfInBounds_toArray, List.set_cons_zero, List.set_cons_succ]
          refine wpAnyH_take (i := 19) (oi := _) (v := ?_) rfl (by kernel_rfl) (by kernel_rfl) (by kernel_rfl) (fun _ _ _ h => h) (Or.inl ⟨by rfl, ?_⟩) hHeld3 ?_
          rotate_left
          · intro w9 hSw; obtain ⟨⟨q1, q2⟩, s0, s1, s2, s3, s4, s5, s6, s7⟩ := hSw; go_simp; (try with_reducible rfl)
          simp only [List.getElem_toArray, List.getElem_cons_zero, List.getElem_cons_succ, Act.put, List.setIfInBounds_toArray, List.set_cons_zero, List.set_cons_succ]
          refine wpAnyH_take (i := 20) (oi := _) (v := ?_) rfl (by kernel_rfl) (by kernel_rfl) (by kernel_rfl) (fun _ _ _ h => h) (Or.inl ⟨by rfl, ?_⟩) hHeld3 ?_
          rotate_left
          · intro w9 hSw; obtain ⟨⟨q1, q2⟩, s0, s1, s2, s3, s4, s5, s6, s7⟩ := hSw; go_simp; (try with_reducible rfl)
          simp only [List.getElem_toArray, List.getElem_cons_zero, List.getElem_cons_succ, Act.put, List.setIfInBounds_toArray, List.set_cons_zero, List.set_cons_succ]
          refine wpAnyH_take (i := 21) (oi := _) (v := ?_) rfl (by kernel_rfl) (by kernel_rfl) (by kernel_rfl) (fun _ _ _ h => h) (Or.inl ⟨by rfl, ?_⟩) hHeld3 ?_
          rotate_left
          · intro w9 hSw; obtain ⟨⟨q1, q2⟩, s0, s1, s2, s3, s4, s5, s6, s7⟩ := hSw; go_simp; (try with_reducible rfl)
          simp only [List.getElem_toArray, List.getElem_cons_zero, List.getElem_cons_succ, Act.put, List.setIfInBounds_toArray, List.set_cons_zero, List.set_cons_succ]
          refine wpAnyH_take (i := 22) (oi := _) (v := ?_) rfl (by kernel_rfl) (by kernel_rfl) (by kernel_rfl) (fun _ _ _ h => h) (Or.inl ⟨by rfl, ?_⟩) hHeld3 ?_
          rotate_left
          · intro w9 hSw; obtain ⟨⟨q1, q2⟩, s0, s1, s2, s3, s4, s5, s6, s7⟩ := hSw; go_simp; (try with_reducible rfl)
          simp only [List.getElem_toArray, List.getElem_cons_zero, List.getElem_cons_succ, Act.put, List.setIfInBounds_toArray, List.set_cons_zero, List.set_cons_succ]
          refine wpAnyH_take (i := 23) (oi := _) (v := ?_) rfl (by kernel_rfl) (by kernel_rfl) (by kernel_rfl) (fun _ _ _ h => h) (Or.inl ⟨by rfl, ?_⟩) hHeld3 ?_
          rotate_left
          · intro w9 hSw; obtain ⟨⟨q1, q2⟩, s0, s1, s2, s3, s4, s5, s6, s7⟩ := hSw; go_simp; (try with_reducible rfl)
          simp only [List.getElem_toArray, List.getElem_cons_zero, List.getElem_cons_succ, Act.put, List.setIfInBounds_toArray, List.set_cons_zero, List.set_cons_succ]
          refine wpAnyH_take (i := 25) (oi := _) (v := ?_) rfl (by kernel_rfl) (by kernel_rfl) (by kernel_rfl) (fun _ _ _ h => h) (Or.inl ⟨by rfl, ?_⟩) hHeld3 ?_
          rotate_left
          · intro w9 hSw; obtain ⟨⟨q1, q2⟩, s0, s1, s2, s3, s4, s5, s6, s7⟩ := hSw; go_simp; (try with_reducible rfl)
          simp only [List.getElem_toArray, List.getElem_cons_zero, List.getElem_cons_succ, Act.put, List.setIfInBounds_toArray, List.set_cons_zero, List.set_cons_succ]
          refine wpAnyH_take (i := 26) (oi := _) (v := ?_) rfl (by kernel_rfl) (by kernel_rfl) (by kernel_rfl) (fun _ _ _ h => h) (Or.inl ⟨by rfl, ?_⟩) hHeld3 ?_
          rotate_left
          · intro w9 hSw; obtain ⟨⟨q1, q2⟩, s0, s1, s2, s3, s4, s5, s6, s7⟩ := hSw; go_simp; (try with_reducible rfl)
          simp only [List.getElem_toArray, List.getElem_cons_zero, List.getElem_cons_succ, Act.put, List.setIfInBounds_toArray, List.set_cons_zero, List.set_cons_succ]
          refine wpAnyH_take (i := 27) (oi := _) (v := ?_) rfl (by kernel_rfl) (by kernel_rfl) (by kernel_rfl) (fun _ _ _ h => h) (Or.inl ⟨by rfl, ?_⟩) hHeld3 ?_
          rotate_left
          · intro w9 hSw; obtain ⟨⟨q1, q2⟩, s0, s1, s2, s3, s4, s5, s6, s7⟩ := hSw; go_simp; (try with_reducible rfl)
          simp only [List.getElem_toArray, List.getElem_cons_zero, List.getElem_cons_succ, Act.put, List.setIfInBounds_toArray, List.set_cons_zero, List.set_cons_succ]
          refine wpAnyH_take (i := 28) (oi := _) (v := ?_) rfl (by kernel_rfl) (by kernel_rfl) (by kernel_rfl) (fun _ _ _ h => h) (Or.inl ⟨by rfl, ?_⟩) hHeld3 ?_
          rotate_left
          · intro w9 hSw; obtain ⟨⟨q1, q2⟩, s0, s1, s2, s3, s4, s5, s6, s7⟩ := hSw; go_simp; (try with_reducible rfl)
          simp only [List.getElem_toArray, List.getElem_cons_zero, List.getElem_cons_succ, Act.put, List.setIfInBounds_toArray, List.set_cons_zero, List.set_cons_succ]
          refine wpAnyH_take (i := 29) (oi := _) (v := ?_) rfl (by kernel_rfl) (by kernel_rfl) (by kernel_rfl) (fun _ _ _ h => h) (Or.inl ⟨by rfl, ?_⟩) hHeld3 ?_
          rotate_left
          · intro w9 hSw; obtain ⟨⟨q1, q2⟩, s0, s1, s2, s3, s4, s5, s6, s7⟩ := hSw; go_simp; (try with_reducible rfl)
          simp only [List.getElem_toArray, List.getElem_cons_zero, List.getElem_cons_succ, Act.put, List.setIfInBounds_toArray, List.set_cons_zero, List.set_cons_succ]
          generalize (if c3 = i then A3 else Option.map (fun x => x.add i) A3) = A29 at h29 ⊢
          refine wpAnyH_ready (rs := [24]) (by kernel_rfl) (by simp) ?_
          refine AllReadyH.cons (o := _) rfl (fun K hK => ?_) AllReadyH.nil
          go_simp
          refine (C57 _ hr1).mono ?_
          rintro e w6 ⟨rfl, hb6⟩
          obtain ⟨_, s0, s1, s2, s3, s4, s5, s6, s7⟩ := hHeld3
          have hr5 := hr5.on hb6
          have h94 := h94.on hb6
          refine hK.out _ _ ⟨⟨run_str' hr5, run_str' h94⟩, cells_on hb6 s0, cells_on hb6 s1, cells_on hb6 s2, cells_on hb6 s3, cells_on hb6 s4, cells_on hb6 s5, cells_on hb6 s6, cells_on hb6 s7⟩ (fun hHeld4 => ?_)
          clear hK s0 s1 s2 s3 s4 s5 s6 s7
          have h29 := h29.on hb6
          refine wpAnyH_ready (rs := [30]) (by kernel_rfl) (by simp) ?_
          refine AllReadyH.cons (o := _) rfl (fun K hK => ?_) AllReadyH.nil
          go_simp
          refine (C33 _ _ _ h29).mono ?_
          rintro e w7 ⟨A7, c7, rfl, ho7, hb7⟩
          obtain ⟨_, s0, s1, s2, s3, s4, s5, s6, s7⟩ := hHeld4
          refine hK.out _ _ ⟨⟨run_str' (hr5.on hb7), run_str' (h94.on hb7)⟩, cells_on hb7 s0, cells_on hb7 s1, cells_on hb7 s2, cells_on hb7 s3, cells_on hb7 s4, cells_on hb7 s5, cells_on hb7 s6, cells_on hb7 s7⟩ (fun hHeld5 => ?_)
          clear hK s0 s1 s2 s3 s4 s5 s6 s7
          have hr7 := Rd.of_own ho7
          refine wpAnyH_mono (S' := fun W => ((convert 22 9 (.slice A7 (encs sub).length c7)).run Try.prog W = .ok (.string (strOfNums (encs sub))) W) ∧ ((convert 22 9 (.slice A5 (F j - F i) c5)).run Try.prog W = .ok (.string (strOfNums ss)) W ∧ (convert 22 9 (.slice A94 (F j - F i) (c - F i))).run Try.prog W = .ok (.string (strOfNums ss)) W) ∧ W.cell? ⟨w2.heap.size, 0, none⟩ = some (.int .i64 kd) ∧ W.cell? ⟨w2.heap.size, 1, none⟩ = some (.int .i64 (p : Nat)) ∧ W.cell? ⟨w2.heap.size, 2, none⟩ = some (.slice A1 L.length c1) ∧ W.cell? ⟨w2.heap.size, 3, none⟩ = some (.slice A2 (L.length + 1) c2) ∧ W.cell? ⟨w2.heap.size + 1, 2, none⟩ = some (.slice A3 L.length c3) ∧ W.cell? ⟨w2.heap.size + 1, 3, none⟩ = some (.slice (some ⟨b4, o4, none⟩) (L.length + 1) c4) ∧ W.cell? ⟨b4, o4 + i, none⟩ = some (.int .i64 (F i : Nat)) ∧ W.cell? ⟨b4, o4 + j, none⟩ = some (.int .i64 (F j : Nat))) (fun W h => h.2) _ _ _ _ ?_
          have hHeld6 : (fun W => ((convert 22 9 (.slice A7 (encs sub).length c7)).run Try.prog W = .ok (.string (strOfNums (encs sub))) W) ∧ ((convert 22 9 (.slice A5 (F j - F i) c5)).run Try.prog W = .ok (.string (strOfNums ss)) W ∧ (convert 22 9 (.slice A94 (F j - F i) (c - F i))).run Try.prog W = .ok (.string (strOfNums ss)) W) ∧ W.cell? ⟨w2.heap.size, 0, none⟩ = some (.int .i64 kd) ∧ W.cell? ⟨w2.heap.size, 1, none⟩ = some (.int .i64 (p : Nat)) ∧ W.cell? ⟨w2.heap.size, 2, none⟩ = some (.slice A1 L.length c1) ∧ W.cell? ⟨w2.heap.size, 3, none⟩ = some (.slice A2 (L.length + 1) c2) ∧ W.cell? ⟨w2.heap.size + 1, 2, none⟩ = some (.slice A3 L.length c3) ∧ W.cell? ⟨w2.heap.size + 1, 3, none⟩ = some (.slice (some ⟨b4, o4, none⟩) (L.length + 1) c4) ∧ W.cell? ⟨b4, o4 + i, none⟩ = some (.int .i64 (F i : Nat)) ∧ W.cell? ⟨b4, o4 + j, none⟩ = some (.int .i64 (F j : Nat))) _ := ⟨run_str' hr7, hHeld5⟩
          refine wpAnyH_take (i := 31) (oi := _) (v := ?_) rfl (by kernel_rfl) (by kernel_rfl) (by kernel_rfl) (fun _ _ _ h => h) (Or.inl ⟨by rfl, ?_⟩) hHeld6 ?_
          rotate_left
          · intro w9 hSw; obtain ⟨q3, ⟨q1, q2⟩, s0, s1, s2, s3, s4, s5, s6, s7⟩ := hSw; go_simp; (try with_reducible rfl)
          simp only [List.getElem_toArray, List.getElem_cons_zero, List.getElem_cons_succ, Act.put, List.setIfInBounds_toArray, List.set_cons_zero, List.set_cons_succ]
          refine wpAnyH_take (i := 32) (oi := _) (v := ?_) rfl (by kernel_rfl) (by kernel_rfl) (by kernel_rfl) (fun _ _ _ h => h) (Or.inl ⟨by rfl, ?_⟩) hHeld6 ?_
          rotate_left
          · intro w9 hSw; obtain ⟨q3, ⟨q1, q2⟩, s0, s1, s2, s3, s4, s5, s6, s7⟩ := hSw; go_simp; (try with_reducible rfl)
          simp only [List.getElem_toArray, List.getElem_cons_zero, List.getElem_cons_succ, Act.put, List.setIfInBounds_toArray, List.set_cons_zero, List.set_cons_succ]
          refine wpAnyH_take (i := 33) (oi := _) (v := ?_) rfl (by kernel_rfl) (by kernel_rfl) (by kernel_rfl) (fun _ _ _ h => h) (Or.inl ⟨by rfl, ?_⟩) hHeld6 ?_
          rotate_left
          · intro w9 hSw; obtain ⟨q3, ⟨q1, q2⟩, s0, s1, s2, s3, s4, s5, s6, s7⟩ := hSw; go_simp; (try with_reducible rfl)
          simp only [List.getElem_toArray, List.getElem_cons_zero, List.getElem_cons_succ, Act.put, List.setIfInBounds_toArray, List.set_cons_zero, List.set_cons_succ]
          refine wpAnyH_take (i := 34) (oi := _) (v := ?_) rfl (by kernel_rfl) (by kernel_rfl) (by kernel_rfl) (fun _ _ _ h => h) (Or.inl ⟨by rfl, ?_⟩) hHeld6 ?_
          rotate_left
          · intro w9 hSw; obtain ⟨q3, ⟨q1, q2⟩, s0, s1, s2, s3, s4, s5, s6, s7⟩ := hSw; go_simp; (try with_reducible rfl)
          simp only [List.getElem_toArray, List.getElem_cons_zero, List.getElem_cons_succ, Act.put, List.setIfInBounds_toArray, List.set_cons_zero, List.set_cons_succ]
          refine wpAnyH_ready (rs := [35]) (by kernel_rfl) (by simp) ?_
          refine AllReadyH.cons (o := _) rfl (fun K hK => ?_) AllReadyH.nil
          go_simp
          refine (awake45 _).mono ?_
          rintro e w8 ⟨rfl, hb8⟩
          obtain ⟨_, _, s0, s1, s2, s3, s4, s5, s6, s7⟩ := hHeld6
          refine hK.out _ _ ⟨run_str' (hr7.on hb8), ⟨run_str' ((hr5.on hb7).on hb8), run_str' ((h94.on hb7).on hb8)⟩, cells_on hb8 s0, cells_on hb8 s1, cells_on hb8 s2, cells_on hb8 s3, cells_on hb8 s4, cells_on hb8 s5, cells_on hb8 s6, cells_on hb8 s7⟩ (fun hHeld7 => ?_)
          clear hK s0 s1 s2 s3 s4 s5 s6 s7
          refine wpAnyH_take (i := 36) (oi := _) (v := ?_) rfl (by kernel_rfl) (by kernel_rfl) (by kernel_rfl) (fun _ _ _ h => h) (Or.inl ⟨by rfl, ?_⟩) hHeld7 ?_
          rotate_left
          · intro w9 hSw; obtain ⟨q3, ⟨q1, q2⟩, s0, s1, s2, s3, s4, s5, s6, s7⟩ := hSw; go_simp; (try with_reducible rfl)
          simp only [List.getElem_toArray, List.getElem_cons_zero, List.getElem_cons_succ, Act.put, List.setIfInBounds_toArray, List.set_cons_zero, List.set_cons_succ]
          refine wpAnyH_take (i := 37) (oi := _) (v := ?_) rfl (by kernel_rfl) (by kernel_rfl) (by kernel_rfl) (fun _ _ _ h => h) (Or.inl ⟨by rfl, ?_⟩) hHeld7 ?_
          rotate_left
          · intro w9 hSw; obtain ⟨q3, ⟨q1, q2⟩, s0, s1, s2, s3, s4, s5, s6, s7⟩ := hSw; go_simp; (try with_reducible rfl)
          simp only [List.getElem_toArray, List.getElem_cons_zero, List.getElem_cons_succ, Act.put, List.setIfInBounds_toArray, List.set_cons_zero, List.set_cons_succ]
          refine wpAnyH_done (by kernel_rfl) ?_ _
          go_wp2_with fail
          go_ret
          exact ⟨rfl, hb0.trans ((hb.trans (((Below.refl _ _).drew.trans (hb5.trans ((hb6.trans ((hb7.trans (hb8.mono hb7.size)).mono hb6.size)).mono hb5.size))).mono hsz)).mono hb0.size)⟩
        · clear hq
          go_wp2_with (go_at_call 56; refine C56.mono ?_; rintro e w4 ⟨k2, rfl, hk2, hb4⟩; clear C56; obtain rfl := isAt_uniq hk2 HI.out; have y0 := cells_on hb4 y0; have y1 := cells_on hb4 y1; have y2 := cells_on hb4 y2; have y3 := cells_on hb4 y3; have z2 := cells_on hb4 z2; have z3 := cells_on hb4 z3; have hr1 := hr1.on hb4; have ho1 := ho1.on hb4; have hr2 := hr2.on hb4; have ho3 := (ho2.on hb).on hb4; have h5 := h5.on hb4; have hb := hb.trans (hb4.mono hsz); have hsz := hb.size; clear hb4 hk2)
          have xi := (hb.cell (p := ⟨b4, o4 + i, none⟩) hbb4).trans (HC4.out i (by omega))
          have xj := (hb.cell (p := ⟨b4, o4 + j, none⟩) hbb4).trans (HC4.out j (by omega))
          rw [HF.out.1 i (by omega)] at xi
          rw [HF.out.1 j (by omega)] at xj
          have hlh := HF.out.2.2 i j hij hjm
          have hhm : F j ≤ m := by have := HF.out.2.2 j L.length hjm (Nat.le_refl _); have h9 := HF1.out; omega
          have hhc : F j ≤ c := by omega
          have hc3 := hr2.cap
          have hjc : j ≤ c3 := by omega
          have hi9 : (i : Int) < (L.length : Int) + 1 := by omega
          have hj9 : (j : Int) < (L.length : Int) + 1 := by omega
          have C50 := fun W hO hb => slice50_good kd p A1 A2 A L.length c1 c2 m c (F i) (F j) (F L.length) i j O ys W hO hb hij hjm (HF.out.1 i (by omega)) (HF.out.1 j (by omega)) (HF.out.1 L.length (Nat.le_refl _)) (by rw [HF1.out]; exact Nat.le_refl _) hlh hhm (by omega) (by omega)
          have C57 := fun W hR => string57 kd p A1 A2 L.length c1 (L.length + 1) c2 i j R W hR hij hjm (by omega)
          have h94 := (h5.cut5 hlh hhm).drew
          have h29 := (hr2.cut5 hij hjm).drew
          have C33 := fun A' c' W hW => bytes33 A' (j - i) c' ((R.drop i).take (j - i)) W hW (by omega)
          unfold PBytesSaid at C50
          generalize (R.drop i).take (j - i) = sub at C57 h29 C33
          generalize (ys.drop (F i)).take (F j - F i) = ss at C50 h94
          refine wp_region_held_drew (S := fun W => W.cell? ⟨w2.heap.size, 0, none⟩ = some (.int .i64 kd) ∧ W.cell? ⟨w2.heap.size, 1, none⟩ = some (.int .i64 (p : Nat)) ∧ W.cell? ⟨w2.heap.size, 2, none⟩ = some (.slice A1 L.length c1) ∧ W.cell? ⟨w2.heap.size, 3, none⟩ = some (.slice A2 (L.length + 1) c2) ∧ W.cell? ⟨w2.heap.size + 1, 2, none⟩ = some (.slice A3 L.length c3) ∧ W.cell? ⟨w2.heap.size + 1, 3, none⟩ = some (.slice (some ⟨b4, o4, none⟩) (L.length + 1) c4) ∧ W.cell? ⟨b4, o4 + i, none⟩ = some (.int .i64 (F i : Nat)) ∧ W.cell? ⟨b4, o4 + j, none⟩ = some (.int .i64 (F j : Nat))) (by kernel_rfl) ⟨y0, y1, y2, y3, z2, z3, xi, xj⟩ (fun hHeld => ?_)
          change wpAnyH _ _ _ _ _ 38 #[false, false, false, false, false, false, false, false, false, false, false, false, false, false, false, false, false, false, false, false, false, false, false, false, false, false, false, false, false, false, false, false, false, false, false, false, false, false] _ _
          refine wpAnyH_take (i := 0) (oi := _) (v := ?_) rfl (by kernel_rfl) (by kernel_rfl) (by kernel_rfl) (fun _ _ _ h => h) (Or.inl ⟨by rfl, ?_⟩) hHeld ?_
          rotate_left
          · intro w9 hSw; obtain ⟨s0, s1, s2, s3, s4, s5, s6, s7⟩ := hSw; go_simp; (try with_reducible rfl)
          simp only [List.getElem_toArray, List.getElem_cons_zero, Act.put, List.setIfInBounds_toArray, List.set_cons_zero, List.set_cons_succ]
          refine wpAnyH_take (i := 1) (oi := _) (v := ?_) rfl (by kernel_rfl) (by kernel_rfl) (by kernel_rfl) (fun _ _ _ h => h) (Or.inl ⟨by rfl, ?_⟩) hHeld ?_
          rotate_left
          · intro w9 hSw; obtain ⟨s0, s1, s2, s3, s4, s5, s6, s7⟩ := hSw; go_simp; (try with_reducible rfl)
          simp only [List.getElem_toArray, List.getElem_cons_zero, List.getElem_cons_succ, Act.put, List.setIfInBounds_toArray, List.set_cons_zero, List.set_cons_succ]
          refine wpAnyH_take (i := 2) (oi := _) (v := ?_) rfl (by kernel_rfl) (by kernel_rfl) (by kernel_rfl) (fun _ _ _ h => h) (Or.inl ⟨by rfl, ?_⟩) hHeld ?_
          rotate_left
          · intro w9 hSw; obtain ⟨s0, s1, s2, s3, s4, s5, s6, s7⟩ := hSw; go_simp; (try with_reducible rfl)
          simp only [List.getElem_toArray, List.getElem_cons_zero, List.getElem_cons_succ, Act.put, List.setIfInBounds_toArray, List.set_cons_zero, List.set_cons_succ]
          refine wpAnyH_take (i := 3) (oi := _) (v := ?_) rfl (by kernel_rfl) (by kernel_rfl) (by kernel_rfl) (fun _ _ _ h => h) (Or.inl ⟨by rfl, ?_⟩) hHeld ?_
          rotate_left
          · intro w9 hSw; obtain ⟨s0, s1, s2, s3, s4, s5, s6, s7⟩ := hSw; go_simp; (try with_reducible rfl)
          simp only [List.getElem_toArray, List.getElem_cons_zero, List.getElem_cons_succ, Act.put, List.setIfInBounds_toArray, List.set_cons_zero, List.set_cons_succ]
          refine wpAnyH_take (i := 6) (oi := _) (v := ?_) rfl (by kernel_rfl) (by kernel_rfl) (by kernel_rfl) (fun _ _ _ h => h) (Or.inl ⟨by rfl, ?_⟩) hHeld ?_
          rotate_left
          · intro w9 hSw; obtain ⟨s0, s1, s2, s3, s4, s5, s6, s7⟩ := hSw; go_simp; (try with_reducible rfl)
          simp only [List.getElem_toArray, List.getElem_cons_zero, List.getElem_cons_succ, Act.put, List.setIfInBounds_toArray, List.set_cons_zero, List.set_cons_succ]
          refine wpAnyH_take (i := 7) (oi := _) (v := ?_) rfl (by kernel_rfl) (by kernel_rfl) (by kernel_rfl) (fun _ _ _ h => h) (Or.inl ⟨by rfl, ?_⟩) hHeld ?_
          rotate_left
          · intro w9 hSw; obtain ⟨s0, s1, s2, s3, s4, s5, s6, s7⟩ := hSw; go_simp; (try with_reducible rfl)
          simp only [List.getElem_toArray, List.getElem_cons_zero, List.getElem_cons_succ, Act.put, List.setIfInBounds_toArray, List.set_cons_zero, List.set_cons_succ]
          refine wpAnyH_take (i := 8) (oi := _) (v := ?_) rfl (by kernel_rfl) (by kernel_rfl) (by kernel_rfl) (fun _ _ _ h => h) (Or.inl ⟨by rfl, ?_⟩) hHeld ?_
          rotate_left
          · intro w9 hSw; obtain ⟨s0, s1, s2, s3, s4, s5, s6, s7⟩ := hSw; go_simp; (try with_reducible rfl)
          simp only [List.getElem_toArray, List.getElem_cons_zero, List.getElem_cons_succ, Act.put, List.setIfInBounds_toArray, List.set_cons_zero, List.set_cons_succ]
          refine wpAnyH_take (i := 9) (oi := _) (v := ?_) rfl (by kernel_rfl) (by kernel_rfl) (by kernel_rfl) (fun _ _ _ h => h) (Or.inl ⟨by rfl, ?_⟩) hHeld ?_
          rotate_left
          · intro w9 hSw; obtain ⟨s0, s1, s2, s3, s4, s5, s6, s7⟩ := hSw; go_simp; (try with_reducible rfl)
          simp only [List.getElem_toArray, List.getElem_cons_zero, List.getElem_cons_succ, Act.put, List.setIfInBounds_toArray, List.set_cons_zero, List.set_cons_succ]
          refine wpAnyH_take (i := 10) (oi := _) (v := ?_) rfl (by kernel_rfl) (by kernel_rfl) (by kernel_rfl) (fun _ _ _ h => h) (Or.inl ⟨by rfl, ?_⟩) hHeld ?_
          rotate_left
          · intro w9 hSw; obtain ⟨s0, s1, s2, s3, s4, s5, s6, s7⟩ := hSw; go_simp; (try with_reducible rfl)
          simp only [List.getElem_toArray, List.getElem_cons_zero, List.getElem_cons_succ, Act.put, List.setIfInBounds_toArray, List.set_cons_zero, List.set_cons_succ]
          refine wpAnyH_take (i := 11) (oi := _) (v := ?_) rfl (by kernel_rfl) (by kernel_rfl) (by kernel_rfl) (fun _ _ _ h => h) (Or.inl ⟨by rfl, ?_⟩) hHeld ?_
          rotate_left
          · intro w9 hSw; obtain ⟨s0, s1, s2, s3, s4, s5, s6, s7⟩ := hSw; go_simp; (try with_reducible rfl)
          simp only [List.getElem_toArray, List.getElem_cons_zero, List.getElem_cons_succ, Act.put, List.setIfInBounds_toArray, List.set_cons_zero, List.set_cons_succ]
          refine wpAnyH_take (i := 12) (oi := _) (v := ?_) rfl (by kernel_rfl) (by kernel_rfl) (by kernel_rfl) (fun _ _ _ h => h) (Or.inl ⟨by rfl, ?_⟩) hHeld ?_
          rotate_left
          · intro w9 hSw; obtain ⟨s0, s1, s2, s3, s4, s5, s6, s7⟩ := hSw; go_simp; (try with_reducible rfl)
          simp only [List.getElem_toArray, List.getElem_cons_zero, List.getElem_cons_succ, Act.put, List.setIfInBounds_toArray, List.set_cons_zero, List.set_cons_succ]
          refine wpAnyH_take (i := 13) (oi := _) (v := ?_) rfl (by kernel_rfl) (by kernel_rfl) (by kernel_rfl) (fun _ _ _ h => h) (Or.inl ⟨by rfl, ?_⟩) hHeld ?_
          rotate_left
          · intro w9 hSw; obtain ⟨s0, s1, s2, s3, s4, s5, s6, s7⟩ := hSw; go_simp; (try with_reducible rfl)
          simp only [List.getElem_toArray, List.getElem_cons_zero, List.getElem_cons_succ, Act.put, List.setIfInBounds_toArray, List.set_cons_zero, List.set_cons_succ]
          refine wpAnyH_take (i := 14) (oi := _) (v := ?_) rfl (by kernel_rfl) (by kernel_rfl) (by kernel_rfl) (fun _ _ _ h => h) (Or.inl ⟨by rfl, ?_⟩) hHeld ?_
          rotate_left
          · intro w9 hSw; obtain ⟨s0, s1, s2, s3, s4, s5, s6, s7⟩ := hSw; go_simp; (try with_reducible rfl)
          simp only [List.getElem_toArray, List.getElem_cons_zero, List.getElem_cons_succ, Act.put, List.setIfInBounds_toArray, List.set_cons_zero, List.set_cons_succ]
          refine wpAnyH_take (i := 15) (oi := _) (v := ?_) rfl (by kernel_rfl) (by kernel_rfl) (by kernel_rfl) (fun _ _ _ h => h) (Or.inl ⟨by rfl, ?_⟩) hHeld ?_
          rotate_left
          · intro w9 hSw; obtain ⟨s0, s1, s2, s3, s4, s5, s6, s7⟩ := hSw; go_simp; (try with_reducible rfl)
          simp only [List.getElem_toArray, List.getElem_cons_zero, List.getElem_cons_succ, Act.put, List.setIfInBounds_toArray, List.set_cons_zero, List.set_cons_succ]
          refine wpAnyH_take (i := 16) (oi := _) (v := ?_) rfl (by kernel_rfl) (by kernel_rfl) (by kernel_rfl) (fun _ _ _ h => h) (Or.inl ⟨by rfl, ?_⟩) hHeld ?_
          rotate_left
          · intro w9 hSw; obtain ⟨s0, s1, s2, s3, s4, s5, s6, s7⟩ := hSw; go_simp; (try with_reducible rfl)
          simp only [List.getElem_toArray, List.getElem_cons_zero, List.getElem_cons_succ, Act.put, List.setIfInBounds_toArray, List.set_cons_zero, List.set_cons_succ]
          refine wpAnyH_take (i := 17) (oi := _) (v := ?_) rfl (by kernel_rfl) (by kernel_rfl) (by kernel_rfl) (fun _ _ _ h => h) (Or.inl ⟨by rfl, ?_⟩) hHeld ?_
          rotate_left
          · intro w9 hSw; obtain ⟨s0, s1, s2, s3, s4, s5, s6, s7⟩ := hSw; go_simp; (try with_reducible rfl)
          simp only [List.getElem_toArray, List.getElem_cons_zero, List.getElem_cons_succ, Act.put, List.setIfInBounds_toArray, List.set_cons_zero, List.set_cons_succ]
          generalize (if c = F i then A else Option.map (fun x => x.add (F i)) A) = A94 at h94 ⊢
          refine wpAnyH_mono (S' := fun W => ((convert 22 9 (.slice A94 (F j - F i) (c - F i))).run Try.prog W = .ok (.string (strOfNums ss)) W) ∧ W.cell? ⟨w2.heap.size, 0, none⟩ = some (.int .i64 kd) ∧ W.cell? ⟨w2.heap.size, 1, none⟩ = some (.int .i64 (p : Nat)) ∧ W.cell? ⟨w2.heap.size, 2, none⟩ = some (.slice A1 L.length c1) ∧ W.cell? ⟨w2.heap.size, 3, none⟩ = some (.slice A2 (L.length + 1) c2) ∧ W.cell? ⟨w2.heap.size + 1, 2, none⟩ = some (.slice A3 L.length c3) ∧ W.cell? ⟨w2.heap.size + 1, 3, none⟩ = some (.slice (some ⟨b4, o4, none⟩) (L.length + 1) c4) ∧ W.cell? ⟨b4, o4 + i, none⟩ = some (.int .i64 (F i : Nat)) ∧ W.cell? ⟨b4, o4 + j, none⟩ = some (.int .i64 (F j : Nat))) (fun W h => h.2) _ _ _ _ ?_
          have hHeld1 : (fun W => ((convert 22 9 (.slice A94 (F j - F i) (c - F i))).run Try.prog W = .ok (.string (strOfNums ss)) W) ∧ W.cell? ⟨w2.heap.size, 0, none⟩ = some (.int .i64 kd) ∧ W.cell? ⟨w2.heap.size, 1, none⟩ = some (.int .i64 (p : Nat)) ∧ W.cell? ⟨w2.heap.size, 2, none⟩ = some (.slice A1 L.length c1) ∧ W.cell? ⟨w2.heap.size, 3, none⟩ = some (.slice A2 (L.length + 1) c2) ∧ W.cell? ⟨w2.heap.size + 1, 2, none⟩ = some (.slice A3 L.length c3) ∧ W.cell? ⟨w2.heap.size + 1, 3, none⟩ = some (.slice (some ⟨b4, o4, none⟩) (L.length + 1) c4) ∧ W.cell? ⟨b4, o4 + i, none⟩ = some (.int .i64 (F i : Nat)) ∧ W.cell? ⟨b4, o4 + j, none⟩ = some (.int .i64 (F j : Nat))) _ := ⟨run_str' h94, hHeld⟩
          refine wpAnyH_take (i := 18) (oi := _) (v := ?_) rfl (by kernel_rfl) (by kernel_rfl) (by kernel_rfl) (fun _ _ _ h => h) (Or.inl ⟨by rfl, ?_⟩) hHeld1 ?_
          rotate_left
          · intro w9 hSw; obtain ⟨q2, s0, s1, s2, s3, s4, s5, s6, s7⟩ := hSw; go_simp; (try with_reducible rfl)
          simp only [List.getElem_toArray, List.getElem_cons_zero, List.getElem_cons_succ, Act.put, List.setIfInBounds_toArray, List.set_cons_zero, List.set_cons_succ]
          refine wpAnyH_ready (rs := [4]) (by kernel_rfl) (by simp) ?_
          refine AllReadyH.cons (o := _) rfl (fun K hK => ?_) AllReadyH.nil
          go_simp
          refine (C50 _ ho1.drew h5.drew).mono ?_
          rintro e w5 ⟨A5, c5, rfl, hr5, hb5⟩
          obtain ⟨s0, s1, s2, s3, s4, s5, s6, s7⟩ := hHeld
          refine hK.out _ _ ⟨run_str' (h94.on hb5), cells_on hb5 s0, cells_on hb5 s1, cells_on hb5 s2, cells_on hb5 s3, cells_on hb5 s4, cells_on hb5 s5, cells_on hb5 s6, cells_on hb5 s7⟩ (fun hHeld2 => ?_)
          clear hK s0 s1 s2 s3 s4 s5 s6 s7
          have h94 := h94.on hb5
          have h29 := h29.on hb5
          have hr1 := hr1.drew.on hb5
          refine wpAnyH_mono (S' := fun W => ((convert 22 9 (.slice A5 (F j - F i) c5)).run Try.prog W = .ok (.string (strOfNums ss)) W ∧ (convert 22 9 (.slice A94 (F j - F i) (c - F i))).run Try.prog W = .ok (.string (strOfNums ss)) W) ∧ W.cell? ⟨w2.heap.size, 0, none⟩ = some (.int .i64 kd) ∧ W.cell? ⟨w2.heap.size, 1, none⟩ = some (.int .i64 (p : Nat)) ∧ W.cell? ⟨w2.heap.size, 2, none⟩ = some (.slice A1 L.length c1) ∧ W.cell? ⟨w2.heap.size, 3, none⟩ = some (.slice A2 (L.length + 1) c2) ∧ W.cell? ⟨w2.heap.size + 1, 2, none⟩ = some (.slice A3 L.length c3) ∧ W.cell? ⟨w2.heap.size + 1, 3, none⟩ = some (.slice (some ⟨b4, o4, none⟩) (L.length + 1) c4) ∧ W.cell? ⟨b4, o4 + i, none⟩ = some (.int .i64 (F i : Nat)) ∧ W.cell? ⟨b4, o4 + j, none⟩ = some (.int .i64 (F j : Nat))) (fun W h => ⟨h.1.2, h.2⟩) _ _ _ _ ?_
          have hHeld3 : (fun W => ((convert 22 9 (.slice A5 (F j - F i) c5)).run Try.prog W = .ok (.string (strOfNums ss)) W ∧ (convert 22 9 (.slice A94 (F j - F i) (c - F i))).run Try.prog W = .ok (.string (strOfNums ss)) W) ∧ W.cell? ⟨w2.heap.size, 0, none⟩ = some (.int .i64 kd) ∧ W.cell? ⟨w2.heap.size, 1, none⟩ = some (.int .i64 (p : Nat)) ∧ W.cell? ⟨w2.heap.size, 2, none⟩ = some (.slice A1 L.length c1) ∧ W.cell? ⟨w2.heap.size, 3, none⟩ = some (.slice A2 (L.length + 1) c2) ∧ W.cell? ⟨w2.heap.size + 1, 2, none⟩ = some (.slice A3 L.length c3) ∧ W.cell? ⟨w2.heap.size + 1, 3, none⟩ = some (.slice (some ⟨b4, o4, none⟩) (L.length + 1) c4) ∧ W.cell? ⟨b4, o4 + i, none⟩ = some (.int .i64 (F i : Nat)) ∧ W.cell? ⟨b4, o4 + j, none⟩ = some (.int .i64 (F j : Nat))) _ := ⟨⟨run_str' hr5, run_str' h94⟩, hHeld2.2⟩
          refine wpAnyH_take (i := 5) (oi := _) (v := ?_) rfl (by kernel_rfl) (by kernel_rfl) (by kernel_rfl) (fun _ _ _ h => h) (Or.inl ⟨by rfl, ?_⟩) hHeld3 ?_
          rotate_left
          · intro w9 hSw; obtain ⟨⟨q1, q2⟩, s0, s1, s2, s3, s4, s5, s6, s7⟩ := hSw; go_simp; (try with_reducible rfl)
          simp only [List.getElem_toArray, List.getElem_cons_zero, List.getElem_cons_succ, Act.put, List.setIfInBounds_toArray, List.set_cons_zero, List.set_cons_succ]
          refine wpAnyH_take (i := 19) (oi := _) (v := ?_) rfl (by kernel_rfl) (by kernel_rfl) (by kernel_rfl) (fun _ _ _ h => h) (Or.inl ⟨by rfl, ?_⟩) hHeld3 ?_
          rotate_left
          · intro w9 hSw; obtain ⟨⟨q1, q2⟩, s0, s1, s2, s3, s4, s5, s6, s7⟩ := hSw; go_simp; (try with_reducible rfl)
          simp only [List.getElem_toArray, List.getElem_cons_zero, List.getElem_cons_succ, Act.put, List.setIfInBounds_toArray, List.set_cons_zero, List.set_cons_succ]
          refine wpAnyH_take (i := 20) (oi := _) (v := ?_) rfl (by kernel_rfl) (by kernel_rfl) (by kernel_rfl) (fun _ _ _ h => h) (Or.inl ⟨by rfl, ?_⟩) hHeld3 ?_
          rotate_left
          · intro w9 hSw; obtain ⟨⟨q1, q2⟩, s0, s1, s2, s3, s4, s5, s6, s7⟩ := hSw; go_simp; (try with_reducible rfl)
          simp only [List.getElem_toArray, List.getElem_cons_zero, List.getElem_cons_succ, Act.put, List.setIfInBounds_toArray, List.set_cons_zero, List.set_cons_succ]
          refine wpAnyH_take (i := 21) (oi := _) (v := ?_) rfl (by kernel_rfl) (by kernel_rfl) (by kernel_rfl) (fun _ _ _ h => h) (Or.inl ⟨by rfl, ?_⟩) hHeld3 ?_
          rotate_left
          · intro w9 hSw; obtain ⟨⟨q1, q2⟩, s0, s1, s2, s3, s4, s5, s6, s7⟩ := hSw; go_simp; (try with_reducible rfl)
          simp only [List.getElem_toArray, List.getElem_cons_zero, List.getElem_cons_succ, Act.put, List.setIfInBounds_toArray, List.set_cons_zero, List.set_cons_succ]
          refine wpAnyH_take (i := 22) (oi := _) (v := ?_) rfl (by kernel_rfl) (by kernel_rfl) (by kernel_rfl) (fun _ _ _ h => h) (Or.inl ⟨by rfl, ?_⟩) hHeld3 ?_
          rotate_left
          · intro w9 hSw; obtain ⟨⟨q1, q2⟩, s0, s1, s2, s3, s4, s5, s6, s7⟩ := hSw; go_simp; (try with_reducible rfl)
          simp only [List.getElem_toArray, List.getElem_cons_zero, List.getElem_cons_succ, Act.put, List.setIfInBounds_toArray, List.set_cons_zero, List.set_cons_succ]
          refine wpAnyH_take (i := 23) (oi := _) (v := ?_) rfl (by kernel_rfl) (by kernel_rfl) (by kernel_rfl) (fun _ _ _ h => h) (Or.inl ⟨by rfl, ?_⟩) hHeld3 ?_
          rotate_left
          · intro w9 hSw; obtain ⟨⟨q1, q2⟩, s0, s1, s2, s3, s4, s5, s6, s7⟩ := hSw; go_simp; (try with_reducible rfl)
          simp only [List.getElem_toArray, List.getElem_cons_zero, List.getElem_cons_succ, Act.put, List.setIfInBounds_toArray, List.set_cons_zero, List.set_cons_succ]
          refine wpAnyH_take (i := 25) (oi := _) (v := ?_) rfl (by kernel_rfl) (by kernel_rfl) (by kernel_rfl) (fun _ _ _ h => h) (Or.inl ⟨by rfl, ?_⟩) hHeld3 ?_
          rotate_left
          · intro w9 hSw; obtain ⟨⟨q1, q2⟩, s0, s1, s2, s3, s4, s5, s6, s7⟩ := hSw; go_simp; (try with_reducible rfl)
          simp only [List.getElem_toArray, List.getElem_cons_zero, List.getElem_cons_succ, Act.put, List.setIfInBounds_toArray, List.set_cons_zero, List.set_cons_succ]
          refine wpAnyH_take (i := 26) (oi := _) (v := ?_) rfl (by kernel_rfl) (by kernel_rfl) (by kernel_rfl) (fun _ _ _ h => h) (Or.inl ⟨by rfl, ?_⟩) hHeld3 ?_
          rotate_left
          · intro w9 hSw; obtain ⟨⟨q1, q2⟩, s0, s1, s2, s3, s4, s5, s6, s7⟩ := hSw; go_simp; (try with_reducible rfl)
          simp only [List.getElem_toArray, List.getElem_cons_zero, List.getElem_cons_succ, Act.put, List.setIfInBounds_toArray, List.set_cons_zero, List.set_cons_succ]
          refine wpAnyH_take (i := 27) (oi := _) (v := ?_) rfl (by kernel_rfl) (by kernel_rfl) (by kernel_rfl) (fun _ _ _ h => h) (Or.inl ⟨by rfl, ?_⟩) hHeld3 ?_
          rotate_left
          · intro w9 hSw; obtain ⟨⟨q1, q2⟩, s0, s1, s2, s3, s4, s5, s6, s7⟩ := hSw; go_simp; (try with_reducible rfl)
          simp only [List.getElem_toArray, List.getElem_cons_zero, List.getElem_cons_succ, Act.put, List.setIfInBounds_toArray, List.set_cons_zero, List.set_cons_succ]
          refine wpAnyH_take (i := 28) (oi := _) (v := ?_) rfl (by kernel_rfl) (by kernel_rfl) (by kernel_rfl) (fun _ _ _ h => h) (Or.inl ⟨by rfl, ?_⟩) hHeld3 ?_
          rotate_left
          · intro w9 hSw; obtain ⟨⟨q1, q2⟩, s0, s1, s2, s3, s4, s5, s6, s7⟩ := hSw; go_simp; (try with_reducible rfl)
          simp only [List.getElem_toArray, List.getElem_cons_zero, List.getElem_cons_succ, Act.put, List.setIfInBounds_toArray, List.set_cons_zero, List.set_cons_succ]
          refine wpAnyH_take (i := 29) (oi := _) (v := ?_) rfl (by kernel_rfl) (by kernel_rfl) (by kernel_rfl) (fun _ _ _ h => h) (Or.inl ⟨by rfl, ?_⟩) hHeld3 ?_
          rotate_left
          · intro w9 hSw; obtain ⟨⟨q1, q2⟩, s0, s1, s2, s3, s4, s5, s6, s7⟩ := hSw; go_simp; (try with_reducible rfl)
          simp only [List.getElem_toArray, List.getElem_cons_zero, List.getElem_cons_succ, Act.put, List.setIfInBounds_toArray, List.set_cons_zero, List.set_cons_succ]
          generalize (if c3 = i then A3 else Option.map (fun x => x.add i) A3) = A29 at h29 ⊢
          refine wpAnyH_ready (rs := [24]) (by kernel_rfl) (by simp) ?_
          refine AllReadyH.cons (o := _) rfl (fun K hK => ?_) AllReadyH.nil
          go_simp
          refine (C57 _ hr1).mono ?_
          rintro e w6 ⟨rfl, hb6⟩
          obtain ⟨_, s0, s1, s2, s3, s4, s5, s6, s7⟩ := hHeld3
          have hr5 := hr5.on hb6
          have h94 := h94.on hb6
          refine hK.out _ _ ⟨⟨run_str' hr5, run_str' h94⟩, cells_on hb6 s0, cells_on hb6 s1, cells_on hb6 s2, cells_on hb6 s3, cells_on hb6 s4, cells_on hb6 s5, cells_on hb6 s6, cells_on hb6 s7⟩ (fun hHeld4 => ?_)
          clear hK s0 s1 s2 s3 s4 s5 s6 s7
          have h29 := h29.on hb6
          refine wpAnyH_ready (rs := [30]) (by kernel_rfl) (by simp) ?_
          refine AllReadyH.cons (o := _) rfl (fun K hK => ?_) AllReadyH.nil
          go_simp
          refine (C33 _ _ _ h29).mono ?_
          rintro e w7 ⟨A7, c7, rfl, ho7, hb7⟩
          obtain ⟨_, s0, s1, s2, s3, s4, s5, s6, s7⟩ := hHeld4
          refine hK.out _ _ ⟨⟨run_str' (hr5.on hb7), run_str' (h94.on hb7)⟩, cells_on hb7 s0, cells_on hb7 s1, cells_on hb7 s2, cells_on hb7 s3, cells_on hb7 s4, cells_on hb7 s5, cells_on hb7 s6, cells_on hb7 s7⟩ (fun hHeld5 => ?_)
          clear hK s0 s1 s2 s3 s4 s5 s6 s7
          have hr7 := Rd.of_own ho7
          refine wpAnyH_mono (S' := fun W => ((convert 22 9 (.slice A7 (encs sub).length c7)).run Try.prog W = .ok (.string (strOfNums (encs sub))) W) ∧ ((convert 22 9 (.slice A5 (F j - F i) c5)).run Try.prog W = .ok (.string (strOfNums ss)) W ∧ (convert 22 9 (.slice A94 (F j - F i) (c - F i))).run Try.prog W = .ok (.string (strOfNums ss)) W) ∧ W.cell? ⟨w2.heap.size, 0, none⟩ = some (.int .i64 kd) ∧ W.cell? ⟨w2.heap.size, 1, none⟩ = some (.int .i64 (p : Nat)) ∧ W.cell? ⟨w2.heap.size, 2, none⟩ = some (.slice A1 L.length c1) ∧ W.cell? ⟨w2.heap.size, 3, none⟩ = some (.slice A2 (L.length + 1) c2) ∧ W.cell? ⟨w2.heap.size + 1, 2, none⟩ = some (.slice A3 L.length c3) ∧ W.cell? ⟨w2.heap.size + 1, 3, none⟩ = some (.slice (some ⟨b4, o4, none⟩) (L.length + 1) c4) ∧ W.cell? ⟨b4, o4 + i, none⟩ = some (.int .i64 (F i : Nat)) ∧ W.cell? ⟨b4, o4 + j, none⟩ = some (.int .i64 (F j : Nat))) (fun W h => h.2) _ _ _ _ ?_
          have hHeld6 : (fun W => ((convert 22 9 (.slice A7 (encs sub).length c7)).run Try.prog W = .ok (.string (strOfNums (encs sub))) W) ∧ ((convert 22 9 (.slice A5 (F j - F i) c5)).run Try.prog W = .ok (.string (strOfNums ss)) W ∧ (convert 22 9 (.slice A94 (F j - F i) (c - F i))).run Try.prog W = .ok (.string (strOfNums ss)) W) ∧ W.cell? ⟨w2.heap.size, 0, none⟩ = some (.int .i64 kd) ∧ W.cell? ⟨w2.heap.size, 1, none⟩ = some (.int .i64 (p : Nat)) ∧ W.cell? ⟨w2.heap.size, 2, none⟩ = some (.slice A1 L.length c1) ∧ W.cell? ⟨w2.heap.size, 3, none⟩ = some (.slice A2 (L.length + 1) c2) ∧ W.cell? ⟨w2.heap.size + 1, 2, none⟩ = some (.slice A3 L.length c3) ∧ W.cell? ⟨w2.heap.size + 1, 3, none⟩ = some (.slice (some ⟨b4, o4, none⟩) (L.length + 1) c4) ∧ W.cell? ⟨b4, o4 + i, none⟩ = some (.int .i64 (F i : Nat)) ∧ W.cell? ⟨b4, o4 + j, none⟩ = some (.int .i64 (F j : Nat))) _ := ⟨run_str' hr7, hHeld5⟩
          refine wpAnyH_take (i := 31) (oi := _) (v := ?_) rfl (by kernel_rfl) (by kernel_rfl) (by kernel_rfl) (fun _ _ _ h => h) (Or.inl ⟨by rfl, ?_⟩) hHeld6 ?_
          rotate_left
          · intro w9 hSw; obtain ⟨q3, ⟨q1, q2⟩, s0, s1, s2, s3, s4, s5, s6, s7⟩ := hSw; go_simp; (try with_reducible rfl)
          simp only [List.getElem_toArray, List.getElem_cons_zero, List.getElem_cons_succ, Act.put, List.setIfInBounds_toArray, List.set_cons_zero, List.set_cons_succ]
          refine wpAnyH_take (i := 32) (oi := _) (v := ?_) rfl (by kernel_rfl) (by kernel_rfl) (by kernel_rfl) (fun _ _ _ h => h) (Or.inl ⟨by rfl, ?_⟩) hHeld6 ?_
          rotate_left
          · intro w9 hSw; obtain ⟨q3, ⟨q1, q2⟩, s0, s1, s2, s3, s4, s5, s6, s7⟩ := hSw; go_simp; (try with_reducible rfl)
          simp only [List.getElem_toArray, List.getElem_cons_zero, List.getElem_cons_succ, Act.put, List.setIfInBounds_toArray, List.set_cons_zero, List.set_cons_succ]
          refine wpAnyH_take (i := 33) (oi := _) (v := ?_) rfl (by kernel_rfl) (by kernel_rfl) (by kernel_rfl) (fun _ _ _ h => h) (Or.inl ⟨by rfl, ?_⟩) hHeld6 ?_
          rotate_left
          · intro w9 hSw; obtain ⟨q3, ⟨q1, q2⟩, s0, s1, s2, s3, s4, s5, s6, s7⟩ := hSw; go_simp; (try with_reducible rfl)
          simp only [List.getElem_toArray, List.getElem_cons_zero, List.getElem_cons_succ, Act.put, List.setIfInBounds_toArray, List.set_cons_zero, List.set_cons_succ]
          refine wpAnyH_take (i := 34) (oi := _) (v := ?_) rfl (by kernel_rfl) (by kernel_rfl) (by kernel_rfl) (fun _ _ _ h => h) (Or.inl ⟨by rfl, ?_⟩) hHeld6 ?_
          rotate_left
          · intro w9 hSw; obtain ⟨q3, ⟨q1, q2⟩, s0, s1, s2, s3, s4, s5, s6, s7⟩ := hSw; go_simp; (try with_reducible rfl)
          simp only [List.getElem_toArray, List.getElem_cons_zero, List.getElem_cons_succ, Act.put, List.setIfInBounds_toArray, List.set_cons_zero, List.set_cons_succ]
          refine wpAnyH_ready (rs := [35]) (by kernel_rfl) (by simp) ?_
          refine AllReadyH.cons (o := _) rfl (fun K hK => ?_) AllReadyH.nil
          go_simp
          refine (awake45 _).mono ?_
          rintro e w8 ⟨rfl, hb8⟩
          obtain ⟨_, _, s0, s1, s2, s3, s4, s5, s6, s7⟩ := hHeld6
          refine hK.out _ _ ⟨run_str' (hr7.on hb8), ⟨run_str' ((hr5.on hb7).on hb8), run_str' ((h94.on hb7).on hb8)⟩, cells_on hb8 s0, cells_on hb8 s1, cells_on hb8 s2, cells_on hb8 s3, cells_on hb8 s4, cells_on hb8 s5, cells_on hb8 s6, cells_on hb8 s7⟩ (fun hHeld7 => ?_)
          clear hK s0 s1 s2 s3 s4 s5 s6 s7
          refine wpAnyH_take (i := 36) (oi := _) (v := ?_) rfl (by kernel_rfl) (by kernel_rfl) (by kernel_rfl) (fun _ _ _ h => h) (Or.inl ⟨by rfl, ?_⟩) hHeld7 ?_
          rotate_left
          · intro w9 hSw; obtain ⟨q3, ⟨q1, q2⟩, s0, s1, s2, s3, s4, s5, s6, s7⟩ := hSw; go_simp; (try with_reducible rfl)
          simp only [List.getElem_toArray, List.getElem_cons_zero, List.getElem_cons_succ, Act.put, List.setIfInBounds_toArray, List.set_cons_zero, List.set_cons_succ]
          refine wpAnyH_take (i := 37) (oi := _) (v := ?_) rfl (by kernel_rfl) (by kernel_rfl) (by kernel_rfl) (fun _ _ _ h => h) (Or.inl ⟨by rfl, ?_⟩) hHeld7 ?_
          rotate_left
          · intro w9 hSw; obtain ⟨q3, ⟨q1, q2⟩, s0, s1, s2, s3, s4, s5, s6, s7⟩ := hSw; go_simp; (try with_reducible rfl)
          simp only [List.getElem_toArray, List.getElem_cons_zero, List.getElem_cons_succ, Act.put, List.setIfInBounds_toArray, List.set_cons_zero, List.set_cons_succ]
          refine wpAnyH_done (by kernel_rfl) ?_ _
          go_wp2_with fail
          go_ret
          exact ⟨rfl, hb0.trans ((hb.trans (((Below.refl _ _).drew.trans (hb5.trans ((hb6.trans ((hb7.trans (hb8.mono hb7.size)).mono hb6.size)).mono hb5.size))).mono hsz)).mono hb0.size)⟩
      · have C50 := fun W => slice50_bad kd p A1 A2 A L.length c1 (L.length + 1) c2 m c a1 a2 W hin
        have C57 := fun W => string57_bad kd p A1 A2 L.length c1 (L.length + 1) c2 a1 a2 W hin
        have hu : (decide (a1 < 0) = true) ∨ (decide (a1 < 0) = false ∧ decide (a2 < a1) = true) ∨ (decide (a1 < 0) = false ∧ decide (a2 < a1) = false ∧ decide ((L.length : Int) < a2) = true) := by simp; omega
        clear hin
        by_cases hkl : k < L.length
        · have t0 := hq hkl
          clear hq
          rcases hu with u0 | ⟨u0, u1⟩ | ⟨u0, u1, u2⟩
          all_goals
            go_wp2_with (first | (go_at_call 56; refine C56.mono ?_; rintro e w4 ⟨k2, rfl, hk2, hb4⟩; clear C56; obtain rfl := isAt_uniq hk2 HI.out; have y0 := cells_on hb4 y0; have y1 := cells_on hb4 y1; have y2 := cells_on hb4 y2; have y3 := cells_on hb4 y3; have z2 := cells_on hb4 z2; have z3 := cells_on hb4 z3; have hr1 := hr1.on hb4; have ho1 := ho1.on hb4; have hr2 := hr2.on hb4; have ho3 := (ho2.on hb).on hb4; have h5 := h5.on hb4; have hb := hb.trans (hb4.mono hsz); have hsz := hb.size; clear hb4 hk2) | (go_at_call 50; refine (C50 _).mono ?_; rintro e w5 ⟨rfl, hb5⟩; clear C50; have y0 := cells_on hb5 y0; have y1 := cells_on hb5 y1; have y2 := cells_on hb5 y2; have y3 := cells_on hb5 y3) | (go_at_call 57; refine (C57 _).mono ?_; rintro e w6 ⟨rfl, hb6⟩; clear C57) | (go_at_call 45; refine (awake45 _).mono ?_; rintro e w7 ⟨rfl, hb7⟩))
            go_ret
            exact ⟨rfl, hb0.trans ((hb.trans ((hb5.trans ((hb6.trans (hb7.mono hb6.size)).mono hb5.size)).mono hb.size)).mono hb0.size)⟩
        · clear hq
          rcases hu with u0 | ⟨u0, u1⟩ | ⟨u0, u1, u2⟩
          all_goals
            go_wp2_with (first | (go_at_call 56; refine C56.mono ?_; rintro e w4 ⟨k2, rfl, hk2, hb4⟩; clear C56; obtain rfl := isAt_uniq hk2 HI.out; have y0 := cells_on hb4 y0; have y1 := cells_on hb4 y1; have y2 := cells_on hb4 y2; have y3 := cells_on hb4 y3; have z2 := cells_on hb4 z2; have z3 := cells_on hb4 z3; have hr1 := hr1.on hb4; have ho1 := ho1.on hb4; have hr2 := hr2.on hb4; have ho3 := (ho2.on hb).on hb4; have h5 := h5.on hb4; have hb := hb.trans (hb4.mono hsz); have hsz := hb.size; clear hb4 hk2) | (go_at_call 50; refine (C50 _).mono ?_; rintro e w5 ⟨rfl, hb5⟩; clear C50; have y0 := cells_on hb5 y0; have y1 := cells_on hb5 y1; have y2 := cells_on hb5 y2; have y3 := cells_on hb5 y3) | (go_at_call 57; refine (C57 _).mono ?_; rintro e w6 ⟨rfl, hb6⟩; clear C57) | (go_at_call 45; refine (awake45 _).mono ?_; rintro e w7 ⟨rfl, hb7⟩))
            go_ret
            exact ⟨rfl, hb0.trans ((hb.trans ((hb5.trans ((hb6.trans (hb7.mono hb6.size)).mono hb5.size)).mono hb.size)).mono hb0.size)⟩
end Go.Proofs.Ytiegbochpcmicaa
