/- The walk of the document's Same of layer 3. No condition. -/
import Derived.Test.YtiegbochpcmicaaE6
namespace Go.Proofs.Ytiegbochpcmicaa
open Go.RowKit

theorem index_str {zs : List Int} (hz : Bytes8 zs) {k : Nat} (hk : k < zs.length) (W : World) : (Instr.index 9 (.string (strOfNums zs)) (.int .i64 k)).run Try.prog W = .ok (.int .u8 (gz zs k)) W := by
  have hs := strOfNums_size zs
  rw [run_index_string W 9 _ _ _ Try.underlying9, dif_pos ⟨by omega, by omega⟩]
  have : (((strOfNums zs)[(k : Int).toNat]'(by omega)).toNat : Int) = gz zs k := by
    have hb := hz.at_ k
    have e : gz zs k = zs[k] := gz_eq hk
    rw [e] at hb ⊢
    simp [strOfNums, ByteArray.getElem_eq_getElem_data]
    omega
  rw [this]
theorem sames_no {zs ts : List Int} {k : Nat} (hk : k < zs.length) (h : same1 (gz zs k) (gz ts k) = false) : sames zs ts = false := by
  rw [Bool.eq_false_iff]
  intro hs
  unfold sames at hs
  rw [Bool.and_eq_true] at hs
  have := samesTo_le hs.2 (show k + 1 ≤ zs.length by omega)
  rw [samesTo_succ, h, Bool.and_false] at this
  cases this
theorem sames_yes {zs ts : List Int} (hl : zs.length = ts.length) (h : samesTo zs ts zs.length = true) : sames zs ts = true := by
  unfold sames
  rw [h, decide_eq_true hl]
  rfl

set_option maxRecDepth 20000 in
set_option maxHeartbeats 4000000 in
theorem same67_eq (zs ts : List Int) (hz : Bytes8 zs) (ht : Bytes8 ts) (hl : zs.length = ts.length) (hn : zs.length ≤ 4096) (t : ByteArray) (hT : t = strOfNums ts) (w : World) :
    Calls Try.prog 67 #[.string (strOfNums zs), .string t] w fun e w' => e = .returned (.bool (sames zs ts)) ∧ Below w.heap.size w w' := by
  have hs1 := strOfNums_size zs
  have hs2 := strOfNums_size ts
  have I0 := fun k hk W => index_str hz (k := k) hk W
  have I1 := fun k hk W => index_str ht (k := k) hk W
  rw [← hT] at hs2 I1
  clear hT
  generalize strOfNums zs = s at hs1 I0
  obtain ⟨n, hn'⟩ : ∃ n, n = zs.length := ⟨_, rfl⟩
  rw [← hl, ← hn'] at hs2
  rw [← hn'] at hs1 hn
  have HI0 := Lib.hid I0
  have HI1 := Lib.hid I1
  have HN := Lib.hid hn'
  have HL := Lib.hid hl
  clear I0 I1 hn' hl
  go_enter Try.func67, Try.ntmps67
  go_wp2_with fail
  go_loopw [5] (fun i wr => ∃ k : Nat, k ≤ n ∧ i = .int .i64 k ∧ Hid (samesTo zs ts k = true) ∧ Below w.heap.size w wr)
    (fun i _ => n - (intOf i).toNat)
  case atStart => exact ⟨0, Nat.zero_le _, rfl, rfl, Below.refl _ _⟩
  case round =>
    obtain ⟨k, hk, rfl, HK, hb⟩ := hrel
    by_cases hlt : k < n
    · have i0 := HI0.out k (by rw [← HN.out]; exact hlt)
      have i1 := HI1.out k (by rw [← HL.out, ← HN.out]; exact hlt)
      have HY : Hid (same1 (gz zs k) (gz ts k) = true → samesTo zs ts (k + 1) = true) := Lib.hid (fun h => by rw [samesTo_succ, HK.out, h]; rfl)
      have HX : Hid (same1 (gz zs k) (gz ts k) = false → sames zs ts = false) := Lib.hid (fun h => sames_no (by rw [← HN.out]; exact hlt) h)
      have b0 := hz.at_ k
      have b1 := ht.at_ k
      generalize gz zs k = c at i0 HY HX b0
      generalize gz ts k = d at i1 HY HX b1
      clear HI0 HI1 HK
      by_cases hcd : c = d
      · subst hcd
        have HT := Lib.hid (HY.out (by unfold same1; simp))
        have t0 : (c != c) = false := by simp
        have t3 : (c == c - 32) = false := by simp; omega
        by_cases h1 : 97 ≤ c
        · by_cases h2 : c ≤ 122
          · have t1 : decide (97 ≤ c) = true := by simpa using h1
            have t2 : decide (c ≤ 122) = true := by simpa using h2
            have w1 : IntKind.u8.wrap (c - 32) = c - 32 := IntWalk.u8_in _ (by omega)
            go_wp2_with fail
            go_quiet (fail)
            go_wp2_with fail
            go_quiet (fail)
            go_wp2_with fail
            go_roundw
            case rel => exact ⟨k + 1, by omega, by go_num, HT, Below.drewN_ hb _⟩
            case measure => simp [intOf]; omega
          · have t1 : decide (97 ≤ c) = true := by simpa using h1
            have t2 : decide (c ≤ 122) = false := by simpa using h2
            go_wp2_with fail
            go_quiet (fail)
            go_wp2_with fail
            go_quiet (fail)
            go_wp2_with fail
            go_roundw
            case rel => exact ⟨k + 1, by omega, by go_num, HT, Below.drewN_ hb _⟩
            case measure => simp [intOf]; omega
        · have t1 : decide (97 ≤ c) = false := by simpa using h1
          go_wp2_with fail
          go_quiet (fail)
          go_wp2_with fail
          go_quiet (fail)
          go_wp2_with fail
          go_roundw
          case rel => exact ⟨k + 1, by omega, by go_num, HT, Below.drewN_ hb _⟩
          case measure => simp [intOf]; omega
      · have t0 : (c != d) = true := by simpa using hcd
        by_cases h1 : 97 ≤ d
        · by_cases h2 : d ≤ 122
          · have t1 : decide (97 ≤ d) = true := by simpa using h1
            have t2 : decide (d ≤ 122) = true := by simpa using h2
            have w1 : IntKind.u8.wrap (d - 32) = d - 32 := IntWalk.u8_in _ (by omega)
            by_cases h3 : c = d - 32
            · have t3 : (c == d - 32) = true := by simpa using h3
              have HT := Lib.hid (HY.out (by unfold same1; simp; omega))
              clear h3
              go_wp2_with fail
              go_quiet (fail)
              go_wp2_with fail
              go_quiet (fail)
              go_wp2_with fail
              go_roundw
              case rel => exact ⟨k + 1, by omega, by go_num, HT, Below.drewN_ hb _⟩
              case measure => simp [intOf]; omega
            · have t3 : (c == d - 32) = false := by simpa using h3
              have HF := Lib.hid (HX.out (by unfold same1; simp; omega))
              clear h3
              go_wp2_with fail
              go_quiet (fail)
              go_wp2_with fail
              go_quiet (fail)
              go_wp2_with fail
              go_ret
              exact ⟨by rw [HF.out]; rfl, Below.drewN_ (Below.drewN_ hb _) _⟩
          · have t1 : decide (97 ≤ d) = true := by simpa using h1
            have t2 : decide (d ≤ 122) = false := by simpa using h2
            have HF := Lib.hid (HX.out (by unfold same1; simp; omega))
            go_wp2_with fail
            go_quiet (fail)
            go_wp2_with fail
            go_quiet (fail)
            go_wp2_with fail
            go_ret
            exact ⟨by rw [HF.out]; rfl, Below.drewN_ (Below.drewN_ hb _) _⟩
        · have t1 : decide (97 ≤ d) = false := by simpa using h1
          have HF := Lib.hid (HX.out (by unfold same1; simp; omega))
          go_wp2_with fail
          go_quiet (fail)
          go_wp2_with fail
          go_quiet (fail)
          go_wp2_with fail
          go_ret
          exact ⟨by rw [HF.out]; rfl, Below.drewN_ (Below.drewN_ hb _) _⟩
    · obtain rfl : k = n := by omega
      have HT := Lib.hid (sames_yes HL.out (by rw [← HN.out]; exact HK.out))
      go_wp2_with fail
      go_ret
      exact ⟨by rw [HT.out]; rfl, hb⟩

theorem same67 (zs ts : List Int) (hz : Bytes8 zs) (ht : Bytes8 ts) (hn : zs.length ≤ 4096) (t : ByteArray) (hT : t = strOfNums ts) (w : World) :
    Calls Try.prog 67 #[.string (strOfNums zs), .string t] w fun e w' => e = .returned (.bool (sames zs ts)) ∧ Below w.heap.size w w' := by
  by_cases hl : zs.length = ts.length
  · exact same67_eq zs ts hz ht hl hn t hT w
  · have hf : sames zs ts = false := by unfold sames; rw [decide_eq_false hl]; rfl
    rw [hf]
    have hs1 := strOfNums_size zs
    have hs2 := strOfNums_size ts
    rw [← hT] at hs2
    clear hT hf hz ht
    generalize strOfNums zs = s at hs1
    have t0 : ((zs.length : Int) != (ts.length : Int)) = true := by simp; omega
    generalize zs.length = n1 at *
    generalize ts.length = n2 at *
    go_enter Try.func67, Try.ntmps67
    go_wp2_with fail
    go_ret
    exact ⟨rfl, Below.refl _ _⟩
end Go.Proofs.Ytiegbochpcmicaa
