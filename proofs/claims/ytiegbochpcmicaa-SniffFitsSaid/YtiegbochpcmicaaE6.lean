/- The walk of sniff.lower. No condition. -/
import Derived.Test.YtiegbochpcmicaaE4
import Derived.Test.YtiegbochpcmicaaPlainFits
import Derived.Lib.ConvBytes
namespace Go.Proofs.Ytiegbochpcmicaa
open Go.RowKit

theorem gz_str {zs : List Int} (hz : Bytes8 zs) {j : Nat} (hj : j < zs.length) : (((strOfNums zs).data.toList.getD j 0).toNat : Int) = gz zs j := by
  rw [strOfNums_data]
  have hb := hz.at_ j
  have e : gz zs j = zs[j] := gz_eq hj
  simp only [List.getD_eq_getElem?_getD, List.getElem?_map, List.getElem?_eq_getElem hj, Option.map_some, Option.getD_some]
  rw [e] at hb ⊢
  simp only [UInt8.toNat_ofNat', Nat.reducePow]
  omega
/-- What '[]byte(s)' lays, in the walks' words. -/
theorem str_bytes (zs : List Int) (hz : Bytes8 zs) (w : World) : ∃ (cap : Nat) (w0 : World), (convert 9 22 (.string (strOfNums zs))).run Try.prog w = .ok (.slice (some ⟨w.heap.size, 0, none⟩) zs.length cap) w0 ∧
    (∀ j, j < zs.length → w0.cell? ⟨w.heap.size, j, none⟩ = some (.int .u8 (gz zs j))) ∧ (∀ j, j < zs.length → w0.frozen? ⟨w.heap.size, j, none⟩ = false) ∧ Below w.heap.size w w0 := by
  have hs := strOfNums_size zs
  refine ⟨grownCap w (strOfNums zs).size 0 5, Lib.bytesWorld w 5 (strOfNums zs), ?_, fun j hj => ?_, fun j hj => ?_, ⟨rfl, rfl, rfl, by rw [Lib.bytesWorld_size]; omega, fun k hk => Lib.bytesWorld_at_old w 5 _ k hk⟩⟩
  · rw [Lib.run_convert_string_bytes w 9 22 5 (strOfNums zs) Try.underlying9 Try.underlying22 Try.underlying5, hs]
  · rw [Lib.bytesWorld_cell w 5 _ j (by omega), gz_str hz hj]
  · have hc : j < (Lib.bytesCells w 5 (strOfNums zs)).size := by
      unfold Lib.bytesCells
      rw [Array.size_append, Array.size_map]
      have : (strOfNums zs).data.size = zs.length := hs
      omega
    simp only [World.frozen?, Lib.bytesWorld_at_new]
    simp
    omega

/-- A byte of a text whose first k bytes are without great letters. -/
def lowAt (zs : List Int) (k j : Nat) : Int := if j < k then low (gz zs j) else gz zs j
theorem lowAt_self (zs : List Int) (k : Nat) : lowAt zs k k = gz zs k := by unfold lowAt; rw [if_neg (by omega)]
theorem lowAt_new (zs : List Int) (k : Nat) : lowAt zs (k + 1) k = low (gz zs k) := by unfold lowAt; rw [if_pos (by omega)]
theorem lowAt_other (zs : List Int) {k j : Nat} (h : j ≠ k) : lowAt zs (k + 1) j = lowAt zs k j := by
  unfold lowAt
  by_cases hj : j < k
  · rw [if_pos hj, if_pos (by omega)]
  · rw [if_neg hj, if_neg (by omega)]
theorem lowAt_all (zs : List Int) {j : Nat} (h : j < zs.length) : lowAt zs zs.length j = gz (lows zs) j := by
  unfold lowAt lows
  rw [if_pos h, gz_eq h, gz_eq (by simpa using h)]
  simp
/-- The cells of a row in block g. -/
def RowAt (w : World) (g n : Nat) (f : Nat → Int) : Prop := (∀ j, j < n → w.cell? ⟨g, j, none⟩ = some (.int .u8 (f j))) ∧ ∀ j, j < n → w.frozen? ⟨g, j, none⟩ = false
theorem RowAt.keep {w : World} {g n k : Nat} {zs : List Int} (h : RowAt w g n (lowAt zs k)) (he : low (gz zs k) = gz zs k) : RowAt w g n (lowAt zs (k + 1)) := by
  refine ⟨fun j hj => ?_, h.2⟩
  rw [h.1 j hj]
  by_cases hjk : j = k
  · subst hjk; rw [lowAt_self, lowAt_new, he]
  · rw [lowAt_other zs hjk]
theorem RowAt.set {w : World} {g n k : Nat} {zs : List Int} (h : RowAt w g n (lowAt zs k)) (hk : k < n) {v : Int} (he : low (gz zs k) = v) : RowAt (w.setCell ⟨g, k, none⟩ (.int .u8 v)) g n (lowAt zs (k + 1)) := by
  refine ⟨fun j hj => ?_, fun j hj => ?_⟩
  · by_cases hjk : j = k
    · subst hjk
      rw [lowAt_new, he]
      exact World.cell?_setCell_same' w _ _ (by rw [h.1 j hj]; rfl)
    · rw [lowAt_other zs hjk, World.cell?_setCell_other w _ _ _ (fun e => hjk (by injection e with _ h2; exact h2.symm))]
      exact h.1 j hj
  · rw [World.frozen?_setCell]
    exact h.2 j hj

set_option maxHeartbeats 1000000 in
theorem lower66 (zs : List Int) (hz : Bytes8 zs) (hn : zs.length ≤ 4096) (w : World) :
    Calls Try.prog 66 #[.string (strOfNums zs)] w fun e w' => e = .returned (.string (strOfNums (lows zs))) ∧ Below w.heap.size w w' := by
  obtain ⟨cap, w0, e0, hc0, hf0, hb0⟩ := str_bytes zs hz w
  generalize strOfNums zs = s at e0
  have HR := Lib.hid (show RowAt w0 w.heap.size zs.length (lowAt zs 0) from ⟨fun j hj => by rw [hc0 j hj]; unfold lowAt; rw [if_neg (by omega)], hf0⟩)
  clear hc0 hf0
  have HN : ∃ n, n = zs.length := ⟨_, rfl⟩
  obtain ⟨n, hn'⟩ := HN
  rw [← hn'] at e0 HR hn
  have HL := Lib.hid hn'
  clear hn'
  go_enter Try.func66, Try.ntmps66
  go_wp2_with fail
  clear e0
  go_loopw [10] (fun i wr => ∃ k : Nat, k ≤ n ∧ i = .int .i64 k ∧ Hid (RowAt wr w.heap.size n (lowAt zs k)) ∧ Below w.heap.size w wr)
    (fun i _ => n - (intOf i).toNat)
  case atStart => exact ⟨0, Nat.zero_le _, rfl, HR, hb0⟩
  case round =>
    obtain ⟨k, hk, rfl, HK, hb⟩ := hrel
    by_cases hlt : k < n
    · have x0 := HK.out.1 k hlt
      have f0 := HK.out.2 k hlt
      rw [lowAt_self] at x0
      have hbz := hz.at_ k
      by_cases h1 : 65 ≤ gz zs k
      · by_cases h2 : gz zs k ≤ 90
        · have he := Lib.hid (show low (gz zs k) = gz zs k + 97 - 65 by unfold low; rw [if_pos ⟨h1, h2⟩]; omega)
          have t0 : decide (65 ≤ gz zs k) = true := by simpa using h1
          have t1 : decide (gz zs k ≤ 90) = true := by simpa using h2
          have w1 : IntKind.u8.wrap (gz zs k + 97) = gz zs k + 97 := IntWalk.u8_in _ (by omega)
          have w2 : IntKind.u8.wrap (gz zs k + 97 - 65) = gz zs k + 97 - 65 := IntWalk.u8_in _ (by omega)
          go_wp2_with fail
          go_roundw
          case rel => exact ⟨k + 1, by omega, by go_num, Lib.hid (HK.out.set hlt he.out), hb.setCell (by simp) _⟩
          case measure => simp [intOf]; omega
        · have he := Lib.hid (show low (gz zs k) = gz zs k by unfold low; rw [if_neg (by omega)])
          have t0 : decide (65 ≤ gz zs k) = true := by simpa using h1
          have t1 : decide (gz zs k ≤ 90) = false := by simpa using h2
          go_wp2_with fail
          go_roundw
          case rel => exact ⟨k + 1, by omega, by go_num, Lib.hid (HK.out.keep he.out), hb⟩
          case measure => simp [intOf]; omega
      · have he := Lib.hid (show low (gz zs k) = gz zs k by unfold low; rw [if_neg (by omega)])
        have t0 : decide (65 ≤ gz zs k) = false := by simpa using h1
        go_wp2_with fail
        go_roundw
        case rel => exact ⟨k + 1, by omega, by go_num, Lib.hid (HK.out.keep he.out), hb⟩
        case measure => simp [intOf]; omega
    · obtain rfl : k = n := by omega
      have e1 := run_convert_bytes_arg (P := Try.prog) wr 22 5 Try.underlying22 Try.underlying5 w.heap.size 0 k cap (lows zs) (by rw [HL.out]; simp [lows]) (fun i hi => by
        rw [Nat.zero_add, HK.out.1 i hi, HL.out]
        exact congrArg (fun z => some (Value.int .u8 z)) (lowAt_all zs (by rw [← HL.out]; exact hi))) 9 Try.underlying9
      obtain ⟨s2, hs2⟩ : ∃ s2, s2 = strOfNums (lows zs) := ⟨_, rfl⟩
      rw [← hs2] at e1
      have HS2 := Lib.hid hs2
      clear hs2
      go_wp2_with fail
      go_ret
      exact ⟨by rw [← HS2.out]; rfl, hb⟩
end Go.Proofs.Ytiegbochpcmicaa
