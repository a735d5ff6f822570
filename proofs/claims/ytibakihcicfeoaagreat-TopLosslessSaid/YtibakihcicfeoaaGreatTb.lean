/- Plain facts on runes of UTF-8: the piece at a place, bit by bit, against the model's own decoding. No condition. -/
import Derived.Test.YtibakihcicfeoaaGreatTa
import Derived.Test.YtibakihcicfeoaaGreatChecked
import Derived.Lib.DecodeN
import Derived.Laws.BytesArg
namespace Go.Proofs.YtibakihcicfeoaaGreat

/-- How many bytes a rune has. -/
def wdS (r : Int) : Nat := if r < 0 ∨ 1114111 < r ∨ (55296 ≤ r ∧ r ≤ 57343) then 0 else if r < 128 then 1 else if r < 2048 then 2 else if r < 65536 then 3 else 4

/-- The piece at the beginning of n bytes. -/
def dec (n : Nat) (b0 b1 b2 b3 : Int) : Int × Nat :=
  if b0 < 128 then (b0, 1)
  else if 192 ≤ b0 ∧ b0 < 224 ∧ 2 ≤ n ∧ 128 ≤ b1 ∧ b1 < 192 ∧ 128 ≤ (b0 - 192) * 64 + (b1 - 128) then ((b0 - 192) * 64 + (b1 - 128), 2)
  else if 224 ≤ b0 ∧ b0 < 240 ∧ 3 ≤ n ∧ 128 ≤ b1 ∧ b1 < 192 ∧ 128 ≤ b2 ∧ b2 < 192 ∧ 2048 ≤ (b0 - 224) * 4096 + (b1 - 128) * 64 + (b2 - 128) ∧ ((b0 - 224) * 4096 + (b1 - 128) * 64 + (b2 - 128) < 55296 ∨ 57343 < (b0 - 224) * 4096 + (b1 - 128) * 64 + (b2 - 128)) then ((b0 - 224) * 4096 + (b1 - 128) * 64 + (b2 - 128), 3)
  else if 240 ≤ b0 ∧ b0 < 248 ∧ 4 ≤ n ∧ 128 ≤ b1 ∧ b1 < 192 ∧ 128 ≤ b2 ∧ b2 < 192 ∧ 128 ≤ b3 ∧ b3 < 192 ∧ 65536 ≤ (b0 - 240) * 262144 + (b1 - 128) * 4096 + (b2 - 128) * 64 + (b3 - 128) ∧ (b0 - 240) * 262144 + (b1 - 128) * 4096 + (b2 - 128) * 64 + (b3 - 128) ≤ 1114111 then ((b0 - 240) * 262144 + (b1 - 128) * 4096 + (b2 - 128) * 64 + (b3 - 128), 4)
  else (-1, 1)

theorem dec_facts (n : Nat) (b0 b1 b2 b3 : Int) (h0 : 0 ≤ b0) (hn : 1 ≤ n) :
    1 ≤ (dec n b0 b1 b2 b3).2 ∧ (dec n b0 b1 b2 b3).2 ≤ n ∧ (dec n b0 b1 b2 b3).2 ≤ 4 ∧ ((dec n b0 b1 b2 b3).1 = -1 → (dec n b0 b1 b2 b3).2 = 1) ∧ ((dec n b0 b1 b2 b3).1 ≠ -1 → wdS (dec n b0 b1 b2 b3).1 = (dec n b0 b1 b2 b3).2) ∧ -1 ≤ (dec n b0 b1 b2 b3).1 ∧ (dec n b0 b1 b2 b3).1 ≤ 1114111 := by
  unfold dec
  split
  · refine ⟨by simp, by simp; omega, by simp, by simp, fun _ => ?_, by simp; omega, by simp; omega⟩
    simp only [wdS]; rw [if_neg (by omega), if_pos (by omega)]
  · split
    · refine ⟨by simp, by simp; omega, by simp, by simp; omega, fun _ => ?_, by simp; omega, by simp; omega⟩
      simp only [wdS]; rw [if_neg (by omega), if_neg (by omega), if_pos (by omega)]
    · split
      · refine ⟨by simp, by simp; omega, by simp, by simp; omega, fun _ => ?_, by simp; omega, by simp; omega⟩
        simp only [wdS]; rw [if_neg (by omega), if_neg (by omega), if_neg (by omega), if_pos (by omega)]
      · split
        · refine ⟨by simp, by simp; omega, by simp, by simp; omega, fun _ => ?_, by simp; omega, by simp; omega⟩
          simp only [wdS]; rw [if_neg (by omega), if_neg (by omega), if_neg (by omega), if_neg (by omega)]
        · exact ⟨by simp, by simp; omega, by simp, by simp, by simp, by simp, by simp⟩

theorem dec_one {n : Nat} {b0 b1 b2 b3 : Int} (h : b0 < 128) : dec n b0 b1 b2 b3 = (b0, 1) := by unfold dec; rw [if_pos h]
theorem dec_two {n : Nat} {b0 b1 b2 b3 : Int} (h : 192 ≤ b0 ∧ b0 < 224 ∧ 2 ≤ n ∧ 128 ≤ b1 ∧ b1 < 192 ∧ 128 ≤ (b0 - 192) * 64 + (b1 - 128)) : dec n b0 b1 b2 b3 = ((b0 - 192) * 64 + (b1 - 128), 2) := by
  unfold dec; rw [if_neg (by omega), if_pos h]
theorem dec_three {n : Nat} {b0 b1 b2 b3 : Int} (h : 224 ≤ b0 ∧ b0 < 240 ∧ 3 ≤ n ∧ 128 ≤ b1 ∧ b1 < 192 ∧ 128 ≤ b2 ∧ b2 < 192 ∧ 2048 ≤ (b0 - 224) * 4096 + (b1 - 128) * 64 + (b2 - 128) ∧ ((b0 - 224) * 4096 + (b1 - 128) * 64 + (b2 - 128) < 55296 ∨ 57343 < (b0 - 224) * 4096 + (b1 - 128) * 64 + (b2 - 128))) :
    dec n b0 b1 b2 b3 = ((b0 - 224) * 4096 + (b1 - 128) * 64 + (b2 - 128), 3) := by
  unfold dec; rw [if_neg (by omega), if_neg (by omega), if_pos h]
theorem dec_four {n : Nat} {b0 b1 b2 b3 : Int} (h : 240 ≤ b0 ∧ b0 < 248 ∧ 4 ≤ n ∧ 128 ≤ b1 ∧ b1 < 192 ∧ 128 ≤ b2 ∧ b2 < 192 ∧ 128 ≤ b3 ∧ b3 < 192 ∧ 65536 ≤ (b0 - 240) * 262144 + (b1 - 128) * 4096 + (b2 - 128) * 64 + (b3 - 128) ∧ (b0 - 240) * 262144 + (b1 - 128) * 4096 + (b2 - 128) * 64 + (b3 - 128) ≤ 1114111) :
    dec n b0 b1 b2 b3 = ((b0 - 240) * 262144 + (b1 - 128) * 4096 + (b2 - 128) * 64 + (b3 - 128), 4) := by
  unfold dec; rw [if_neg (by omega), if_neg (by omega), if_neg (by omega), if_pos h]
theorem dec_bad {n : Nat} {b0 b1 b2 b3 : Int} (h1 : ¬ b0 < 128) (h2 : ¬ (192 ≤ b0 ∧ b0 < 224 ∧ 2 ≤ n ∧ 128 ≤ b1 ∧ b1 < 192 ∧ 128 ≤ (b0 - 192) * 64 + (b1 - 128)))
    (h3 : ¬ (224 ≤ b0 ∧ b0 < 240 ∧ 3 ≤ n ∧ 128 ≤ b1 ∧ b1 < 192 ∧ 128 ≤ b2 ∧ b2 < 192 ∧ 2048 ≤ (b0 - 224) * 4096 + (b1 - 128) * 64 + (b2 - 128) ∧ ((b0 - 224) * 4096 + (b1 - 128) * 64 + (b2 - 128) < 55296 ∨ 57343 < (b0 - 224) * 4096 + (b1 - 128) * 64 + (b2 - 128))))
    (h4 : ¬ (240 ≤ b0 ∧ b0 < 248 ∧ 4 ≤ n ∧ 128 ≤ b1 ∧ b1 < 192 ∧ 128 ≤ b2 ∧ b2 < 192 ∧ 128 ≤ b3 ∧ b3 < 192 ∧ 65536 ≤ (b0 - 240) * 262144 + (b1 - 128) * 4096 + (b2 - 128) * 64 + (b3 - 128) ∧ (b0 - 240) * 262144 + (b1 - 128) * 4096 + (b2 - 128) * 64 + (b3 - 128) ≤ 1114111)) :
    dec n b0 b1 b2 b3 = (-1, 1) := by
  unfold dec; rw [if_neg h1, if_neg h2, if_neg h3, if_neg h4]

/-- What the model's decoding has to do with the piece. -/
def Tells (d : Nat × Nat) (x : Int × Nat) : Prop := (d.1 : Int) = (if x.1 = -1 then 65533 else x.1) ∧ d.2 = x.2
theorem tells_bad : Tells (65533, 1) (-1, 1) := ⟨rfl, rfl⟩
theorem tells_at (v : Nat) (x : Int) (k : Nat) (h : x = v) : Tells (v, k) (x, k) := by
  subst h
  exact ⟨by rw [if_neg (by omega)], rfl⟩

set_option maxHeartbeats 1000000 in
/-- The model's decoding, told by the piece. -/
theorem decodeN_dec (n b0 b1 b2 b3 : Nat) (h0 : b0 < 256) (h1 : b1 < 256) (h2 : b2 < 256) (h3 : b3 < 256) : Tells (Lib.decodeN n b0 b1 b2 b3) (dec n b0 b1 b2 b3) := by
  unfold Lib.decodeN
  by_cases c0 : b0 < 128
  · rw [if_pos c0, dec_one (by omega)]
    exact tells_at _ _ _ rfl
  · rw [if_neg c0]
    by_cases c1 : b0 / 32 = 6 ∧ (1 < n ∧ b1 / 64 = 2)
    · rw [if_pos c1]
      by_cases c2 : b0 % 32 * 64 + b1 % 64 ≥ 128
      · rw [if_pos c2, dec_two (by omega)]
        exact tells_at _ _ _ (by omega)
      · rw [if_neg c2, dec_bad (by omega) (by omega) (by omega) (by omega)]
        exact tells_bad
    · rw [if_neg c1]
      by_cases c2 : b0 / 16 = 14 ∧ (1 < n ∧ b1 / 64 = 2) ∧ (2 < n ∧ b2 / 64 = 2)
      · rw [if_pos c2]
        by_cases c3 : b0 % 16 * 4096 + b1 % 64 * 64 + b2 % 64 ≥ 2048 ∧ (b0 % 16 * 4096 + b1 % 64 * 64 + b2 % 64 < 55296 ∨ (57344 ≤ b0 % 16 * 4096 + b1 % 64 * 64 + b2 % 64 ∧ b0 % 16 * 4096 + b1 % 64 * 64 + b2 % 64 ≤ 1114111))
        · rw [if_pos c3, dec_three (by omega)]
          exact tells_at _ _ _ (by omega)
        · rw [if_neg c3, dec_bad (by omega) (by omega) (by omega) (by omega)]
          exact tells_bad
      · rw [if_neg c2]
        by_cases c3 : b0 / 8 = 30 ∧ (1 < n ∧ b1 / 64 = 2) ∧ (2 < n ∧ b2 / 64 = 2) ∧ (3 < n ∧ b3 / 64 = 2)
        · rw [if_pos c3]
          by_cases c4 : b0 % 8 * 262144 + b1 % 64 * 4096 + b2 % 64 * 64 + b3 % 64 ≥ 65536 ∧ (b0 % 8 * 262144 + b1 % 64 * 4096 + b2 % 64 * 64 + b3 % 64 < 55296 ∨ (57344 ≤ b0 % 8 * 262144 + b1 % 64 * 4096 + b2 % 64 * 64 + b3 % 64 ∧ b0 % 8 * 262144 + b1 % 64 * 4096 + b2 % 64 * 64 + b3 % 64 ≤ 1114111))
          · rw [if_pos c4, dec_four (by omega)]
            exact tells_at _ _ _ (by omega)
          · rw [if_neg c4, dec_bad (by omega) (by omega) (by omega) (by omega)]
            exact tells_bad
        · rw [if_neg c3, dec_bad (by omega) (by omega) (by omega) (by omega)]
          exact tells_bad

/-- The piece at a place of bytes. -/
def sStep (zs : List Int) (p : Nat) : Int × Nat := dec (zs.length - p) (gz zs p) (gz zs (p + 1)) (gz zs (p + 2)) (gz zs (p + 3))
theorem sStep_good {zs : List Int} (hz : Bytes8 zs) : Good (sStep zs) zs.length := by
  intro p hp
  have h := dec_facts (zs.length - p) (gz zs p) (gz zs (p + 1)) (gz zs (p + 2)) (gz zs (p + 3)) (hz.at_ p).1 (by omega)
  unfold sStep
  omega
theorem sStep_facts {zs : List Int} (hz : Bytes8 zs) {p : Nat} (hp : p < zs.length) :
    (sStep zs p).2 ≤ 4 ∧ ((sStep zs p).1 = -1 → (sStep zs p).2 = 1) ∧ ((sStep zs p).1 ≠ -1 → wdS (sStep zs p).1 = (sStep zs p).2) ∧ -1 ≤ (sStep zs p).1 ∧ (sStep zs p).1 ≤ 1114111 :=
  (dec_facts (zs.length - p) (gz zs p) (gz zs (p + 1)) (gz zs (p + 2)) (gz zs (p + 3)) (hz.at_ p).1 (by omega)).2.2
abbrev sGo (zs : List Int) (k : Nat) := runGo (sStep zs) zs.length k
def sItems (zs : List Int) : List It := runItems (sStep zs) zs.length

theorem str_get (zs : List Int) (hz : Bytes8 zs) (j : Nat) : (((strOfNums zs).get! j).toNat : Int) = gz zs j := by
  have hb := hz.at_ j
  rw [gz, List.getD_eq_getElem?_getD] at hb ⊢
  rcases Nat.lt_or_ge j zs.length with hj | hj
  · rw [List.getElem?_eq_getElem hj] at hb ⊢
    simp only [Option.getD_some] at hb ⊢
    have : (strOfNums zs).get! j = UInt8.ofNat zs[j].toNat := by
      simp [strOfNums, ByteArray.get!, hj]
    rw [this, UInt8.toNat_ofNat']
    omega
  · rw [List.getElem?_eq_none hj]
    have : (strOfNums zs).get! j = 0 := by
      simp [strOfNums, ByteArray.get!, hj]
      rfl
    rw [this]; rfl
/-- The model's decoding of bytes as a string, told by the piece. -/
theorem decode_str (zs : List Int) (hz : Bytes8 zs) (p : Nat) :
    Tells (Utf8.decode (strOfNums zs) p) (sStep zs p) := by
  rw [Lib.decode_at, strOfNums_size]
  have h := decodeN_dec (zs.length - p) ((strOfNums zs).get! p).toNat ((strOfNums zs).get! (p + 1)).toNat ((strOfNums zs).get! (p + 2)).toNat ((strOfNums zs).get! (p + 3)).toNat (UInt8.toNat_lt _) (UInt8.toNat_lt _) (UInt8.toNat_lt _) (UInt8.toNat_lt _)
  simp only [str_get zs hz] at h
  exact h

/-- The three bytes of the rune that a range tells of bytes that are none. -/
def efbfbd : ByteArray := ⟨#[239, 191, 189]⟩
theorem three_of (zs : List Int) (hz : Bytes8 zs) (p : Nat) (hp : p + 3 ≤ zs.length) : (strOfNums zs).extract p (p + 3) = efbfbd ↔ gz zs p = 239 ∧ gz zs (p + 1) = 191 ∧ gz zs (p + 2) = 189 := by
  have e : ((strOfNums zs).extract p (p + 3)).data = #[UInt8.ofNat (gz zs p).toNat, UInt8.ofNat (gz zs (p + 1)).toNat, UInt8.ofNat (gz zs (p + 2)).toNat] := by
    apply Array.ext'
    have : ((strOfNums zs).extract p (p + 3)).data.toList = ((zs.drop p).take 3).map fun n => UInt8.ofNat n.toNat := by
      rw [ByteArray.data_extract]
      simp [strOfNums, List.map_take, List.map_drop]
    rw [this]
    apply List.ext_getElem?
    intro i
    match i with
    | 0 => simp [gz, List.getElem?_eq_getElem (show p < zs.length by omega)]
    | 1 => simp [gz, List.getElem?_eq_getElem (show p + 1 < zs.length by omega)]
    | 2 => simp [gz, List.getElem?_eq_getElem (show p + 2 < zs.length by omega)]
    | i + 3 => simp; omega
  have b0 := hz.at_ p
  have b1 := hz.at_ (p + 1)
  have b2 := hz.at_ (p + 2)
  constructor
  · intro h
    have h2 : ((strOfNums zs).extract p (p + 3)).data = efbfbd.data := by rw [h]
    rw [e] at h2
    simp only [efbfbd] at h2
    injection h2 with h2
    simp only [List.cons.injEq, and_true] at h2
    obtain ⟨a, b, c⟩ := h2
    have a' := congrArg UInt8.toNat a
    have b' := congrArg UInt8.toNat b
    have c' := congrArg UInt8.toNat c
    rw [UInt8.toNat_ofNat'] at a' b' c'
    have r0 : (239 : UInt8).toNat = 239 := rfl
    have r1 : (191 : UInt8).toNat = 191 := rfl
    have r2 : (189 : UInt8).toNat = 189 := rfl
    omega
  · rintro ⟨a, b, c⟩
    apply ByteArray.ext
    rw [e, a, b, c]
    rfl
/-- What the program's 'piece' makes of what a range tells. -/
theorem piece_step (zs : List Int) (hz : Bytes8 zs) (p : Nat) (hp : p < zs.length) (c : Nat) (hc : c = (Utf8.decode (strOfNums zs) p).1) :
    (c = 65533 ∧ (zs.length - p < 3 ∨ (strOfNums zs).extract p (p + 3) ≠ efbfbd) → sStep zs p = (-1, 1)) ∧
    (¬ (c = 65533 ∧ (zs.length - p < 3 ∨ (strOfNums zs).extract p (p + 3) ≠ efbfbd)) → sStep zs p = ((c : Int), wdS c)) := by
  obtain ⟨t1, t2⟩ := decode_str zs hz p
  obtain ⟨_, f2, f3, _, _⟩ := sStep_facts hz hp
  rw [← hc] at t1
  have key : (sStep zs p).1 = 65533 → p + 3 ≤ zs.length ∧ gz zs p = 239 ∧ gz zs (p + 1) = 191 ∧ gz zs (p + 2) = 189 := by
    have b0 := hz.at_ p
    intro h
    unfold sStep dec at h
    split at h
    · simp only at h; omega
    · split at h
      · simp only at h; omega
      · split at h
        · simp only at h; omega
        · split at h
          · simp only at h; omega
          · simp at h
  have key2 : p + 3 ≤ zs.length → gz zs p = 239 → gz zs (p + 1) = 191 → gz zs (p + 2) = 189 → (sStep zs p).1 = 65533 := by
    intro a b c d
    unfold sStep
    rw [dec_three (by rw [b, c, d]; omega), b, c, d]
    rfl
  constructor
  · rintro ⟨rfl, h⟩
    by_cases hb : (sStep zs p).1 = -1
    · exact Prod.ext hb (f2 hb)
    · rw [if_neg hb] at t1
      obtain ⟨k1, k2, k3, k4⟩ := key (by omega)
      rcases h with h | h
      · omega
      · exact absurd ((three_of zs hz p k1).2 ⟨k2, k3, k4⟩) h
  · intro h
    have hb : (sStep zs p).1 ≠ -1 := by
      intro hb
      rw [if_pos hb] at t1
      refine h ⟨by omega, ?_⟩
      by_cases h3 : zs.length - p < 3
      · exact .inl h3
      · refine .inr fun he => ?_
        obtain ⟨a, b, c⟩ := (three_of zs hz p (by omega)).1 he
        have := key2 (by omega) a b c
        omega
    rw [if_neg hb] at t1
    have := f3 hb
    rw [← t1] at this
    exact Prod.ext t1.symm this.symm
end Go.Proofs.YtibakihcicfeoaaGreat
/- The walks of the small functions of layer 1. No condition. -/
namespace Go.Proofs.YtibakihcicfeoaaGreat
open Go.RowKit
theorem width26_0 (r : Int) (w : World) (h : r < 0) : Calls Tryz.prog 129 #[.int .i32 r] w fun e w' => e = .returned (.int .i64 0) ∧ w = w' := by
  have h1 := h; clear h
  go_enter Tryz.func129, Tryz.ntmps129
  go_wp2_with fail
  go_ret
  exact ⟨rfl, rfl⟩

theorem width26_1 (r : Int) (w : World) (h : 0 ≤ r ∧ 1114111 < r) : Calls Tryz.prog 129 #[.int .i32 r] w fun e w' => e = .returned (.int .i64 0) ∧ w = w' := by
  obtain ⟨h1, h2⟩ := h
  go_enter Tryz.func129, Tryz.ntmps129
  go_wp2_with fail
  go_ret
  exact ⟨rfl, rfl⟩

theorem width26_2 (r : Int) (w : World) (h : 55296 ≤ r ∧ r ≤ 57343) : Calls Tryz.prog 129 #[.int .i32 r] w fun e w' => e = .returned (.int .i64 0) ∧ w = w' := by
  obtain ⟨h1, h2⟩ := h
  go_enter Tryz.func129, Tryz.ntmps129
  go_wp2_with fail
  go_ret
  exact ⟨rfl, rfl⟩

theorem width26_3 (r : Int) (w : World) (h : 0 ≤ r ∧ r < 128) : Calls Tryz.prog 129 #[.int .i32 r] w fun e w' => e = .returned (.int .i64 1) ∧ w = w' := by
  obtain ⟨h1, h2⟩ := h
  go_enter Tryz.func129, Tryz.ntmps129
  go_wp2_with fail
  go_ret
  exact ⟨rfl, rfl⟩

theorem width26_4 (r : Int) (w : World) (h : 128 ≤ r ∧ r < 2048) : Calls Tryz.prog 129 #[.int .i32 r] w fun e w' => e = .returned (.int .i64 2) ∧ w = w' := by
  obtain ⟨h1, h2⟩ := h
  go_enter Tryz.func129, Tryz.ntmps129
  go_wp2_with fail
  go_ret
  exact ⟨rfl, rfl⟩

theorem width26_5 (r : Int) (w : World) (h : 2048 ≤ r ∧ r < 55296) : Calls Tryz.prog 129 #[.int .i32 r] w fun e w' => e = .returned (.int .i64 3) ∧ w = w' := by
  obtain ⟨h1, h2⟩ := h
  go_enter Tryz.func129, Tryz.ntmps129
  go_wp2_with fail
  go_ret
  exact ⟨rfl, rfl⟩

theorem width26_6 (r : Int) (w : World) (h : 57343 < r ∧ r < 65536) : Calls Tryz.prog 129 #[.int .i32 r] w fun e w' => e = .returned (.int .i64 3) ∧ w = w' := by
  obtain ⟨h1, h2⟩ := h
  go_enter Tryz.func129, Tryz.ntmps129
  go_wp2_with fail
  go_ret
  exact ⟨rfl, rfl⟩

theorem width26_7 (r : Int) (w : World) (h : 65536 ≤ r ∧ r ≤ 1114111) : Calls Tryz.prog 129 #[.int .i32 r] w fun e w' => e = .returned (.int .i64 4) ∧ w = w' := by
  obtain ⟨h1, h2⟩ := h
  go_enter Tryz.func129, Tryz.ntmps129
  go_wp2_with fail
  go_ret
  exact ⟨rfl, rfl⟩

theorem width26 (r : Int) (w : World) : Calls Tryz.prog 129 #[.int .i32 r] w fun e w' => e = .returned (.int .i64 (wdS r : Nat)) ∧ w = w' := by
  unfold wdS
  by_cases h0 : r < 0 ∨ 1114111 < r ∨ (55296 ≤ r ∧ r ≤ 57343)
  · rw [if_pos h0]
    by_cases h1 : r < 0
    · exact width26_0 r w h1
    · by_cases h2 : 1114111 < r
      · exact width26_1 r w (by omega)
      · exact width26_2 r w (by omega)
  · rw [if_neg h0]
    by_cases h1 : r < 128
    · rw [if_pos h1]; exact width26_3 r w (by omega)
    · rw [if_neg h1]
      by_cases h2 : r < 2048
      · rw [if_pos h2]; exact width26_4 r w (by omega)
      · rw [if_neg h2]
        by_cases h3 : r < 65536
        · rw [if_pos h3]
          by_cases h4 : r < 55296
          · exact width26_5 r w (by omega)
          · exact width26_6 r w (by omega)
        · rw [if_neg h3]; exact width26_7 r w (by omega)

theorem piece61_other (s : ByteArray) (p : Nat) (r : Int) (w : World) (hr : ¬ r = 65533) :
    Calls Tryz.prog 99 #[.string s, .int .i64 p, .int .i32 r] w fun e w' => e = .returned (.tuple #[.int .i32 r, .int .i64 (wdS r : Nat)]) ∧ w = w' := by
  have h0 : (r == 65533) = false := by simpa using hr
  clear hr
  go_enter Tryz.func99, Tryz.ntmps99
  go_wp2_with (go_at_call 129; refine (width26 r _).mono ?_; rintro e w' ⟨rfl, rfl⟩)
  go_ret2
  exact ⟨rfl, rfl⟩
theorem piece61_short (s : ByteArray) (p : Nat) (w : World) (hp : p ≤ s.size) (hs : s.size - p < 3) (_hm : s.size ≤ 1048576) :
    Calls Tryz.prog 99 #[.string s, .int .i64 p, .int .i32 65533] w fun e w' => e = .returned (.tuple #[.int .i32 (-1), .int .i64 1]) ∧ w = w' := by
  have h1 : (s.size : Int) - (p : Int) < 3 := by omega
  go_enter Tryz.func99, Tryz.ntmps99
  go_wp2_with fail
  go_ret2
  exact ⟨rfl, rfl⟩
theorem bytes_eq (s : ByteArray) (l : List UInt8) : s.toList = l ↔ s = ⟨l.toArray⟩ := by
  rw [ByteArray.toList_eq]
  constructor
  · intro h
    apply ByteArray.ext
    rw [← h]
  · intro h
    rw [h]
theorem piece61_no (s : ByteArray) (p : Nat) (w : World) (hp : p + 3 ≤ s.size) (hm : s.size ≤ 1048576) (he : s.extract p (p + 3) ≠ efbfbd) :
    Calls Tryz.prog 99 #[.string s, .int .i64 p, .int .i32 65533] w fun e w' => e = .returned (.tuple #[.int .i32 (-1), .int .i64 1]) ∧ w = w' := by
  have h1 : ¬ (s.size : Int) - (p : Int) < 3 := by omega
  have h2 : (!(s.extract p (p + 3)).toList == [239, 191, 189]) = true := by
    have : ¬ (s.extract p (p + 3)).toList = [239, 191, 189] := fun h => he ((bytes_eq _ _).1 h)
    simpa using this
  clear he
  go_enter Tryz.func99, Tryz.ntmps99
  go_wp2_with fail
  go_ret2
  exact ⟨rfl, rfl⟩
theorem piece61_yes (s : ByteArray) (p : Nat) (w : World) (hp : p + 3 ≤ s.size) (hm : s.size ≤ 1048576) (he : s.extract p (p + 3) = efbfbd) :
    Calls Tryz.prog 99 #[.string s, .int .i64 p, .int .i32 65533] w fun e w' => e = .returned (.tuple #[.int .i32 65533, .int .i64 (wdS 65533 : Nat)]) ∧ w = w' := by
  have h1 : ¬ (s.size : Int) - (p : Int) < 3 := by omega
  have h2 : (!(s.extract p (p + 3)).toList == [239, 191, 189]) = false := by
    have : (s.extract p (p + 3)).toList = [239, 191, 189] := (bytes_eq _ _).2 he
    rw [this]; rfl
  clear he
  go_enter Tryz.func99, Tryz.ntmps99
  go_wp2_with (go_at_call 129; refine (width26 65533 _).mono ?_; rintro e w' ⟨rfl, rfl⟩)
  go_ret2
  exact ⟨rfl, rfl⟩
/-- 'piece' at a place of bytes, handed what a range tells there. -/
theorem piece61 (zs : List Int) (hz : Bytes8 zs) (p : Nat) (hp : p < zs.length) (hm : zs.length ≤ 1048576) (c : Nat) (hc : c = (Utf8.decode (strOfNums zs) p).1) (w : World) :
    Calls Tryz.prog 99 #[.string (strOfNums zs), .int .i64 p, .int .i32 c] w fun e w' => e = .returned (.tuple #[.int .i32 (sStep zs p).1, .int .i64 (sStep zs p).2]) ∧ w = w' := by
  obtain ⟨h1, h2⟩ := piece_step zs hz p hp c hc
  have hsz := strOfNums_size zs
  by_cases hr : c = 65533
  · by_cases hb : zs.length - p < 3
    · rw [h1 ⟨hr, .inl hb⟩, hr]
      exact piece61_short _ _ _ (by omega) (by omega) (by omega)
    · by_cases he : (strOfNums zs).extract p (p + 3) = efbfbd
      · rw [h2 (by rintro ⟨_, h | h⟩; exact hb h; exact h he), hr]
        exact piece61_yes _ _ _ (by omega) (by omega) he
      · rw [h1 ⟨hr, .inr he⟩, hr]
        exact piece61_no _ _ _ (by omega) (by omega) he
  · rw [h2 (fun h => hr h.1)]
    exact piece61_other _ _ _ _ (by omega)
end Go.Proofs.YtibakihcicfeoaaGreat
