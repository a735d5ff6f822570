/- The walks of the two Fits of layer 3 and of the law SniffFits. No condition. -/
import Derived.Test.YtiegbochpcmicaaE7
namespace Go.Proofs.Ytiegbochpcmicaa
open Go.RowKit

theorem utf8_ok : ∀ t ∈ ([117, 116, 102, 45, 56] : List Int), t < 65 ∨ 90 < t := by decide
theorem utf16_ok : ∀ t ∈ ([117, 116, 102, 45, 49, 54] : List Int), t < 65 ∨ 90 < t := by decide
theorem utf8_b : Bytes8 [117, 116, 102, 45, 56] := by intro z hz; simp at hz; omega
theorem utf16_b : Bytes8 [117, 116, 102, 45, 49, 54] := by intro z hz; simp at hz; omega
theorem low_eq {zs ts : List Int} {t : ByteArray} (hz : Bytes8 zs) (ht : Bytes8 ts) (hok : ∀ t ∈ ts, t < 65 ∨ 90 < t) {tl : List UInt8} (hl : t.toList = tl) (hT : t = strOfNums ts) : ((strOfNums (lows zs)).toList == tl) = sames zs ts := by
  rw [← hl, hT, str_beq (lows_bytes hz) ht, sames_lows hok]

theorem fits48 (kind : Int) (zs : List Int) (hz : Bytes8 zs) (hn : zs.length ≤ 4096) (w : World) :
    Calls Try.prog 48 #[.int .i64 kind, .string (strOfNums zs)] w fun e w' => e = .returned (.bool (pFits kind zs)) ∧ Below w.heap.size w w' := by
  have C := lower66 zs hz hn w
  have e8 := low_eq (t := ⟨#[117, 116, 102, 45, 56]⟩) hz utf8_b utf8_ok (tl := [117, 116, 102, 45, 56]) (by decide +kernel) rfl
  have e16 := low_eq (t := ⟨#[117, 116, 102, 45, 49, 54]⟩) hz utf16_b utf16_ok (tl := [117, 116, 102, 45, 49, 54]) (by decide +kernel) rfl
  unfold pFits
  generalize strOfNums (lows zs) = s2 at C e8 e16
  generalize sames zs [117, 116, 102, 45, 56] = v8 at e8 ⊢
  generalize sames zs [117, 116, 102, 45, 49, 54] = v16 at e16 ⊢
  generalize strOfNums zs = s at C ⊢
  by_cases h0 : kind = 0
  · subst h0
    go_enter Try.func48, Try.ntmps48
    go_wp2_with (go_at_call 66; refine C.mono ?_; rintro e w1 ⟨rfl, hb⟩; clear C)
    go_ret
    exact ⟨by simp, hb⟩
  · have t0 : (kind == 0) = false := by simpa using h0
    by_cases h1 : kind = 1
    · subst h1
      go_enter Try.func48, Try.ntmps48
      go_wp2_with (go_at_call 66; refine C.mono ?_; rintro e w1 ⟨rfl, hb⟩; clear C)
      go_ret
      exact ⟨by simp, hb⟩
    · have t1 : (kind == 1) = false := by simpa using h1
      by_cases h2 : kind = 2
      · subst h2
        go_enter Try.func48, Try.ntmps48
        go_wp2_with (go_at_call 66; refine C.mono ?_; rintro e w1 ⟨rfl, hb⟩; clear C)
        go_ret
        exact ⟨by simp, hb⟩
      · have t2 : (kind == 2) = false := by simpa using h2
        clear C e8 e16
        go_enter Try.func48, Try.ntmps48
        go_wp2_with fail
        go_ret
        exact ⟨rfl, Below.refl _ _⟩

theorem fits49 (kind : Int) (zs : List Int) (hz : Bytes8 zs) (hn : zs.length ≤ 4096) (w : World) :
    Calls Try.prog 49 #[.int .i64 kind, .string (strOfNums zs)] w fun e w' => e = .returned (.bool (pFits kind zs)) ∧ Below w.heap.size w w' := by
  have C8 := same67 zs [117, 116, 102, 45, 56] hz utf8_b hn ⟨#[117, 116, 102, 45, 56]⟩ rfl w
  have C16 := same67 zs [117, 116, 102, 45, 49, 54] hz utf16_b hn ⟨#[117, 116, 102, 45, 49, 54]⟩ rfl w
  unfold pFits
  generalize sames zs [117, 116, 102, 45, 56] = v8 at C8 ⊢
  generalize sames zs [117, 116, 102, 45, 49, 54] = v16 at C16 ⊢
  generalize strOfNums zs = s at C8 C16 ⊢
  by_cases h0 : kind = 0
  · subst h0
    cases v8
    all_goals
      go_enter Try.func49, Try.ntmps49
      go_wp2_with (go_at_call 67; refine C8.mono ?_; rintro e w1 ⟨rfl, hb⟩; clear C8)
      go_ret
      exact ⟨by simp, hb⟩
  · have t0 : (kind == 0) = false := by simpa using h0
    by_cases h1 : kind = 1
    · subst h1
      go_enter Try.func49, Try.ntmps49
      go_wp2_with (go_at_call 67; refine C16.mono ?_; rintro e w1 ⟨rfl, hb⟩; clear C16)
      go_ret
      exact ⟨by simp, hb⟩
    · have t1 : (kind == 1) = false := by simpa using h1
      by_cases h2 : kind = 2
      · subst h2
        go_enter Try.func49, Try.ntmps49
        go_wp2_with (go_at_call 67; refine C16.mono ?_; rintro e w1 ⟨rfl, hb⟩; clear C16)
        go_ret
        exact ⟨by simp, hb⟩
      · have t2 : (kind == 2) = false := by simpa using h2
        clear C8 C16
        go_enter Try.func49, Try.ntmps49
        go_wp2_with fail
        go_ret
        exact ⟨rfl, Below.refl _ _⟩

theorem walk14_short (kind : Int) (zs : List Int) (hz : Bytes8 zs) (hn : zs.length ≤ 40) (w : World) :
    Calls Try.prog 14 #[.int .i64 kind, .string (strOfNums zs)] w fun e w' => e = .returned (.bool true) ∧ Below w.heap.size w w' := by
  have C48 := fits48 kind zs hz (by omega) w
  have C49 := fun W => fits49 kind zs hz (by omega) W
  have hs := strOfNums_size zs
  have hs' : ¬ 40 < (strOfNums zs).size := by omega
  clear hs
  generalize pFits kind zs = v at C48 C49
  generalize strOfNums zs = s at C48 C49 hs' ⊢
  go_enter Try.func14, Try.ntmps14
  go_wp2_with (first | (go_at_call 48; refine C48.mono ?_; rintro e w1 ⟨rfl, hb1⟩; clear C48) | (go_at_call 49; refine (C49 _).mono ?_; rintro e w2 ⟨rfl, hb2⟩; clear C49) | (go_at_call 45; refine (awake45 _).mono ?_; rintro e w3 ⟨rfl, hb3⟩))
  go_ret
  exact ⟨rfl, hb1.trans ((hb2.trans (hb3.mono hb2.size)).mono hb1.size)⟩

theorem walk14_long (kind : Int) (zs : List Int) (hz : Bytes8 zs) (hn : 40 < zs.length) (w : World) :
    Calls Try.prog 14 #[.int .i64 kind, .string (strOfNums zs)] w fun e w' => e = .returned (.bool true) ∧ Below w.heap.size w w' := by
  have hl : (zs.take 40).length = 40 := by rw [List.length_take]; omega
  have C48 := fits48 kind (zs.take 40) (hz.take 40) (by omega) w
  have C49 := fun W => fits49 kind (zs.take 40) (hz.take 40) (by omega) W
  have hs := strOfNums_size zs
  have hs' : 40 < (strOfNums zs).size := by omega
  have he := strOfNums_extract zs 40
  clear hs hl
  generalize pFits kind (zs.take 40) = v at C48 C49
  generalize strOfNums (zs.take 40) = s2 at C48 C49 he
  generalize strOfNums zs = s at hs' he ⊢
  go_enter Try.func14, Try.ntmps14
  go_wp2_with (first | (go_at_call 48; refine C48.mono ?_; rintro e w1 ⟨rfl, hb1⟩; clear C48) | (go_at_call 49; refine (C49 _).mono ?_; rintro e w2 ⟨rfl, hb2⟩; clear C49) | (go_at_call 45; refine (awake45 _).mono ?_; rintro e w3 ⟨rfl, hb3⟩))
  go_ret
  exact ⟨rfl, hb1.trans ((hb2.trans (hb3.mono hb2.size)).mono hb1.size)⟩

theorem walk14 (kind : Int) (s : ByteArray) (w : World) :
    Calls Try.prog 14 #[.int .i64 kind, .string s] w fun e w' => e = .returned (.bool true) ∧ Below w.heap.size w w' := by
  have hs := nums_len_ s
  rw [← str_nums_ s]
  by_cases h : 40 < s.size
  · exact walk14_long kind (numsOf_ s) (nums_bytes_ s) (by omega) w
  · exact walk14_short kind (numsOf_ s) (nums_bytes_ s) (by omega) w
end Go.Proofs.Ytiegbochpcmicaa
