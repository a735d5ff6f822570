/- The walks of the small functions of layer 1. No condition. -/
import Derived.Test.YtiegbochpcmicaaChecked
import Derived.Test.YtiegbochpcmicaaPlainScan
namespace Go.Proofs.Ytiegbochpcmicaa
open Go.RowKit
theorem width26_0 (r : Int) (w : World) (h : r < 0) : Calls Try.prog 26 #[.int .i32 r] w fun e w' => e = .returned (.int .i64 0) ∧ w = w' := by
  have h1 := h; clear h
  go_enter Try.func26, Try.ntmps26
  go_wp2_with fail
  go_ret
  exact ⟨rfl, rfl⟩

theorem width26_1 (r : Int) (w : World) (h : 0 ≤ r ∧ 1114111 < r) : Calls Try.prog 26 #[.int .i32 r] w fun e w' => e = .returned (.int .i64 0) ∧ w = w' := by
  obtain ⟨h1, h2⟩ := h
  go_enter Try.func26, Try.ntmps26
  go_wp2_with fail
  go_ret
  exact ⟨rfl, rfl⟩

theorem width26_2 (r : Int) (w : World) (h : 55296 ≤ r ∧ r ≤ 57343) : Calls Try.prog 26 #[.int .i32 r] w fun e w' => e = .returned (.int .i64 0) ∧ w = w' := by
  obtain ⟨h1, h2⟩ := h
  go_enter Try.func26, Try.ntmps26
  go_wp2_with fail
  go_ret
  exact ⟨rfl, rfl⟩

theorem width26_3 (r : Int) (w : World) (h : 0 ≤ r ∧ r < 128) : Calls Try.prog 26 #[.int .i32 r] w fun e w' => e = .returned (.int .i64 1) ∧ w = w' := by
  obtain ⟨h1, h2⟩ := h
  go_enter Try.func26, Try.ntmps26
  go_wp2_with fail
  go_ret
  exact ⟨rfl, rfl⟩

theorem width26_4 (r : Int) (w : World) (h : 128 ≤ r ∧ r < 2048) : Calls Try.prog 26 #[.int .i32 r] w fun e w' => e = .returned (.int .i64 2) ∧ w = w' := by
  obtain ⟨h1, h2⟩ := h
  go_enter Try.func26, Try.ntmps26
  go_wp2_with fail
  go_ret
  exact ⟨rfl, rfl⟩

theorem width26_5 (r : Int) (w : World) (h : 2048 ≤ r ∧ r < 55296) : Calls Try.prog 26 #[.int .i32 r] w fun e w' => e = .returned (.int .i64 3) ∧ w = w' := by
  obtain ⟨h1, h2⟩ := h
  go_enter Try.func26, Try.ntmps26
  go_wp2_with fail
  go_ret
  exact ⟨rfl, rfl⟩

theorem width26_6 (r : Int) (w : World) (h : 57343 < r ∧ r < 65536) : Calls Try.prog 26 #[.int .i32 r] w fun e w' => e = .returned (.int .i64 3) ∧ w = w' := by
  obtain ⟨h1, h2⟩ := h
  go_enter Try.func26, Try.ntmps26
  go_wp2_with fail
  go_ret
  exact ⟨rfl, rfl⟩

theorem width26_7 (r : Int) (w : World) (h : 65536 ≤ r ∧ r ≤ 1114111) : Calls Try.prog 26 #[.int .i32 r] w fun e w' => e = .returned (.int .i64 4) ∧ w = w' := by
  obtain ⟨h1, h2⟩ := h
  go_enter Try.func26, Try.ntmps26
  go_wp2_with fail
  go_ret
  exact ⟨rfl, rfl⟩

theorem width26 (r : Int) (w : World) : Calls Try.prog 26 #[.int .i32 r] w fun e w' => e = .returned (.int .i64 (wd r : Nat)) ∧ w = w' := by
  unfold wd
  by_cases h0 : r < 0 ∨ 1114111 < r ∨ (55296 ≤ r ∧ r ≤ 57343)
  · rw [if_pos h0]
    by_cases h1 : r < 0
    · exact width26_0 r w h1
    · by_cases h2 : 1114111 < r
      · exact width26_1 r w (by omega)
      · exact width26_2 r w (by omega)
  · rw [if_neg h0]
    by_cases h1 : r < 128
    · rw [if_pos h1]; exact width26_3 r w (by omega)
    · rw [if_neg h1]
      by_cases h2 : r < 2048
      · rw [if_pos h2]; exact width26_4 r w (by omega)
      · rw [if_neg h2]
        by_cases h3 : r < 65536
        · rw [if_pos h3]
          by_cases h4 : r < 55296
          · exact width26_5 r w (by omega)
          · exact width26_6 r w (by omega)
        · rw [if_neg h3]; exact width26_7 r w (by omega)

theorem short24 (A : Option Addr) (n c : Nat) (w : World) (B : Nat) (xs : List Value) (h : Rd w B 1 A n c xs) :
    Calls Try.prog 24 #[.slice A n c] w fun e w' => (e = .returned (.slice A (min n 200) c) ∧ Rd w B 1 A (min n 200) c (xs.take 200)) ∧ w = w' := by
  have hcap := h.cap
  have hmax := h.max
  have hlen := h.len
  unfold maxLen at hmax
  by_cases hn : 200 < n
  · have H := Lib.hid (h.take (k := 200) (by omega)); clear h hlen
    have hm := Lib.hid (show min n 200 = 200 by omega)
    go_enter Try.func24, Try.ntmps24
    go_wp2
    go_ret
    exact ⟨⟨by rw [hm.out]; simp, by rw [hm.out]; exact H.out⟩, rfl⟩
  · have H := Lib.hid h; clear h
    have hm := Lib.hid (show min n 200 = n by omega)
    have hx := Lib.hid (show xs.take 200 = xs by rw [List.take_of_length_le (by omega)])
    clear hlen
    go_enter Try.func24, Try.ntmps24
    go_wp2
    go_ret
    exact ⟨⟨by rw [hm.out]; rfl, by rw [hm.out, hx.out]; exact H.out⟩, rfl⟩

theorem piece61_other (s : ByteArray) (p : Nat) (r : Int) (w : World) (hr : ¬ r = 65533) :
    Calls Try.prog 61 #[.string s, .int .i64 p, .int .i32 r] w fun e w' => e = .returned (.tuple #[.int .i32 r, .int .i64 (wd r : Nat)]) ∧ w = w' := by
  have h0 : (r == 65533) = false := by simpa using hr
  clear hr
  go_enter Try.func61, Try.ntmps61
  go_wp2_with (go_at_call 26; refine (width26 r _).mono ?_; rintro e w' ⟨rfl, rfl⟩)
  go_ret2
  exact ⟨rfl, rfl⟩
theorem piece61_short (s : ByteArray) (p : Nat) (w : World) (hp : p ≤ s.size) (hs : s.size - p < 3) (_hm : s.size ≤ 1048576) :
    Calls Try.prog 61 #[.string s, .int .i64 p, .int .i32 65533] w fun e w' => e = .returned (.tuple #[.int .i32 (-1), .int .i64 1]) ∧ w = w' := by
  have h1 : (s.size : Int) - (p : Int) < 3 := by omega
  go_enter Try.func61, Try.ntmps61
  go_wp2_with fail
  go_ret2
  exact ⟨rfl, rfl⟩
theorem bytes_eq (s : ByteArray) (l : List UInt8) : s.toList = l ↔ s = ⟨l.toArray⟩ := by
  rw [ByteArray.toList_eq]
  constructor
  · intro h
    apply ByteArray.ext
    rw [← h]
  · intro h
    rw [h]
theorem piece61_no (s : ByteArray) (p : Nat) (w : World) (hp : p + 3 ≤ s.size) (hm : s.size ≤ 1048576) (he : s.extract p (p + 3) ≠ efbfbd) :
    Calls Try.prog 61 #[.string s, .int .i64 p, .int .i32 65533] w fun e w' => e = .returned (.tuple #[.int .i32 (-1), .int .i64 1]) ∧ w = w' := by
  have h1 : ¬ (s.size : Int) - (p : Int) < 3 := by omega
  have h2 : (!(s.extract p (p + 3)).toList == [239, 191, 189]) = true := by
    have : ¬ (s.extract p (p + 3)).toList = [239, 191, 189] := fun h => he ((bytes_eq _ _).1 h)
    simpa using this
  clear he
  go_enter Try.func61, Try.ntmps61
  go_wp2_with fail
  go_ret2
  exact ⟨rfl, rfl⟩
theorem piece61_yes (s : ByteArray) (p : Nat) (w : World) (hp : p + 3 ≤ s.size) (hm : s.size ≤ 1048576) (he : s.extract p (p + 3) = efbfbd) :
    Calls Try.prog 61 #[.string s, .int .i64 p, .int .i32 65533] w fun e w' => e = .returned (.tuple #[.int .i32 65533, .int .i64 (wd 65533 : Nat)]) ∧ w = w' := by
  have h1 : ¬ (s.size : Int) - (p : Int) < 3 := by omega
  have h2 : (!(s.extract p (p + 3)).toList == [239, 191, 189]) = false := by
    have : (s.extract p (p + 3)).toList = [239, 191, 189] := (bytes_eq _ _).2 he
    rw [this]; rfl
  clear he
  go_enter Try.func61, Try.ntmps61
  go_wp2_with (go_at_call 26; refine (width26 65533 _).mono ?_; rintro e w' ⟨rfl, rfl⟩)
  go_ret2
  exact ⟨rfl, rfl⟩
/-- 'piece' at a place of bytes, handed what a range tells there. -/
theorem piece61 (zs : List Int) (hz : Bytes8 zs) (p : Nat) (hp : p < zs.length) (hm : zs.length ≤ 1048576) (c : Nat) (hc : c = (Utf8.decode (strOfNums zs) p).1) (w : World) :
    Calls Try.prog 61 #[.string (strOfNums zs), .int .i64 p, .int .i32 c] w fun e w' => e = .returned (.tuple #[.int .i32 (sStep zs p).1, .int .i64 (sStep zs p).2]) ∧ w = w' := by
  obtain ⟨h1, h2⟩ := piece_step zs hz p hp c hc
  have hsz := strOfNums_size zs
  by_cases hr : c = 65533
  · by_cases hb : zs.length - p < 3
    · rw [h1 ⟨hr, .inl hb⟩, hr]
      exact piece61_short _ _ _ (by omega) (by omega) (by omega)
    · by_cases he : (strOfNums zs).extract p (p + 3) = efbfbd
      · rw [h2 (by rintro ⟨_, h | h⟩; exact hb h; exact h he), hr]
        exact piece61_yes _ _ _ (by omega) (by omega) he
      · rw [h1 ⟨hr, .inr he⟩, hr]
        exact piece61_no _ _ _ (by omega) (by omega) he
  · rw [h2 (fun h => hr h.1)]
    exact piece61_other _ _ _ _ (by omega)
end Go.Proofs.Ytiegbochpcmicaa
