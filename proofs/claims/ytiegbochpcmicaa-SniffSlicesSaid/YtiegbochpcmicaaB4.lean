/- The walks of the document's Width and Rune. No condition. -/
import Derived.Test.YtiegbochpcmicaaB1
import Derived.Test.YtiegbochpcmicaaMem2
namespace Go.Proofs.Ytiegbochpcmicaa
open Go.RowKit
theorem width31_0 (r : Int) (w : World) (h : r < 0) : Calls Try.prog 31 #[.int .i32 r] w fun e w' => e = .returned (.int .i64 0) ∧ w = w' := by
  have h1 := h; clear h
  go_enter Try.func31, Try.ntmps31
  go_wp2_with fail
  go_ret
  exact ⟨rfl, rfl⟩

theorem width31_1 (r : Int) (w : World) (h : 0 ≤ r ∧ 1114111 < r) : Calls Try.prog 31 #[.int .i32 r] w fun e w' => e = .returned (.int .i64 0) ∧ w = w' := by
  obtain ⟨h1, h2⟩ := h
  go_enter Try.func31, Try.ntmps31
  go_wp2_with fail
  go_ret
  exact ⟨rfl, rfl⟩

theorem width31_2 (r : Int) (w : World) (h : 55296 ≤ r ∧ r ≤ 57343) : Calls Try.prog 31 #[.int .i32 r] w fun e w' => e = .returned (.int .i64 0) ∧ w = w' := by
  obtain ⟨h1, h2⟩ := h
  go_enter Try.func31, Try.ntmps31
  go_wp2_with fail
  go_ret
  exact ⟨rfl, rfl⟩

theorem width31_3 (r : Int) (w : World) (h : 0 ≤ r ∧ r < 128) : Calls Try.prog 31 #[.int .i32 r] w fun e w' => e = .returned (.int .i64 1) ∧ w = w' := by
  obtain ⟨h1, h2⟩ := h
  go_enter Try.func31, Try.ntmps31
  go_wp2_with fail
  go_ret
  exact ⟨rfl, rfl⟩

theorem width31_4 (r : Int) (w : World) (h : 128 ≤ r ∧ r < 2048) : Calls Try.prog 31 #[.int .i32 r] w fun e w' => e = .returned (.int .i64 2) ∧ w = w' := by
  obtain ⟨h1, h2⟩ := h
  go_enter Try.func31, Try.ntmps31
  go_wp2_with fail
  go_ret
  exact ⟨rfl, rfl⟩

theorem width31_5 (r : Int) (w : World) (h : 2048 ≤ r ∧ r < 55296) : Calls Try.prog 31 #[.int .i32 r] w fun e w' => e = .returned (.int .i64 3) ∧ w = w' := by
  obtain ⟨h1, h2⟩ := h
  go_enter Try.func31, Try.ntmps31
  go_wp2_with fail
  go_ret
  exact ⟨rfl, rfl⟩

theorem width31_6 (r : Int) (w : World) (h : 57343 < r ∧ r < 65536) : Calls Try.prog 31 #[.int .i32 r] w fun e w' => e = .returned (.int .i64 3) ∧ w = w' := by
  obtain ⟨h1, h2⟩ := h
  go_enter Try.func31, Try.ntmps31
  go_wp2_with fail
  go_ret
  exact ⟨rfl, rfl⟩

theorem width31_7 (r : Int) (w : World) (h : 65536 ≤ r ∧ r ≤ 1114111) : Calls Try.prog 31 #[.int .i32 r] w fun e w' => e = .returned (.int .i64 4) ∧ w = w' := by
  obtain ⟨h1, h2⟩ := h
  go_enter Try.func31, Try.ntmps31
  go_wp2_with fail
  go_ret
  exact ⟨rfl, rfl⟩

theorem width31 (r : Int) (w : World) : Calls Try.prog 31 #[.int .i32 r] w fun e w' => e = .returned (.int .i64 (wd r : Nat)) ∧ w = w' := by
  unfold wd
  by_cases h0 : r < 0 ∨ 1114111 < r ∨ (55296 ≤ r ∧ r ≤ 57343)
  · rw [if_pos h0]
    by_cases h1 : r < 0
    · exact width31_0 r w h1
    · by_cases h2 : 1114111 < r
      · exact width31_1 r w (by omega)
      · exact width31_2 r w (by omega)
  · rw [if_neg h0]
    by_cases h1 : r < 128
    · rw [if_pos h1]; exact width31_3 r w (by omega)
    · rw [if_neg h1]
      by_cases h2 : r < 2048
      · rw [if_pos h2]; exact width31_4 r w (by omega)
      · rw [if_neg h2]
        by_cases h3 : r < 65536
        · rw [if_pos h3]
          by_cases h4 : r < 55296
          · exact width31_5 r w (by omega)
          · exact width31_6 r w (by omega)
        · rw [if_neg h3]; exact width31_7 r w (by omega)

/-- A rune's bytes. -/
def enc (r : Int) : List Int :=
  if wd r = 0 then [] else if r < 128 then [r] else if r < 2048 then [192 + r / 64, 128 + r % 64] else if r < 65536 then [224 + r / 4096, 128 + r / 64 % 64, 128 + r % 64] else [240 + r / 262144, 128 + r / 4096 % 64, 128 + r / 64 % 64, 128 + r % 64]
theorem enc_len (r : Int) : (enc r).length = wd r := by
  unfold enc wd
  repeat' split
  all_goals first | rfl | omega
theorem wd_pos {r : Int} (h : wd r ≠ 0) : 0 ≤ r ∧ r ≤ 1114111 ∧ (r < 55296 ∨ 57343 < r) := by
  unfold wd at h
  by_cases h0 : r < 0 ∨ 1114111 < r ∨ (55296 ≤ r ∧ r ≤ 57343)
  · rw [if_pos h0] at h; exact absurd rfl h
  · omega
theorem enc_bytes (r : Int) : Bytes8 (enc r) := by
  intro z hz
  unfold enc at hz
  by_cases h0 : wd r = 0
  · rw [if_pos h0] at hz; simp at hz
  · rw [if_neg h0] at hz
    have := wd_pos h0
    by_cases h1 : r < 128
    · rw [if_pos h1] at hz; simp only [List.mem_cons, List.not_mem_nil, or_false] at hz; omega
    · rw [if_neg h1] at hz
      by_cases h2 : r < 2048
      · rw [if_pos h2] at hz; simp only [List.mem_cons, List.not_mem_nil, or_false] at hz; omega
      · rw [if_neg h2] at hz
        by_cases h3 : r < 65536
        · rw [if_pos h3] at hz; simp only [List.mem_cons, List.not_mem_nil, or_false] at hz; omega
        · rw [if_neg h3] at hz; simp only [List.mem_cons, List.not_mem_nil, or_false] at hz; omega
theorem own_lit (w : World) (cs : List Value) (t : TypeId) (n sz B : Nat) (hl : cs.length = n * sz) (hn : n ≤ 1048576) (hB : B ≤ w.heap.size) : (w.alloc (.cells cs.toArray t)).ownsRow B t sz (.slice (some ⟨w.heap.size, 0, none⟩) n n) n cs :=
  ⟨hl, .inr ⟨w.heap.size, n, cs.toArray, rfl, hB, heap_alloc_new w _, Nat.le_refl _, by unfold maxLen; omega, by simpa using hl, by simp [← hl]⟩⟩

def RuneSaid (r : Int) (w : World) (e : Ending) (w' : World) : Prop := ∃ A c, e = .returned (.slice A (wd r) c) ∧ w'.ownsRow w.heap.size 5 1 (.slice A (wd r) c) (wd r) (ints .u8 (enc r)) ∧ Below w.heap.size w w'

set_option maxHeartbeats 1000000 in
theorem rune62_0 (r : Int) (w : World) (h : wd r = 0) : Calls Try.prog 62 #[.int .i32 r] w (RuneSaid r w) := by
  have CW := fun W => width31 r W
  rw [h] at CW
  have HW := Lib.hid h; clear h
  go_enter Try.func62, Try.ntmps62
  go_wp2_with (go_at_call 31; refine (CW _).mono ?_; rintro e w' ⟨rfl, rfl⟩)
  go_ret
  refine ⟨none, 0, by rw [HW.out]; rfl, ?_, Below.refl _ _⟩
  rw [HW.out, enc, if_pos HW.out]
  exact World.ownsRow_nil _ _ _ _

set_option maxHeartbeats 1000000 in
theorem rune62_1 (r : Int) (w : World) (h : wd r = 1) (hr : 0 ≤ r ∧ r < 128) (he : enc r = [r]) : Calls Try.prog 62 #[.int .i32 r] w (RuneSaid r w) := by
  have CW := fun W => width31 r W
  rw [h] at CW
  have HW := Lib.hid h; clear h
  have HE := Lib.hid he; clear he
  obtain ⟨h1, h2⟩ := hr
  go_enter Try.func62, Try.ntmps62
  go_wp2_with (go_at_call 31; refine (CW _).mono ?_; rintro e w' ⟨rfl, rfl⟩)
  go_ret
  refine ⟨some ⟨w.heap.size, 0, none⟩, 1, by rw [HW.out]; rfl, ?_, (Below.refl _ _).alloc (Nat.le_refl _) _⟩
  rw [HW.out, HE.out]
  exact own_lit w (ints .u8 [r]) 5 1 1 _ rfl (by omega) (Nat.le_refl _)

set_option maxHeartbeats 1000000 in
theorem rune62_2 (r : Int) (w : World) (h : wd r = 2) (hr : 128 ≤ r ∧ r < 2048) (he : enc r = [192 + r / 64, 128 + r % 64]) : Calls Try.prog 62 #[.int .i32 r] w (RuneSaid r w) := by
  have CW := fun W => width31 r W
  rw [h] at CW
  have HW := Lib.hid h; clear h
  have HE := Lib.hid he; clear he
  obtain ⟨h1, h2⟩ := hr
  go_enter Try.func62, Try.ntmps62
  go_wp2_with (go_at_call 31; refine (CW _).mono ?_; rintro e w' ⟨rfl, rfl⟩)
  go_ret
  refine ⟨some ⟨w.heap.size, 0, none⟩, 2, by rw [HW.out]; rfl, ?_, (Below.refl _ _).alloc (Nat.le_refl _) _⟩
  rw [HW.out, HE.out]
  exact own_lit w (ints .u8 [192 + r / 64, 128 + r % 64]) 5 2 1 _ rfl (by omega) (Nat.le_refl _)

set_option maxHeartbeats 1000000 in
theorem rune62_3 (r : Int) (w : World) (h : wd r = 3) (hr : 2048 ≤ r ∧ r < 65536) (he : enc r = [224 + r / 4096, 128 + r / 64 % 64, 128 + r % 64]) : Calls Try.prog 62 #[.int .i32 r] w (RuneSaid r w) := by
  have CW := fun W => width31 r W
  rw [h] at CW
  have HW := Lib.hid h; clear h
  have HE := Lib.hid he; clear he
  obtain ⟨h1, h2⟩ := hr
  go_enter Try.func62, Try.ntmps62
  go_wp2_with (go_at_call 31; refine (CW _).mono ?_; rintro e w' ⟨rfl, rfl⟩)
  go_ret
  refine ⟨some ⟨w.heap.size, 0, none⟩, 3, by rw [HW.out]; rfl, ?_, (Below.refl _ _).alloc (Nat.le_refl _) _⟩
  rw [HW.out, HE.out]
  exact own_lit w (ints .u8 [224 + r / 4096, 128 + r / 64 % 64, 128 + r % 64]) 5 3 1 _ rfl (by omega) (Nat.le_refl _)

set_option maxHeartbeats 1000000 in
theorem rune62_4 (r : Int) (w : World) (h : wd r = 4) (hr : 65536 ≤ r ∧ r ≤ 1114111) (he : enc r = [240 + r / 262144, 128 + r / 4096 % 64, 128 + r / 64 % 64, 128 + r % 64]) : Calls Try.prog 62 #[.int .i32 r] w (RuneSaid r w) := by
  have CW := fun W => width31 r W
  rw [h] at CW
  have HW := Lib.hid h; clear h
  have HE := Lib.hid he; clear he
  obtain ⟨h1, h2⟩ := hr
  go_enter Try.func62, Try.ntmps62
  go_wp2_with (go_at_call 31; refine (CW _).mono ?_; rintro e w' ⟨rfl, rfl⟩)
  go_ret
  refine ⟨some ⟨w.heap.size, 0, none⟩, 4, by rw [HW.out]; rfl, ?_, (Below.refl _ _).alloc (Nat.le_refl _) _⟩
  rw [HW.out, HE.out]
  exact own_lit w (ints .u8 [240 + r / 262144, 128 + r / 4096 % 64, 128 + r / 64 % 64, 128 + r % 64]) 5 4 1 _ rfl (by omega) (Nat.le_refl _)

theorem rune62 (r : Int) (w : World) : Calls Try.prog 62 #[.int .i32 r] w (RuneSaid r w) := by
  by_cases h0 : r < 0 ∨ 1114111 < r ∨ (55296 ≤ r ∧ r ≤ 57343)
  · exact rune62_0 r w (by unfold wd; rw [if_pos h0])
  · by_cases h1 : r < 128
    · have hw : wd r = 1 := by unfold wd; rw [if_neg h0, if_pos h1]
      exact rune62_1 r w hw (by omega) (by unfold enc; rw [hw, if_neg (by omega), if_pos h1])
    · by_cases h2 : r < 2048
      · have hw : wd r = 2 := by unfold wd; rw [if_neg h0, if_neg h1, if_pos h2]
        exact rune62_2 r w hw (by omega) (by unfold enc; rw [hw, if_neg (by omega), if_neg h1, if_pos h2])
      · by_cases h3 : r < 65536
        · have hw : wd r = 3 := by unfold wd; rw [if_neg h0, if_neg h1, if_neg h2, if_pos h3]
          exact rune62_3 r w hw (by omega) (by unfold enc; rw [hw, if_neg (by omega), if_neg h1, if_neg h2, if_pos h3])
        · have hw : wd r = 4 := by unfold wd; rw [if_neg h0, if_neg h1, if_neg h2, if_neg h3]
          exact rune62_4 r w hw (by omega) (by unfold enc; rw [hw, if_neg (by omega), if_neg h1, if_neg h2, if_neg h3])
end Go.Proofs.Ytiegbochpcmicaa
