/- The walk of the document's Kind of layer 3. No condition. -/
import Derived.Test.YtiegbochpcmicaaD3
namespace Go.Proofs.Ytiegbochpcmicaa
open Go.RowKit

/-- Of which kind bytes are, and how many say so. -/
def pKind (zs : List Int) : Int × Int :=
  if beg zs [254, 255] = true then (1, 2) else
  if beg zs [255, 254] = true then (2, 2) else
  if beg zs [239, 187, 191] = true then (0, 3) else
  if beg zs [0, 60, 0, 63] = true then (1, 0) else
  if beg zs [60, 0, 63, 0] = true then (2, 0) else
  (0, 0)
set_option maxHeartbeats 2000000 in
theorem kind54 (A : Option Addr) (n c : Nat) (zs : List Int) (w : World) (h : Rd w w.heap.size 1 A n c (ints .u8 zs)) (hz : Bytes8 zs) :
    Calls Try.prog 54 #[.slice A n c] w fun e w' => e = .returned (.tuple #[.int .i64 (pKind zs).1, .int .i64 (pKind zs).2]) ∧ w = w' := by
  have C := fun sl s hs hS hl => begins70 A n c zs sl s w h hz hs hS hl
  have C0 := C [254, 255] ⟨#[254, 255]⟩ (by intro z hz; simp at hz; omega) rfl (by decide)
  have C1 := C [255, 254] ⟨#[255, 254]⟩ (by intro z hz; simp at hz; omega) rfl (by decide)
  have C2 := C [239, 187, 191] ⟨#[239, 187, 191]⟩ (by intro z hz; simp at hz; omega) rfl (by decide)
  have C3 := C [0, 60, 0, 63] ⟨#[0, 60, 0, 63]⟩ (by intro z hz; simp at hz; omega) rfl (by decide)
  have C4 := C [60, 0, 63, 0] ⟨#[60, 0, 63, 0]⟩ (by intro z hz; simp at hz; omega) rfl (by decide)
  clear C h hz
  unfold pKind
  generalize beg zs [254, 255] = b0 at *
  generalize beg zs [255, 254] = b1 at *
  generalize beg zs [239, 187, 191] = b2 at *
  generalize beg zs [0, 60, 0, 63] = b3 at *
  generalize beg zs [60, 0, 63, 0] = b4 at *
  cases b0
  rotate_left
  · go_enter Try.func54, Try.ntmps54
    go_wp2_with (first | (go_at_call 70; refine C0.mono ?_; clear C0; rintro e w1 ⟨rfl, rfl⟩) | (go_at_call 70; refine C1.mono ?_; clear C1; rintro e w1 ⟨rfl, rfl⟩) | (go_at_call 70; refine C2.mono ?_; clear C2; rintro e w1 ⟨rfl, rfl⟩) | (go_at_call 70; refine C3.mono ?_; clear C3; rintro e w1 ⟨rfl, rfl⟩) | (go_at_call 70; refine C4.mono ?_; clear C4; rintro e w1 ⟨rfl, rfl⟩))
    go_ret2
    exact ⟨rfl, rfl⟩
  cases b1
  rotate_left
  · go_enter Try.func54, Try.ntmps54
    go_wp2_with (first | (go_at_call 70; refine C0.mono ?_; clear C0; rintro e w1 ⟨rfl, rfl⟩) | (go_at_call 70; refine C1.mono ?_; clear C1; rintro e w1 ⟨rfl, rfl⟩) | (go_at_call 70; refine C2.mono ?_; clear C2; rintro e w1 ⟨rfl, rfl⟩) | (go_at_call 70; refine C3.mono ?_; clear C3; rintro e w1 ⟨rfl, rfl⟩) | (go_at_call 70; refine C4.mono ?_; clear C4; rintro e w1 ⟨rfl, rfl⟩))
    go_ret2
    exact ⟨rfl, rfl⟩
  cases b2
  rotate_left
  · go_enter Try.func54, Try.ntmps54
    go_wp2_with (first | (go_at_call 70; refine C0.mono ?_; clear C0; rintro e w1 ⟨rfl, rfl⟩) | (go_at_call 70; refine C1.mono ?_; clear C1; rintro e w1 ⟨rfl, rfl⟩) | (go_at_call 70; refine C2.mono ?_; clear C2; rintro e w1 ⟨rfl, rfl⟩) | (go_at_call 70; refine C3.mono ?_; clear C3; rintro e w1 ⟨rfl, rfl⟩) | (go_at_call 70; refine C4.mono ?_; clear C4; rintro e w1 ⟨rfl, rfl⟩))
    go_ret2
    exact ⟨rfl, rfl⟩
  cases b3
  rotate_left
  · go_enter Try.func54, Try.ntmps54
    go_wp2_with (first | (go_at_call 70; refine C0.mono ?_; clear C0; rintro e w1 ⟨rfl, rfl⟩) | (go_at_call 70; refine C1.mono ?_; clear C1; rintro e w1 ⟨rfl, rfl⟩) | (go_at_call 70; refine C2.mono ?_; clear C2; rintro e w1 ⟨rfl, rfl⟩) | (go_at_call 70; refine C3.mono ?_; clear C3; rintro e w1 ⟨rfl, rfl⟩) | (go_at_call 70; refine C4.mono ?_; clear C4; rintro e w1 ⟨rfl, rfl⟩))
    go_ret2
    exact ⟨rfl, rfl⟩
  cases b4
  rotate_left
  · go_enter Try.func54, Try.ntmps54
    go_wp2_with (first | (go_at_call 70; refine C0.mono ?_; clear C0; rintro e w1 ⟨rfl, rfl⟩) | (go_at_call 70; refine C1.mono ?_; clear C1; rintro e w1 ⟨rfl, rfl⟩) | (go_at_call 70; refine C2.mono ?_; clear C2; rintro e w1 ⟨rfl, rfl⟩) | (go_at_call 70; refine C3.mono ?_; clear C3; rintro e w1 ⟨rfl, rfl⟩) | (go_at_call 70; refine C4.mono ?_; clear C4; rintro e w1 ⟨rfl, rfl⟩))
    go_ret2
    exact ⟨rfl, rfl⟩
  go_enter Try.func54, Try.ntmps54
  go_wp2_with (first | (go_at_call 70; refine C0.mono ?_; clear C0; rintro e w1 ⟨rfl, rfl⟩) | (go_at_call 70; refine C1.mono ?_; clear C1; rintro e w1 ⟨rfl, rfl⟩) | (go_at_call 70; refine C2.mono ?_; clear C2; rintro e w1 ⟨rfl, rfl⟩) | (go_at_call 70; refine C3.mono ?_; clear C3; rintro e w1 ⟨rfl, rfl⟩) | (go_at_call 70; refine C4.mono ?_; clear C4; rintro e w1 ⟨rfl, rfl⟩))
  go_ret2
  exact ⟨rfl, rfl⟩
end Go.Proofs.Ytiegbochpcmicaa
