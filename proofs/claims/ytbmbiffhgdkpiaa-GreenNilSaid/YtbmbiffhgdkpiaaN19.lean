/- The walk of the law GreenNil. No condition. -/
import Derived.Test.YtbmbiffhgdkpiaaN18
namespace Go.Proofs.Ytbmbiffhgdkpiaa
open Go.RowKit

set_option maxRecDepth 100000 in
set_option maxHeartbeats 4000000 in
theorem walk6 (n : Int) (A : Option Addr) (m c : Nat) (w : World) : Calls Try.prog 6 #[.int .i64 n, .slice A m c] w fun e w' => e = .returned (.bool true) ∧ Below w.heap.size w w' := by
  have b0 := (Below.refl w.heap.size w).alloc (Nat.le_refl _) (.cells #[.int .i64 n] 3)
  have B0 := Lib.hid b0
  have s0 := b0.size
  clear b0
  go_enter Try.func6, Try.ntmps6
  go_wp2_with (first
    | (go_at_call 25; refine (branch25_nil _ _ _ _ _).mono ?_; rintro e w1 ⟨rfl, rfl⟩)
    | (go_at_call 20; refine (at20_nil _ _ _ _ _).mono ?_; rintro e w1 ⟨rfl, rfl⟩)
    | (go_at_call 22; refine (replace22_nil _ _ _ _ _ _).mono ?_; rintro e w1 ⟨rfl, rfl⟩)
    | (go_at_call 26; refine (leaf26_nil _ _ _ _ _).mono ?_; rintro e w1 ⟨rfl, rfl⟩)
    | (go_at_call 23; refine (kind23_nil _ _).mono ?_; rintro e w1 ⟨rfl, b1⟩; have B1 := Lib.hid (B0.out.trans (b1.mono s0)); have s1 := B1.out.size; clear b1)
    | (go_at_call 18; refine (width18_nil _ _).mono ?_; rintro e w2 ⟨rfl, b2⟩; have B2 := Lib.hid (B1.out.trans (b2.mono s1)); have s2 := B2.out.size; clear b2)
    | (go_at_call 27; refine (bytes27_nil _ _).mono ?_; rintro e w3 ⟨A3, c3, rfl, b3⟩; have B3 := Lib.hid (B2.out.trans (b3.mono s2)); have s3 := B3.out.size; clear b3)
    | (go_at_call 28; refine (kids28_nil _ _).mono ?_; rintro e w4 ⟨A4, c4, rfl, b4⟩; have B4 := Lib.hid (B3.out.trans (b4.mono s3)); have s4 := B4.out.size; clear b4)
    | (go_at_call 29; refine (leafy29_nil _ _).mono ?_; rintro e w5 ⟨rfl, b5⟩; have B5 := Lib.hid (B4.out.trans (b5.mono s4)); have s5 := B5.out.size; clear b5)
    | (go_at_call 17; refine (len17_nil _).mono ?_; rintro e w6 ⟨rfl, rfl⟩)
    | (go_at_call 19; refine (print19_nil _ _).mono ?_; rintro e w7 ⟨rfl, rfl⟩)
    | (go_at_call 30; refine (count30_nil _ _).mono ?_; rintro e w8 ⟨rfl, b8⟩; have B8 := Lib.hid (B5.out.trans (b8.mono s5)); have s8 := B8.out.size; clear b8)
    | (go_at_call 15; refine (awake15 _).mono ?_; rintro e w9 ⟨rfl, b9⟩; have B9 := Lib.hid (B8.out.trans (b9.mono s8)); clear b9))
  go_ret
  exact ⟨rfl, B9.out⟩
end Go.Proofs.Ytbmbiffhgdkpiaa
