/- The walks of layer 2's small functions: Width, put, unit, few. No condition. -/
import Derived.Test.YtiegbochpcmicaaB5
namespace Go.Proofs.Ytiegbochpcmicaa
open Go.RowKit

/-- How many bytes a rune has in units. -/
def ww (r : Int) : Nat := if wd r = 0 then 0 else if r < 65536 then 2 else 4
/-- A unit's bytes. -/
def ub (big : Bool) (u : Int) : List Int := if big then [u / 256, u % 256] else [u % 256, u / 256]
/-- A rune's bytes in units. -/
def wenc (big : Bool) (r : Int) : List Int := if wd r = 0 then [] else if r < 65536 then ub big r else ub big (55296 + (r - 65536) / 1024) ++ ub big (56320 + (r - 65536) % 1024)
theorem ub_len (big : Bool) (u : Int) : (ub big u).length = 2 := by unfold ub; split <;> rfl
theorem wenc_len (big : Bool) (r : Int) : (wenc big r).length = ww r := by
  unfold wenc ww
  repeat' split
  all_goals simp [ub_len]
theorem ww_le (r : Int) : ww r ≤ 4 := by unfold ww; repeat' split
                                         all_goals omega
theorem wd_four {r : Int} (h : wd r ≠ 0) : (wd r = 4 ↔ ¬ r < 65536) ∧ wd r ≤ 4 := by
  have hp := wd_pos h
  unfold wd
  rw [if_neg (by omega)]
  repeat' split
  all_goals omega

theorem few36 (A : Option Addr) (n c : Nat) (w : World) (B : Nat) (xs : List Value) (h : Rd w B 1 A n c xs) :
    Calls Try.prog 36 #[.slice A n c] w fun e w' => e = .returned (.slice A (min n 60) c) ∧ w = w' := by
  have hcap := h.cap
  have hmax := h.max
  unfold maxLen at hmax
  clear h
  by_cases hn : 60 < n
  · have hm := Lib.hid (show min n 60 = 60 by omega)
    go_enter Try.func36, Try.ntmps36
    go_wp2
    go_ret
    exact ⟨by rw [hm.out]; simp, rfl⟩
  · have hm := Lib.hid (show min n 60 = n by omega)
    go_enter Try.func36, Try.ntmps36
    go_wp2
    go_ret
    exact ⟨by rw [hm.out]; rfl, rfl⟩

theorem width37 (r : Int) (w : World) : Calls Try.prog 37 #[.int .i32 r] w fun e w' => e = .returned (.int .i64 (ww r : Nat)) ∧ w = w' := by
  have CW := fun W => width26 r W
  by_cases h0 : wd r = 0
  · have HW := Lib.hid (show ww r = 0 by unfold ww; rw [if_pos h0])
    rw [h0] at CW
    clear h0
    go_enter Try.func37, Try.ntmps37
    go_wp2_with (go_at_call 26; refine (CW _).mono ?_; rintro e w' ⟨rfl, rfl⟩)
    go_ret
    exact ⟨by rw [HW.out]; rfl, rfl⟩
  · have t1 : (((wd r : Nat) : Int) == 0) = false := by simpa using h0
    by_cases h1 : r < 65536
    · have HW := Lib.hid (show ww r = 2 by unfold ww; rw [if_neg h0, if_pos h1])
      clear h0
      go_enter Try.func37, Try.ntmps37
      go_wp2_with (go_at_call 26; refine (CW _).mono ?_; rintro e w' ⟨rfl, rfl⟩)
      go_ret
      exact ⟨by rw [HW.out]; rfl, rfl⟩
    · have HW := Lib.hid (show ww r = 4 by unfold ww; rw [if_neg h0, if_neg h1])
      clear h0
      go_enter Try.func37, Try.ntmps37
      go_wp2_with (go_at_call 26; refine (CW _).mono ?_; rintro e w' ⟨rfl, rfl⟩)
      go_ret
      exact ⟨by rw [HW.out]; rfl, rfl⟩

theorem width38 (r : Int) (w : World) : Calls Try.prog 38 #[.int .i32 r] w fun e w' => e = .returned (.int .i64 (ww r : Nat)) ∧ w = w' := by
  have CW := fun W => width31 r W
  by_cases h0 : wd r = 0
  · have HW := Lib.hid (show ww r = 0 by unfold ww; rw [if_pos h0])
    rw [h0] at CW
    clear h0
    go_enter Try.func38, Try.ntmps38
    go_wp2_with (go_at_call 31; refine (CW _).mono ?_; rintro e w' ⟨rfl, rfl⟩)
    go_ret
    exact ⟨by rw [HW.out]; rfl, rfl⟩
  · obtain ⟨h4, _⟩ := wd_four h0
    by_cases h1 : r < 65536
    · have HW := Lib.hid (show ww r = 2 by unfold ww; rw [if_neg h0, if_pos h1])
      have t1 : (((wd r : Nat) : Int) == 4) = false := by have : wd r ≠ 4 := fun h => h4.1 h h1
                                                          simp; omega
      have t2 : (0 : Int) < ((wd r : Nat) : Int) := by omega
      clear h0 h4
      go_enter Try.func38, Try.ntmps38
      go_wp2_with (go_at_call 31; refine (CW _).mono ?_; rintro e w' ⟨rfl, rfl⟩)
      go_ret
      exact ⟨by rw [HW.out]; rfl, rfl⟩
    · have HW := Lib.hid (show ww r = 4 by unfold ww; rw [if_neg h0, if_neg h1])
      rw [h4.2 h1] at CW
      clear h0 h4
      go_enter Try.func38, Try.ntmps38
      go_wp2_with (go_at_call 31; refine (CW _).mono ?_; rintro e w' ⟨rfl, rfl⟩)
      go_ret
      exact ⟨by rw [HW.out]; rfl, rfl⟩

def UnitSaid (big : Bool) (u : Int) (w : World) (e : Ending) (w' : World) : Prop := ∃ A c, e = .returned (.slice A 2 c) ∧ w'.ownsRow w.heap.size 5 1 (.slice A 2 c) 2 (ints .u8 (ub big u)) ∧ Below w.heap.size w w'
theorem unit64 (u : Int) (big : Bool) (w : World) (h : 0 ≤ u ∧ u ≤ 65535) : Calls Try.prog 64 #[.int .i64 u, .bool big] w (UnitSaid big u w) := by
  obtain ⟨h0, h1⟩ := h
  have r1 : IntKind.u8.wrap (u / 256) = u / 256 := IntWalk.u8_in _ (by omega)
  have r2 : IntKind.u8.wrap (u % 256) = u % 256 := IntWalk.u8_in _ (by omega)
  cases big
  · go_enter Try.func64, Try.ntmps64
    go_wp2_with fail
    go_ret
    exact ⟨some ⟨w.heap.size, 0, none⟩, 2, rfl, own_lit w (ints .u8 [u % 256, u / 256]) 5 2 1 _ rfl (by omega) (Nat.le_refl _), (Below.refl _ _).alloc (Nat.le_refl _) _⟩
  · go_enter Try.func64, Try.ntmps64
    go_wp2_with fail
    go_ret
    exact ⟨some ⟨w.heap.size, 0, none⟩, 2, rfl, own_lit w (ints .u8 [u / 256, u % 256]) 5 2 1 _ rfl (by omega) (Nat.le_refl _), (Below.refl _ _).alloc (Nat.le_refl _) _⟩

def PutSaid (B : Nat) (n : Nat) (xs : List Value) (big : Bool) (v : Int) (w : World) (e : Ending) (w' : World) : Prop := ∃ v', e = .returned v' ∧ w'.ownsRow B 5 1 v' (n + 2) (xs ++ ints .u8 (ub big v)) ∧ Below B w w'
set_option maxHeartbeats 1000000 in
theorem put63 (o : Value) (B n : Nat) (xs : List Value) (big : Bool) (v : Int) (w : World) (ho : w.ownsRow B 5 1 o n xs) (hB : B ≤ w.heap.size) (hn : n ≤ 65536) (hv : 0 ≤ v ∧ v ≤ 65535) :
    Calls Try.prog 63 #[o, .bool big, .int .i32 v] w (PutSaid B n xs big v w) := by
  obtain ⟨h0, h1⟩ := hv
  have r1 : IntKind.u8.wrap (v / 256) = v / 256 := IntWalk.u8_in _ (by omega)
  have r2 : IntKind.u8.wrap v = v % 256 := by rw [IntKind.wrap_u8]
  cases big
  · have hr1 := Rd.lit w (ints .u8 [v % 256, v / 256]) 5 2 1 rfl (by omega)
    have ho1 := ho.alloc (.cells (ints .u8 [v % 256, v / 256]).toArray 5)
    have hb1 := (Below.refl B w).alloc hB (.cells (ints .u8 [v % 256, v / 256]).toArray 5)
    go_enter Try.func63, Try.ntmps63
    go_wp2_with (at_builtin; refine wpList_pushes st22' rfl _ _ rfl o rfl ho1 rfl hr1 (ints_cells' _ _) (by omega) (by omega) hb1 (Nat.le_trans hB hb1.size) ?_; intro v2 w2 hown2 hb3 _; clear ho1 hr1)
    go_ret
    exact ⟨v2, rfl, hown2, hb3⟩
  · have hr1 := Rd.lit w (ints .u8 [v / 256, v % 256]) 5 2 1 rfl (by omega)
    have ho1 := ho.alloc (.cells (ints .u8 [v / 256, v % 256]).toArray 5)
    have hb1 := (Below.refl B w).alloc hB (.cells (ints .u8 [v / 256, v % 256]).toArray 5)
    go_enter Try.func63, Try.ntmps63
    go_wp2_with (at_builtin; refine wpList_pushes st22' rfl _ _ rfl o rfl ho1 rfl hr1 (ints_cells' _ _) (by omega) (by omega) hb1 (Nat.le_trans hB hb1.size) ?_; intro v2 w2 hown2 hb3 _; clear ho1 hr1)
    go_ret
    exact ⟨v2, rfl, hown2, hb3⟩
end Go.Proofs.Ytiegbochpcmicaa
