/- The walks of a text's At and String. No condition. -/
import Derived.Test.YtiegbochpcmicaaG3
namespace Go.Proofs.Ytiegbochpcmicaa
open Go.RowKit

/-- The first place that is not ahead of a byte: k of m. -/
def IsAt (O : List Int) (off : Int) (m k : Nat) : Prop := k ≤ m ∧ (∀ j, j < k → gz O j < off) ∧ (k = m ∨ off ≤ gz O k)
theorem isAt_uniq {O : List Int} {off : Int} {m a b : Nat} (h1 : IsAt O off m a) (h2 : IsAt O off m b) : a = b := by
  obtain ⟨a1, a2, a3⟩ := h1
  obtain ⟨b1, b2, b3⟩ := h2
  rcases Nat.lt_trichotomy a b with h | h | h
  · have := b2 a h
    omega
  · exact h
  · have := a2 b h
    omega

set_option maxHeartbeats 1000000 in
theorem at56 (kd p off : Int) (A1 A2 : Option Addr) (m c1 c2 : Nat) (O : List Int) (w : World) (hO : Rd w w.heap.size 1 A2 (m + 1) c2 (ints .i64 O)) (hm : m ≤ 4096) :
    Calls Try.prog 56 #[.agg #[.int .i64 kd, .int .i64 p, .slice A1 m c1, .slice A2 (m + 1) c2], .int .i64 off] w fun e w' => ∃ k : Nat, e = .returned (.int .i64 k) ∧ IsAt O off m k ∧ Below w.heap.size w w' := by
  obtain ⟨b, o, rfl, hbb, hc⟩ := hO.int_form (by omega)
  have HC := Lib.hid hc
  clear hc hO
  go_enter Try.func56, Try.ntmps56
  go_wp2_with fail
  go_loopw [15] (fun i wr => ∃ k : Nat, k ≤ m ∧ i = .int .i64 k ∧ Hid (∀ j, j < k → gz O j < off) ∧ Below w.heap.size w wr ∧ wr.cell? ⟨w.heap.size, 3, none⟩ = some (.slice (some ⟨b, o, none⟩) (m + 1) c2))
    (fun i _ => m - (intOf i).toNat)
  case atStart => exact ⟨0, Nat.zero_le _, rfl, Lib.hid (fun j hj => absurd hj (by omega)), (Below.refl _ _).alloc (Nat.le_refl _) _, cell_in w _ 3 _ _ rfl⟩
  case round =>
    obtain ⟨k, hk, rfl, HK, hb, y3⟩ := hrel
    by_cases hlt : k < m
    · have x0 := (hb.cell (p := ⟨b, o + k, none⟩) hbb).trans (HC.out k (by omega))
      by_cases hoff : off ≤ gz O k
      · have t0 : decide (off ≤ gz O k) = true := by simpa using hoff
        have HI := Lib.hid (show IsAt O off m k from ⟨hk, HK.out, .inr hoff⟩)
        clear hoff
        generalize gz O k = z at *
        go_wp2_with fail
        go_ret
        exact ⟨k, rfl, HI.out, hb⟩
      · have t0 : decide (off ≤ gz O k) = false := by simpa using hoff
        have HI := Lib.hid (show ∀ j, j < k + 1 → gz O j < off from fun j hj => by
          rcases Nat.lt_or_ge j k with h | h
          · exact HK.out j h
          · obtain rfl : j = k := by omega
            omega)
        clear hoff
        generalize gz O k = z at t0 x0
        go_wp2_with fail
        go_roundw
        case rel => exact ⟨k + 1, by omega, by go_num, HI, hb, y3⟩
        case measure => simp [intOf]; omega
    · obtain rfl : k = m := by omega
      have HI := Lib.hid (show IsAt O off k k from ⟨hk, HK.out, .inl rfl⟩)
      go_wp2_with fail
      go_ret
      exact ⟨k, rfl, HI.out, hb⟩

theorem string57_bad (kd p : Int) (A1 A2 : Option Addr) (m c1 n2 c2 : Nat) (i j : Int) (w : World) (hij : ¬ (0 ≤ i ∧ i ≤ j ∧ j ≤ m)) :
    Calls Try.prog 57 #[.agg #[.int .i64 kd, .int .i64 p, .slice A1 m c1, .slice A2 n2 c2], .int .i64 i, .int .i64 j] w fun e w' => e = .returned (.string ⟨#[]⟩) ∧ Below w.heap.size w w' := by
  have C68 := fun W => in68 kd p A1 A2 m c1 n2 c2 i j W
  rw [decide_eq_false hij] at C68
  clear hij
  go_enter Try.func57, Try.ntmps57
  go_wp2_with (go_at_call 68; refine (C68 _).mono ?_; rintro e w1 ⟨rfl, hb1⟩; clear C68)
  go_ret
  exact ⟨rfl, ((Below.refl _ _).alloc (Nat.le_refl _) _).trans (hb1.mono (by simp))⟩
end Go.Proofs.Ytiegbochpcmicaa
