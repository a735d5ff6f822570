/- The walks of made, short, same of paths, and the document's with. No condition. -/
import Derived.Test.YtbmbiffhgdkpiaaR8
import Derived.Test.YtbmbiffhgdkpiaaN24
namespace Go.Proofs.Ytbmbiffhgdkpiaa
open Go.RowKit

/-- Both, made by calls. -/
def MadeSaid (w : World) (e : Ending) (w' : World) : Prop := ∃ (A : Option Addr) (c : Nat) (N : List GN), e = .returned (.tuple #[.pointer (some ⟨w.heap.size, 0, none⟩), .slice A N.length c]) ∧ Both w' w.heap.size w.heap.size (.slice A N.length c) N ∧ N.length ≤ 90 ∧ Below w.heap.size w w'
set_option maxRecDepth 100000 in
set_option maxHeartbeats 4000000 in
theorem made31 (A : Option Addr) (n c : Nat) (w : World) (h : OpsIn w w.heap.size A n) : Calls Try.prog 31 #[.slice A n c] w (MadeSaid w) := by
  unfold MadeSaid
  have hmax := h.max
  unfold maxLen at hmax
  go_enter Try.func31, Try.ntmps31
  go_wp2_with (go_at_call 12; refine (new12 _).mono ?_; rintro e w1 ⟨rfl, a1, b1⟩)
  have B0 := both_new a1 b1
  clear a1
  go_loopw [5, 13] (fun v i wr => ∃ (k : Nat) (N : List GN), k ≤ n ∧ i = .int .i64 k ∧ N.length ≤ 5 * k ∧ N.length ≤ 90 ∧ Both wr w.heap.size w.heap.size v N ∧ Below w.heap.size w wr)
    (fun _ i _ => n - (intOf i).toNat)
  case atStart => exact ⟨0, [], Nat.zero_le _, rfl, by simp, by simp, B0, b1⟩
  case round =>
    obtain ⟨k, N, hk, rfl, hN, hN1, hB, hb⟩ := hrel
    obtain ⟨A4, c4, rfl, hB⟩ := hB.form
    have sr := hb.size
    by_cases hlt : k < n
    · obtain ⟨b, off, rfl, hbb, hi⟩ := (h.below hb).at_ (by omega)
      obtain ⟨o0, o1, o4, o5, AB, nB, cB, AK, nK, cK, AP', nP', cP', back, q0, q1, q2, q3, q4, q5, q6, q7, hop⟩ := hi k hlt
      clear hi
      have hal : ∀ o, Below wr.heap.size wr (wr.alloc o) := fun o => (Below.refl _ _).alloc (Nat.le_refl _) o
      by_cases h20 : k < 18
      · have C13 := fun o => step13 (hB.below (hal o)) (by omega) o0 o1 o4 o5 AB nB cB AK nK cK AP' nP' cP' back ⟨hop.b.imp fun _ h => h.alloc sr o, hop.k.imp fun _ h => h.alloc sr o, hop.p.imp fun _ h => h.alloc sr o⟩
        have HB := Lib.hid hB
        have HAL := Lib.hid hal
        clear hB hal hop
        unfold StepSaid at C13
        go_wp2_with (go_at_call 13; refine (C13 _).mono ?_; rintro e w2 ⟨v2, N2, rfl, hB2, hl1, hl2, hk2, hb2⟩; clear C13)
        go_roundw
        case rel => exact ⟨k + 1, N2, by omega, by go_num, by omega, by omega, hB2, hb.trans (((HAL.out _).mono sr).trans hb2)⟩
        case measure => simp [intOf]; omega
      · have HB := Lib.hid (fun o => hB.below (hal o))
        have HAL := Lib.hid hal
        clear hB hal hop
        go_wp2_with fail
        go_roundw
        case rel => exact ⟨k + 1, N, by omega, by go_num, by omega, by omega, HB.out _, hb.trans ((HAL.out _).mono sr)⟩
        case measure => simp [intOf]; omega
    · have HB := Lib.hid hB
      clear hB
      go_wp2_with fail
      go_ret2
      exact ⟨A4, c4, N, rfl, HB.out, hN1, hb⟩
theorem short49 {w : World} {B : Nat} (A : Option Addr) (n c : Nat) (l : List Int) (h : Rd w B 1 A n c (ints .i64 l)) : Calls Try.prog 49 #[.slice A n c] w fun e w' => ∃ n' l', e = .returned (.slice A n' c) ∧ n' ≤ 6 ∧ Rd w B 1 A n' c (ints .i64 l') ∧ w = w' := by
  have hcap := h.cap
  by_cases hn : 6 < n
  · have h6 := h.take (k := 6) (by omega)
    rw [Nat.mul_one, ← List.map_take] at h6
    have H6 := Lib.hid h6
    obtain ⟨b, off, rfl, _, _⟩ := h.int_form (by omega)
    have j6 : 6 ≤ c := by omega
    clear h h6
    go_enter Try.func49, Try.ntmps49
    go_wp2_with fail
    go_ret
    exact ⟨6, _, rfl, Nat.le_refl _, H6.out, rfl⟩
  · have H := Lib.hid h
    clear h
    go_enter Try.func49, Try.ntmps49
    go_wp2_with fail
    go_ret
    exact ⟨n, l, rfl, by omega, H.out, rfl⟩
set_option maxRecDepth 100000 in
set_option maxHeartbeats 1000000 in
theorem same62 {w : World} {B B' : Nat} (A A' : Option Addr) (n c c' : Nat) (l : List Int) (h : Rd w B 1 A n c (ints .i64 l)) (h' : Rd w B' 1 A' n c' (ints .i64 l)) (hn : n ≤ 4096) : Calls Try.prog 62 #[.slice A n c, .slice A' n c'] w fun e w' => e = .returned (.bool true) ∧ Below w.heap.size w w' := by
  go_enter Try.func62, Try.ntmps62
  go_wp2_with fail
  go_loopw [13] (fun i wr => ∃ k : Nat, k ≤ n ∧ i = .int .i64 k ∧ ∃ q, wr = w.drewN q)
    (fun i _ => n - (intOf i).toNat)
  case atStart => exact ⟨0, Nat.zero_le _, rfl, 0, rfl⟩
  case round =>
    obtain ⟨k, hk, rfl, q, rfl⟩ := hrel
    by_cases hlt : k < n
    · obtain ⟨b, off, rfl, _, hc⟩ := h.int_form (by omega)
      obtain ⟨b', off', rfl, _, hc'⟩ := h'.int_form (by omega)
      have x0 := hc k hlt
      have x1 := hc' k hlt
      have j1 : (k : Int) < (n : Int) := by omega
      clear hc hc'
      go_wp2_with fail
      go_quiet (fail)
      go_wp2_with fail
      go_roundw
      case rel => exact ⟨k + 1, by omega, by go_num, _, rfl⟩
      case measure => simp [intOf]; omega
    · go_wp2_with fail
      go_ret
      exact ⟨rfl, Below.drewN_ (Below.refl _ _) _⟩
set_option maxHeartbeats 1000000 in
theorem with63 {w : World} (A : Option Addr) (n c : Nat) (l : List Int) (z : Int) (h : Rd w w.heap.size 1 A n c (ints .i64 l)) (hn : n ≤ 65536) : Calls Try.prog 63 #[.slice A n c, .int .i64 z] w (OwnSaid 3 (n + 1) (ints .i64 (l ++ [z])) w) := by
  unfold OwnSaid
  have HL := Lib.hid (ints_snoc .i64 l z)
  go_enter Try.func63, Try.ntmps63
  go_wp2_with (first
    | (at_builtin; refine wpList_pushes st27 rfl _ _ rfl _ rfl (own_empty w 3 1 w.heap.size (Nat.le_refl _)) rfl (h.alloc (Nat.le_refl _) _) (ints_cells _ _) (by omega) (by omega) ((Below.refl _ w).alloc (Nat.le_refl _) _) (by simp) ?_; intro v1 w1 hown1 hb1 _; obtain ⟨A1, c1, rfl, hown1⟩ := own_form hown1; simp only [Nat.zero_add, List.nil_append] at hown1)
    | (at_builtin; refine wpList_push st27 rfl _ _ rfl _ rfl hown1 [.int .i64 z] _ rfl rfl rfl (by simp [Value.oneCell']) (by omega) (by omega) hb1 hb1.size ?_; intro v2 w2 hown2 hb2 _; obtain ⟨A2, c2, rfl, hown2⟩ := own_form hown2))
  go_ret
  exact ⟨A2, c2, rfl, by rw [HL.out]; exact hown2, hb2⟩
end Go.Proofs.Ytbmbiffhgdkpiaa
