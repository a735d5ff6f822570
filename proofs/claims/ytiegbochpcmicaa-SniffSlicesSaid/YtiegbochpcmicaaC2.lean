/- The walks of wide.Bytes and of the document's Bytes of layer 2. No condition. -/
import Derived.Test.YtiegbochpcmicaaC1
import Derived.Test.YtiegbochpcmicaaA1
namespace Go.Proofs.Ytiegbochpcmicaa
open Go.RowKit

/-- Runes' bytes in units. -/
def wencs (big : Bool) (l : List Int) : List Int := l.flatMap (wenc big)
theorem wencs_snoc (big : Bool) (l : List Int) (k : Nat) (h : k < l.length) : wencs big (l.take (k + 1)) = wencs big (l.take k) ++ wenc big (gz l k) := by
  rw [List.take_succ_eq_append_getElem h, wencs, wencs, List.flatMap_append]
  simp [gz, h]
theorem wencs_len_le (big : Bool) (l : List Int) : (wencs big l).length ≤ 4 * l.length := by
  induction l with
  | nil => simp [wencs]
  | cons a t ih =>
    have := wenc_len big a
    have := ww_le a
    simp only [wencs, List.flatMap_cons, List.length_append, List.length_cons] at ih ⊢
    omega
/-- How many bytes the first k runes have. -/
def wws (big : Bool) (l : List Int) (k : Nat) : Nat := (wencs big (l.take k)).length
theorem wws_succ (big : Bool) (l : List Int) (k : Nat) (h : k < l.length) : wws big l (k + 1) = wws big l k + ww (gz l k) := by
  unfold wws; rw [wencs_snoc big l k h, List.length_append, wenc_len]
theorem wws_le (big : Bool) (l : List Int) (k : Nat) : wws big l k ≤ 4 * k := by
  have := wencs_len_le big (l.take k)
  rw [List.length_take] at this
  unfold wws; omega
theorem ww_cases (r : Int) : (ww r = 0 ∧ ∀ b, wenc b r = []) ∨ (ww r = 2 ∧ 0 ≤ r ∧ r < 65536 ∧ ∀ b, wenc b r = ub b r) ∨ (ww r = 4 ∧ 65536 ≤ r ∧ r ≤ 1114111 ∧ ∀ b, wenc b r = ub b (55296 + (r - 65536) / 1024) ++ ub b (56320 + (r - 65536) % 1024)) := by
  by_cases h0 : wd r = 0
  · exact Or.inl ⟨by unfold ww; rw [if_pos h0], fun b => by unfold wenc; rw [if_pos h0]⟩
  · obtain ⟨p0, p1, p2⟩ := wd_pos h0
    by_cases h1 : r < 65536
    · exact Or.inr (Or.inl ⟨by unfold ww; rw [if_neg h0, if_pos h1], by omega, h1, fun b => by unfold wenc; rw [if_neg h0, if_pos h1]⟩)
    · exact Or.inr (Or.inr ⟨by unfold ww; rw [if_neg h0, if_neg h1], by omega, by omega, fun b => by unfold wenc; rw [if_neg h0, if_neg h1]⟩)

set_option maxHeartbeats 2000000 in
theorem bytes39 (big : Bool) (A : Option Addr) (n c : Nat) (l : List Int) (w : World) (h : Rd w w.heap.size 1 A n c (ints .i32 l)) (hn : n ≤ 4096) :
    Calls Try.prog 39 #[.bool big, .slice A n c] w (BytesSaid (wencs big l) w) := by
  have HL := Lib.hid h.int_len
  have hcap := h.cap
  go_enter Try.func39, Try.ntmps39
  go_wp2_with fail
  go_loopw [5, 10] (fun out i wr => ∃ k : Nat, k ≤ n ∧ i = .int .i64 k ∧ wr.ownsRow w.heap.size 5 1 out (wws big l k) (ints .u8 (wencs big (l.take k))) ∧ Below w.heap.size w wr)
    (fun _ i _ => n - (intOf i).toNat)
  case atStart => exact ⟨0, Nat.zero_le _, rfl, World.ownsRow_nil _ _ _ _, Below.refl _ _⟩
  case round =>
    obtain ⟨k, hk, rfl, hown, hb⟩ := hrel
    have hwk := wws_le big l k
    have hsz := hb.size
    by_cases hlt : k < n
    · obtain ⟨b, off, rfl, hbb, hc⟩ := (h.below hb).int_form (by omega)
      have x0 := hc k hlt
      have HS := Lib.hid (wws_succ big l k (by rw [HL.out]; exact hlt))
      have HE := Lib.hid (wencs_snoc big l k (by rw [HL.out]; exact hlt))
      have CW := fun W => width37 (gz l k) W
      clear hc
      rcases ww_cases (gz l k) with ⟨hw, he⟩ | ⟨hw, h0, h1, he⟩ | ⟨hw, h0, h1, he⟩
      · have HE2 := Lib.hid (he big)
        have HW := Lib.hid hw
        rw [hw] at CW
        clear hw he
        go_wp2_with (go_at_call 37; refine (CW _).mono ?_; rintro e w1 ⟨rfl, rfl⟩)
        go_roundw
        case rel => exact ⟨k + 1, by omega, by go_num, own_as hown (by rw [HS.out, HW.out]; rfl) (by rw [HE.out, HE2.out, List.append_nil]), hb⟩
        case measure => simp [intOf]; omega
      · have HE2 := Lib.hid (he big)
        have HW := Lib.hid hw
        rw [hw] at CW
        clear hw he
        have CP := put63 _ w.heap.size (wws big l k) _ big (gz l k) wr hown hsz (by omega) (by omega)
        go_wp2_with (first | (go_at_call 37; refine (CW _).mono ?_; rintro e w1 ⟨rfl, rfl⟩) | (go_at_call 63; refine CP.mono ?_; rintro e w2 ⟨v2, rfl, hown2, hb2⟩; clear CP))
        go_roundw
        case rel => exact ⟨k + 1, by omega, by go_num, own_as hown2 (by rw [HS.out, HW.out]) (by rw [HE.out, HE2.out, ints, ints, ints, List.map_append]), hb.trans hb2⟩
        case measure => simp [intOf]; omega
      · have HE2 := Lib.hid (he big)
        have HW := Lib.hid hw
        rw [hw] at CW
        clear hw he
        have m1 : bits BinOp.and IntKind.i32 (gz l k - 65536) 1023 = (gz l k - 65536) % 1024 := by
          have := bits_mask .i32 31 (by decide) wraps_i32 10 (by decide) (gz l k - 65536) (by omega) (by omega)
          rwa [show ((2 : Int) ^ 10 - 1) = 1023 by decide] at this
        have CP := put63 _ w.heap.size (wws big l k) _ big (55296 + (gz l k - 65536) / 1024) wr hown hsz (by omega) (by omega)
        have CP2 := fun v2 w2 (hown2 : World.ownsRow w2 w.heap.size 5 1 v2 _ _) hs2 => put63 v2 w.heap.size (wws big l k + 2) (ints .u8 (wencs big (l.take k)) ++ ints .u8 (ub big (55296 + (gz l k - 65536) / 1024))) big (56320 + (gz l k - 65536) % 1024) w2 hown2 hs2 (by omega) (by omega)
        go_wp2_with (first | (go_at_call 37; refine (CW _).mono ?_; rintro e w1 ⟨rfl, rfl⟩) | (go_at_call 63; refine CP.mono ?_; rintro e w2 ⟨v2, rfl, hown2, hb2⟩; clear CP) | (go_at_call 63; refine (CP2 _ _ hown2 (hb.trans hb2).size).mono ?_; rintro e w3 ⟨v3, rfl, hown3, hb3⟩; clear CP2))
        go_roundw
        case rel => exact ⟨k + 1, by omega, by go_num, own_as hown3 (by rw [HS.out, HW.out]) (by rw [HE.out, HE2.out, ints, ints, ints, ints, List.map_append, List.map_append, List.append_assoc]), (hb.trans hb2).trans hb3⟩
        case measure => simp [intOf]; omega
    · obtain rfl : k = n := by omega
      go_wp2_with fail
      go_ret
      have ht : l.take k = l := List.take_of_length_le (by rw [HL.out]; exact Nat.le_refl _)
      unfold wws at hown
      rw [ht] at hown
      obtain ⟨A', c', hv, ho⟩ := own_form hown
      rw [hv]
      exact ⟨A', c', rfl, ho, hb⟩
end Go.Proofs.Ytiegbochpcmicaa
