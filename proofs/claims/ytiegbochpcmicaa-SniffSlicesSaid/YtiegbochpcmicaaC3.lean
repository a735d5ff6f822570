/- The walk of the document's Bytes of layer 2. No condition. -/
import Derived.Test.YtiegbochpcmicaaC2
namespace Go.Proofs.Ytiegbochpcmicaa
open Go.RowKit

set_option maxHeartbeats 2000000 in
theorem bytes40 (big : Bool) (A : Option Addr) (n c : Nat) (l : List Int) (w : World) (h : Rd w w.heap.size 1 A n c (ints .i32 l)) (hn : n ≤ 4096) :
    Calls Try.prog 40 #[.slice A n c, .bool big] w (BytesSaid (wencs big l) w) := by
  have HL := Lib.hid h.int_len
  have hcap := h.cap
  go_enter Try.func40, Try.ntmps40
  go_wp2_with fail
  go_loopw [5, 11] (fun out i wr => ∃ k : Nat, k ≤ n ∧ i = .int .i64 k ∧ wr.ownsRow w.heap.size 5 1 out (wws big l k) (ints .u8 (wencs big (l.take k))) ∧ Below w.heap.size w wr)
    (fun _ i _ => n - (intOf i).toNat)
  case atStart => exact ⟨0, Nat.zero_le _, rfl, World.ownsRow_nil _ _ _ _, Below.refl _ _⟩
  case round =>
    obtain ⟨k, hk, rfl, hown, hb⟩ := hrel
    have hwk := wws_le big l k
    have hsz := hb.size
    by_cases hlt : k < n
    · obtain ⟨b, off, rfl, hbb, hc⟩ := (h.below hb).int_form (by omega)
      have x0 := hc k hlt
      have HS := Lib.hid (wws_succ big l k (by rw [HL.out]; exact hlt))
      have HE := Lib.hid (wencs_snoc big l k (by rw [HL.out]; exact hlt))
      have CW := fun W => width38 (gz l k) W
      clear hc
      rcases ww_cases (gz l k) with ⟨hw, he⟩ | ⟨hw, h0, h1, he⟩ | ⟨hw, h0, h1, he⟩
      · have HE2 := Lib.hid (he big)
        have HW := Lib.hid hw
        rw [hw] at CW
        clear hw he
        go_wp2_with (go_at_call 38; refine (CW _).mono ?_; rintro e w1 ⟨rfl, rfl⟩)
        go_roundw
        case rel => exact ⟨k + 1, by omega, by go_num, own_as hown (by rw [HS.out, HW.out]; rfl) (by rw [HE.out, HE2.out, List.append_nil]), hb⟩
        case measure => simp [intOf]; omega
      · have HE2 := Lib.hid (he big)
        have HW := Lib.hid hw
        rw [hw] at CW
        clear hw he
        go_wp2_with (first | (go_at_call 38; refine (CW _).mono ?_; rintro e w1 ⟨rfl, rfl⟩) | (go_at_call 64; (refine (unit64 (gz l k) big _ (by omega)).mono ?_; rintro e w1 ⟨A1, c1, rfl, ho1, hb1⟩; have hr1 := Rd.of_own ho1; have hown1 := hown.kept (row := none) ⟨hb1.os, hb1.tape, hb1.output, hb1.size, fun k hk _ => hb1.block k hk⟩ (by simp; exact Classical.em _); have hb2 := hb.trans (hb1.mono hsz); clear ho1 hb1 hown)) | ((at_builtin; refine wpList_pushes st22' rfl _ _ rfl _ rfl hown1 rfl hr1 (ints_cells' _ _) (by omega) (by omega) hb2 (hb2.size) ?_; intro v2 w2 hown2 hb3 _; clear hown1 hr1)))
        go_roundw
        case rel => exact ⟨k + 1, by omega, by go_num, own_as hown2 (by rw [HS.out, HW.out]) (by rw [HE.out, HE2.out, ints, ints, ints, List.map_append]), hb3⟩
        case measure => simp [intOf]; omega
      · have HE2 := Lib.hid (he big)
        have HW := Lib.hid hw
        rw [hw] at CW
        clear hw he
        have CU1 := fun W => unit64 (55296 + (gz l k - 65536) / 1024) big W (by omega)
        have CU2 := fun W => unit64 (56320 + (gz l k - 65536) % 1024) big W (by omega)
        go_wp2_with (first | (go_at_call 38; refine (CW _).mono ?_; rintro e w1 ⟨rfl, rfl⟩) | (go_at_call 64; (refine (CU1 _).mono ?_; clear CU1; rintro e w1 ⟨A1, c1, rfl, ho1, hb1⟩; have hr1 := Rd.of_own ho1; have hown1 := hown.kept (row := none) ⟨hb1.os, hb1.tape, hb1.output, hb1.size, fun k hk _ => hb1.block k hk⟩ (by simp; exact Classical.em _); have hb2 := hb.trans (hb1.mono hsz); clear ho1 hb1 hown)) | (go_at_call 64; (refine (CU2 _).mono ?_; clear CU2; rintro e w3 ⟨A3, c3, rfl, ho3, hb4⟩; have hr3 := Rd.of_own ho3; have hown3 := hown2.kept (row := none) ⟨hb4.os, hb4.tape, hb4.output, hb4.size, fun k hk _ => hb4.block k hk⟩ (by simp; exact Classical.em _); have hb5 := hb3.trans (hb4.mono hb3.size); clear ho3 hb4 hown2)) | (at_builtin; refine wpList_pushes st22' rfl _ _ rfl _ rfl hown1 rfl hr1 (ints_cells' _ _) (by omega) (by omega) hb2 (hb2.size) ?_; intro v2 w2 hown2 hb3 _; clear hown1 hr1) | ((at_builtin; refine wpList_pushes st22' rfl _ _ rfl _ rfl hown3 rfl hr3 (ints_cells' _ _) (by omega) (by omega) hb5 (hb5.size) ?_; intro v4 w4 hown4 hb6 _; clear hown3 hr3)))
        go_roundw
        case rel => exact ⟨k + 1, by omega, by go_num, own_as hown4 (by rw [HS.out, HW.out]) (by rw [HE.out, HE2.out, ints, ints, ints, ints, List.map_append, List.map_append, List.append_assoc]), hb6⟩
        case measure => simp [intOf]; omega
    · obtain rfl : k = n := by omega
      go_wp2_with fail
      go_ret
      have ht : l.take k = l := List.take_of_length_le (by rw [HL.out]; exact Nat.le_refl _)
      unfold wws at hown
      rw [ht] at hown
      obtain ⟨A', c', hv, ho⟩ := own_form hown
      rw [hv]
      exact ⟨A', c', rfl, ho, hb⟩
end Go.Proofs.Ytiegbochpcmicaa
