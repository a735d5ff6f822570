/- The walk of sniff.Offsets. No condition. -/
import Derived.Test.YtiegbochpcmicaaE5
import Derived.Test.YtiegbochpcmicaaPlainOff
namespace Go.Proofs.Ytiegbochpcmicaa
open Go.RowKit

set_option maxRecDepth 100000 in
set_option maxHeartbeats 1000000 in
theorem offsets55 (kind : Int) (A : Option Addr) (n c : Nat) (l : List Int) (w : World) (h : Rd w w.heap.size 1 A n c (ints .i32 l)) (hn : n ≤ 60) :
    Calls Try.prog 55 #[.int .i64 kind, .slice A n c] w fun e w' => ∃ A' c', e = .returned (.slice A' (n + 1) c') ∧ Rd w' w'.heap.size 1 A' (n + 1) c' (ints .i64 (pOffs kind l n)) ∧ Below w.heap.size w w' := by
  have HL := Lib.hid h.int_len
  have C51 := fun W r => encode51 kind (some ⟨W.heap.size, 0, none⟩) 1 1 [r] _ (Rd.lit W (ints .i32 [r]) 21 1 1 rfl (by omega)) (by omega)
  have HS := Lib.hid (pOff_succ kind l)
  have HLE := Lib.hid (pOff_le kind l)
  have h0 := World.ownsRow_lit (base := w.heap.size) (e := 3) (size := 1) w #[.int .i64 0] 1 (Nat.le_refl _) (by simp [maxLen]) rfl
  go_enter Try.func55, Try.ntmps55
  go_wp2_with fail
  go_loopw [5, 6, 12] (fun at_ out i wr => ∃ k : Nat, k ≤ n ∧ i = .int .i64 k ∧ at_ = .int .i64 (pOff kind l k : Nat) ∧ wr.ownsRow w.heap.size 3 1 out (k + 1) (ints .i64 (pOffs kind l k)) ∧ Below w.heap.size w wr)
    (fun _ _ i _ => n - (intOf i).toNat)
  case atStart => exact ⟨0, Nat.zero_le _, rfl, by rw [pOff_zero]; rfl, by rw [pOffs_zero]; exact h0, (Below.refl _ _).alloc (Nat.le_refl _) _⟩
  case round =>
    obtain ⟨k, hk, rfl, rfl, hown, hb⟩ := hrel
    have hsz := hb.size
    by_cases hlt : k < n
    · obtain ⟨b, off, rfl, hbb, hc⟩ := (h.below hb).int_form (by omega)
      have x0 := hc k hlt
      have hs := HS.out k (by rw [HL.out]; exact hlt)
      have hle := HLE.out (k + 1)
      rw [HL.out] at hle
      have C := C51 wr (gz l k)
      clear hc
      generalize gz l k = r at x0 hs C
      generalize hbs : pEnc kind [r] = bs at hs C
      have hsl : bs.length ≤ 4 := by rw [← hbs]; exact pEnc_len kind [r]
      clear hbs
      have HSK := Lib.hid hs
      have t1 : IntKind.i64.wrap ((pOff kind l k : Int) + (bs.length : Int)) = (pOff kind l k : Int) + (bs.length : Int) := IntWalk.i64_in _ (by omega)
      clear hs
      generalize pOff kind l k = q at *
      go_wp2_with (first | (go_at_call 51; refine C.mono ?_; rintro e w1 ⟨A1, c1, rfl, ho1, hb1⟩; clear C; have hown1 := own_below (hown.alloc (.cells (ints .i32 [r]).toArray 21)) hb1; have hb2 := (hb.alloc hsz (.cells (ints .i32 [r]).toArray 21)).trans (hb1.mono (by simp; omega)); have hsz2 := hb2.size; clear hown hb ho1 hb1) | (at_builtin; refine wpList_push st48 rfl _ _ rfl _ rfl hown1 [.int .i64 ((q : Int) + (bs.length : Int))] w1.heap.size rfl rfl rfl (by simp [Value.oneCell']) (by omega) (by omega) hb2 hsz2 ?_; intro v1 w2 hown2 hb3 _; clear hown1 hb2))
      go_roundw
      case rel => exact ⟨k + 1, by omega, by go_num, by rw [HSK.out]; go_num, own_as hown2 rfl (by rw [pOffs_succ, HSK.out]; simp [ints]), hb3⟩
      case measure => simp [intOf]; omega
    · obtain rfl : k = n := by omega
      go_wp2_with fail
      go_ret
      obtain ⟨A', c', hv, ho⟩ := own_form hown
      rw [hv]
      exact ⟨A', c', rfl, .of_own ho, hb⟩
end Go.Proofs.Ytiegbochpcmicaa
