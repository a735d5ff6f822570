/- The walks of scan.Bytes and of the document's Bytes. No condition. -/
import Derived.Test.YtiegbochpcmicaaPlainEnc
namespace Go.Proofs.Ytiegbochpcmicaa
open Go.RowKit

theorem few30 (A : Option Addr) (n c : Nat) (w : World) (B : Nat) (xs : List Value) (h : Rd w B 1 A n c xs) :
    Calls Try.prog 30 #[.slice A n c] w fun e w' => e = .returned (.slice A (min n 60) c) ∧ w = w' := by
  have hcap := h.cap
  have hmax := h.max
  unfold maxLen at hmax
  clear h
  by_cases hn : 60 < n
  · have hm := Lib.hid (show min n 60 = 60 by omega)
    go_enter Try.func30, Try.ntmps30
    go_wp2
    go_ret
    exact ⟨by rw [hm.out]; simp, rfl⟩
  · have hm := Lib.hid (show min n 60 = n by omega)
    go_enter Try.func30, Try.ntmps30
    go_wp2
    go_ret
    exact ⟨by rw [hm.out]; rfl, rfl⟩
theorem few_facts {A : Option Addr} {n c : Nat} {zs : List Int} {w : World} (h : Rd w w.heap.size 1 A n c (ints .i32 zs)) : Rd w w.heap.size 1 A (min n 60) c (ints .i32 (zs.take 60)) := by
  have := (h.take (k := min n 60) (Nat.min_le_left _ _))
  rw [← List.map_take, Nat.mul_one] at this
  rw [ints, show zs.take 60 = zs.take (min n 60) by rw [List.take_eq_take_iff, h.int_len]; omega]
  exact this

theorem st22' : ST Try.prog 22 5 1 1 := ST.mk' (z := .int .u8 0) Try.underlying22 (by kernel_rfl) rfl (by decide)
theorem info5 : (Try.prog.info? 5).map (fun i => (i.zero, i.size, i.bytes)) = some (some (.int .u8 0), 1, 1) := by kernel_rfl
theorem ints_cells' (k : IntKind) (zs : List Int) : ∀ u ∈ ints k zs, u.oneCell' = true := by
  intro u hu
  simp at hu
  obtain ⟨z, _, rfl⟩ := hu
  rfl

def BytesSaid (zs : List Int) (w : World) (e : Ending) (w' : World) : Prop :=
  ∃ A c, e = .returned (.slice A zs.length c) ∧ w'.ownsRow w.heap.size 5 1 (.slice A zs.length c) zs.length (ints .u8 zs) ∧ Below w.heap.size w w'

set_option maxHeartbeats 1000000 in
theorem bytes33 (A : Option Addr) (n c : Nat) (l : List Int) (w : World) (h : Rd w w.heap.size 1 A n c (ints .i32 l)) (hn : n ≤ 4096) :
    Calls Try.prog 33 #[.slice A n c] w (BytesSaid (encs l) w) := by
  have HL := Lib.hid h.int_len
  have hcap := h.cap
  go_enter Try.func33, Try.ntmps33
  go_wp2_with fail
  go_loopw [3, 8] (fun out i wr => ∃ k : Nat, k ≤ n ∧ i = .int .i64 k ∧ wr.ownsRow w.heap.size 5 1 out (wds l k) (ints .u8 (encs (l.take k))) ∧ Below w.heap.size w wr)
    (fun _ i _ => n - (intOf i).toNat)
  case atStart => exact ⟨0, Nat.zero_le _, rfl, World.ownsRow_nil _ _ _ _, Below.refl _ _⟩
  case round =>
    obtain ⟨k, hk, rfl, hown, hb⟩ := hrel
    have hwk := wds_le l k
    have hsz := hb.size
    by_cases hlt : k < n
    · obtain ⟨b, off, rfl, hbb, hc⟩ := (h.below hb).int_form (by omega)
      have x0 := hc k hlt
      have HS := Lib.hid (wds_succ l k (by rw [HL.out]; exact hlt))
      have HE := Lib.hid (encs_snoc l k (by rw [HL.out]; exact hlt))
      have h4 := wd_le (gz l k)
      clear hc
      go_wp2_with (first | (go_at_call 62; refine (rune62 _ _).mono ?_; rintro e w1 ⟨A1, c1, rfl, ho1, hb1⟩; have hr1 := Rd.of_own ho1; have hown1 := hown.kept (row := none) ⟨hb1.os, hb1.tape, hb1.output, hb1.size, fun k hk _ => hb1.block k hk⟩ (by cases hv : u3.ownBlock <;> simp); have hb2 := hb.trans (hb1.mono hsz); clear ho1 hb1 hown) | (at_builtin; refine wpList_pushes st22' rfl _ _ rfl _ rfl hown1 rfl hr1 (ints_cells' _ _) (by omega) (by omega) hb2 (hb2.size) ?_; intro v2 w2 hown2 hb3 _; clear hown1 hr1))
      go_roundw
      case rel => exact ⟨k + 1, by omega, by go_num, own_as hown2 HS.out.symm (by rw [HE.out, ints, ints, ints, List.map_append]), hb3⟩
      case measure => simp [intOf]; omega
    · obtain rfl : k = n := by omega
      go_wp2_with fail
      go_ret
      have ht : l.take k = l := List.take_of_length_le (by rw [HL.out]; exact Nat.le_refl _)
      unfold wds at hown
      rw [ht] at hown
      obtain ⟨A', c', hv, ho⟩ := own_form hown
      rw [hv]
      exact ⟨A', c', rfl, ho, hb⟩

set_option maxHeartbeats 1000000 in
theorem bytes32 (A : Option Addr) (n c : Nat) (l : List Int) (w : World) (h : Rd w w.heap.size 1 A n c (ints .i32 l)) (hn : n ≤ 4096) :
    Calls Try.prog 32 #[.slice A n c] w (BytesSaid (encs l) w) := by
  have HL := Lib.hid h.int_len
  have hcap := h.cap
  obtain ⟨i0, hi, hz0, hz1, hz2⟩ := info_parts info5
  go_enter Try.func32, Try.ntmps32
  go_wp2_with fail
  go_loopw [3, 8] (fun out i wr => ∃ k : Nat, k ≤ n ∧ i = .int .i64 k ∧ wr.ownsRow w.heap.size 5 1 out (wds l k) (ints .u8 (encs (l.take k))) ∧ Below w.heap.size w wr)
    (fun _ i _ => n - (intOf i).toNat)
  case atStart => exact ⟨0, Nat.zero_le _, rfl, World.ownsRow_nil _ _ _ _, Below.refl _ _⟩
  case round =>
    obtain ⟨k, hk, rfl, hown, hb⟩ := hrel
    have hwk := wds_le l k
    have hsz := hb.size
    by_cases hlt : k < n
    · obtain ⟨b, off, rfl, hbb, hc⟩ := (h.below hb).int_form (by omega)
      have x0 := hc k hlt
      have HS := Lib.hid (wds_succ l k (by rw [HL.out]; exact hlt))
      have HE := Lib.hid (encs_snoc l k (by rw [HL.out]; exact hlt))
      have h4 := wd_le (gz l k)
      have CW := fun W => width26 (gz l k) W
      clear hc
      by_cases hw : wd (gz l k) = 0
      · have hez := Lib.hid (enc_zero hw)
        have HW := Lib.hid hw
        rw [hw] at CW
        clear hw
        go_wp2_with (go_at_call 26; refine (CW _).mono ?_; rintro e w1 ⟨rfl, rfl⟩)
        go_roundw
        case rel => exact ⟨k + 1, by omega, by go_num, own_as hown (by rw [HS.out, HW.out]; rfl) (by rw [HE.out, hez.out, List.append_nil]), hb⟩
        case measure => simp [intOf]; omega
      · have hsize : (Utf8.encode (gz l k)).size = wd (gz l k) := by rw [encode_nums hw, strOfNums_size, enc_len]
        have HZ := Lib.hid hsize
        have HC := Lib.hid (show Lib.strCells (Utf8.encode (gz l k)) = ints .u8 (enc (gz l k)) by rw [encode_nums hw, strCells_nums (enc_bytes _)])
        have hpos : (0 : Int) < (wd (gz l k) : Int) := by omega
        clear hw hsize
        go_wp2_with (first | (go_at_call 26; refine (CW _).mono ?_; rintro e w1 ⟨rfl, rfl⟩) | (at_builtin; refine Lib.wpList_append_own_string _ rfl _ _ 22 9 rfl w.heap.size 5 i0 Try.underlying22 Try.underlying9 hi hz0 hz1 hz2 _ _ _ rfl hown (Utf8.encode (gz l k)) rfl (by rw [HZ.out]; unfold maxLen; omega) (by rw [HZ.out]; omega) hsz ?_; intro v2 w2 hown2 hg2 _; have hb2 := below_append hb hsz hown hg2; clear hg2 hown))
        go_roundw
        case rel => exact ⟨k + 1, by omega, by go_num, own_as hown2 (by rw [HS.out, HZ.out]) (by rw [HE.out, HC.out, ints, ints, ints, List.map_append]), hb2⟩
        case measure => simp [intOf]; omega
    · obtain rfl : k = n := by omega
      go_wp2_with fail
      go_ret
      have ht : l.take k = l := List.take_of_length_le (by rw [HL.out]; exact Nat.le_refl _)
      unfold wds at hown
      rw [ht] at hown
      obtain ⟨A', c', hv, ho⟩ := own_form hown
      rw [hv]
      exact ⟨A', c', rfl, ho, hb⟩

/-- 'string(b)', whatever the slice. -/
theorem run_str' {w : World} {B n c : Nat} {A : Option Addr} {zs : List Int} (h : Rd w B 1 A n c (ints .u8 zs)) :
    (convert 22 9 (.slice A n c)).run Try.prog w = .ok (.string (strOfNums zs)) w := by
  have hl := h.int_len
  by_cases hn : n = 0
  · subst hn
    have : zs = [] := List.eq_nil_of_length_eq_zero hl
    subst this
    rcases A with _ | ⟨b, off, sp⟩
    · exact run_convert_bytes_nil w 22 5 Try.underlying22 Try.underlying5 0 c 9 Try.underlying9
    · rw [run_convert_bytes_string w 22 9 5 _ 0 c Try.underlying22 Try.underlying5 Try.underlying9]
      simp [Conv.bytesToString, loadCells, loadCellsFrom]
      rfl
  · obtain ⟨b, off, rfl, _, hc⟩ := h.int_form (by omega)
    exact run_convert_bytes_arg w 22 5 Try.underlying22 Try.underlying5 b off n c zs hl (fun i hi => hc i hi) 9 Try.underlying9
theorem run_str_eq {w : World} {B n c : Nat} {A : Option Addr} {zs : List Int} (h : Rd w B 1 A n c (ints .u8 zs)) : ∀ q, (convert 22 9 (.slice A n c)).run Try.prog (w.drewN q) = .ok (.string (strOfNums zs)) (w.drewN q) := fun q => run_str' (h.drewN q)
end Go.Proofs.Ytiegbochpcmicaa
