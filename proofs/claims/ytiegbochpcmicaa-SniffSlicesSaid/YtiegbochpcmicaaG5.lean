/- The walk of a text's String. No condition. -/
import Derived.Test.YtiegbochpcmicaaG4
namespace Go.Proofs.Ytiegbochpcmicaa
open Go.RowKit

theorem enc_bad : enc (-1) = [] := enc_zero (by decide)
theorem encs_one (r : Int) : encs [r] = enc r := by simp [encs]
theorem gz_sub {R : List Int} {i j k : Nat} (h : k < j - i) : gz ((R.drop i).take (j - i)) k = gz R (i + k) := by
  unfold gz
  rw [List.getD_eq_getElem?_getD, List.getD_eq_getElem?_getD, List.getElem?_take, if_pos h, List.getElem?_drop]
theorem sub_len {R : List Int} {i j : Nat} (h : j ≤ R.length) : ((R.drop i).take (j - i)).length = j - i := by
  rw [List.length_take, List.length_drop]; omega

theorem string57_zero (kd p : Int) (A1 A2 : Option Addr) (c1 n2 c2 : Nat) (w : World) :
    Calls Try.prog 57 #[.agg #[.int .i64 kd, .int .i64 p, .slice A1 0 c1, .slice A2 n2 c2], .int .i64 0, .int .i64 0] w fun e w' => e = .returned (.string ⟨#[]⟩) ∧ Below w.heap.size w w' := by
  have C68 := fun W => in68 kd p A1 A2 0 c1 n2 c2 0 0 W
  rw [decide_eq_true (show (0 : Int) ≤ 0 ∧ (0 : Int) ≤ 0 ∧ (0 : Int) ≤ (0 : Nat) by omega)] at C68
  go_enter Try.func57, Try.ntmps57
  go_wp2_with (go_at_call 68; refine (C68 _).mono ?_; rintro e w1 ⟨rfl, hb1⟩; clear C68; obtain ⟨hg, hb2⟩ := one_block hb1; obtain ⟨y0, y1, y2, y3⟩ := text_cells hg; have z2 := fun X => cell_old w1 w.heap.size 2 X _ y2; clear hb1 hg)
  all_goals
    go_loopw [21] (fun i wr => i = .int .i64 0 ∧ Lib.IsBuilder 86 5 w1.heap.size w1.heap.size [] wr ∧ Below w1.heap.size w1 wr)
      (fun _ _ => 0)
    case atStart => exact ⟨rfl, Lib.fresh_isBuilder 86 5 w1, (Below.refl _ _).alloc (Nat.le_refl _) _⟩
    case round =>
      obtain ⟨rfl, hbu, hb⟩ := hrel
      go_wp2_with (go_at_call 72; refine (string72 w1.heap.size w1.heap.size [] (by intro z hz; cases hz) wr hbu hb.size).mono ?_; rintro e w3 ⟨rfl, hb3⟩)
      go_ret
      exact ⟨rfl, hb2.trans ((hb.trans hb3).mono hb2.size)⟩

set_option maxRecDepth 100000 in
set_option maxHeartbeats 4000000 in
theorem string57_pos (kd p : Int) (A1 A2 : Option Addr) (m c1 n2 c2 i j : Nat) (R : List Int) (w : World) (hR : Rd w w.heap.size 1 A1 m c1 (ints .i32 R)) (hij : i ≤ j) (hjm : j ≤ m) (hm : m ≤ 4096) (hm0 : 0 < m) :
    Calls Try.prog 57 #[.agg #[.int .i64 kd, .int .i64 p, .slice A1 m c1, .slice A2 n2 c2], .int .i64 i, .int .i64 j] w fun e w' => e = .returned (.string (strOfNums (encs ((R.drop i).take (j - i))))) ∧ Below w.heap.size w w' := by
  have hRl := hR.int_len
  have hcap := hR.cap
  have hmax := hR.max
  unfold maxLen at hmax
  obtain ⟨b0, o0, rfl, hb0, hc⟩ := hR.int_form hm0
  have HC := Lib.hid hc
  clear hc hR
  have C68 := fun W => in68 kd p (some ⟨b0, o0, none⟩) A2 m c1 n2 c2 i j W
  rw [decide_eq_true (show (0 : Int) ≤ i ∧ (i : Int) ≤ j ∧ (j : Int) ≤ m by omega)] at C68
  have hsl := sub_len (R := R) (i := i) (j := j) (by omega)
  have HG := Lib.hid (fun k (h : k < j - i) => gz_sub (R := R) h)
  generalize (R.drop i).take (j - i) = sub at hsl HG
  have C32 := fun W r => bytes32 (some ⟨W.heap.size, 0, none⟩) 1 1 [r] _ (Rd.lit W (ints .i32 [r]) 21 1 1 rfl (by omega)) (by omega)
  have C72 := fun B b W h hB => string72 B b (encs sub) (encs_bytes sub) W h hB
  have HSL := Lib.hid hsl
  clear hsl
  go_enter Try.func57, Try.ntmps57
  go_wp2_with (go_at_call 68; refine (C68 _).mono ?_; rintro e w1 ⟨rfl, hb1⟩; clear C68; obtain ⟨hg, hb2⟩ := one_block hb1; obtain ⟨y0, y1, y2, y3⟩ := text_cells hg; have z2 := fun X => cell_old w1 w.heap.size 2 X _ y2; clear hb1 hg)
  all_goals
    have hh := Lib.hid h
    clear h y0 y1 y2 y3 z2
    go_loopw [21] (fun idx wr => ∃ k : Nat, k ≤ j - i ∧ idx = .int .i64 k ∧ Hid (Lib.IsBuilder 86 5 w1.heap.size w1.heap.size (ints .u8 (encs (sub.take k))) wr) ∧ Below w1.heap.size w1 wr)
      (fun idx _ => j - i - (intOf idx).toNat)
    case atStart => exact ⟨0, Nat.zero_le _, rfl, Lib.hid (Lib.fresh_isBuilder 86 5 w1), (Below.refl _ _).alloc (Nat.le_refl _) _⟩
    case round =>
      obtain ⟨k, hk, rfl, HB, hb⟩ := hrel
      have hsz := hb.size
      by_cases hlt : k < j - i
      · first
          | exact absurd hlt (by have hq := hh.out; omega)
          | have x0 : wr.cell? ⟨b0, o0 + i + k, none⟩ = some (.int .i32 (gz R (i + k))) := by
              rw [Nat.add_assoc]
              exact (((hb2.trans (hb.mono hb2.size)).cell (p := ⟨b0, o0 + (i + k), none⟩) hb0)).trans (HC.out (i + k) (by omega))
            rw [← HG.out k hlt] at x0
            have hts := encs_snoc sub k (by rw [HSL.out]; exact hlt)
            have hlen := encs_len_le (sub.take k)
            have hl2 : (sub.take k).length ≤ k := by rw [List.length_take]; omega
            have C := C32 wr (gz sub k)
            rw [encs_one] at C
            by_cases hr : gz sub k = -1
            · rw [hr, enc_bad, List.append_nil] at hts
              have HT := Lib.hid hts
              rw [hr] at x0
              clear hts C hr
              go_wp2_with fail
              go_roundw
              case rel => exact ⟨k + 1, by omega, by go_num, by rw [HT.out]; exact HB, hb⟩
              case measure => simp [intOf]; omega
            · have t0 : (gz sub k != -1) = true := by simpa using hr
              have HT := Lib.hid hts
              have HEL := Lib.hid (show (enc (gz sub k)).length ≤ 4 by rw [← encs_one]; exact encs_len_le [gz sub k])
              clear hts hr
              generalize hE : enc (gz sub k) = en at C HT HEL
              generalize gz sub k = r at *
              have hel := HEL.out
              clear hE
              go_wp2_with (first | (go_at_call 32; refine C.mono ?_; rintro e w2 ⟨A9, c9, rfl, ho2, hb3⟩; clear C; have hbu := builder_below HB.out (((Below.refl wr.heap.size wr).alloc (Nat.le_refl _) (.cells (ints .i32 [r]).toArray 21)).trans (hb3.mono (by simp))); have hb4 := hb.trans ((((Below.refl wr.heap.size wr).alloc (Nat.le_refl _) (.cells (ints .i32 [r]).toArray 21)).trans (hb3.mono (by simp))).mono hsz); have hr2 := Rd.of_own ho2; have hs4 := hb4.size; clear ho2 hb3 HB) | (go_at_call 71; refine (write71 _ _ _ _ _ _ en w2 hbu hr2 hs4 (by simp; omega)).mono ?_; rintro e w3 ⟨rfl, hbu3, hb5⟩; have HB3 := Lib.hid hbu3; clear hbu hr2 hbu3))
              go_roundw
              case rel => exact ⟨k + 1, by omega, by go_num, by rw [HT.out, ints, List.map_append]; exact HB3, hb4.trans hb5⟩
              case measure => simp [intOf]; omega
      · obtain rfl : k = j - i := by omega
        have hbu := HB.out
        rw [List.take_of_length_le (by rw [HSL.out]; exact Nat.le_refl _)] at hbu
        have C := C72 _ _ _ hbu hsz
        clear hbu
        go_wp2_with (go_at_call 72; refine C.mono ?_; rintro e w3 ⟨rfl, hb3⟩)
        go_ret
        exact ⟨rfl, hb2.trans ((hb.trans hb3).mono hb2.size)⟩

theorem string57 (kd p : Int) (A1 A2 : Option Addr) (m c1 n2 c2 i j : Nat) (R : List Int) (w : World) (hR : Rd w w.heap.size 1 A1 m c1 (ints .i32 R)) (hij : i ≤ j) (hjm : j ≤ m) (hm : m ≤ 4096) :
    Calls Try.prog 57 #[.agg #[.int .i64 kd, .int .i64 p, .slice A1 m c1, .slice A2 n2 c2], .int .i64 i, .int .i64 j] w fun e w' => e = .returned (.string (strOfNums (encs ((R.drop i).take (j - i))))) ∧ Below w.heap.size w w' := by
  rcases Nat.eq_zero_or_pos m with h0 | h0
  · subst h0
    obtain rfl : j = 0 := by omega
    obtain rfl : i = 0 := by omega
    exact string57_zero kd p A1 A2 c1 n2 c2 w
  · exact string57_pos kd p A1 A2 m c1 n2 c2 i j R w hR hij hjm hm h0
end Go.Proofs.Ytiegbochpcmicaa
