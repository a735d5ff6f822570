/- The walks of scan.First and of the law ScanFirst. No condition. -/
import Derived.Test.YtiegbochpcmicaaB8
namespace Go.Proofs.Ytiegbochpcmicaa
open Go.RowKit

theorem sStep_take4 (zs : List Int) (h : 4 ≤ zs.length) : sStep (zs.take 4) 0 = sStep zs 0 := by
  have g0 : gz (zs.take 4) 0 = gz zs 0 := by simp [gz]
  have g1 : gz (zs.take 4) (0 + 1) = gz zs (0 + 1) := by simp [gz]
  have g2 : gz (zs.take 4) (0 + 2) = gz zs (0 + 2) := by simp [gz]
  have g3 : gz (zs.take 4) (0 + 3) = gz zs (0 + 3) := by simp [gz]
  unfold sStep
  rw [g0, g1, g2, g3, List.length_take, Nat.min_eq_left h]
  unfold dec
  simp only [show (2 ≤ 4 - 0) = (2 ≤ zs.length - 0) from propext ⟨fun _ => by omega, fun _ => by omega⟩, show (3 ≤ 4 - 0) = (3 ≤ zs.length - 0) from propext ⟨fun _ => by omega, fun _ => by omega⟩, show (4 ≤ 4 - 0) = (4 ≤ zs.length - 0) from propext ⟨fun _ => by omega, fun _ => by omega⟩]

set_option maxHeartbeats 1000000 in
/-- From the conversion on: at most four bytes. -/
theorem first34_low (A : Option Addr) (n c : Nat) (zs : List Int) (w : World) (h : Rd w w.heap.size 1 A n c (ints .u8 zs)) (hz : Bytes8 zs) (hn : n ≤ 4) :
    Calls Try.prog 34 #[.slice A n c] w fun e w' => e = .returned (.tuple #[.int .i32 (firstOf zs).1, .int .i64 (firstOf zs).2]) ∧ Below w.heap.size w w' := by
  have HL := Lib.hid h.int_len
  have hstr := run_str h
  have HZ := Lib.hid (strOfNums_size zs)
  go_enter Try.func34, Try.ntmps34
  go_wp2_with fail
  clear hstr
  go_loopw [] (fun wr => Hid (wr.heap[w.heap.size]? = some (.stringIter (strOfNums zs) 0)) ∧ Below w.heap.size w wr) (fun _ => 0)
  case atStart => exact ⟨World.iter_heap w _ 0, (Below.refl _ _).alloc (Nat.le_refl _) _⟩
  case round =>
    obtain ⟨HI, hb⟩ := hrel
    by_cases hp : 0 < zs.length
    · obtain ⟨W1, hnx, _, _, hb1, hs1⟩ := iter_on (P := Try.prog) HI.out (by rw [HZ.out]; exact hp) (World.ownsRow_nil wr (w.heap.size + 1) 30 3) (by omega) hb (Nat.le_refl _)
      clear hs1
      have CP := fun W => piece61 zs hz 0 hp (by rw [HL.out]; omega) _ rfl W
      generalize hd : Utf8.decode (strOfNums zs) 0 = d at hnx CP
      obtain ⟨d1, d2⟩ := d
      have HF := Lib.hid (show firstOf zs = sStep zs 0 by unfold firstOf; rw [if_neg (by omega)])
      clear hd HI hb
      go_wp2_with (go_at_call 61; refine (CP _).mono ?_; rintro e w' ⟨rfl, rfl⟩)
      go_ret2
      exact ⟨by rw [HF.out]; rfl, hb1⟩
    · have HF := Lib.hid (show firstOf zs = (0, 0) by unfold firstOf; rw [if_pos (by omega)])
      have hnx := fun ty => Lib.run_next_end_at (P := Try.prog) wr w.heap.size (strOfNums zs) 0 ty HI.out (by rw [HZ.out]; exact hp)
      go_wp2_with fail
      go_ret2
      exact ⟨by rw [HF.out]; rfl, hb⟩

set_option maxHeartbeats 1000000 in
theorem first34_high (A : Option Addr) (n c : Nat) (zs : List Int) (w : World) (h : Rd w w.heap.size 1 A n c (ints .u8 zs)) (hz : Bytes8 zs) (hn : 4 < n) :
    Calls Try.prog 34 #[.slice A n c] w fun e w' => e = .returned (.tuple #[.int .i32 (firstOf zs).1, .int .i64 (firstOf zs).2]) ∧ Below w.heap.size w w' := by
  have HL := Lib.hid h.int_len
  have hcap := h.cap
  have h4 := h.take (k := 4) (by omega)
  rw [← List.map_take, Nat.mul_one] at h4
  have hstr := run_str h4
  have hpos : 0 < (zs.take 4).length := by rw [List.length_take, HL.out]; omega
  have hle : (zs.take 4).length ≤ 4 := by rw [List.length_take]; omega
  have HF := Lib.hid (show firstOf zs = sStep (zs.take 4) 0 by unfold firstOf; rw [if_neg (by rw [HL.out]; omega), sStep_take4 zs (by rw [HL.out]; omega)])
  have hz4 := hz.take 4
  generalize zs.take 4 = ys at hstr hpos hle HF hz4
  clear h h4 hz
  have HZ := Lib.hid (strOfNums_size ys)
  go_enter Try.func34, Try.ntmps34
  go_wp2_with fail
  clear hstr
  go_loopw [] (fun wr => Hid (wr.heap[w.heap.size]? = some (.stringIter (strOfNums ys) 0)) ∧ Below w.heap.size w wr) (fun _ => 0)
  case atStart => exact ⟨World.iter_heap w _ 0, (Below.refl _ _).alloc (Nat.le_refl _) _⟩
  case round =>
    obtain ⟨HI, hb⟩ := hrel
    obtain ⟨W1, hnx, _, _, hb1, hs1⟩ := iter_on (P := Try.prog) HI.out (by rw [HZ.out]; exact hpos) (World.ownsRow_nil wr (w.heap.size + 1) 30 3) (by omega) hb (Nat.le_refl _)
    clear hs1
    have CP := fun W => piece61 ys hz4 0 hpos (by omega) _ rfl W
    generalize hd : Utf8.decode (strOfNums ys) 0 = d at hnx CP
    obtain ⟨d1, d2⟩ := d
    clear hd HI hb
    go_wp2_with (go_at_call 61; refine (CP _).mono ?_; rintro e w' ⟨rfl, rfl⟩)
    go_ret2
    exact ⟨by rw [HF.out]; rfl, hb1⟩
theorem first34 (A : Option Addr) (n c : Nat) (zs : List Int) (w : World) (h : Rd w w.heap.size 1 A n c (ints .u8 zs)) (hz : Bytes8 zs) :
    Calls Try.prog 34 #[.slice A n c] w fun e w' => e = .returned (.tuple #[.int .i32 (firstOf zs).1, .int .i64 (firstOf zs).2]) ∧ Below w.heap.size w w' := by
  by_cases hn : n ≤ 4
  · exact first34_low A n c zs w h hz hn
  · exact first34_high A n c zs w h hz (by omega)
theorem first35 (A : Option Addr) (n c : Nat) (zs : List Int) (w : World) (h : Rd w w.heap.size 1 A n c (ints .u8 zs)) (hz : Bytes8 zs) (hn : n ≤ 4096) :
    Calls Try.prog 35 #[.slice A n c] w fun e w' => e = .returned (.tuple #[.int .i32 (firstOf zs).1, .int .i64 (firstOf zs).2]) ∧ Below w.heap.size w w' := by
  have hl := h.int_len
  by_cases h0 : n = 0
  · subst h0
    refine (first35_nil A c w).mono fun e w' ⟨a, b⟩ => ⟨?_, b⟩
    rw [a]; unfold firstOf; rw [if_pos hl]; rfl
  · refine (first35_some A n c zs w h hz hn (by omega)).mono fun e w' ⟨a, b⟩ => ⟨?_, b⟩
    rw [a]; unfold firstOf; rw [if_neg (by omega)]

set_option maxHeartbeats 1000000 in
theorem walk8 (A : Option Addr) (n c : Nat) (zs : List Int) (w : World) (h : Rd w w.heap.size 1 A n c (ints .u8 zs)) (hz : Bytes8 zs) :
    Calls Try.prog 8 #[.slice A n c] w fun e w' => e = .returned (.bool true) ∧ Below w.heap.size w w' := by
  have hz2 := hz.take 200
  have hm : min n 200 ≤ 200 := Nat.min_le_right _ _
  have C20 := short24 A n c w _ _ h
  have h2' := short_facts h
  generalize min n 200 = m at h2' hm C20
  generalize zs.take 200 = ys at h2' hz2
  clear h hz
  have C34 := first34 A m c ys w h2' hz2
  have C35 := fun W hW => first35 A m c ys W hW hz2 (by omega)
  clear hz2
  generalize firstOf ys = f at C34 C35
  obtain ⟨r, k⟩ := f
  simp only at C34 C35
  go_enter Try.func8, Try.ntmps8
  go_wp2_with (first | (go_at_call 24; refine C20.mono ?_; rintro e w' ⟨⟨rfl, _⟩, rfl⟩; clear C20) | (go_at_call 34; refine C34.mono ?_; rintro e w1 ⟨rfl, hb1⟩; clear C34; have h3 := h2'.on hb1) | (go_at_call 35; refine (C35 _ h3).mono ?_; rintro e w2 ⟨rfl, hb2⟩; clear C35) | (go_at_call 27; refine (awake27 _).mono ?_; rintro e w3 ⟨rfl, hb3⟩))
  go_ret
  exact ⟨rfl, hb1.trans ((hb2.trans (hb3.mono hb2.size)).mono hb1.size)⟩
end Go.Proofs.Ytiegbochpcmicaa
