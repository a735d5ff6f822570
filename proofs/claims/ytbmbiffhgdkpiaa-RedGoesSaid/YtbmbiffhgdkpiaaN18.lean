/- The walk of chapter 10's example. No condition. -/
import Derived.Test.YtbmbiffhgdkpiaaN12
import Derived.Lib.SlBytesConst
namespace Go.Proofs.Ytbmbiffhgdkpiaa
open Go.RowKit

/-- 'string(b)', whatever the slice. -/
theorem run_str' {w : World} {B n c : Nat} {A : Option Addr} {zs : List Int} (h : Rd w B 1 A n c (ints .u8 zs)) :
    (convert 26 9 (.slice A n c)).run Try.prog w = .ok (.string (strOfNums zs)) w := by
  have hl := h.int_len
  by_cases hn : n = 0
  · subst hn
    have : zs = [] := List.eq_nil_of_length_eq_zero hl
    subst this
    rcases A with _ | ⟨b, off, sp⟩
    · exact run_convert_bytes_nil w 26 5 Try.underlying26 Try.underlying5 0 c 9 Try.underlying9
    · rw [run_convert_bytes_string w 26 9 5 _ 0 c Try.underlying26 Try.underlying5 Try.underlying9]
      simp [Conv.bytesToString, loadCells, loadCellsFrom]
      rfl
  · obtain ⟨b, off, rfl, _, hc⟩ := h.int_form (by omega)
    exact run_convert_bytes_arg w 26 5 Try.underlying26 Try.underlying5 b off n c zs hl (fun i hi => hc i hi) 9 Try.underlying9

/-- The example's nodes. -/
def exA : List GN := [⟨1, 2, 1, true, [97, 98], []⟩]
def exB : List GN := gbr exA 2 [0, 0]
def exC : List GN := exB ++ [⟨1, 1, 1, true, [99], []⟩]
def exD : List GN := (repN exC 1 [1] 2).1
theorem exA_ok : OkN exA := OkN.nil.lf 1 [97, 98]
theorem exB_ok : OkN exB := exA_ok.br 2 (by intro j hj; simp at hj; rcases j with _ | _ | j <;> simp [gz, exA] at hj ⊢) (by simp)
theorem exC_ok : OkN exC := exB_ok.lf 1 [99]
theorem exC_len : exC.length = 3 := rfl
theorem exD_rep : RepOk exC 1 [1] 2 (repN exC 1 [1] 2) := repN_ok exC_ok [1] 1 2 (by decide) (by decide) (by decide)
theorem exD_ok : OkN exD := exD_rep.ok
/-- A slice of bytes that was just made of a constant. -/
theorem Rd.litM (w : World) (cs : List Value) (fr : Nat × Nat) (n : Nat) (hl : cs.length = n) (hn : n ≤ 1048576) : Rd (w.alloc (.cells cs.toArray 5 fr)) (w.alloc (.cells cs.toArray 5 fr)).heap.size 1 (some ⟨w.heap.size, 0, none⟩) n n cs :=
  ⟨by omega, Nat.le_refl _, by unfold maxLen; omega, fun _ => ⟨w.heap.size, 0, rfl, by simp, fun j u hu => by
    rw [cell_of_row (w.alloc (.cells cs.toArray 5 fr)) w.heap.size (0 + j) cs.toArray 5 fr (heap_alloc_new w _)]; simpa using hu⟩⟩
theorem ex25 {w2 : World} {B ga : Nat} (a2 : Arena w2 B ga exA) (hB : B ≤ w2.heap.size) : Calls Try.prog 25 #[.pointer (some ⟨ga, 0, none⟩), .int .i64 2, .slice (some ⟨w2.heap.size, 0, none⟩) 2 2] (w2.alloc (.cells #[.int .i64 0, .int .i64 0] 3)) fun e w' => e = .returned (.tuple #[.int .i64 1, .int .i64 0]) ∧ Arena w' B ga exB ∧ Below B (w2.alloc (.cells #[.int .i64 0, .int .i64 0] 3)) w' := by
  refine (branch25 (a2.below ((Below.refl _ w2).alloc (Nat.le_refl _) _)) 2 _ 2 2 [0, 0] (Rd.lit w2 [.int .i64 0, .int .i64 0] 3 2 1 rfl (by omega)) (by decide) (by omega) (by simp; omega) (by decide) exA_ok.cnt).mono ?_
  rintro e w3 ⟨⟨rfl, _, a3⟩ | ⟨_, hk, _⟩, k3, b3⟩
  · exact ⟨rfl, a3, b3⟩
  · exact absurd (by intro j hj; rcases j with _ | _ | j <;> simp [gz, exA] at hj ⊢) hk
theorem ex26 {w3 : World} {B ga : Nat} (a3 : Arena w3 B ga exB) (hB : B ≤ w3.heap.size) : Calls Try.prog 26 #[.pointer (some ⟨ga, 0, none⟩), .int .i64 1, .slice (some ⟨w3.heap.size, 0, none⟩) 1 1] (w3.alloc (.cells #[.int .u8 99] 5 (1, 2))) fun e w' => e = .returned (.int .i64 2) ∧ Arena w' B ga exC ∧ Below B (w3.alloc (.cells #[.int .u8 99] 5 (1, 2))) w' := by
  refine (leaf26 (N := exB) (a3.below ((Below.refl _ w3).alloc (Nat.le_refl _) _)) 1 _ 1 1 [99] (Rd.litM w3 [.int .u8 99] _ 1 rfl (by omega)) (by decide) (by omega) (by simp; omega)).mono ?_
  rintro e w4 ⟨rfl, a4, k4, b4⟩
  exact ⟨rfl, a4, b4⟩
theorem ex22 {w4 : World} {B ga : Nat} (a4 : Arena w4 B ga exC) (hB : B ≤ w4.heap.size) : Calls Try.prog 22 #[.pointer (some ⟨ga, 0, none⟩), .int .i64 1, .int .i64 2, .slice (some ⟨w4.heap.size, 0, none⟩) 1 1] (w4.alloc (.cells #[.int .i64 1] 3)) fun e w' => e = .returned (.tuple #[.int .i64 3, .int .i64 0]) ∧ Arena w' B ga exD ∧ Below B (w4.alloc (.cells #[.int .i64 1] 3)) w' := by
  refine (replace22 (N := exC) (a4.below ((Below.refl _ w4).alloc (Nat.le_refl _) _)) exC_ok 1 2 _ 1 1 [1] (own_mono (World.ownsRow_lit w4 #[.int .i64 1] 1 (Nat.le_refl _) (by simp [maxLen]) rfl) (Nat.zero_le _)) (by omega) (by simp; omega) (by decide) (by decide)).mono ?_
  intro e w' h
  unfold RepSaid at h
  rw [if_pos ⟨⟨by decide, by decide, by decide⟩, by decide, by decide⟩] at h
  exact ⟨h.1, h.2.1, h.2.2.2⟩
theorem ex19 {W : World} {B ga : Nat} (a : Arena W B ga exD) : Calls Try.prog 19 #[.pointer (some ⟨ga, 0, none⟩), .int .i64 1] W fun e w' => ∃ A c, e = .returned (.slice A 4 c) ∧ (convert 26 9 (.slice A 4 c)).run Try.prog w' = .ok (.string ⟨#[97, 98, 97, 98]⟩) w' ∧ Below W.heap.size W w' := by
  refine (print19_in (N := exD) a exD_ok.good exD_ok.wide 1 (by decide) (by decide) (by decide)).mono ?_
  rintro e w' ⟨A, c, rfl, ho, hb⟩
  exact ⟨A, c, rfl, run_str' (Rd.of_own ho), hb⟩
theorem ex19' {W : World} {B ga : Nat} (a : Arena W B ga exD) : Calls Try.prog 19 #[.pointer (some ⟨ga, 0, none⟩), .int .i64 3] W fun e w' => ∃ A c, e = .returned (.slice A 3 c) ∧ (convert 26 9 (.slice A 3 c)).run Try.prog w' = .ok (.string ⟨#[97, 98, 99]⟩) w' ∧ Below W.heap.size W w' := by
  refine (print19_in (N := exD) a exD_ok.good exD_ok.wide 3 (by decide) (by decide) (by decide)).mono ?_
  rintro e w' ⟨A, c, rfl, ho, hb⟩
  exact ⟨A, c, rfl, run_str' (Rd.of_own ho), hb⟩
theorem ex18 {W : World} {B ga : Nat} (a : Arena W B ga exD) : Calls Try.prog 18 #[.pointer (some ⟨ga, 0, none⟩), .int .i64 1] W fun e w' => e = .returned (.int .i64 4) ∧ Below W.heap.size W w' := by
  refine (width18 (N := exD) a 1).mono ?_
  rintro e w' ⟨rfl, hb⟩
  exact ⟨rfl, hb⟩
set_option maxRecDepth 100000 in
set_option maxHeartbeats 4000000 in
theorem awake15 (w : World) : Calls Try.prog 15 #[] w fun e w' => e = .returned (.bool true) ∧ Below w.heap.size w w' := by
  have q26 := fun (w : World) (C : Array Value) (n c : Nat) => Lib.run_convert_bytes_const (P := Try.prog) w 26 5 C n c Try.underlying26 Try.underlying5
  go_enter Try.func15, Try.ntmps15
  go_wp2_with (first
    | (go_at_call 12; refine (new12 _).mono ?_; rintro e w1 ⟨rfl, a1, b1⟩; have s1 := b1.size; have B1 := Lib.hid b1; clear b1)
    | (go_at_call 26; refine (leaf26 (a1.below ((Below.refl _ w1).alloc (Nat.le_refl _) _)) 1 _ 2 2 [97, 98] (Rd.litM w1 [.int .u8 97, .int .u8 98] _ 2 rfl (by omega)) (by simp) (by omega) (by simp; omega)).mono ?_; rintro e w2 ⟨rfl, a2, k2, b2⟩; have B2 := Lib.hid ((B1.out.alloc s1 _).trans b2); have s2 := B2.out.size; clear a1 b2)
    | (go_at_call 25; refine (ex25 (a2 : Arena w2 _ _ exA) s2).mono ?_; rintro e w3 ⟨rfl, a3, b3⟩; have B3 := Lib.hid ((B2.out.alloc s2 _).trans b3); have s3 := B3.out.size; clear a2 b3)
    | (go_at_call 26; refine (ex26 a3 s3).mono ?_; rintro e w4 ⟨rfl, a4, b4⟩; have B4 := Lib.hid ((B3.out.alloc s3 _).trans b4); have s4 := B4.out.size; clear a3 b4)
    | (go_at_call 22; refine (ex22 a4 s4).mono ?_; rintro e w5 ⟨rfl, a5, b5⟩; have B5 := Lib.hid ((B4.out.alloc s4 _).trans b5); have s5 := B5.out.size; clear a4 b5)
    | (go_at_call 19; refine (ex19 a5).mono ?_; rintro e w6 ⟨A6, c6, rfl, r6, b6⟩; have a6 := a5.below b6; have B6 := Lib.hid (B5.out.trans (b6.mono s5)); have s6 := B6.out.size; clear a5 b6)
    | (go_at_call 18; refine (ex18 a6).mono ?_; rintro e w7 ⟨rfl, b7⟩; have a7 := a6.below b7; have B7 := Lib.hid (B6.out.trans (b7.mono s6)); have s7 := B7.out.size; clear a6 b7)
    | (go_at_call 19; refine (ex19' a7).mono ?_; rintro e w8 ⟨A8, c8, rfl, r8, b8⟩; have B8 := Lib.hid (B7.out.trans (b8.mono s7)); clear a7 b8))
  go_ret
  exact ⟨rfl, B8.out⟩
end Go.Proofs.Ytbmbiffhgdkpiaa
