/- The walk of lex.ref. No condition. -/
import Derived.Test.YtibakihcicfeoaaGreatTm
namespace Go.Proofs.YtibakihcicfeoaaGreat
open Go.RowKit

theorem asc3 : Asc { data := #[38, 35, 120] } := ⟨by decide, by decide⟩
theorem asc2 : Asc { data := #[38, 35] } := ⟨by decide, by decide⟩
section
variable {w : World} (A : Option Addr) (n c : Nat) (l : List Int) (f : Nat) (a : Int) (ha : a = (f : Nat)) (h : Rd w w.heap.size 1 A n c (ints .i32 l)) (hn : n ≤ 65536)
include ha h hn
theorem run_i (F : FuncId) (p : Int → Bool) (hE : ∀ (args : Array Value) (w : World), (callFunc F args).run Tryz.prog w = .ok (.enter F args) w) (hF : ∀ (r : Int) (W : World), Calls Tryz.prog F #[.int .i32 r] W fun e w' => e = .returned (.bool (p r)) ∧ Below W.heap.size W w') (hf : f ≤ n) :
    Calls Tryz.prog 103 #[.slice A n c, .int .i64 a, .func (.func F) #[] #[]] w fun e w' => (∃ r : Nat, r ≤ n - f ∧ e = .returned (.int .i64 (r : Nat))) ∧ Below w.heap.size w w' := by
  subst ha
  have hl := h.int_len
  refine (run103 F p hE hF A n c l f h hf hn).mono ?_
  rintro e w' ⟨rfl, hb⟩
  exact ⟨⟨_, by have := runL_le p l f; omega, rfl⟩, hb⟩
theorem lead_i (hf : f ≤ 100000) : Calls Tryz.prog 156 #[.slice A n c, .int .i64 a] w fun e w' => (∃ r : Nat, r ≤ n - f ∧ e = .returned (.int .i64 (r : Nat))) ∧ Below w.heap.size w w' := by
  subst ha
  have hl := h.int_len
  refine (lead156 A n c l f h hn hf).mono ?_
  rintro e w' ⟨rfl, hb⟩
  exact ⟨⟨_, by have := leadL_le l f; omega, rfl⟩, hb⟩
theorem ended_i (m : Nat) (h1 : f ≤ 100000) (h2 : m ≤ 100000) : Calls Tryz.prog 160 #[.slice A n c, .int .i64 a, .int .i64 (m : Nat)] w (EndedSaid n f m w) := by
  subst ha
  exact ended160 A n c l f m h hn h1 h2
theorem starts_i (s : ByteArray) (hf : f ≤ n) (hs : Asc s) : Calls Tryz.prog 152 #[.slice A n c, .int .i64 a, .string s] w fun e w' => (∃ b : Bool, e = .returned (.bool b)) ∧ Below w.heap.size w w' := by
  subst ha
  refine (starts152 A n c l f s h hn hf hs.1 hs.2).mono ?_
  rintro e w' ⟨rfl, hb⟩
  exact ⟨⟨_, rfl⟩, hb⟩
end
theorem kept_at_b {w w' : World} {g : Nat} {ob : Obj} (hb : Below w.heap.size w w') (h : w.heap[g]? = some ob) : w'.heap[g]? = some ob := kept_at hb h
set_option maxRecDepth 100000 in
set_option maxHeartbeats 8000000 in
theorem ref102 {w : World} (A : Option Addr) (n c : Nat) (l : List Int) (at_ : Nat) (h : Rd w w.heap.size 1 A n c (ints .i32 l)) (hn : n ≤ 65536) (hat : at_ < n) :
    Calls Tryz.prog 102 #[.slice A n c, .int .i64 (at_ : Nat)] w (TokSaid n at_ w) := by
  have hal := (Below.refl w.heap.size w).alloc (Nat.le_refl _) (.cells (tk 0 0 0 false) 87)
  have HX := Lib.hid (tok_new w)
  have HAL := Lib.hid hal
  have HR := Lib.hid h
  have u1 : IntKind.i64.wrap ((at_ : Int) + 1) = (at_ : Int) + 1 := IntWalk.i64_in _ (by omega)
  have u2 : IntKind.i64.wrap ((at_ : Int) + 2) = (at_ : Int) + 2 := IntWalk.i64_in _ (by omega)
  have u3 : IntKind.i64.wrap ((at_ : Int) + 3) = (at_ : Int) + 3 := IntWalk.i64_in _ (by omega)
  have u4 : IntKind.i64.wrap ((at_ : Int) + 4) = (at_ : Int) + 4 := IntWalk.i64_in _ (by omega)
  clear h hal
  obtain ⟨m1, hm1⟩ : ∃ m1 : Nat, m1 = min (at_ + 2) n := ⟨_, rfl⟩
  obtain ⟨m2, hm2⟩ : ∃ m2 : Nat, m2 = min (at_ + 3) n := ⟨_, rfl⟩

  by_cases h2 : at_ + 2 ≤ n
  · by_cases h3 : at_ + 3 ≤ n
    · go_enter Tryz.func102, Tryz.ntmps102
      go_wp2_with fail
      refine (run_i A n c l m1 ((at_ : Int) + 2) (by omega) (HR.out.on HAL.out) hn 158 dgP enters158 digit158 (by omega)).mono ?_
      rintro e w2 ⟨⟨r1, hr1, rfl⟩, b2⟩
      have Bw2 := Lib.hid b2
      clear b2
      go_wp2_with fail
      refine (run_i A n c l m2 ((at_ : Int) + 3) (by omega) ((HR.out.on HAL.out).on Bw2.out) hn 159 hxP enters159 hex159 (by omega)).mono ?_
      rintro e w3 ⟨⟨r2, hr2, rfl⟩, b3⟩
      have Bw3 := Lib.hid (Bw2.out.trans (b3.mono Bw2.out.size))
      clear b3
      go_wp2_with fail
      refine (lead_i A n c l (at_ + 1) ((at_ : Int) + 1) (by omega) ((HR.out.on HAL.out).on Bw3.out) hn (by omega)).mono ?_
      rintro e w4 ⟨⟨r3, hr3, rfl⟩, b4⟩
      have Bw4 := Lib.hid (Bw3.out.trans (b4.mono Bw3.out.size))
      clear b4
      go_wp2_with fail
      refine (starts_i A n c l at_ (at_ : Nat) rfl ((HR.out.on HAL.out).on Bw4.out) hn _ (by omega) asc3).mono ?_
      rintro e w5 ⟨⟨s1, rfl⟩, b5⟩
      have Bw5 := Lib.hid (Bw4.out.trans (b5.mono Bw4.out.size))
      clear b5
      cases s1 with
      | true =>
        go_wp2_with fail
        refine (ended_i A n c l (at_ + 3) ((at_ : Int) + 3) (by omega) ((HR.out.on HAL.out).on Bw5.out) hn r2 (by omega) (by omega)).mono ?_
        rintro e _ ⟨b1, rfl, hb1, rfl⟩
        cases b1 with
        | true =>
          obtain ⟨g1, g2⟩ := hb1 rfl
          have u7 : IntKind.i64.wrap ((at_ : Int) + 4 + (r2 : Int)) = (at_ : Int) + 4 + (r2 : Int) := IntWalk.i64_in _ (by omega)
          clear hb1
          have hR := kept_at_b Bw5.out HX.out
          go_wp2_with (refine tok_put rfl _ _ rfl w.heap.size 3 (at_ : Nat) ((at_ : Int) + 4 + (r2 : Int)) true rfl rfl hR ?_; intro w9 hR3 hg3)
          exact bodyPost_ret (v := .agg (tk 3 (at_ : Nat) ((at_ : Int) + 4 + (r2 : Int)) true)) (results_cell_row rfl _ _ w.heap.size 87 _ (0, 0) _ rfl hR3 Tryz.underlying87 rfl (by kernel_rfl)) rfl ⟨3, at_ + 4 + r2, true, by rw [Int.natCast_add, Int.natCast_add]; rfl, by omega, by omega, Below.put (HAL.out.trans (Bw5.out.mono HAL.out.size)) (Nat.le_refl _) hg3 (Nat.le_trans HAL.out.size Bw5.out.size)⟩
        | false =>
          clear hb1
          go_wp2_with fail
          refine (starts_i A n c l at_ (at_ : Nat) rfl ((HR.out.on HAL.out).on Bw5.out) hn _ (by omega) asc2).mono ?_
          rintro e w5s ⟨⟨s2, rfl⟩, bw5s⟩
          have Bw5s := Lib.hid (Bw5.out.trans (bw5s.mono Bw5.out.size))
          clear bw5s
          cases s2 with
          | true =>
            go_wp2_with fail
            refine (ended_i A n c l (at_ + 2) ((at_ : Int) + 2) (by omega) ((HR.out.on HAL.out).on Bw5s.out) hn r1 (by omega) (by omega)).mono ?_
            rintro e _ ⟨b2, rfl, hb2, rfl⟩
            cases b2 with
            | true =>
              obtain ⟨g1, g2⟩ := hb2 rfl
              have u7 : IntKind.i64.wrap ((at_ : Int) + 3 + (r1 : Int)) = (at_ : Int) + 3 + (r1 : Int) := IntWalk.i64_in _ (by omega)
              clear hb2
              have hR := kept_at_b Bw5s.out HX.out
              go_wp2_with (refine tok_put rfl _ _ rfl w.heap.size 3 (at_ : Nat) ((at_ : Int) + 3 + (r1 : Int)) true rfl rfl hR ?_; intro w9 hR3 hg3)
              exact bodyPost_ret (v := .agg (tk 3 (at_ : Nat) ((at_ : Int) + 3 + (r1 : Int)) true)) (results_cell_row rfl _ _ w.heap.size 87 _ (0, 0) _ rfl hR3 Tryz.underlying87 rfl (by kernel_rfl)) rfl ⟨3, at_ + 3 + r1, true, by rw [Int.natCast_add, Int.natCast_add]; rfl, by omega, by omega, Below.put (HAL.out.trans (Bw5s.out.mono HAL.out.size)) (Nat.le_refl _) hg3 (Nat.le_trans HAL.out.size Bw5s.out.size)⟩
            | false =>
              clear hb2
              go_wp2_with fail
              refine (ended_i A n c l (at_ + 1) ((at_ : Int) + 1) (by omega) ((HR.out.on HAL.out).on Bw5s.out) hn r3 (by omega) (by omega)).mono ?_
              rintro e _ ⟨b3, rfl, hb3, rfl⟩
              cases b3 with
              | true =>
                obtain ⟨g1, g2⟩ := hb3 rfl
                have u7 : IntKind.i64.wrap ((at_ : Int) + 2 + (r3 : Int)) = (at_ : Int) + 2 + (r3 : Int) := IntWalk.i64_in _ (by omega)
                clear hb3
                have hR := kept_at_b Bw5s.out HX.out
                go_wp2_with (refine tok_put rfl _ _ rfl w.heap.size 2 (at_ : Nat) ((at_ : Int) + 2 + (r3 : Int)) true rfl rfl hR ?_; intro w9 hR3 hg3)
                exact bodyPost_ret (v := .agg (tk 2 (at_ : Nat) ((at_ : Int) + 2 + (r3 : Int)) true)) (results_cell_row rfl _ _ w.heap.size 87 _ (0, 0) _ rfl hR3 Tryz.underlying87 rfl (by kernel_rfl)) rfl ⟨2, at_ + 2 + r3, true, by rw [Int.natCast_add, Int.natCast_add]; rfl, by omega, by omega, Below.put (HAL.out.trans (Bw5s.out.mono HAL.out.size)) (Nat.le_refl _) hg3 (Nat.le_trans HAL.out.size Bw5s.out.size)⟩
              | false =>
                clear hb3
                have hR := kept_at_b Bw5s.out HX.out
                go_wp2_with (refine tok_put rfl _ _ rfl w.heap.size 11 (at_ : Nat) ((at_ : Int) + 1) false rfl rfl hR ?_; intro w9 hR3 hg3)
                exact bodyPost_ret (v := .agg (tk 11 (at_ : Nat) ((at_ : Int) + 1) false)) (results_cell_row rfl _ _ w.heap.size 87 _ (0, 0) _ rfl hR3 Tryz.underlying87 rfl (by kernel_rfl)) rfl ⟨11, at_ + 1, false, by rw [Int.natCast_add]; rfl, by omega, by omega, Below.put (HAL.out.trans (Bw5s.out.mono HAL.out.size)) (Nat.le_refl _) hg3 (Nat.le_trans HAL.out.size Bw5s.out.size)⟩
          | false =>
            go_wp2_with fail
            refine (ended_i A n c l (at_ + 1) ((at_ : Int) + 1) (by omega) ((HR.out.on HAL.out).on Bw5s.out) hn r3 (by omega) (by omega)).mono ?_
            rintro e _ ⟨b3, rfl, hb3, rfl⟩
            cases b3 with
            | true =>
              obtain ⟨g1, g2⟩ := hb3 rfl
              have u7 : IntKind.i64.wrap ((at_ : Int) + 2 + (r3 : Int)) = (at_ : Int) + 2 + (r3 : Int) := IntWalk.i64_in _ (by omega)
              clear hb3
              have hR := kept_at_b Bw5s.out HX.out
              go_wp2_with (refine tok_put rfl _ _ rfl w.heap.size 2 (at_ : Nat) ((at_ : Int) + 2 + (r3 : Int)) true rfl rfl hR ?_; intro w9 hR3 hg3)
              exact bodyPost_ret (v := .agg (tk 2 (at_ : Nat) ((at_ : Int) + 2 + (r3 : Int)) true)) (results_cell_row rfl _ _ w.heap.size 87 _ (0, 0) _ rfl hR3 Tryz.underlying87 rfl (by kernel_rfl)) rfl ⟨2, at_ + 2 + r3, true, by rw [Int.natCast_add, Int.natCast_add]; rfl, by omega, by omega, Below.put (HAL.out.trans (Bw5s.out.mono HAL.out.size)) (Nat.le_refl _) hg3 (Nat.le_trans HAL.out.size Bw5s.out.size)⟩
            | false =>
              clear hb3
              have hR := kept_at_b Bw5s.out HX.out
              go_wp2_with (refine tok_put rfl _ _ rfl w.heap.size 11 (at_ : Nat) ((at_ : Int) + 1) false rfl rfl hR ?_; intro w9 hR3 hg3)
              exact bodyPost_ret (v := .agg (tk 11 (at_ : Nat) ((at_ : Int) + 1) false)) (results_cell_row rfl _ _ w.heap.size 87 _ (0, 0) _ rfl hR3 Tryz.underlying87 rfl (by kernel_rfl)) rfl ⟨11, at_ + 1, false, by rw [Int.natCast_add]; rfl, by omega, by omega, Below.put (HAL.out.trans (Bw5s.out.mono HAL.out.size)) (Nat.le_refl _) hg3 (Nat.le_trans HAL.out.size Bw5s.out.size)⟩
      | false =>
        go_wp2_with fail
        refine (starts_i A n c l at_ (at_ : Nat) rfl ((HR.out.on HAL.out).on Bw5.out) hn _ (by omega) asc2).mono ?_
        rintro e w5s ⟨⟨s2, rfl⟩, bw5s⟩
        have Bw5s := Lib.hid (Bw5.out.trans (bw5s.mono Bw5.out.size))
        clear bw5s
        cases s2 with
        | true =>
          go_wp2_with fail
          refine (ended_i A n c l (at_ + 2) ((at_ : Int) + 2) (by omega) ((HR.out.on HAL.out).on Bw5s.out) hn r1 (by omega) (by omega)).mono ?_
          rintro e _ ⟨b2, rfl, hb2, rfl⟩
          cases b2 with
          | true =>
            obtain ⟨g1, g2⟩ := hb2 rfl
            have u7 : IntKind.i64.wrap ((at_ : Int) + 3 + (r1 : Int)) = (at_ : Int) + 3 + (r1 : Int) := IntWalk.i64_in _ (by omega)
            clear hb2
            have hR := kept_at_b Bw5s.out HX.out
            go_wp2_with (refine tok_put rfl _ _ rfl w.heap.size 3 (at_ : Nat) ((at_ : Int) + 3 + (r1 : Int)) true rfl rfl hR ?_; intro w9 hR3 hg3)
            exact bodyPost_ret (v := .agg (tk 3 (at_ : Nat) ((at_ : Int) + 3 + (r1 : Int)) true)) (results_cell_row rfl _ _ w.heap.size 87 _ (0, 0) _ rfl hR3 Tryz.underlying87 rfl (by kernel_rfl)) rfl ⟨3, at_ + 3 + r1, true, by rw [Int.natCast_add, Int.natCast_add]; rfl, by omega, by omega, Below.put (HAL.out.trans (Bw5s.out.mono HAL.out.size)) (Nat.le_refl _) hg3 (Nat.le_trans HAL.out.size Bw5s.out.size)⟩
          | false =>
            clear hb2
            go_wp2_with fail
            refine (ended_i A n c l (at_ + 1) ((at_ : Int) + 1) (by omega) ((HR.out.on HAL.out).on Bw5s.out) hn r3 (by omega) (by omega)).mono ?_
            rintro e _ ⟨b3, rfl, hb3, rfl⟩
            cases b3 with
            | true =>
              obtain ⟨g1, g2⟩ := hb3 rfl
              have u7 : IntKind.i64.wrap ((at_ : Int) + 2 + (r3 : Int)) = (at_ : Int) + 2 + (r3 : Int) := IntWalk.i64_in _ (by omega)
              clear hb3
              have hR := kept_at_b Bw5s.out HX.out
              go_wp2_with (refine tok_put rfl _ _ rfl w.heap.size 2 (at_ : Nat) ((at_ : Int) + 2 + (r3 : Int)) true rfl rfl hR ?_; intro w9 hR3 hg3)
              exact bodyPost_ret (v := .agg (tk 2 (at_ : Nat) ((at_ : Int) + 2 + (r3 : Int)) true)) (results_cell_row rfl _ _ w.heap.size 87 _ (0, 0) _ rfl hR3 Tryz.underlying87 rfl (by kernel_rfl)) rfl ⟨2, at_ + 2 + r3, true, by rw [Int.natCast_add, Int.natCast_add]; rfl, by omega, by omega, Below.put (HAL.out.trans (Bw5s.out.mono HAL.out.size)) (Nat.le_refl _) hg3 (Nat.le_trans HAL.out.size Bw5s.out.size)⟩
            | false =>
              clear hb3
              have hR := kept_at_b Bw5s.out HX.out
              go_wp2_with (refine tok_put rfl _ _ rfl w.heap.size 11 (at_ : Nat) ((at_ : Int) + 1) false rfl rfl hR ?_; intro w9 hR3 hg3)
              exact bodyPost_ret (v := .agg (tk 11 (at_ : Nat) ((at_ : Int) + 1) false)) (results_cell_row rfl _ _ w.heap.size 87 _ (0, 0) _ rfl hR3 Tryz.underlying87 rfl (by kernel_rfl)) rfl ⟨11, at_ + 1, false, by rw [Int.natCast_add]; rfl, by omega, by omega, Below.put (HAL.out.trans (Bw5s.out.mono HAL.out.size)) (Nat.le_refl _) hg3 (Nat.le_trans HAL.out.size Bw5s.out.size)⟩
        | false =>
          go_wp2_with fail
          refine (ended_i A n c l (at_ + 1) ((at_ : Int) + 1) (by omega) ((HR.out.on HAL.out).on Bw5s.out) hn r3 (by omega) (by omega)).mono ?_
          rintro e _ ⟨b3, rfl, hb3, rfl⟩
          cases b3 with
          | true =>
            obtain ⟨g1, g2⟩ := hb3 rfl
            have u7 : IntKind.i64.wrap ((at_ : Int) + 2 + (r3 : Int)) = (at_ : Int) + 2 + (r3 : Int) := IntWalk.i64_in _ (by omega)
            clear hb3
            have hR := kept_at_b Bw5s.out HX.out
            go_wp2_with (refine tok_put rfl _ _ rfl w.heap.size 2 (at_ : Nat) ((at_ : Int) + 2 + (r3 : Int)) true rfl rfl hR ?_; intro w9 hR3 hg3)
            exact bodyPost_ret (v := .agg (tk 2 (at_ : Nat) ((at_ : Int) + 2 + (r3 : Int)) true)) (results_cell_row rfl _ _ w.heap.size 87 _ (0, 0) _ rfl hR3 Tryz.underlying87 rfl (by kernel_rfl)) rfl ⟨2, at_ + 2 + r3, true, by rw [Int.natCast_add, Int.natCast_add]; rfl, by omega, by omega, Below.put (HAL.out.trans (Bw5s.out.mono HAL.out.size)) (Nat.le_refl _) hg3 (Nat.le_trans HAL.out.size Bw5s.out.size)⟩
          | false =>
            clear hb3
            have hR := kept_at_b Bw5s.out HX.out
            go_wp2_with (refine tok_put rfl _ _ rfl w.heap.size 11 (at_ : Nat) ((at_ : Int) + 1) false rfl rfl hR ?_; intro w9 hR3 hg3)
            exact bodyPost_ret (v := .agg (tk 11 (at_ : Nat) ((at_ : Int) + 1) false)) (results_cell_row rfl _ _ w.heap.size 87 _ (0, 0) _ rfl hR3 Tryz.underlying87 rfl (by kernel_rfl)) rfl ⟨11, at_ + 1, false, by rw [Int.natCast_add]; rfl, by omega, by omega, Below.put (HAL.out.trans (Bw5s.out.mono HAL.out.size)) (Nat.le_refl _) hg3 (Nat.le_trans HAL.out.size Bw5s.out.size)⟩
    · have q3 : n < at_ + 3 := by omega
      go_enter Tryz.func102, Tryz.ntmps102
      go_wp2_with fail
      refine (run_i A n c l m1 ((at_ : Int) + 2) (by omega) (HR.out.on HAL.out) hn 158 dgP enters158 digit158 (by omega)).mono ?_
      rintro e w2 ⟨⟨r1, hr1, rfl⟩, b2⟩
      have Bw2 := Lib.hid b2
      clear b2
      go_wp2_with fail
      refine (run_i A n c l m2 ((n : Int)) (by omega) ((HR.out.on HAL.out).on Bw2.out) hn 159 hxP enters159 hex159 (by omega)).mono ?_
      rintro e w3 ⟨⟨r2, hr2, rfl⟩, b3⟩
      have Bw3 := Lib.hid (Bw2.out.trans (b3.mono Bw2.out.size))
      clear b3
      go_wp2_with fail
      refine (lead_i A n c l (at_ + 1) ((at_ : Int) + 1) (by omega) ((HR.out.on HAL.out).on Bw3.out) hn (by omega)).mono ?_
      rintro e w4 ⟨⟨r3, hr3, rfl⟩, b4⟩
      have Bw4 := Lib.hid (Bw3.out.trans (b4.mono Bw3.out.size))
      clear b4
      go_wp2_with fail
      refine (starts_i A n c l at_ (at_ : Nat) rfl ((HR.out.on HAL.out).on Bw4.out) hn _ (by omega) asc3).mono ?_
      rintro e w5 ⟨⟨s1, rfl⟩, b5⟩
      have Bw5 := Lib.hid (Bw4.out.trans (b5.mono Bw4.out.size))
      clear b5
      cases s1 with
      | true =>
        go_wp2_with fail
        refine (ended_i A n c l (at_ + 3) ((at_ : Int) + 3) (by omega) ((HR.out.on HAL.out).on Bw5.out) hn r2 (by omega) (by omega)).mono ?_
        rintro e _ ⟨b1, rfl, hb1, rfl⟩
        cases b1 with
        | true =>
          obtain ⟨g1, g2⟩ := hb1 rfl
          clear hb1
          exfalso
          omega
        | false =>
          clear hb1
          go_wp2_with fail
          refine (starts_i A n c l at_ (at_ : Nat) rfl ((HR.out.on HAL.out).on Bw5.out) hn _ (by omega) asc2).mono ?_
          rintro e w5s ⟨⟨s2, rfl⟩, bw5s⟩
          have Bw5s := Lib.hid (Bw5.out.trans (bw5s.mono Bw5.out.size))
          clear bw5s
          cases s2 with
          | true =>
            go_wp2_with fail
            refine (ended_i A n c l (at_ + 2) ((at_ : Int) + 2) (by omega) ((HR.out.on HAL.out).on Bw5s.out) hn r1 (by omega) (by omega)).mono ?_
            rintro e _ ⟨b2, rfl, hb2, rfl⟩
            cases b2 with
            | true =>
              obtain ⟨g1, g2⟩ := hb2 rfl
              clear hb2
              exfalso
              omega
            | false =>
              clear hb2
              go_wp2_with fail
              refine (ended_i A n c l (at_ + 1) ((at_ : Int) + 1) (by omega) ((HR.out.on HAL.out).on Bw5s.out) hn r3 (by omega) (by omega)).mono ?_
              rintro e _ ⟨b3, rfl, hb3, rfl⟩
              cases b3 with
              | true =>
                obtain ⟨g1, g2⟩ := hb3 rfl
                clear hb3
                exfalso
                omega
              | false =>
                clear hb3
                have hR := kept_at_b Bw5s.out HX.out
                go_wp2_with (refine tok_put rfl _ _ rfl w.heap.size 11 (at_ : Nat) ((at_ : Int) + 1) false rfl rfl hR ?_; intro w9 hR3 hg3)
                exact bodyPost_ret (v := .agg (tk 11 (at_ : Nat) ((at_ : Int) + 1) false)) (results_cell_row rfl _ _ w.heap.size 87 _ (0, 0) _ rfl hR3 Tryz.underlying87 rfl (by kernel_rfl)) rfl ⟨11, at_ + 1, false, by rw [Int.natCast_add]; rfl, by omega, by omega, Below.put (HAL.out.trans (Bw5s.out.mono HAL.out.size)) (Nat.le_refl _) hg3 (Nat.le_trans HAL.out.size Bw5s.out.size)⟩
          | false =>
            go_wp2_with fail
            refine (ended_i A n c l (at_ + 1) ((at_ : Int) + 1) (by omega) ((HR.out.on HAL.out).on Bw5s.out) hn r3 (by omega) (by omega)).mono ?_
            rintro e _ ⟨b3, rfl, hb3, rfl⟩
            cases b3 with
            | true =>
              obtain ⟨g1, g2⟩ := hb3 rfl
              clear hb3
              exfalso
              omega
            | false =>
              clear hb3
              have hR := kept_at_b Bw5s.out HX.out
              go_wp2_with (refine tok_put rfl _ _ rfl w.heap.size 11 (at_ : Nat) ((at_ : Int) + 1) false rfl rfl hR ?_; intro w9 hR3 hg3)
              exact bodyPost_ret (v := .agg (tk 11 (at_ : Nat) ((at_ : Int) + 1) false)) (results_cell_row rfl _ _ w.heap.size 87 _ (0, 0) _ rfl hR3 Tryz.underlying87 rfl (by kernel_rfl)) rfl ⟨11, at_ + 1, false, by rw [Int.natCast_add]; rfl, by omega, by omega, Below.put (HAL.out.trans (Bw5s.out.mono HAL.out.size)) (Nat.le_refl _) hg3 (Nat.le_trans HAL.out.size Bw5s.out.size)⟩
      | false =>
        go_wp2_with fail
        refine (starts_i A n c l at_ (at_ : Nat) rfl ((HR.out.on HAL.out).on Bw5.out) hn _ (by omega) asc2).mono ?_
        rintro e w5s ⟨⟨s2, rfl⟩, bw5s⟩
        have Bw5s := Lib.hid (Bw5.out.trans (bw5s.mono Bw5.out.size))
        clear bw5s
        cases s2 with
        | true =>
          go_wp2_with fail
          refine (ended_i A n c l (at_ + 2) ((at_ : Int) + 2) (by omega) ((HR.out.on HAL.out).on Bw5s.out) hn r1 (by omega) (by omega)).mono ?_
          rintro e _ ⟨b2, rfl, hb2, rfl⟩
          cases b2 with
          | true =>
            obtain ⟨g1, g2⟩ := hb2 rfl
            clear hb2
            exfalso
            omega
          | false =>
            clear hb2
            go_wp2_with fail
            refine (ended_i A n c l (at_ + 1) ((at_ : Int) + 1) (by omega) ((HR.out.on HAL.out).on Bw5s.out) hn r3 (by omega) (by omega)).mono ?_
            rintro e _ ⟨b3, rfl, hb3, rfl⟩
            cases b3 with
            | true =>
              obtain ⟨g1, g2⟩ := hb3 rfl
              clear hb3
              exfalso
              omega
            | false =>
              clear hb3
              have hR := kept_at_b Bw5s.out HX.out
              go_wp2_with (refine tok_put rfl _ _ rfl w.heap.size 11 (at_ : Nat) ((at_ : Int) + 1) false rfl rfl hR ?_; intro w9 hR3 hg3)
              exact bodyPost_ret (v := .agg (tk 11 (at_ : Nat) ((at_ : Int) + 1) false)) (results_cell_row rfl _ _ w.heap.size 87 _ (0, 0) _ rfl hR3 Tryz.underlying87 rfl (by kernel_rfl)) rfl ⟨11, at_ + 1, false, by rw [Int.natCast_add]; rfl, by omega, by omega, Below.put (HAL.out.trans (Bw5s.out.mono HAL.out.size)) (Nat.le_refl _) hg3 (Nat.le_trans HAL.out.size Bw5s.out.size)⟩
        | false =>
          go_wp2_with fail
          refine (ended_i A n c l (at_ + 1) ((at_ : Int) + 1) (by omega) ((HR.out.on HAL.out).on Bw5s.out) hn r3 (by omega) (by omega)).mono ?_
          rintro e _ ⟨b3, rfl, hb3, rfl⟩
          cases b3 with
          | true =>
            obtain ⟨g1, g2⟩ := hb3 rfl
            clear hb3
            exfalso
            omega
          | false =>
            clear hb3
            have hR := kept_at_b Bw5s.out HX.out
            go_wp2_with (refine tok_put rfl _ _ rfl w.heap.size 11 (at_ : Nat) ((at_ : Int) + 1) false rfl rfl hR ?_; intro w9 hR3 hg3)
            exact bodyPost_ret (v := .agg (tk 11 (at_ : Nat) ((at_ : Int) + 1) false)) (results_cell_row rfl _ _ w.heap.size 87 _ (0, 0) _ rfl hR3 Tryz.underlying87 rfl (by kernel_rfl)) rfl ⟨11, at_ + 1, false, by rw [Int.natCast_add]; rfl, by omega, by omega, Below.put (HAL.out.trans (Bw5s.out.mono HAL.out.size)) (Nat.le_refl _) hg3 (Nat.le_trans HAL.out.size Bw5s.out.size)⟩
  · have q2 : n < at_ + 2 := by omega
    have q3 : n < at_ + 3 := by omega
    go_enter Tryz.func102, Tryz.ntmps102
    go_wp2_with fail
    refine (run_i A n c l m1 ((n : Int)) (by omega) (HR.out.on HAL.out) hn 158 dgP enters158 digit158 (by omega)).mono ?_
    rintro e w2 ⟨⟨r1, hr1, rfl⟩, b2⟩
    have Bw2 := Lib.hid b2
    clear b2
    go_wp2_with fail
    refine (run_i A n c l m2 ((n : Int)) (by omega) ((HR.out.on HAL.out).on Bw2.out) hn 159 hxP enters159 hex159 (by omega)).mono ?_
    rintro e w3 ⟨⟨r2, hr2, rfl⟩, b3⟩
    have Bw3 := Lib.hid (Bw2.out.trans (b3.mono Bw2.out.size))
    clear b3
    go_wp2_with fail
    refine (lead_i A n c l (at_ + 1) ((at_ : Int) + 1) (by omega) ((HR.out.on HAL.out).on Bw3.out) hn (by omega)).mono ?_
    rintro e w4 ⟨⟨r3, hr3, rfl⟩, b4⟩
    have Bw4 := Lib.hid (Bw3.out.trans (b4.mono Bw3.out.size))
    clear b4
    go_wp2_with fail
    refine (starts_i A n c l at_ (at_ : Nat) rfl ((HR.out.on HAL.out).on Bw4.out) hn _ (by omega) asc3).mono ?_
    rintro e w5 ⟨⟨s1, rfl⟩, b5⟩
    have Bw5 := Lib.hid (Bw4.out.trans (b5.mono Bw4.out.size))
    clear b5
    cases s1 with
    | true =>
      go_wp2_with fail
      refine (ended_i A n c l (at_ + 3) ((at_ : Int) + 3) (by omega) ((HR.out.on HAL.out).on Bw5.out) hn r2 (by omega) (by omega)).mono ?_
      rintro e _ ⟨b1, rfl, hb1, rfl⟩
      cases b1 with
      | true =>
        obtain ⟨g1, g2⟩ := hb1 rfl
        clear hb1
        exfalso
        omega
      | false =>
        clear hb1
        go_wp2_with fail
        refine (starts_i A n c l at_ (at_ : Nat) rfl ((HR.out.on HAL.out).on Bw5.out) hn _ (by omega) asc2).mono ?_
        rintro e w5s ⟨⟨s2, rfl⟩, bw5s⟩
        have Bw5s := Lib.hid (Bw5.out.trans (bw5s.mono Bw5.out.size))
        clear bw5s
        cases s2 with
        | true =>
          go_wp2_with fail
          refine (ended_i A n c l (at_ + 2) ((at_ : Int) + 2) (by omega) ((HR.out.on HAL.out).on Bw5s.out) hn r1 (by omega) (by omega)).mono ?_
          rintro e _ ⟨b2, rfl, hb2, rfl⟩
          cases b2 with
          | true =>
            obtain ⟨g1, g2⟩ := hb2 rfl
            clear hb2
            exfalso
            omega
          | false =>
            clear hb2
            go_wp2_with fail
            refine (ended_i A n c l (at_ + 1) ((at_ : Int) + 1) (by omega) ((HR.out.on HAL.out).on Bw5s.out) hn r3 (by omega) (by omega)).mono ?_
            rintro e _ ⟨b3, rfl, hb3, rfl⟩
            cases b3 with
            | true =>
              obtain ⟨g1, g2⟩ := hb3 rfl
              clear hb3
              exfalso
              omega
            | false =>
              clear hb3
              have hR := kept_at_b Bw5s.out HX.out
              go_wp2_with (refine tok_put rfl _ _ rfl w.heap.size 11 (at_ : Nat) ((at_ : Int) + 1) false rfl rfl hR ?_; intro w9 hR3 hg3)
              exact bodyPost_ret (v := .agg (tk 11 (at_ : Nat) ((at_ : Int) + 1) false)) (results_cell_row rfl _ _ w.heap.size 87 _ (0, 0) _ rfl hR3 Tryz.underlying87 rfl (by kernel_rfl)) rfl ⟨11, at_ + 1, false, by rw [Int.natCast_add]; rfl, by omega, by omega, Below.put (HAL.out.trans (Bw5s.out.mono HAL.out.size)) (Nat.le_refl _) hg3 (Nat.le_trans HAL.out.size Bw5s.out.size)⟩
        | false =>
          go_wp2_with fail
          refine (ended_i A n c l (at_ + 1) ((at_ : Int) + 1) (by omega) ((HR.out.on HAL.out).on Bw5s.out) hn r3 (by omega) (by omega)).mono ?_
          rintro e _ ⟨b3, rfl, hb3, rfl⟩
          cases b3 with
          | true =>
            obtain ⟨g1, g2⟩ := hb3 rfl
            clear hb3
            exfalso
            omega
          | false =>
            clear hb3
            have hR := kept_at_b Bw5s.out HX.out
            go_wp2_with (refine tok_put rfl _ _ rfl w.heap.size 11 (at_ : Nat) ((at_ : Int) + 1) false rfl rfl hR ?_; intro w9 hR3 hg3)
            exact bodyPost_ret (v := .agg (tk 11 (at_ : Nat) ((at_ : Int) + 1) false)) (results_cell_row rfl _ _ w.heap.size 87 _ (0, 0) _ rfl hR3 Tryz.underlying87 rfl (by kernel_rfl)) rfl ⟨11, at_ + 1, false, by rw [Int.natCast_add]; rfl, by omega, by omega, Below.put (HAL.out.trans (Bw5s.out.mono HAL.out.size)) (Nat.le_refl _) hg3 (Nat.le_trans HAL.out.size Bw5s.out.size)⟩
    | false =>
      go_wp2_with fail
      refine (starts_i A n c l at_ (at_ : Nat) rfl ((HR.out.on HAL.out).on Bw5.out) hn _ (by omega) asc2).mono ?_
      rintro e w5s ⟨⟨s2, rfl⟩, bw5s⟩
      have Bw5s := Lib.hid (Bw5.out.trans (bw5s.mono Bw5.out.size))
      clear bw5s
      cases s2 with
      | true =>
        go_wp2_with fail
        refine (ended_i A n c l (at_ + 2) ((at_ : Int) + 2) (by omega) ((HR.out.on HAL.out).on Bw5s.out) hn r1 (by omega) (by omega)).mono ?_
        rintro e _ ⟨b2, rfl, hb2, rfl⟩
        cases b2 with
        | true =>
          obtain ⟨g1, g2⟩ := hb2 rfl
          clear hb2
          exfalso
          omega
        | false =>
          clear hb2
          go_wp2_with fail
          refine (ended_i A n c l (at_ + 1) ((at_ : Int) + 1) (by omega) ((HR.out.on HAL.out).on Bw5s.out) hn r3 (by omega) (by omega)).mono ?_
          rintro e _ ⟨b3, rfl, hb3, rfl⟩
          cases b3 with
          | true =>
            obtain ⟨g1, g2⟩ := hb3 rfl
            clear hb3
            exfalso
            omega
          | false =>
            clear hb3
            have hR := kept_at_b Bw5s.out HX.out
            go_wp2_with (refine tok_put rfl _ _ rfl w.heap.size 11 (at_ : Nat) ((at_ : Int) + 1) false rfl rfl hR ?_; intro w9 hR3 hg3)
            exact bodyPost_ret (v := .agg (tk 11 (at_ : Nat) ((at_ : Int) + 1) false)) (results_cell_row rfl _ _ w.heap.size 87 _ (0, 0) _ rfl hR3 Tryz.underlying87 rfl (by kernel_rfl)) rfl ⟨11, at_ + 1, false, by rw [Int.natCast_add]; rfl, by omega, by omega, Below.put (HAL.out.trans (Bw5s.out.mono HAL.out.size)) (Nat.le_refl _) hg3 (Nat.le_trans HAL.out.size Bw5s.out.size)⟩
      | false =>
        go_wp2_with fail
        refine (ended_i A n c l (at_ + 1) ((at_ : Int) + 1) (by omega) ((HR.out.on HAL.out).on Bw5s.out) hn r3 (by omega) (by omega)).mono ?_
        rintro e _ ⟨b3, rfl, hb3, rfl⟩
        cases b3 with
        | true =>
          obtain ⟨g1, g2⟩ := hb3 rfl
          clear hb3
          exfalso
          omega
        | false =>
          clear hb3
          have hR := kept_at_b Bw5s.out HX.out
          go_wp2_with (refine tok_put rfl _ _ rfl w.heap.size 11 (at_ : Nat) ((at_ : Int) + 1) false rfl rfl hR ?_; intro w9 hR3 hg3)
          exact bodyPost_ret (v := .agg (tk 11 (at_ : Nat) ((at_ : Int) + 1) false)) (results_cell_row rfl _ _ w.heap.size 87 _ (0, 0) _ rfl hR3 Tryz.underlying87 rfl (by kernel_rfl)) rfl ⟨11, at_ + 1, false, by rw [Int.natCast_add]; rfl, by omega, by omega, Below.put (HAL.out.trans (Bw5s.out.mono HAL.out.size)) (Nat.le_refl _) hg3 (Nat.le_trans HAL.out.size Bw5s.out.size)⟩
end Go.Proofs.YtibakihcicfeoaaGreat
/- The walks of lex.declared, subset. No condition. -/
namespace Go.Proofs.YtibakihcicfeoaaGreat
open Go.RowKit

theorem ascC : Asc { data := #[60, 33, 45, 45] } := ⟨by decide, by decide⟩
theorem ascC2 : Asc { data := #[45, 45, 62] } := ⟨by decide, by decide⟩
theorem ascP : Asc { data := #[60, 63] } := ⟨by decide, by decide⟩
theorem ascP2 : Asc { data := #[63, 62] } := ⟨by decide, by decide⟩
/-- A place behind this one, and whether. -/
def OnSaid (n at_ : Nat) (w : World) (e : Ending) (w' : World) : Prop := ∃ (k : Nat) (ok : Bool), e = .returned (.tuple #[.int .i64 (k : Nat), .bool ok]) ∧ at_ < k ∧ k ≤ n ∧ Below w.heap.size w w'
theorem cells4 {W : World} {b : Nat} {x y z u : Value} {t : TypeId} (h : W.heap[b]? = some (.cells #[x, y, z, u] t (0, 0))) : W.cell? ⟨b, 0, none⟩ = some x ∧ W.cell? ⟨b, 1, none⟩ = some y ∧ W.cell? ⟨b, 2, none⟩ = some z ∧ W.cell? ⟨b, 3, none⟩ = some u :=
  ⟨cell_of_row W b 0 _ _ _ h, cell_of_row W b 1 _ _ _ h, cell_of_row W b 2 _ _ _ h, cell_of_row W b 3 _ _ _ h⟩
set_option maxRecDepth 100000 in
set_option maxHeartbeats 4000000 in
theorem declared257 {w : World} (A : Option Addr) (n c : Nat) (l : List Int) (at_ : Nat) (h : Rd w w.heap.size 1 A n c (ints .i32 l)) (hn : n ≤ 65536) (hat : at_ < n) :
    Calls Tryz.prog 257 #[.slice A n c, .int .i64 (at_ : Nat)] w (OnSaid n at_ w) := by
  have HR := Lib.hid h
  obtain ⟨b, off, rfl, hbb, hc⟩ := h.int_form (by omega)
  have x0 := hc at_ hat
  generalize gz l at_ = z at x0
  have hl := h.int_len
  have u1 : IntKind.i64.wrap ((at_ : Int) + 1) = (at_ : Int) + 1 := IntWalk.i64_in _ (by omega)
  have HLL := Lib.hid hl
  clear h hc hl
  go_enter Tryz.func257, Tryz.ntmps257
  go_wp2_with fail
  refine (starts_i _ n c l at_ (at_ : Nat) rfl HR.out hn _ (by omega) ascC).mono ?_
  rintro e w1 ⟨⟨s1, rfl⟩, b1⟩
  have B1 := Lib.hid b1
  have x1 := (b1.cell (World.block_lt_of_cell? _ _ x0)).trans x0
  clear b1 x0
  cases s1 with
  | true =>
    go_wp2_with fail
    refine (upTo153 _ n c l 4 at_ 4 _ (HR.out.on B1.out) hn hat (by omega) (by omega) ascC2).mono ?_
    rintro e w2 ⟨k, te, wh, rfl, h1, h2, b2⟩
    have hR := heap_alloc_new w2 (.cells (tk 0 0 0 false) 87)
    have B2 := Lib.hid (B1.out.trans (b2.mono B1.out.size))
    clear b2 x1
    go_wp2_with (refine tok_put rfl _ _ rfl w2.heap.size k (at_ : Nat) (te : Nat) wh rfl rfl hR ?_; intro w3 hR3 hg3; have B3 := Lib.hid (B2.out.trans ((below_put hg3).mono B2.out.size)); have d2 := (cells4 hR3).2.2.1; have d3 := (cells4 hR3).2.2.2; clear hR hR3 hg3)
    go_quiet (fail)
    go_wp2_with fail
    go_ret2
    exact ⟨te, wh, rfl, h1, h2, Below.drewN_ B3.out _⟩
  | false =>
    go_wp2_with fail
    refine (starts_i _ n c l at_ (at_ : Nat) rfl (HR.out.on B1.out) hn _ (by omega) ascP).mono ?_
    rintro e w2 ⟨⟨s2, rfl⟩, b2⟩
    have B2 := Lib.hid (B1.out.trans (b2.mono B1.out.size))
    have x2 := (b2.cell (World.block_lt_of_cell? _ _ x1)).trans x1
    clear b2 x1
    cases s2 with
    | true =>
      go_wp2_with fail
      refine (upTo153 _ n c l 5 at_ 2 _ (HR.out.on B2.out) hn hat (by omega) (by omega) ascP2).mono ?_
      rintro e w3 ⟨k, te, wh, rfl, h1, h2, b3⟩
      have hR := heap_alloc_new w3 (.cells (tk 0 0 0 false) 87)
      have B3 := Lib.hid (B2.out.trans (b3.mono B2.out.size))
      clear b3 x2
      go_wp2_with (refine tok_put rfl _ _ rfl w3.heap.size k (at_ : Nat) (te : Nat) wh rfl rfl hR ?_; intro w4 hR4 hg4; have B4 := Lib.hid (B3.out.trans ((below_put hg4).mono B3.out.size)); have d2 := (cells4 hR4).2.2.1; have d3 := (cells4 hR4).2.2.2; clear hR hR4 hg4)
      go_quiet (fail)
      go_wp2_with fail
      go_ret2
      exact ⟨te, wh, rfl, h1, h2, Below.drewN_ B4.out _⟩
    | false =>
      by_cases h60 : z = 60
      · subst h60
        have C213 := angle213 _ n c l at_ false (HR.out.on B2.out) hn (by omega)
        obtain ⟨a1, a2, -⟩ := angL_le l false (n + 1) at_ (by rw [HLL.out]; omega)
        rw [HLL.out] at a2
        generalize angL l false (n + 1) at_ = v at *
        obtain ⟨k, ok⟩ := v
        unfold PairSaid at C213
        simp only at a1 a2 C213
        have u2 : IntKind.i64.wrap ((k : Int) + 1) = (k : Int) + 1 := IntWalk.i64_in _ (by omega)
        by_cases hk : k + 1 ≤ n
        · go_wp2_with (go_at_call 213; refine C213.mono ?_; rintro e w3 ⟨rfl, b3⟩; have B3 := Lib.hid (B2.out.trans (b3.mono B2.out.size)); clear b3 C213)
          go_ret2
          exact ⟨k + 1, ok, by rw [Int.natCast_add]; rfl, by omega, hk, B3.out⟩
        · have q1 : n < k + 1 := by omega
          go_wp2_with (go_at_call 213; refine C213.mono ?_; rintro e w3 ⟨rfl, b3⟩; have B3 := Lib.hid (B2.out.trans (b3.mono B2.out.size)); clear b3 C213)
          go_ret2
          exact ⟨n, ok, rfl, hat, Nat.le_refl _, B3.out⟩
      · have t60 : (z == 60) = false := by simpa using h60
        go_wp2_with fail
        go_ret2
        exact ⟨at_ + 1, true, by rw [Int.natCast_add]; rfl, by omega, hat, B2.out⟩
set_option maxRecDepth 100000 in
set_option maxHeartbeats 2000000 in
theorem subset210 {w : World} (A : Option Addr) (n c : Nat) (l : List Int) (at_ : Nat) (h : Rd w w.heap.size 1 A n c (ints .i32 l)) (hn : n ≤ 65536) (hat : at_ < n) :
    Calls Tryz.prog 210 #[.slice A n c, .int .i64 (at_ : Nat)] w (OnSaid n at_ w) := by
  have HR := Lib.hid h
  obtain ⟨b, off, rfl, hbb, hc⟩ := h.int_form (by omega)
  have HC := Lib.hid hc
  have u1 : IntKind.i64.wrap ((at_ : Int) + 1) = (at_ : Int) + 1 := IntWalk.i64_in _ (by omega)
  clear h hc
  go_enter Tryz.func210, Tryz.ntmps210
  go_wp2_with fail
  go_loopw [1, 6] (fun i okv wr => ∃ (k : Nat) (ok : Bool), at_ < k ∧ k ≤ n ∧ i = .int .i64 k ∧ okv = .bool ok ∧ Below w.heap.size w wr)
    (fun i _ _ => n - (intOf i).toNat)
  case atStart => exact ⟨at_ + 1, true, by omega, hat, by rw [Int.natCast_add]; rfl, rfl, Below.refl _ _⟩
  case round =>
    obtain ⟨k, ok, h1, h2, rfl, rfl, hb⟩ := hrel
    by_cases hlt : k < n
    · cases ok with
      | true =>
        have x0 := (hb.cell (p := ⟨b, off + k, none⟩) hbb).trans (HC.out k hlt)
        generalize gz l k = z at x0
        by_cases h93 : z = 93
        · subst h93
          go_wp2_with fail
          go_ret2
          exact ⟨k + 1, true, by simp, by omega, hlt, hb⟩
        · have t93 : (z == 93) = false := by simpa using h93
          go_wp2_with fail
          refine (declared257 _ n c l k (HR.out.on hb) hn hlt).mono ?_
          rintro e w1 ⟨k2, ok2, rfl, g1, g2, b1⟩
          have B1 := Lib.hid (hb.trans (b1.mono hb.size))
          clear b1 x0
          go_wp2_with fail
          go_roundw
          case rel => exact ⟨k2, ok2, by omega, g2, rfl, rfl, B1.out⟩
          case measure => simp [intOf]; omega
      | false =>
        go_wp2_with fail
        go_ret2
        exact ⟨n, false, rfl, hat, Nat.le_refl _, hb⟩
    · go_wp2_with fail
      go_ret2
      exact ⟨n, false, rfl, hat, Nat.le_refl _, hb⟩
end Go.Proofs.YtibakihcicfeoaaGreat
/- The walks of lex.doctypes, markup. No condition. -/
namespace Go.Proofs.YtibakihcicfeoaaGreat
open Go.RowKit

set_option maxRecDepth 100000 in
set_option maxHeartbeats 4000000 in
theorem doctypes154 {w : World} (A : Option Addr) (n c : Nat) (l : List Int) (at_ : Nat) (h : Rd w w.heap.size 1 A n c (ints .i32 l)) (hn : n ≤ 65536) (hat : at_ + 9 ≤ n) :
    Calls Tryz.prog 154 #[.slice A n c, .int .i64 (at_ : Nat)] w (TokSaid n at_ w) := by
  have HR := Lib.hid h
  have HLL := Lib.hid h.int_len
  have hal := (Below.refl w.heap.size w).alloc (Nat.le_refl _) (.cells (tk 0 0 0 false) 87)
  have HX := Lib.hid (tok_new w)
  have HAL := Lib.hid hal
  obtain ⟨b, off, rfl, hbb, hc⟩ := h.int_form (by omega)
  have HC := Lib.hid hc
  have u1 : IntKind.i64.wrap ((at_ : Int) + 9) = (at_ : Int) + 9 := IntWalk.i64_in _ (by omega)
  clear h hc hal
  go_enter Tryz.func154, Tryz.ntmps154
  go_wp2_with fail
  go_loopw [5, 6] (fun okv i wr => ∃ (k : Nat) (ok : Bool), at_ < k ∧ k ≤ n ∧ i = .int .i64 k ∧ okv = .bool ok ∧ Hid (wr.heap[w.heap.size]? = some (.cells (tk 0 0 0 false) 87 (0, 0))) ∧ Below w.heap.size w wr)
    (fun _ i _ => n - (intOf i).toNat)
  case atStart => exact ⟨at_ + 9, true, by omega, hat, by rw [Int.natCast_add]; rfl, rfl, HX, HAL.out⟩
  case round =>
    obtain ⟨k, ok, h1, h2, rfl, rfl, HXr, hb⟩ := hrel
    have hR := HXr.out
    have hs := hb.size
    by_cases hlt : k < n
    · cases ok with
      | true =>
        have x0 := (hb.cell (p := ⟨b, off + k, none⟩) hbb).trans (HC.out k hlt)
        have CQ := quote208 (gz l k) wr
        have C209 := quoted209 _ n c l k (HR.out.on hb) hn hlt
        have hq := qtL_le l k (by rw [HLL.out]; exact hlt)
        rw [HLL.out] at hq
        generalize gz l k = z at x0 CQ
        by_cases h62 : z = 62
        · subst h62
          go_wp2_with (refine tok_put rfl _ _ rfl w.heap.size 7 (at_ : Nat) ((k : Int) + 1) true rfl rfl hR ?_; intro w3 hR3 hg3)
          exact bodyPost_ret (v := .agg (tk 7 (at_ : Nat) ((k : Int) + 1) true)) (results_cell_row rfl _ _ w.heap.size 87 _ (0, 0) _ rfl hR3 Tryz.underlying87 rfl (by kernel_rfl)) rfl ⟨7, k + 1, true, by rw [Int.natCast_add]; rfl, by omega, hlt, Below.put hb (Nat.le_refl _) hg3 hs⟩
        · have t62 : (z == 62) = false := by simpa using h62
          cases hqu : quP z with
          | true =>
            rw [hqu] at CQ
            clear hqu
            generalize (qtL l k).1 = q1 at *
            generalize (qtL l k).2 = q2 at *
            go_wp2_with (first
              | (go_at_call 208; refine CQ.mono ?_; rintro e w1 ⟨rfl, rfl⟩; clear CQ)
              | (go_at_call 209; refine C209.mono ?_; rintro e w1 ⟨rfl, b1⟩; have B1 := Lib.hid (hb.trans (b1.mono hb.size)); have HX1 := Lib.hid (kept_at b1 HXr.out); clear b1 C209))
            go_roundw
            case rel => exact ⟨q1, q2, by omega, hq.2, rfl, rfl, HX1, B1.out⟩
            case measure => simp [intOf]; omega
          | false =>
            rw [hqu] at CQ
            clear hqu C209 hq
            by_cases h91 : z = 91
            · subst h91
              go_wp2_with (first
                | (go_at_call 208; refine CQ.mono ?_; rintro e w1 ⟨rfl, rfl⟩; clear CQ))
              refine (subset210 _ n c l k (HR.out.on hb) hn hlt).mono ?_
              rintro e w1 ⟨k2, ok2, rfl, g1, g2, b1⟩
              have B1 := Lib.hid (hb.trans (b1.mono hb.size))
              have HX1 := Lib.hid (kept_at b1 HXr.out)
              clear b1 x0 hR
              go_wp2_with fail
              go_roundw
              case rel => exact ⟨k2, ok2, by omega, g2, rfl, rfl, HX1, B1.out⟩
              case measure => simp [intOf]; omega
            · have t91 : (z == 91) = false := by simpa using h91
              go_wp2_with (go_at_call 208; refine CQ.mono ?_; rintro e w1 ⟨rfl, rfl⟩; clear CQ)
              go_roundw
              case rel => exact ⟨k + 1, true, by omega, by omega, by go_num, rfl, HXr, hb⟩
              case measure => simp [intOf]; omega
      | false =>
        go_wp2_with (refine tok_put rfl _ _ rfl w.heap.size 7 (at_ : Nat) (n : Nat) false rfl rfl hR ?_; intro w3 hR3 hg3)
        exact bodyPost_ret (v := .agg (tk 7 (at_ : Nat) (n : Nat) false)) (results_cell_row rfl _ _ w.heap.size 87 _ (0, 0) _ rfl hR3 Tryz.underlying87 rfl (by kernel_rfl)) rfl ⟨7, n, false, rfl, by omega, Nat.le_refl _, Below.put hb (Nat.le_refl _) hg3 hs⟩
    · go_wp2_with (refine tok_put rfl _ _ rfl w.heap.size 7 (at_ : Nat) (n : Nat) false rfl rfl hR ?_; intro w3 hR3 hg3)
      exact bodyPost_ret (v := .agg (tk 7 (at_ : Nat) (n : Nat) false)) (results_cell_row rfl _ _ w.heap.size 87 _ (0, 0) _ rfl hR3 Tryz.underlying87 rfl (by kernel_rfl)) rfl ⟨7, n, false, rfl, by omega, Nat.le_refl _, Below.put hb (Nat.le_refl _) hg3 hs⟩
end Go.Proofs.YtibakihcicfeoaaGreat
/- The walks of lex.markup, Next. No condition. -/
namespace Go.Proofs.YtibakihcicfeoaaGreat
open Go.RowKit

/-- Does a row begin so, at a place; the sign a text. -/
def stB (l : List Int) (f : Nat) (s : ByteArray) : Bool := stL l f (s.data.toList.map fun b => (b.toNat : Int))
theorem stB_len {l : List Int} {f : Nat} {s : ByteArray} (h : stB l f s = true) : f + s.size ≤ l.length := by
  unfold stB stL at h
  rw [Bool.and_eq_true, strT_len] at h
  exact of_decide_eq_true h.1
abbrev sCom : ByteArray := { data := #[60, 33, 45, 45] }
abbrev sCda : ByteArray := { data := #[60, 33, 91, 67, 68, 65, 84, 65, 91] }
abbrev sPi : ByteArray := { data := #[60, 63] }
abbrev sDoc : ByteArray := { data := #[60, 33, 68, 79, 67, 84, 89, 80, 69] }
abbrev sEnd : ByteArray := { data := #[60, 47] }
theorem ascCda : Asc sCda := ⟨by decide, by decide⟩
theorem ascCda2 : Asc { data := #[93, 93, 62] } := ⟨by decide, by decide⟩
theorem ascDoc : Asc sDoc := ⟨by decide, by decide⟩
theorem ascEnd : Asc sEnd := ⟨by decide, by decide⟩
/-- The token that begins with a <, where it is a tag's or none. -/
def mkL (l : List Int) (at_ : Nat) : Option (Int × Nat × Bool) :=
  if stB l at_ sCom || stB l at_ sCda || stB l at_ sPi || stB l at_ sDoc then none
  else if stB l at_ sEnd then some (endT l at_)
  else if 0 < leadL l (at_ + 1) then some (startT l at_)
  else some (11, at_ + 1, false)
/-- A token that begins at a place, the one that is told if one is. -/
def TokM (o : Option (Int × Nat × Bool)) (n at_ : Nat) (w : World) (e : Ending) (w' : World) : Prop :=
  ∃ t : Int × Nat × Bool, e = .returned (.agg (tk t.1 (at_ : Nat) (t.2.1 : Nat) t.2.2)) ∧ at_ < t.2.1 ∧ t.2.1 ≤ n ∧ (∀ u, o = some u → t = u) ∧ Below w.heap.size w w'
set_option maxRecDepth 100000 in
set_option maxHeartbeats 8000000 in
theorem markup101 {w : World} (A : Option Addr) (n c : Nat) (l : List Int) (at_ : Nat) (h : Rd w w.heap.size 1 A n c (ints .i32 l)) (hn : n ≤ 65536) (hat : at_ < n) :
    Calls Tryz.prog 101 #[.slice A n c, .int .i64 (at_ : Nat)] w (TokM (mkL l at_) n at_ w) := by
  have hl := h.int_len
  have hal := (Below.refl w.heap.size w).alloc (Nat.le_refl _) (.cells (tk 0 0 0 false) 87)
  have HX := Lib.hid (tok_new w)
  have HAL := Lib.hid hal
  have HR := Lib.hid (h.on hal)
  have u1 : IntKind.i64.wrap ((at_ : Int) + 1) = (at_ : Int) + 1 := IntWalk.i64_in _ (by omega)
  obtain ⟨o, ho⟩ : ∃ o, mkL l at_ = o := ⟨_, rfl⟩
  rw [ho]
  have HO := Lib.hid ho
  have HL := Lib.hid hl
  have HE2 := Lib.hid (fun (h : stB l at_ sEnd = true) => stB_len h)
  have HD9 := Lib.hid (fun (h : stB l at_ sDoc = true) => stB_len h)
  obtain ⟨ld, hld⟩ : ∃ ld, leadL l (at_ + 1) = ld := ⟨_, rfl⟩
  have HLD := Lib.hid hld
  clear h hal ho hl hld
  go_enter Tryz.func101, Tryz.ntmps101
  have C1 := starts152 A n c l at_ sCom (HR.out) hn (by omega) ascC.1 ascC.2
  have H1 := Lib.hid (show (stL l at_ (sCom.data.toList.map fun b => (b.toNat : Int))) = stB l at_ sCom from rfl)
  rw [H1.out] at C1
  cases h1 : stB l at_ sCom with
  | true =>
    rw [h1] at C1
    have HN := Lib.hid (show mkL l at_ = none by unfold mkL; rw [h1]; simp)
    clear h1
    go_wp2_with fail
    refine C1.mono ?_
    rintro e w1 ⟨rfl, b1⟩
    have B1 := Lib.hid (b1)
    clear b1 C1
    go_wp2_with fail
    refine (upTo153 A n c l 4 at_ 4 _ (HR.out.on B1.out) hn hat (by omega) (by omega) ascC2).mono ?_
    rintro e w9 ⟨k, te, wh, rfl, g1, g2, b9⟩
    have B9 := Lib.hid (B1.out.trans (b9.mono B1.out.size))
    have hR := kept_at B9.out HX.out
    clear b9
    go_wp2_with (refine tok_put rfl _ _ rfl w.heap.size (k) (at_ : Nat) ((te : Nat)) (wh) rfl rfl hR ?_; intro w8 hR3 hg3)
    exact bodyPost_ret (v := .agg (tk (k) (at_ : Nat) ((te : Nat)) (wh))) (results_cell_row rfl _ _ w.heap.size 87 _ (0, 0) _ rfl hR3 Tryz.underlying87 rfl (by kernel_rfl)) rfl ⟨(k, te, wh), rfl, g1, g2, (fun u hu => by rw [← HO.out, HN.out] at hu; cases hu), Below.put (HAL.out.trans (B9.out.mono HAL.out.size)) (Nat.le_refl _) hg3 (Nat.le_trans HAL.out.size B9.out.size)⟩
  | false =>
    rw [h1] at C1
    have HF1 := Lib.hid h1
    clear h1
    go_wp2_with fail
    refine C1.mono ?_
    rintro e w1 ⟨rfl, b1⟩
    have B1 := Lib.hid (b1)
    clear b1 C1
    have C2 := starts152 A n c l at_ sCda (HR.out.on B1.out) hn (by omega) ascCda.1 ascCda.2
    have H2 := Lib.hid (show (stL l at_ (sCda.data.toList.map fun b => (b.toNat : Int))) = stB l at_ sCda from rfl)
    rw [H2.out] at C2
    cases h2 : stB l at_ sCda with
    | true =>
      rw [h2] at C2
      have HN := Lib.hid (show mkL l at_ = none by unfold mkL; rw [h2]; simp)
      clear h2
      go_wp2_with fail
      refine C2.mono ?_
      rintro e w2 ⟨rfl, b2⟩
      have B2 := Lib.hid (B1.out.trans (b2.mono B1.out.size))
      clear b2 C2
      go_wp2_with fail
      refine (upTo153 A n c l 6 at_ 9 _ (HR.out.on B2.out) hn hat (by omega) (by omega) ascCda2).mono ?_
      rintro e w9 ⟨k, te, wh, rfl, g1, g2, b9⟩
      have B9 := Lib.hid (B2.out.trans (b9.mono B2.out.size))
      have hR := kept_at B9.out HX.out
      clear b9
      go_wp2_with (refine tok_put rfl _ _ rfl w.heap.size (k) (at_ : Nat) ((te : Nat)) (wh) rfl rfl hR ?_; intro w8 hR3 hg3)
      exact bodyPost_ret (v := .agg (tk (k) (at_ : Nat) ((te : Nat)) (wh))) (results_cell_row rfl _ _ w.heap.size 87 _ (0, 0) _ rfl hR3 Tryz.underlying87 rfl (by kernel_rfl)) rfl ⟨(k, te, wh), rfl, g1, g2, (fun u hu => by rw [← HO.out, HN.out] at hu; cases hu), Below.put (HAL.out.trans (B9.out.mono HAL.out.size)) (Nat.le_refl _) hg3 (Nat.le_trans HAL.out.size B9.out.size)⟩
    | false =>
      rw [h2] at C2
      have HF2 := Lib.hid h2
      clear h2
      go_wp2_with fail
      refine C2.mono ?_
      rintro e w2 ⟨rfl, b2⟩
      have B2 := Lib.hid (B1.out.trans (b2.mono B1.out.size))
      clear b2 C2
      have C3 := starts152 A n c l at_ sPi (HR.out.on B2.out) hn (by omega) ascP.1 ascP.2
      have H3 := Lib.hid (show (stL l at_ (sPi.data.toList.map fun b => (b.toNat : Int))) = stB l at_ sPi from rfl)
      rw [H3.out] at C3
      cases h3 : stB l at_ sPi with
      | true =>
        rw [h3] at C3
        have HN := Lib.hid (show mkL l at_ = none by unfold mkL; rw [h3]; simp)
        clear h3
        go_wp2_with fail
        refine C3.mono ?_
        rintro e w3 ⟨rfl, b3⟩
        have B3 := Lib.hid (B2.out.trans (b3.mono B2.out.size))
        clear b3 C3
        go_wp2_with fail
        refine (upTo153 A n c l 5 at_ 2 _ (HR.out.on B3.out) hn hat (by omega) (by omega) ascP2).mono ?_
        rintro e w9 ⟨k, te, wh, rfl, g1, g2, b9⟩
        have B9 := Lib.hid (B3.out.trans (b9.mono B3.out.size))
        have hR := kept_at B9.out HX.out
        clear b9
        go_wp2_with (refine tok_put rfl _ _ rfl w.heap.size (k) (at_ : Nat) ((te : Nat)) (wh) rfl rfl hR ?_; intro w8 hR3 hg3)
        exact bodyPost_ret (v := .agg (tk (k) (at_ : Nat) ((te : Nat)) (wh))) (results_cell_row rfl _ _ w.heap.size 87 _ (0, 0) _ rfl hR3 Tryz.underlying87 rfl (by kernel_rfl)) rfl ⟨(k, te, wh), rfl, g1, g2, (fun u hu => by rw [← HO.out, HN.out] at hu; cases hu), Below.put (HAL.out.trans (B9.out.mono HAL.out.size)) (Nat.le_refl _) hg3 (Nat.le_trans HAL.out.size B9.out.size)⟩
      | false =>
        rw [h3] at C3
        have HF3 := Lib.hid h3
        clear h3
        go_wp2_with fail
        refine C3.mono ?_
        rintro e w3 ⟨rfl, b3⟩
        have B3 := Lib.hid (B2.out.trans (b3.mono B2.out.size))
        clear b3 C3
        have C4 := starts152 A n c l at_ sDoc (HR.out.on B3.out) hn (by omega) ascDoc.1 ascDoc.2
        have H4 := Lib.hid (show (stL l at_ (sDoc.data.toList.map fun b => (b.toNat : Int))) = stB l at_ sDoc from rfl)
        rw [H4.out] at C4
        cases h4 : stB l at_ sDoc with
        | true =>
          rw [h4] at C4
          have HN := Lib.hid (show mkL l at_ = none by unfold mkL; rw [h4]; simp)
          have h9 : at_ + 9 ≤ n := by have := HD9.out h4; rw [HL.out] at this; exact this
          clear h4
          go_wp2_with fail
          refine C4.mono ?_
          rintro e w4 ⟨rfl, b4⟩
          have B4 := Lib.hid (B3.out.trans (b4.mono B3.out.size))
          clear b4 C4
          go_wp2_with fail
          refine (doctypes154 A n c l at_ (HR.out.on B4.out) hn h9).mono ?_
          rintro e w9 ⟨k, te, wh, rfl, g1, g2, b9⟩
          have B9 := Lib.hid (B4.out.trans (b9.mono B4.out.size))
          have hR := kept_at B9.out HX.out
          clear b9
          go_wp2_with (refine tok_put rfl _ _ rfl w.heap.size (k) (at_ : Nat) ((te : Nat)) (wh) rfl rfl hR ?_; intro w8 hR3 hg3)
          exact bodyPost_ret (v := .agg (tk (k) (at_ : Nat) ((te : Nat)) (wh))) (results_cell_row rfl _ _ w.heap.size 87 _ (0, 0) _ rfl hR3 Tryz.underlying87 rfl (by kernel_rfl)) rfl ⟨(k, te, wh), rfl, g1, g2, (fun u hu => by rw [← HO.out, HN.out] at hu; cases hu), Below.put (HAL.out.trans (B9.out.mono HAL.out.size)) (Nat.le_refl _) hg3 (Nat.le_trans HAL.out.size B9.out.size)⟩
        | false =>
          rw [h4] at C4
          have HF4 := Lib.hid h4
          clear h4
          go_wp2_with fail
          refine C4.mono ?_
          rintro e w4 ⟨rfl, b4⟩
          have B4 := Lib.hid (B3.out.trans (b4.mono B3.out.size))
          clear b4 C4
          have C5 := starts152 A n c l at_ sEnd (HR.out.on B4.out) hn (by omega) ascEnd.1 ascEnd.2
          have H5 := Lib.hid (show (stL l at_ (sEnd.data.toList.map fun b => (b.toNat : Int))) = stB l at_ sEnd from rfl)
          rw [H5.out] at C5
          cases h5 : stB l at_ sEnd with
          | true =>
            rw [h5] at C5
            have h9 : at_ + 2 ≤ n := by have := HE2.out h5; rw [HL.out] at this; exact this
            have HN := Lib.hid (show mkL l at_ = some (endT l at_) by unfold mkL; rw [HF1.out, HF2.out, HF3.out, HF4.out, h5]; rfl)
            clear h5
            go_wp2_with fail
            refine C5.mono ?_
            rintro e w5 ⟨rfl, b5⟩
            have B5 := Lib.hid (B4.out.trans (b5.mono B4.out.size))
            clear b5 C5
            go_wp2_with fail
            refine (end155 A n c l at_ (HR.out.on B5.out) hn h9).mono ?_
            rintro e w9 ⟨rfl, b9⟩
            have B9 := Lib.hid (B5.out.trans (b9.mono B5.out.size))
            have hR := kept_at B9.out HX.out
            have HLE := Lib.hid (endT_le l at_ (by rw [HL.out]; exact hat))
            clear b9
            go_wp2_with (refine tok_put rfl _ _ rfl w.heap.size ((endT l at_).1) (at_ : Nat) (((endT l at_).2.1 : Nat)) ((endT l at_).2.2) rfl rfl hR ?_; intro w8 hR3 hg3)
            exact bodyPost_ret (v := .agg (tk ((endT l at_).1) (at_ : Nat) (((endT l at_).2.1 : Nat)) ((endT l at_).2.2))) (results_cell_row rfl _ _ w.heap.size 87 _ (0, 0) _ rfl hR3 Tryz.underlying87 rfl (by kernel_rfl)) rfl ⟨endT l at_, rfl, HLE.out.1, by have := HLE.out.2; rwa [HL.out] at this, (fun u hu => by rw [← HO.out, HN.out] at hu; injection hu), Below.put (HAL.out.trans (B9.out.mono HAL.out.size)) (Nat.le_refl _) hg3 (Nat.le_trans HAL.out.size B9.out.size)⟩
          | false =>
            rw [h5] at C5
            have HF5 := Lib.hid h5
            clear h5
            go_wp2_with fail
            refine C5.mono ?_
            rintro e w5 ⟨rfl, b5⟩
            have B5 := Lib.hid (B4.out.trans (b5.mono B4.out.size))
            clear b5 C5
            have C6 := lead156 A n c l (at_ + 1) (HR.out.on B5.out) hn (by omega)
            rw [HLD.out, Int.natCast_add] at C6
            by_cases hp : 0 < ld
            · have HN := Lib.hid (show mkL l at_ = some (startT l at_) by unfold mkL; rw [HF1.out, HF2.out, HF3.out, HF4.out, HF5.out, HLD.out, if_pos hp]; rfl)
              go_wp2_with fail
              refine C6.mono ?_
              rintro e w6 ⟨rfl, b6⟩
              have B6 := Lib.hid (B5.out.trans (b6.mono B5.out.size))
              clear b6 C6
              go_wp2_with fail
              refine (start157 A n c l at_ (HR.out.on B6.out) hn hat).mono ?_
              rintro e w9 ⟨rfl, b9⟩
              have B9 := Lib.hid (B6.out.trans (b9.mono B6.out.size))
              have hR := kept_at B9.out HX.out
              have HLE := Lib.hid (startT_le l at_ (by rw [HL.out]; exact hat))
              clear b9
              go_wp2_with (refine tok_put rfl _ _ rfl w.heap.size ((startT l at_).1) (at_ : Nat) (((startT l at_).2.1 : Nat)) ((startT l at_).2.2) rfl rfl hR ?_; intro w8 hR3 hg3)
              exact bodyPost_ret (v := .agg (tk ((startT l at_).1) (at_ : Nat) (((startT l at_).2.1 : Nat)) ((startT l at_).2.2))) (results_cell_row rfl _ _ w.heap.size 87 _ (0, 0) _ rfl hR3 Tryz.underlying87 rfl (by kernel_rfl)) rfl ⟨startT l at_, rfl, HLE.out.1, by have := HLE.out.2; rwa [HL.out] at this, (fun u hu => by rw [← HO.out, HN.out] at hu; injection hu), Below.put (HAL.out.trans (B9.out.mono HAL.out.size)) (Nat.le_refl _) hg3 (Nat.le_trans HAL.out.size B9.out.size)⟩
            · have HN := Lib.hid (show mkL l at_ = some (11, at_ + 1, false) by unfold mkL; rw [HF1.out, HF2.out, HF3.out, HF4.out, HF5.out, HLD.out, if_neg hp]; rfl)
              obtain rfl : ld = 0 := by omega
              go_wp2_with fail
              refine C6.mono ?_
              rintro e w6 ⟨rfl, b6⟩
              have B6 := Lib.hid (B5.out.trans (b6.mono B5.out.size))
              have hR := kept_at B6.out HX.out
              clear b6 C6
              go_wp2_with (refine tok_put rfl _ _ rfl w.heap.size (11) (at_ : Nat) ((at_ : Int) + 1) (false) rfl rfl hR ?_; intro w8 hR3 hg3)
              exact bodyPost_ret (v := .agg (tk (11) (at_ : Nat) ((at_ : Int) + 1) (false))) (results_cell_row rfl _ _ w.heap.size 87 _ (0, 0) _ rfl hR3 Tryz.underlying87 rfl (by kernel_rfl)) rfl ⟨(11, at_ + 1, false), by simp, by simp, hat, (fun u hu => by rw [← HO.out, HN.out] at hu; injection hu), Below.put (HAL.out.trans (B6.out.mono HAL.out.size)) (Nat.le_refl _) hg3 (Nat.le_trans HAL.out.size B6.out.size)⟩
end Go.Proofs.YtibakihcicfeoaaGreat
/- The walk of lex.Next. No condition. -/
namespace Go.Proofs.YtibakihcicfeoaaGreat
open Go.RowKit

/-- The token at a place, where it is told. -/
def nxL (l : List Int) (at_ : Nat) : Option (Int × Nat × Bool) :=
  if gz l at_ = 60 then mkL l at_ else if gz l at_ = 38 then none else if gz l at_ = -1 then some (11, at_ + 1, false) else some (1, at_ + runL plP l at_, true)
def NextSaid (l : List Int) (n at_ : Nat) (w : World) (e : Ending) (w' : World) : Prop :=
  ∃ t : Int × Nat × Bool, e = .returned (.tuple #[.agg (tk t.1 (at_ : Nat) (t.2.1 : Nat) t.2.2), .bool true]) ∧ at_ < t.2.1 ∧ t.2.1 ≤ n ∧ (∀ u, nxL l at_ = some u → t = u) ∧ Below w.heap.size w w'
theorem runL_pos {p : Int → Bool} {l : List Int} {f : Nat} (hf : f < l.length) (h : p (gz l f) = true) : 0 < runL p l f := by
  unfold runL
  rw [List.drop_eq_getElem_cons hf, List.takeWhile_cons, show p l[f] = true by rw [← gz_eq hf]; exact h]
  simp
set_option maxRecDepth 100000 in
set_option maxHeartbeats 4000000 in
theorem next53_out {w : World} (A : Option Addr) (n c : Nat) (at_ : Nat) (hat : n ≤ at_) : Calls Tryz.prog 53 #[.slice A n c, .int .i64 (at_ : Nat)] w fun e w' => e = .returned (.tuple #[.agg (tk 0 0 0 false), .bool false]) ∧ Below w.heap.size w w' := by
  have t1 : decide ((at_ : Int) < 0) = false := by simp
  have t2 : decide (n ≤ at_) = true := by simpa using hat
  have hR := tok_new w
  have HAL := Lib.hid ((Below.refl w.heap.size w).alloc (Nat.le_refl _) (.cells (tk 0 0 0 false) 87))
  go_enter Tryz.func53, Tryz.ntmps53
  go_wp2_with (refine tok_put rfl _ _ rfl w.heap.size 0 0 0 false rfl rfl hR ?_; intro w8 hR3 hg3)
  exact bodyPost_ret (v := .tuple #[.agg (tk 0 0 0 false), .bool false]) (results_row2 rfl _ _ w.heap.size 87 _ (0, 0) _ _ rfl rfl hR3 Tryz.underlying87 rfl (by kernel_rfl)) rfl ⟨rfl, Below.put HAL.out (Nat.le_refl _) hg3 HAL.out.size⟩
set_option maxRecDepth 100000 in
set_option maxHeartbeats 4000000 in
theorem next53 {w : World} (A : Option Addr) (n c : Nat) (l : List Int) (at_ : Nat) (h : Rd w w.heap.size 1 A n c (ints .i32 l)) (hn : n ≤ 65536) (hat : at_ < n) :
    Calls Tryz.prog 53 #[.slice A n c, .int .i64 (at_ : Nat)] w (NextSaid l n at_ w) := by
  have t1 : decide ((at_ : Int) < 0) = false := by simp
  have t2 : decide (n ≤ at_) = false := by simp; omega
  have hl := h.int_len
  have hal := (Below.refl w.heap.size w).alloc (Nat.le_refl _) (.cells (tk 0 0 0 false) 87)
  have HX := Lib.hid (tok_new w)
  have HAL := Lib.hid hal
  have HR := Lib.hid (h.on hal)
  obtain ⟨b, off, rfl, hbb, hc⟩ := h.int_form (by omega)
  have x0 := (hal.cell (p := ⟨b, off + at_, none⟩) hbb).trans (hc at_ hat)
  obtain ⟨z, hz⟩ : ∃ z, gz l at_ = z := ⟨_, rfl⟩
  rw [hz] at x0
  have u1 : IntKind.i64.wrap ((at_ : Int) + 1) = (at_ : Int) + 1 := IntWalk.i64_in _ (by omega)
  have HB0 := Lib.hid (fun (w9 : World) (hb9 : Below (w.alloc (.cells (tk 0 0 0 false) 87)).heap.size (w.alloc (.cells (tk 0 0 0 false) 87)) w9) (w8 : World) (hg : w9.grownBy w8 (some w.heap.size)) => Below.put (hal.trans (hb9.mono hal.size)) (Nat.le_refl _) hg (Nat.le_trans hal.size hb9.size))
  by_cases h60 : z = 60
  · have HN := Lib.hid (show nxL l at_ = mkL l at_ by unfold nxL; rw [hz, if_pos h60])
    subst h60
    clear h hc hal hl hz
    go_enter Tryz.func53, Tryz.ntmps53
    go_wp2_with fail
    refine (markup101 _ n c l at_ HR.out hn hat).mono ?_
    rintro e w9 ⟨t, rfl, g1, g2, g3, b9⟩
    have hR := kept_at b9 HX.out
    have B9 := Lib.hid b9
    have G3 := Lib.hid g3
    clear b9 g3
    go_wp2_with (refine tok_put rfl _ _ rfl w.heap.size t.1 (at_ : Nat) (t.2.1 : Nat) t.2.2 rfl rfl hR ?_; intro w8 hR3 hg3)
    exact bodyPost_ret (v := .tuple #[.agg (tk t.1 (at_ : Nat) (t.2.1 : Nat) t.2.2), .bool true]) (results_row2 rfl _ _ w.heap.size 87 _ (0, 0) _ _ rfl rfl hR3 Tryz.underlying87 rfl (by kernel_rfl)) rfl ⟨t, rfl, g1, g2, (fun u hu => G3.out u (by rw [← HN.out]; exact hu)), HB0.out _ B9.out _ hg3⟩
  · have t60 : (z == 60) = false := by simpa using h60
    by_cases h38 : z = 38
    · have HN := Lib.hid (show nxL l at_ = none by unfold nxL; rw [hz, if_neg h60, if_pos h38])
      subst h38
      clear h hc hal hl hz h60
      go_enter Tryz.func53, Tryz.ntmps53
      go_wp2_with fail
      refine (ref102 _ n c l at_ HR.out hn hat).mono ?_
      rintro e w9 ⟨k, te, wh, rfl, g1, g2, b9⟩
      have hR := kept_at b9 HX.out
      have B9 := Lib.hid b9
      clear b9
      go_wp2_with (refine tok_put rfl _ _ rfl w.heap.size k (at_ : Nat) (te : Nat) wh rfl rfl hR ?_; intro w8 hR3 hg3)
      exact bodyPost_ret (v := .tuple #[.agg (tk k (at_ : Nat) (te : Nat) wh), .bool true]) (results_row2 rfl _ _ w.heap.size 87 _ (0, 0) _ _ rfl rfl hR3 Tryz.underlying87 rfl (by kernel_rfl)) rfl ⟨(k, te, wh), rfl, g1, g2, (fun u hu => by rw [HN.out] at hu; cases hu), HB0.out _ B9.out _ hg3⟩
    · have t38 : (z == 38) = false := by simpa using h38
      by_cases hm1 : z = -1
      · have HN := Lib.hid (show nxL l at_ = some (11, at_ + 1, false) by unfold nxL; rw [hz, if_neg h60, if_neg h38, if_pos hm1])
        subst hm1
        clear h hc hal hl hz h60 h38
        have hR := HX.out
        go_enter Tryz.func53, Tryz.ntmps53
        go_wp2_with (refine tok_put rfl _ _ rfl w.heap.size 11 (at_ : Nat) ((at_ : Int) + 1) false rfl rfl hR ?_; intro w8 hR3 hg3)
        exact bodyPost_ret (v := .tuple #[.agg (tk 11 (at_ : Nat) ((at_ : Int) + 1) false), .bool true]) (results_row2 rfl _ _ w.heap.size 87 _ (0, 0) _ _ rfl rfl hR3 Tryz.underlying87 rfl (by kernel_rfl)) rfl ⟨(11, at_ + 1, false), by simp, by simp, hat, (fun u hu => by rw [HN.out] at hu; injection hu), HB0.out _ (Below.refl _ _) _ hg3⟩
      · have tm1 : (z == -1) = false := by simpa using hm1
        have hpos := runL_pos (p := plP) (l := l) (f := at_) (by omega) (by rw [hz]; unfold plP; simp [h60, h38, hm1])
        have hle := runL_le plP l at_
        rw [hl] at hle
        have HN := Lib.hid (show nxL l at_ = some (1, at_ + runL plP l at_, true) by unfold nxL; rw [hz, if_neg h60, if_neg h38, if_neg hm1])
        have C103 := run103 104 plP enters104 plain104 (some ⟨b, off, none⟩) n c l at_ HR.out (by omega) hn
        generalize runL plP l at_ = r at *
        have u2 : IntKind.i64.wrap ((at_ : Int) + (r : Int)) = (at_ : Int) + (r : Int) := IntWalk.i64_in _ (by omega)
        clear h hc hal hl hz h60 h38 hm1
        go_enter Tryz.func53, Tryz.ntmps53
        go_wp2_with fail
        refine C103.mono ?_
        rintro e w9 ⟨rfl, b9⟩
        have hR := kept_at b9 HX.out
        have B9 := Lib.hid b9
        clear b9 C103
        go_wp2_with (refine tok_put rfl _ _ rfl w.heap.size 1 (at_ : Nat) ((at_ : Int) + (r : Int)) true rfl rfl hR ?_; intro w8 hR3 hg3)
        exact bodyPost_ret (v := .tuple #[.agg (tk 1 (at_ : Nat) ((at_ : Int) + (r : Int)) true), .bool true]) (results_row2 rfl _ _ w.heap.size 87 _ (0, 0) _ _ rfl rfl hR3 Tryz.underlying87 rfl (by kernel_rfl)) rfl ⟨(1, at_ + r, true), by simp, by simp; omega, by simp; omega, (fun u hu => by rw [HN.out] at hu; injection hu), HB0.out _ B9.out _ hg3⟩
end Go.Proofs.YtibakihcicfeoaaGreat
