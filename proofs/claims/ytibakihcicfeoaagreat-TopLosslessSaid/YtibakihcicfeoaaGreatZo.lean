/- The walk of alive, where audit.Holds answers for any short bytes. No condition. -/
import Derived.Test.YtibakihcicfeoaaGreatZn
import Derived.Test.YtibakihcicfeoaaGreatTo
import Derived.Lib.SlBytesConst
namespace Go.Proofs.YtibakihcicfeoaaGreat
open Go.RowKit Ev
set_option maxRecDepth 100000 in
theorem default26 (w : World) : Calls Tryz.prog 26 #[] w fun e w' => e = .returned cfgV ∧ Below w.heap.size w w' := by
  have hal := (Below.refl w.heap.size w).alloc (Nat.le_refl _) (.cells #[.int .i64 0, .int .i64 0, .int .i64 0, .int .i64 0, .int .i64 0, .bool false, .bool false] 67)
  have HAL := Lib.hid hal
  have hX := heap_alloc_new w (.cells #[.int .i64 0, .int .i64 0, .int .i64 0, .int .i64 0, .int .i64 0, .bool false, .bool false] 67)
  clear hal
  go_enter Tryz.func26, Tryz.ntmps26
  go_wp2_with (refine wpList_put rfl 67 _ _ rfl w.heap.size #[.int .i64 2, .int .i64 80, .int .i64 0, .int .i64 0, .int .i64 0, .bool false, .bool false] rfl rfl 67 #[.int .i64 0, .int .i64 0, .int .i64 0, .int .i64 0, .int .i64 0, .bool false, .bool false] hX (by kernel_rfl) rfl (by simp [Value.oneCell']) ?_; intro w3 hR3 hg3)
  exact bodyPost_ret (v := cfgV) (results_cell_row rfl _ _ w.heap.size 67 _ (0, 0) _ rfl hR3 Tryz.underlying67 rfl (by kernel_rfl)) rfl ⟨rfl, Below.put HAL.out (Nat.le_refl _) hg3 HAL.out.size⟩
/-- What is asked of audit.Holds. -/
def HoldsOk : Prop := ∀ (W : World) (A : Option Addr) (n c : Nat) (zs : List Int), Rd W W.heap.size 1 A n c (ints .u8 zs) → Bytes8 zs → n ≤ 400 → Calls Tryz.prog 7 #[.slice A n c] W fun e w' => e = .returned (.bool true) ∧ Below W.heap.size W w'
theorem outF_str : strOfNums (toZ outF) = ⟨#[60, 97, 62, 10, 32, 32, 60, 98, 47, 62, 10, 60, 47, 97, 62, 10]⟩ := by decide
theorem outF_8 : Bytes8 (toZ outF) := by unfold Bytes8; decide
theorem outP_str : strOfNums (toZ outP) = ⟨#[60, 113, 58, 97, 32, 120, 109, 108, 110, 115, 58, 113, 61, 39, 117, 39, 47, 62]⟩ := by decide
/-- format.Format behind its argument, laid. -/
theorem fmtC {w w1 : World} (hb : Below w.heap.size w w1) : Calls Tryz.prog 25 #[cfgV, .slice (some ⟨w1.heap.size, 0, none⟩) 11 11, .int .i64 0] (w1.alloc (.cells #[.int .u8 60, .int .u8 97, .int .u8 62, .int .u8 60, .int .u8 98, .int .u8 47, .int .u8 62, .int .u8 60, .int .u8 47, .int .u8 97, .int .u8 62] 5 (11, 12))) fun e w' =>
    ∃ q c, e = .returned (.tuple #[.slice (some ⟨q.b, q.o, none⟩) 16 c, .int .i64 0]) ∧ 16 ≤ c ∧ c ≤ 9223372036854775807 ∧ w.heap.size ≤ q.b ∧ BytesAt w' q outF ∧ Below w.heap.size w w' :=
  format25 (hb.alloc hb.size _) (p := ⟨w1.heap.size, 0, 11⟩) (lit_bytes w1 inF _ _ rfl (.inr (by decide))) hb.size rfl
/-- rename.Prefix behind its argument, laid. -/
theorem preC {w w2 : World} (hb : Below w.heap.size w w2) {q : Pl} (hq : BytesAt w2 q outF) (hqb : w.heap.size ≤ q.b) : Calls Tryz.prog 27 #[.slice (some ⟨w2.heap.size, 0, none⟩) 18 18, .slice none 0 0, .string ⟨#[112]⟩, .string ⟨#[113]⟩, .int .i64 0]
    (w2.alloc (.cells #[.int .u8 60, .int .u8 112, .int .u8 58, .int .u8 97, .int .u8 32, .int .u8 120, .int .u8 109, .int .u8 108, .int .u8 110, .int .u8 115, .int .u8 58, .int .u8 112, .int .u8 61, .int .u8 39, .int .u8 117, .int .u8 39, .int .u8 47, .int .u8 62] 5 (18, 19))) fun e w' =>
    ∃ z c x, e = .returned (.tuple #[.slice (some ⟨z.b, z.o, none⟩) 18 c, x, .int .i64 0]) ∧ 18 ≤ c ∧ c ≤ 9223372036854775807 ∧ BytesAt w' z outP ∧ BytesAt w' q outF ∧ Below w.heap.size w w' := by
  have hlt : q.b < w2.heap.size := by
    obtain ⟨c, t, fr, h1, _⟩ := hq
    exact (Array.getElem?_eq_some_iff.1 h1).1
  exact prefix27 (hb.alloc hb.size _) (p := ⟨w2.heap.size, 0, 18⟩) (lit_bytes w2 inP _ _ rfl (.inr (by decide))) hb.size rfl (hq.below ((Below.refl _ _).alloc (Nat.le_refl _) _)) hqb (by show w2.heap.size ≠ q.b; omega)
set_option maxRecDepth 100000 in
set_option maxHeartbeats 4000000 in
theorem alive10 (H7 : HoldsOk) (w : World) : Calls Tryz.prog 10 #[] w fun e w' => e = .returned (.bool true) ∧ Below w.heap.size w w' := by
  have q22 := fun (w : World) (C : Array Value) (n c : Nat) => Lib.run_convert_bytes_const (P := Tryz.prog) w 22 5 C n c Tryz.underlying22 Tryz.underlying5
  have e1 : ∀ w : World, (binOp BinOp.eql 9 (.string ⟨#[60, 97, 62, 10, 32, 32, 60, 98, 47, 62, 10, 60, 47, 97, 62, 10]⟩) (.string ⟨#[60, 97, 62, 10, 32, 32, 60, 98, 47, 62, 10, 60, 47, 97, 62, 10]⟩)).run Tryz.prog w = .ok (.bool true) w := fun _ => by kernel_rfl
  have e2 : ∀ w : World, (binOp BinOp.eql 9 (.string ⟨#[60, 113, 58, 97, 32, 120, 109, 108, 110, 115, 58, 113, 61, 39, 117, 39, 47, 62]⟩) (.string ⟨#[60, 113, 58, 97, 32, 120, 109, 108, 110, 115, 58, 113, 61, 39, 117, 39, 47, 62]⟩)).run Tryz.prog w = .ok (.bool true) w := fun _ => by kernel_rfl
  have C26 := default26 w
  go_enter Tryz.func10, Tryz.ntmps10
  go_wp2_with (first
    | (go_at_call 26; refine C26.mono ?_; rintro e w1 ⟨rfl, b1⟩; have B1 := Lib.hid b1; clear C26 b1)
    | (go_at_call 25; refine (fmtC B1.out).mono ?_; rintro e w2 ⟨q, c, rfl, c1, c2, hqb, hq, b2⟩; have B2 := Lib.hid b2; have HQ := Lib.hid hq; have HQB := Lib.hid hqb; have HC := Lib.hid (And.intro c1 c2); clear b2 hq hqb c1 c2)
    | (go_at_call 27; refine (preC B2.out HQ.out HQB.out).mono ?_; rintro e w3 ⟨z, cz, x, rfl, d1, d2, hz, hq, b3⟩; have B3 := Lib.hid b3; have RQ := Lib.hid (hq.rd (n := 16) rfl HC.out.1 HC.out.2); have s1 := run_str' (hq.rd (n := 16) rfl HC.out.1 HC.out.2); have s2 := run_str' (hz.rd (n := 18) rfl d1 d2); rw [outF_str] at s1; rw [outP_str] at s2; clear b3 hq hz)
    | (go_at_call 7; refine (H7 _ _ _ _ _ RQ.out outF_8 (by decide)).mono ?_; rintro e w4 ⟨rfl, b4⟩; have B4 := Lib.hid (B3.out.trans (b4.mono B3.out.size)); clear b4))
  go_ret
  exact ⟨rfl, B4.out⟩
end Go.Proofs.YtibakihcicfeoaaGreat
