import Derived.Test.YtiegbochpcmicaaChecked
import Derived.Test.YtiegbochpcmicaaMem
import Derived.Test.YtiegbochpcmicaaPlain
import Derived.Test.YtiegbochpcmicaaBits
namespace Go.Proofs.Ytiegbochpcmicaa
open Go.RowKit

theorem or256 (a b : Int) (ha : 0 ≤ a ∧ a ≤ 255) (hb : 0 ≤ b ∧ b ≤ 255) : bits BinOp.or IntKind.i32 (a * 256) b = 256 * a + b := by
  rw [bits_join .i32 31 (by decide) wraps_i32 8 (a * 256) b (by omega) (by omega) (by omega) (by omega) (by omega) (by omega)]
  omega

theorem units1 (a b : Int) (w : World) (ha : 0 ≤ a ∧ a ≤ 255) (hb : 0 ≤ b ∧ b ≤ 255) :
    Calls Try.prog 73 #[.int .u8 a, .int .u8 b] w fun e w' => e = .returned (.int .i32 (unitOf true a b)) ∧ w = w' := by
  have H := Lib.hid (or256 a b ha hb)
  obtain ⟨ha1, ha2⟩ := ha
  obtain ⟨hb1, hb2⟩ := hb
  go_enter Try.func73, Try.ntmps73
  go_wp2
  go_ret
  exact ⟨ret_int H.out, rfl⟩

theorem units2 (a b : Int) (w : World) (ha : 0 ≤ a ∧ a ≤ 255) (hb : 0 ≤ b ∧ b ≤ 255) :
    Calls Try.prog 74 #[.int .u8 a, .int .u8 b] w fun e w' => e = .returned (.int .i32 (unitOf false a b)) ∧ w = w' := by
  have H := Lib.hid (or256 b a hb ha)
  obtain ⟨ha1, ha2⟩ := ha
  obtain ⟨hb1, hb2⟩ := hb
  go_enter Try.func74, Try.ntmps74
  go_wp2
  go_ret
  exact ⟨ret_int H.out, rfl⟩

theorem units_any (big : Bool) (w : World) :
    Calls Try.prog 58 #[.bool big] w fun e w' => e = .returned (.func (.func (if big then 73 else 74)) #[] #[]) ∧ w = w' := by
  cases big
  all_goals
    go_enter Try.func58, Try.ntmps58
    go_wp2
    go_ret
    exact ⟨rfl, rfl⟩

theorem short20 (A : Option Addr) (n c : Nat) (w : World) (B : Nat) (xs : List Value) (h : Rd w B 1 A n c xs) :
    Calls Try.prog 20 #[.slice A n c] w fun e w' => (e = .returned (.slice A (min n 200) c) ∧ Rd w B 1 A (min n 200) c (xs.take 200)) ∧ w = w' := by
  have hcap := h.cap
  have hmax := h.max
  have hlen := h.len
  unfold maxLen at hmax
  by_cases hn : 200 < n
  · have H := Lib.hid (h.take (k := 200) (by omega)); clear h hlen
    have hm := Lib.hid (show min n 200 = 200 by omega)
    go_enter Try.func20, Try.ntmps20
    go_wp2
    go_ret
    exact ⟨⟨by rw [hm.out]; simp, by rw [hm.out]; exact H.out⟩, rfl⟩
  · have H := Lib.hid h; clear h
    have hm := Lib.hid (show min n 200 = n by omega)
    have hx := Lib.hid (show xs.take 200 = xs by rw [List.take_of_length_le (by omega)])
    clear hlen
    go_enter Try.func20, Try.ntmps20
    go_wp2
    go_ret
    exact ⟨⟨by rw [hm.out]; rfl, by rw [hm.out, hx.out]; exact H.out⟩, rfl⟩




theorem unit59 (A : Option Addr) (c : Nat) (a b : Int) (big : Bool) (w : World) (B : Nat) (h : Rd w B 1 A 2 c (ints .u8 [a, b])) (ha : 0 ≤ a ∧ a ≤ 255) (hb : 0 ≤ b ∧ b ≤ 255) :
    Calls Try.prog 59 #[.slice A 2 c, .bool big] w fun e w' => e = .returned (.int .i64 (unitOf big a b)) ∧ ∃ q, w' = w.drewN q := by
  obtain ⟨ha1, ha2⟩ := ha
  obtain ⟨hb1, hb2⟩ := hb
  have hcap := h.cap
  obtain ⟨bl, off, rfl, _, hc⟩ := h.int_form (by omega)
  have h0 : w.cell? ⟨bl, off, none⟩ = some (.int .u8 a) := hc 0 (by omega)
  have h1 : w.cell? ⟨bl, off + 1, none⟩ = some (.int .u8 b) := hc 1 (by omega)
  clear h hc
  cases big
  all_goals
    go_enter Try.func59, Try.ntmps59
    go_wp2
    go_quiet (fail)
    go_wp2
    go_ret
    exact ⟨by simp [unitOf], _, rfl⟩

theorem is60 (u lo hi : Int) (w : World) : Calls Try.prog 60 #[.int .i64 u, .int .i64 lo, .int .i64 hi] w fun e w' => e = .returned (.bool (decide (lo ≤ u ∧ u ≤ hi))) ∧ w = w' := by
  by_cases h1 : lo ≤ u
  · go_enter Try.func60, Try.ntmps60
    go_wp2
    go_ret
    exact ⟨by simp [h1], rfl⟩
  · go_enter Try.func60, Try.ntmps60
    go_wp2
    go_ret
    exact ⟨by simp; omega, rfl⟩

theorem st24 : ST Try.prog 24 30 3 24 := ST.mk' (z := .agg #[.int .i32 0, .int .i64 0, .int .i64 0]) Try.underlying24 (by kernel_rfl) rfl (by decide)

theorem wGo_next {zs : List Int} {big : Bool} {k p m : Nat} {acc : List It} {r : Int} (H : Hid (wGo zs big k = (acc, p))) (hp : p < zs.length) (hs : wStep zs big p = (r, m)) : Hid (wGo zs big (k + 1) = (acc ++ [(r, p, m)], p + m)) := by
  have h : runGo (wStep zs big) zs.length k = (acc, p) := H.out
  show runGo (wStep zs big) zs.length (k + 1) = _
  rw [runGo_succ (by rw [h]; exact hp), h]
  simp only [hs]
theorem wGo_acc {zs : List Int} {big : Bool} {k p n : Nat} {acc : List It} (H : Hid (wGo zs big k = (acc, p))) (hl : Hid (zs.length = n)) : acc.length ≤ p ∧ p ≤ n := by
  have h : runGo (wStep zs big) zs.length k = (acc, p) := H.out
  have h1 := runGo_len_le (wStep_good zs big) k
  have h2 := runGo_le (wStep_good zs big) k
  rw [h] at h1 h2
  have := hl.out
  simp only at h1 h2
  omega
theorem wGo_end {zs : List Int} {big : Bool} {k p n : Nat} {acc : List It} (H : Hid (wGo zs big k = (acc, p))) (hl : Hid (zs.length = n)) (hp : n ≤ p) : Hid (wItems zs big = acc) := by
  have h : runGo (wStep zs big) zs.length k = (acc, p) := H.out
  have := runGo_all (wStep_good zs big) (k := k) (by rw [h, hl.out]; exact hp)
  rw [h] at this
  exact this.symm
theorem low_bits_ {v : Int} (hv : 0 ≤ v ∧ v ≤ 65535) : (bits BinOp.andNot IntKind.i32 v 1023 == 56320) = decide (56320 ≤ v ∧ v ≤ 57343) := by
  obtain ⟨m, rfl⟩ := Int.eq_ofNat_of_zero_le hv.1
  have := low_bits ⟨m / 256, by omega⟩ ⟨m % 256, by omega⟩
  simp only [show 256 * (m / 256) + m % 256 = m by omega] at this
  rw [this]
  simp only [decide_eq_decide]
  omega
theorem low_no {v : Int} (hv : 0 ≤ v ∧ v ≤ 65535) (h : v < 56320 ∨ 57343 < v) : (bits BinOp.andNot IntKind.i32 v 1023 == 56320) = false := by
  rw [low_bits_ hv]
  simp only [decide_eq_false_iff_not]
  omega
theorem low_yes {v : Int} (hv : 0 ≤ v ∧ v ≤ 65535) (h : ¬ (v < 56320 ∨ 57343 < v)) : (bits BinOp.andNot IntKind.i32 v 1023 == 56320) = true := by
  rw [low_bits_ hv]
  simp only [decide_eq_true_eq]
  omega
theorem low_of {v : Int} (hv : 0 ≤ v ∧ v ≤ 65535) (h : ¬ (v < 56320 ∨ 57343 < v)) : bits BinOp.and IntKind.i32 v 1023 = v - 56320 := by
  have := bits_mask .i32 31 (by decide) wraps_i32 10 (by decide) v hv.1 (by omega)
  rw [show ((2 : Int) ^ 10 - 1) = 1023 by decide] at this
  rw [this]
  omega
end Go.Proofs.Ytiegbochpcmicaa
