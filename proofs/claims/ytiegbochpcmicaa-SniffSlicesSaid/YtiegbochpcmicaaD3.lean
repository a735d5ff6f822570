/- The walks of the document's begins and Kind of layer 3. No condition. -/
import Derived.Test.YtiegbochpcmicaaD2
namespace Go.Proofs.Ytiegbochpcmicaa
open Go.RowKit

/-- Do bytes begin so? -/
def beg (zs sl : List Int) : Bool := decide (zs.take sl.length = sl)
theorem begins70 (A : Option Addr) (n c : Nat) (zs sl : List Int) (s : ByteArray) (w : World) (h : Rd w w.heap.size 1 A n c (ints .u8 zs)) (hz : Bytes8 zs) (hs : Bytes8 sl) (hS : s = strOfNums sl) (hl : sl.length ≤ 8) :
    Calls Try.prog 70 #[.slice A n c, .string s] w fun e w' => e = .returned (.bool (beg zs sl)) ∧ w = w' := by
  have hlen := h.int_len
  have hcap := h.cap
  have hmax := h.max
  unfold maxLen at hmax
  have hsz : s.size = sl.length := by rw [hS, strOfNums_size]
  by_cases hn : sl.length ≤ n
  · have h2 := h.take (k := sl.length) hn
    rw [← List.map_take, Nat.mul_one] at h2
    have e0 := run_str' h2
    have tb : ((strOfNums (zs.take sl.length)).toList == s.toList) = beg zs sl := by rw [hS, str_beq (hz.take _) hs]; rfl
    have t0 : decide (sl.length ≤ n) = true := by simp; omega
    generalize beg zs sl = vb at *
    generalize zs.take sl.length = ys at *
    clear h h2 hS hz hs hlen
    go_enter Try.func70, Try.ntmps70
    go_wp2_with fail
    go_ret
    exact ⟨rfl, rfl⟩
  · have hb : beg zs sl = false := by
      unfold beg
      rw [decide_eq_false_iff_not]
      intro he
      have := congrArg List.length he
      rw [List.length_take] at this
      omega
    have t0 : decide (sl.length ≤ n) = false := by simp; omega
    rw [hb]
    clear h hS hz hs hlen hb
    go_enter Try.func70, Try.ntmps70
    go_wp2_with fail
    go_ret
    exact ⟨rfl, rfl⟩
end Go.Proofs.Ytiegbochpcmicaa
