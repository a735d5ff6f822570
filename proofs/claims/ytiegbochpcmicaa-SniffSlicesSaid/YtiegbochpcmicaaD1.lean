/- The walks of layer 3's small functions: short, few, Pieces, the document's Items and Encode. No condition. -/
import Derived.Test.YtiegbochpcmicaaC3
import Derived.Test.YtiegbochpcmicaaA5
import Derived.Test.YtiegbochpcmicaaB8
namespace Go.Proofs.Ytiegbochpcmicaa
open Go.RowKit

theorem short41 (A : Option Addr) (n c : Nat) (w : World) (B : Nat) (xs : List Value) (h : Rd w B 1 A n c xs) :
    Calls Try.prog 41 #[.slice A n c] w fun e w' => (e = .returned (.slice A (min n 200) c) ∧ Rd w B 1 A (min n 200) c (xs.take 200)) ∧ w = w' := by
  have hcap := h.cap
  have hmax := h.max
  have hlen := h.len
  unfold maxLen at hmax
  by_cases hn : 200 < n
  · have H := Lib.hid (h.take (k := 200) (by omega)); clear h hlen
    have hm := Lib.hid (show min n 200 = 200 by omega)
    go_enter Try.func41, Try.ntmps41
    go_wp2
    go_ret
    exact ⟨⟨by rw [hm.out]; simp, by rw [hm.out]; exact H.out⟩, rfl⟩
  · have H := Lib.hid h; clear h
    have hm := Lib.hid (show min n 200 = n by omega)
    have hx := Lib.hid (show xs.take 200 = xs by rw [List.take_of_length_le (by omega)])
    clear hlen
    go_enter Try.func41, Try.ntmps41
    go_wp2
    go_ret
    exact ⟨⟨by rw [hm.out]; rfl, by rw [hm.out, hx.out]; exact H.out⟩, rfl⟩

theorem few52 (A : Option Addr) (n c : Nat) (w : World) (B : Nat) (xs : List Value) (h : Rd w B 1 A n c xs) :
    Calls Try.prog 52 #[.slice A n c] w fun e w' => e = .returned (.slice A (min n 60) c) ∧ w = w' := by
  have hcap := h.cap
  have hmax := h.max
  unfold maxLen at hmax
  clear h
  by_cases hn : 60 < n
  · have hm := Lib.hid (show min n 60 = 60 by omega)
    go_enter Try.func52, Try.ntmps52
    go_wp2
    go_ret
    exact ⟨by rw [hm.out]; simp, rfl⟩
  · have hm := Lib.hid (show min n 60 = n by omega)
    go_enter Try.func52, Try.ntmps52
    go_wp2
    go_ret
    exact ⟨by rw [hm.out]; rfl, rfl⟩

/-- The pieces of bytes of a kind. -/
def pItems (kind : Int) (zs : List Int) : List It := if kind = 0 then sItems zs else if kind = 1 then wItems zs true else if kind = 2 then wItems zs false else []
def PItemsSaid (L : List It) (w : World) (e : Ending) (w' : World) : Prop := ∃ A' c', e = .returned (.slice A' L.length c') ∧ Rd w' w'.heap.size 3 A' L.length c' (flat L) ∧ Below w.heap.size w w'

theorem pieces46 (kind : Int) (A : Option Addr) (n c : Nat) (zs : List Int) (w : World) (h : Rd w w.heap.size 1 A n c (ints .u8 zs)) (hz : Bytes8 zs) (hn : n ≤ 4096) :
    Calls Try.prog 46 #[.int .i64 kind, .slice A n c] w (PItemsSaid (pItems kind zs) w) := by
  by_cases h0 : kind = 0
  · subst h0
    have C := items25 A n c zs w h hz hn
    rw [show pItems 0 zs = sItems zs from rfl]
    go_enter Try.func46, Try.ntmps46
    go_wp2_with (go_at_call 25; refine C.mono ?_; rintro e w1 ⟨A1, c1, rfl, hr, hb⟩; clear C)
    go_ret
    exact ⟨A1, c1, rfl, hr, hb⟩
  · have t0 : (kind == 0) = false := by simpa using h0
    by_cases h1 : kind = 1
    · subst h1
      have C := items21 A n c zs true w h hz hn
      rw [show pItems 1 zs = wItems zs true from rfl]
      go_enter Try.func46, Try.ntmps46
      go_wp2_with (go_at_call 21; refine C.mono ?_; rintro e w1 ⟨A1, c1, rfl, hr, hb⟩; clear C)
      go_ret
      exact ⟨A1, c1, rfl, hr, hb⟩
    · have t1 : (kind == 1) = false := by simpa using h1
      by_cases h2 : kind = 2
      · subst h2
        have C := items21 A n c zs false w h hz hn
        rw [show pItems 2 zs = wItems zs false from rfl]
        go_enter Try.func46, Try.ntmps46
        go_wp2_with (go_at_call 21; refine C.mono ?_; rintro e w1 ⟨A1, c1, rfl, hr, hb⟩; clear C)
        go_ret
        exact ⟨A1, c1, rfl, hr, hb⟩
      · have t2 : (kind == 2) = false := by simpa using h2
        rw [show pItems kind zs = [] by unfold pItems; rw [if_neg h0, if_neg h1, if_neg h2]]
        go_enter Try.func46, Try.ntmps46
        go_wp2_with fail
        go_ret
        exact ⟨none, 0, rfl, Rd.nil_, Below.refl _ _⟩
theorem items47 (kind : Int) (A : Option Addr) (n c : Nat) (zs : List Int) (w : World) (h : Rd w w.heap.size 1 A n c (ints .u8 zs)) (hz : Bytes8 zs) (hn : n ≤ 4096) (hk : 0 ≤ kind ∧ kind ≤ 2) :
    Calls Try.prog 47 #[.slice A n c, .int .i64 kind] w (PItemsSaid (pItems kind zs) w) := by
  by_cases h0 : kind = 0
  · subst h0
    have C := items28 A n c zs w h hz hn
    rw [show pItems 0 zs = sItems zs from rfl]
    go_enter Try.func47, Try.ntmps47
    go_wp2_with (go_at_call 28; refine C.mono ?_; rintro e w1 ⟨A1, c1, rfl, hr, hb⟩; clear C)
    go_ret
    exact ⟨A1, c1, rfl, hr, hb⟩
  · by_cases h1 : kind = 1
    · subst h1
      have C := items22r A n c zs true w h hz hn
      rw [show pItems 1 zs = wItems zs true from rfl]
      go_enter Try.func47, Try.ntmps47
      go_wp2_with (go_at_call 22; refine C.mono ?_; rintro e w1 ⟨A1, c1, rfl, hr, hb⟩; clear C)
      go_ret
      exact ⟨A1, c1, rfl, hr, hb⟩
    · obtain rfl : kind = 2 := by omega
      have C := items22r A n c zs false w h hz hn
      rw [show pItems 2 zs = wItems zs false from rfl]
      go_enter Try.func47, Try.ntmps47
      go_wp2_with (go_at_call 22; refine C.mono ?_; rintro e w1 ⟨A1, c1, rfl, hr, hb⟩; clear C)
      go_ret
      exact ⟨A1, c1, rfl, hr, hb⟩
end Go.Proofs.Ytiegbochpcmicaa
