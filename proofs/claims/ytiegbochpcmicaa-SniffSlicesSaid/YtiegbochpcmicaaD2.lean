/- The walks of layer 3's Encode and of the document's Encode. No condition. -/
import Derived.Test.YtiegbochpcmicaaD1
namespace Go.Proofs.Ytiegbochpcmicaa
open Go.RowKit

/-- Runes' bytes of a kind. -/
def pEnc (kind : Int) (l : List Int) : List Int := if kind = 0 then encs l else if kind = 1 then wencs true l else if kind = 2 then wencs false l else []
theorem encode51 (kind : Int) (A : Option Addr) (n c : Nat) (l : List Int) (w : World) (h : Rd w w.heap.size 1 A n c (ints .i32 l)) (hn : n ≤ 4096) :
    Calls Try.prog 51 #[.int .i64 kind, .slice A n c] w (BytesSaid (pEnc kind l) w) := by
  by_cases h0 : kind = 0
  · subst h0
    have C := bytes32 A n c l w h hn
    rw [show pEnc 0 l = encs l from rfl]
    go_enter Try.func51, Try.ntmps51
    go_wp2_with (go_at_call 32; refine C.mono ?_; rintro e w1 ⟨A1, c1, rfl, ho, hb⟩; clear C)
    go_ret
    exact ⟨A1, c1, rfl, ho, hb⟩
  · have t0 : (kind == 0) = false := by simpa using h0
    by_cases h1 : kind = 1
    · subst h1
      have C := bytes39 true A n c l w h hn
      rw [show pEnc 1 l = wencs true l from rfl]
      go_enter Try.func51, Try.ntmps51
      go_wp2_with (go_at_call 39; refine C.mono ?_; rintro e w1 ⟨A1, c1, rfl, ho, hb⟩; clear C)
      go_ret
      exact ⟨A1, c1, rfl, ho, hb⟩
    · have t1 : (kind == 1) = false := by simpa using h1
      by_cases h2 : kind = 2
      · subst h2
        have C := bytes39 false A n c l w h hn
        rw [show pEnc 2 l = wencs false l from rfl]
        go_enter Try.func51, Try.ntmps51
        go_wp2_with (go_at_call 39; refine C.mono ?_; rintro e w1 ⟨A1, c1, rfl, ho, hb⟩; clear C)
        go_ret
        exact ⟨A1, c1, rfl, ho, hb⟩
      · have t2 : (kind == 2) = false := by simpa using h2
        rw [show pEnc kind l = [] by unfold pEnc; rw [if_neg h0, if_neg h1, if_neg h2]]
        go_enter Try.func51, Try.ntmps51
        go_wp2_with fail
        go_ret
        exact ⟨none, 0, rfl, World.ownsRow_nil _ _ _ _, Below.refl _ _⟩
theorem encode53 (kind : Int) (A : Option Addr) (n c : Nat) (l : List Int) (w : World) (h : Rd w w.heap.size 1 A n c (ints .i32 l)) (hn : n ≤ 4096) :
    Calls Try.prog 53 #[.int .i64 kind, .slice A n c] w (BytesSaid (pEnc kind l) w) := by
  by_cases h0 : kind = 0
  · subst h0
    have C := bytes33 A n c l w h hn
    rw [show pEnc 0 l = encs l from rfl]
    go_enter Try.func53, Try.ntmps53
    go_wp2_with (go_at_call 33; refine C.mono ?_; rintro e w1 ⟨A1, c1, rfl, ho, hb⟩; clear C)
    go_ret
    exact ⟨A1, c1, rfl, ho, hb⟩
  · have t0 : (kind == 0) = false := by simpa using h0
    by_cases h1 : kind = 1
    · subst h1
      have C := bytes40 true A n c l w h hn
      rw [show pEnc 1 l = wencs true l from rfl]
      go_enter Try.func53, Try.ntmps53
      go_wp2_with (go_at_call 40; refine C.mono ?_; rintro e w1 ⟨A1, c1, rfl, ho, hb⟩; clear C)
      go_ret
      exact ⟨A1, c1, rfl, ho, hb⟩
    · have t1 : (kind == 1) = false := by simpa using h1
      by_cases h2 : kind = 2
      · subst h2
        have C := bytes40 false A n c l w h hn
        rw [show pEnc 2 l = wencs false l from rfl]
        go_enter Try.func53, Try.ntmps53
        go_wp2_with (go_at_call 40; refine C.mono ?_; rintro e w1 ⟨A1, c1, rfl, ho, hb⟩; clear C)
        go_ret
        exact ⟨A1, c1, rfl, ho, hb⟩
      · have t2 : (kind == 2) = false := by simpa using h2
        rw [show pEnc kind l = [] by unfold pEnc; rw [if_neg h0, if_neg h1, if_neg h2]]
        go_enter Try.func53, Try.ntmps53
        go_wp2_with fail
        go_ret
        exact ⟨none, 0, rfl, World.ownsRow_nil _ _ _ _, Below.refl _ _⟩
end Go.Proofs.Ytiegbochpcmicaa
