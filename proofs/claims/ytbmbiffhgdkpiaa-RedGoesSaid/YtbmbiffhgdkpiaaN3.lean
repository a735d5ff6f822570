/- The walk of an arena's Leaf. No condition. -/
import Derived.Test.YtbmbiffhgdkpiaaN2
namespace Go.Proofs.Ytbmbiffhgdkpiaa
open Go.RowKit

theorem own_mono {w : World} {B B' : Nat} {e : TypeId} {sz n : Nat} {v : Value} {xs : List Value} (h : w.ownsRow B e sz v n xs) (hB : B' ≤ B) : w.ownsRow B' e sz v n xs := by
  obtain ⟨hl, hn | ⟨g, cap, cur, hv, hb, r⟩⟩ := h
  · exact ⟨hl, .inl hn⟩
  · exact ⟨hl, .inr ⟨g, cap, cur, hv, by omega, r⟩⟩

set_option maxHeartbeats 1000000 in
theorem leaf26 {w : World} {B ga : Nat} {N : List GN} (h : Arena w B ga N) (kind : Int) (A : Option Addr) (n c : Nat) (zs : List Int) (hr : Rd w w.heap.size 1 A n c (ints .u8 zs)) (hn : N.length ≤ 65536) (hz : n ≤ 65536) (hB : B ≤ w.heap.size) :
    Calls Try.prog 26 #[.pointer (some ⟨ga, 0, none⟩), .int .i64 kind, .slice A n c] w fun e w' => e = .returned (.int .i64 N.length) ∧ Arena w' B ga (N ++ [⟨kind, n, 1, true, zs, []⟩]) ∧ Kept9 w w' ∧ Below B w w' := by
  have hl := Lib.hid hr.int_len
  have C57 := clone57 A n c zs w hr hz
  clear hr
  unfold OwnSaid at C57
  go_enter Try.func26, Try.ntmps26
  go_wp2_with (first | (go_at_call 57; refine C57.mono ?_; rintro e w1 ⟨A1, c1, rfl, ho1, hb1⟩; clear C57; have ha1 := h.below hb1; have hs1 := hb1.size; have C56 := add56 ha1 ⟨kind, n, 1, true, zs, []⟩ A1 none n c1 0 0 (by rw [hl.out]; exact own_mono ho1 hB) (World.ownsRow_nil _ _ _ _) hn (by omega); have hk1 := Kept9.of_below hb1; have hbB := hb1.mono hB; clear h ha1 ho1 hb1) | (go_at_call 56; refine C56.mono ?_; rintro e w2 ⟨rfl, ha2, hk2, hb2⟩; clear C56))
  go_ret
  exact ⟨rfl, ha2, hk1.trans hk2, hbB.trans hb2⟩
theorem leaf26_nil (kind : Int) (A : Option Addr) (n c : Nat) (w : World) : Calls Try.prog 26 #[.pointer none, .int .i64 kind, .slice A n c] w fun e w' => e = .returned (.int .i64 0) ∧ w = w' := by
  go_enter Try.func26, Try.ntmps26
  go_wp2_with fail
  go_ret
  exact ⟨rfl, rfl⟩
end Go.Proofs.Ytbmbiffhgdkpiaa
