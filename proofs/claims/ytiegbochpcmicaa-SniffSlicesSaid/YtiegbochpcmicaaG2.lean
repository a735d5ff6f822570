/- The walks of strings.Builder's Write and String, and of a text's String. No condition. -/
import Derived.Test.YtiegbochpcmicaaG1
import Derived.Test.YtiegbochpcmicaaF2
namespace Go.Proofs.Ytiegbochpcmicaa
open Go.RowKit

/-- A row of integers is as it was where every integer's cell is. -/
theorem Rd.ints_keep {w w' : World} {B n c : Nat} {A : Option Addr} {k : IntKind} {zs : List Int} (h : Rd w B 1 A n c (ints k zs)) (hk : ∀ a z, w.cell? a = some (.int k z) → w'.cell? a = some (.int k z)) : Rd w' B 1 A n c (ints k zs) :=
  ⟨h.len, h.cap, h.max, fun hn => by
    obtain ⟨b, off, e, hb, hc⟩ := h.at_ hn
    refine ⟨b, off, e, hb, fun j u hu => ?_⟩
    have := hc j u hu
    rw [ints, List.getElem?_map] at hu
    cases hz : zs[j]? with
    | none => rw [hz] at hu; cases hu
    | some z =>
      rw [hz] at hu
      obtain rfl : Value.int k z = u := by simpa using hu
      exact hk _ _ this⟩
theorem copy76' (B b : Nat) (bs : List Value) (w : World) (h : Lib.IsBuilder 86 5 B b bs w) :
    Calls Try.prog 76 #[.pointer (some ⟨b, 0, none⟩)] w fun e w' => e = .returned (.tuple #[]) ∧ (Lib.BuilderAt 86 5 B b (.pointer (some ⟨b, 0, none⟩)) bs w' ∧ Below B w w' ∧ w'.heap.size = w.heap.size ∧ ∀ a k z, w.cell? a = some (.int k z) → w'.cell? a = some (.int k z)) := by
  rcases h with h | h
  · have h0 := h.cell0
    refine (copy_fresh b w h0 h.shape h.frozen0).mono ?_
    rintro e w' ⟨rfl, rfl⟩
    refine ⟨rfl, h.used _, (Below.refl B w).setCell (p := ⟨b, 0, none⟩) h.1 _, by simp [World.setCell], fun a k z ha => ?_⟩
    rw [World.cell?_setCell_other w _ _ _ (fun e => by subst e; rw [h0] at ha; cases ha)]
    exact ha
  · refine (copy_used b w h.cell0).mono ?_
    rintro e w' ⟨rfl, rfl⟩
    exact ⟨rfl, h, Below.refl B _, rfl, fun _ _ _ ha => ha⟩
theorem builder_below {B b : Nat} {bs : List Value} {w w' : World} (h : Lib.IsBuilder 86 5 B b bs w) (hb : Below w.heap.size w w') : Lib.IsBuilder 86 5 B b bs w' := by
  have key : ∀ p, Lib.BuilderAt 86 5 B b p bs w → Lib.BuilderAt 86 5 B b p bs w' := fun p hp => by
    have hlt := hp.lt
    obtain ⟨hB, v, hk, ho, hne⟩ := hp
    exact ⟨hB, v, (hb.block b hlt).trans hk, own_below ho hb, hne⟩
  exact h.imp (key _) (key _)

set_option maxRecDepth 100000 in
set_option maxHeartbeats 1000000 in
theorem write71 (B b : Nat) (bs : List Value) (A : Option Addr) (n c : Nat) (zs : List Int) (w : World) (h : Lib.IsBuilder 86 5 B b bs w) (hr : Rd w w.heap.size 1 A n c (ints .u8 zs)) (hBw : B ≤ w.heap.size) (hlen : bs.length + n ≤ 1048576) :
    Calls Try.prog 71 #[.pointer (some ⟨b, 0, none⟩), .slice A n c] w fun e w' => e = .returned (.tuple #[.int .i64 n, .nilIface]) ∧ Lib.IsBuilder 86 5 B b (bs ++ ints .u8 zs) w' ∧ Below B w w' := by
  have hzl := hr.int_len
  have C76 := copy76' B b bs w h
  clear h
  go_enter Try.func71, Try.ntmps71
  go_wp2_with (first | (go_at_call 76; refine C76.mono ?_; rintro e w1 ⟨rfl, ⟨hB, v, hk, ho, hne⟩, hb1, hs1, hkeep⟩; clear C76; have hr1 := (hr.ints_keep fun a z => hkeep a _ z).more (Nat.le_of_eq hs1.symm); have y1 : w1.cell? ⟨b, 1, none⟩ = some v := cell_of_row w1 b 1 _ _ _ hk; have f1 := frozen_of_row w1 b 1 _ _ hk; have hk := Lib.hid hk; clear hr hkeep) | (at_builtin; refine wpList_pushesB st22 rfl _ _ rfl _ rfl ho rfl hr1 (ints_cells _ _) hlen (by omega) hb1 (by omega) (Nat.le_refl _) ?_; intro v2 w2 ho2 hb2 hk2; have hk3 := hk2 _ _ hk.out (fun e => hne e.symm); have y1 : w2.cell? ⟨b, 1, none⟩ = some v := cell_of_row w2 b 1 _ _ _ hk3; have f1 := frozen_of_row w2 b 1 _ _ hk3; have hk3 := Lib.hid hk3; obtain ⟨A9, c9, rfl, ho2⟩ := own_form ho2; clear hk2))
  go_ret2
  exact ⟨rfl, .inr (Lib.BuilderAt.put hB hk3.out (own_as ho2 (by simp [hzl]) rfl) (by decide)), hb2.setCell (p := ⟨b, 1, none⟩) hB _⟩
end Go.Proofs.Ytiegbochpcmicaa
