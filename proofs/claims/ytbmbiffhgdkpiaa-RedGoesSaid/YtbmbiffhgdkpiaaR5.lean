/- Cursors: the walks of slices.Reverse and Path. No condition. -/
import Derived.Test.YtbmbiffhgdkpiaaR4
import Derived.RegionTactic
namespace Go.Proofs.Ytbmbiffhgdkpiaa
open Go.RowKit

theorem gz_set (l : List Int) (i : Nat) (z : Int) (j : Nat) (hi : i < l.length) : gz (l.set i z) j = if j = i then z else gz l j := by
  unfold gz
  simp only [List.getD_eq_getElem?_getD, List.getElem?_set]
  by_cases h : i = j
  · subst h; simp [hi]
  · simp [h, Ne.symm h]
/-- i swaps done. -/
def Rev (zs zs' : List Int) (n i : Nat) : Prop := zs'.length = n ∧ ∀ j, j < n → gz zs' j = if j < i ∨ n < j + 1 + i then gz zs (n - 1 - j) else gz zs j
theorem Rev.end_ {zs zs' : List Int} {n i : Nat} (hz : zs.length = n) (h : Rev zs zs' n i) (hi : n ≤ 2 * i + 1) : zs' = zs.reverse := by
  refine List.ext_getElem (by simp [h.1, hz]) fun j h1 h2 => ?_
  have hj : j < n := by rw [h.1] at h1; exact h1
  have := h.2 j hj
  rw [gz_eq h1] at this
  rw [this, List.getElem_reverse, ← gz_eq (by omega)]
  have e : zs.length - 1 - j = n - 1 - j := by omega
  rw [e]
  split
  · rfl
  · rename_i hc
    have : n - 1 - j = j := by omega
    rw [this]
theorem Rev.step {zs zs' : List Int} {n i : Nat} (h : Rev zs zs' n i) (hi : 2 * i + 1 < n) : Rev zs ((zs'.set i (gz zs' (n - 1 - i))).set (n - 1 - i) (gz zs' i)) n (i + 1) := by
  refine ⟨by simp [h.1], fun j hj => ?_⟩
  have hl := h.1
  rw [gz_set _ _ _ _ (by simp; omega), gz_set _ _ _ _ (by omega)]
  by_cases h1 : j = n - 1 - i
  · rw [if_pos h1, if_pos (by omega), h.2 i (by omega), if_neg (by omega), show n - 1 - j = i by omega]
  · rw [if_neg h1]
    by_cases h2 : j = i
    · rw [if_pos h2, if_pos (by omega), h.2 (n - 1 - i) (by omega), if_neg (by omega), h2]
    · rw [if_neg h2, h.2 j hj]
      by_cases h3 : j < i ∨ n < j + 1 + i
      · rw [if_pos h3, if_pos (by omega)]
      · rw [if_neg h3, if_neg (by omega)]
set_option maxRecDepth 100000 in
set_option maxHeartbeats 4000000 in
theorem reverse60 {w : World} {B : Nat} (A : Option Addr) (n c : Nat) (zs : List Int) (h : w.ownsRow B 3 1 (.slice A n c) n (ints .i64 zs)) (hn : n ≤ 4096) :
    Calls Try.prog 60 #[.slice A n c] w fun e w' => e = .returned (.tuple #[]) ∧ w'.ownsRow B 3 1 (.slice A n c) n (ints .i64 zs.reverse) ∧ w.grownBy w' (Value.slice A n c).ownBlock := by
  have HL := Lib.hid (by have := h.1; simpa using this : zs.length = n)
  go_enter Try.func60, Try.ntmps60
  go_wp2_with fail
  go_loopw [2, 3] (fun i j wr => ∃ (k : Nat) (zs' : List Int), 2 * k ≤ n + 1 ∧ i = .int .i64 k ∧ j = .int .i64 ((n : Int) - 1 - k) ∧ Hid (Rev zs zs' n k) ∧ wr.ownsRow B 3 1 (.slice A n c) n (ints .i64 zs') ∧ w.grownBy wr (Value.slice A n c).ownBlock)
    (fun i _ _ => n + 1 - (intOf i).toNat)
  case atStart => exact ⟨0, zs, by omega, rfl, by simp, Lib.hid ⟨HL.out, fun j hj => by rw [if_neg (by omega)]⟩, h, World.grownBy.refl _ _⟩
  case round =>
    obtain ⟨k, zs', hk, rfl, rfl, HR, ho, hg⟩ := hrel
    by_cases hlt : 2 * k + 1 < n
    · obtain ⟨g, rfl⟩ := own_head ho (by omega)
      obtain ⟨m, hm⟩ : ∃ m : Nat, m = n - 1 - k := ⟨_, rfl⟩
      have hm' : (n : Int) - 1 - k = (m : Nat) := by omega
      rw [hm']
      have hkm : k < m := by omega
      have hmn : m < n := by omega
      have hl' : zs'.length = n := HR.out.1
      have xk := (ho.cellAt k (by omega)).trans (ints_get .i64 zs' k (by omega))
      have xm := (ho.cellAt m (by omega)).trans (ints_get .i64 zs' m (by omega))
      have fr := fun j => ho.frozenAt j
      have HL' := Lib.hid hl'
      have HM := Lib.hid hm
      clear hl' hm hm'
      have yk : ∀ v, (wr.setCell ⟨g, k, none⟩ v).cell? ⟨g, m, none⟩ = some (.int .i64 (gz zs' m)) := fun v => by
        rw [World.cell?_setCell_other wr _ _ _ (fun e => by injection e with _ e2; omega)]; exact xm
      have fk : ∀ v, (wr.setCell ⟨g, k, none⟩ v).frozen? ⟨g, m, none⟩ = false := fun v => (ho.stored k v).1.frozenAt m
      have hw := Lib.hid (fun v u => (⟨((ho.stored k v).1.stored m u).1, (hg.trans (ho.stored k v).2).trans ((ho.stored k v).1.stored m u).2⟩ : _ ∧ _))
      go_wp2_with fail
      go_region
      go_wp2_with fail
      go_roundw
      case rel =>
        have hh := hw.out (.int .i64 (gz zs' m)) (.int .i64 (gz zs' k))
        have hs := HR.out.step hlt
        rw [← HM.out] at hs
        have hm := HM.out
        exact ⟨k + 1, _, by omega, by go_num, by go_num, Lib.hid hs, by have := hh.1; rw [ints_set, ints_set] at this; exact this, ⟨hh.2.os, hh.2.tape, hh.2.output, hh.2.size, hh.2.block⟩⟩
      case measure => simp [intOf]; omega
    · have HE := Lib.hid (HR.out.end_ HL.out (by omega))
      have t0 : decide ((k : Int) < (n : Int) - 1 - k) = false := by simp; omega
      go_wp2_with fail
      exact bodyPost_end (results_none rfl _ _ _) rfl ⟨rfl, by rw [← HE.out]; exact ho, hg⟩
/-- What Path hands back. -/
def PathSaid (P : List Int) (w : World) (e : Ending) (w' : World) : Prop := ∃ A c, e = .returned (.slice A P.length c) ∧ w'.ownsRow w.heap.size 3 1 (.slice A P.length c) P.length (ints .i64 P) ∧ Below w.heap.size w w'
set_option maxRecDepth 100000 in
set_option maxHeartbeats 4000000 in
theorem path37 {X : Nat → Prop} {w : World} {ga : Nat} {N : List GN} {root : Nat} {Q : List Int} {a : Option Addr} {n f k : Int} {u : Option Addr} (h : Chain X w ga N root Q n f k u) (hQ : Q.length ≤ 4096) :
    Calls Try.prog 37 #[.agg (cc a n f k u)] w (PathSaid Q.reverse w) := by
  unfold PathSaid
  have HC := Lib.hid h
  have b0 := Lib.hid (fun o => (Below.refl w.heap.size w).alloc (Nat.le_refl _) o)
  have hn0 := Lib.hid (fun o => heap_alloc_new w o)
  clear h
  go_enter Try.func37, Try.ntmps37
  go_wp2_with fail
  go_loopw [3, 4] (fun out x wr => ∃ (j : Nat) (b : Nat) (a' : Option Addr) (n' f' k' : Int) (u' : Option Addr), j ≤ Q.length ∧ x = .pointer (some ⟨b, 0, none⟩) ∧ Hid (wr.heap[b]? = some (.cells (cc a' n' f' k' u') 59 (0, 0))) ∧ Hid (Chain X w ga N root (Q.drop j) n' f' k' u') ∧ wr.ownsRow w.heap.size 3 1 out j (ints .i64 (Q.take j)) ∧ Below w.heap.size w wr ∧ Hid (b = w.heap.size ∨ b < w.heap.size))
    (fun out _ _ => Q.length - (match out with | .slice _ l _ => l | _ => 0))
  case atStart => exact ⟨0, w.heap.size, a, n, f, k, u, Nat.zero_le _, rfl, Lib.hid (hn0.out _), HC, World.ownsRow_nil _ _ _ _, b0.out _, Lib.hid (.inl rfl)⟩
  case round =>
    obtain ⟨j, b, a', n', f', k', u', hj, rfl, HB, HCH, ho, hb, HBB⟩ := hrel
    obtain ⟨A3, c3, rfl, ho⟩ := own_form ho
    have hbl := (Array.getElem?_eq_some_iff.1 HB.out).1
    have hsz := hb.size
    have y3 : wr.cell? ⟨b, 3, none⟩ = some (.int .i64 k') := cell_of_row wr b 3 _ _ _ HB.out
    have y4 : wr.cell? ⟨b, 4, none⟩ = some (.pointer u') := cell_of_row wr b 4 _ _ _ HB.out
    by_cases hlt : j < Q.length
    · have hd : Q.drop j = gz Q j :: Q.drop (j + 1) := by rw [List.drop_eq_getElem_cons hlt, gz_eq hlt]
      have hch := HCH.out
      rw [hd] at hch
      obtain ⟨b', n'', f'', k'', u'', rfl, -, hB', hc', rfl, -, -, -, -⟩ := hch
      have HB' := Lib.hid hB'
      have HC' := Lib.hid hc'
      have HTK := Lib.hid (show Q.take (j + 1) = Q.take j ++ [gz Q j] by rw [List.take_succ_eq_append_getElem hlt, gz_eq hlt])
      clear hd hB' hc'
      generalize gz Q j = q at *
      go_wp2_with (at_builtin; refine wpList_pushG st27 rfl _ _ rfl _ rfl ho [.int .i64 q] _ rfl rfl rfl (by simp [Value.oneCell']) (by omega) (by omega) hsz ?_; intro v1 w2 ho2 hg2; obtain ⟨A4, c4, rfl, ho2⟩ := own_form ho2; have hB2 := (hg2.block b hbl (own_not ho HB.out (by decide))).trans HB.out; have z4 : w2.cell? ⟨b, 4, none⟩ = some (.pointer (some ⟨b', 0, none⟩)) := cell_of_row w2 b 4 _ _ _ hB2; have hb2 := hb.grown hg2 hsz (fun k hk => (ho.lt k hk).1); clear hB2 hg2 ho)
      go_roundw
      case rel =>
        have hbl' := (Array.getElem?_eq_some_iff.1 HB'.out).1
        exact ⟨j + 1, b', _, n'', f'', k'', u'', by omega, rfl, Lib.hid ((hb2.block b' hbl').trans HB'.out), HC', own_as ho2 rfl (by rw [HTK.out, ints_snoc]), hb2, Lib.hid (.inr hbl')⟩
      case measure => simp; omega
    · obtain rfl : j = Q.length := by omega
      have hch := HCH.out
      rw [List.drop_length] at hch
      obtain ⟨-, -, -, rfl⟩ := hch
      rw [List.take_length] at ho
      have C60 := reverse60 A3 Q.length c3 Q ho (by omega)
      have HLT := Lib.hid (fun k hk => (ho.lt k hk).1)
      go_wp2_with (go_at_call 60; refine C60.mono ?_; rintro e w3 ⟨rfl, ho3, hg3⟩; clear C60)
      go_ret
      exact ⟨A3, c3, by simp, by rw [List.length_reverse]; exact ho3, hb.grown hg3 hsz HLT.out⟩
end Go.Proofs.Ytbmbiffhgdkpiaa
