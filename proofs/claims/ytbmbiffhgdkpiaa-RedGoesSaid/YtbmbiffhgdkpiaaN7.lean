/- The walks of an arena's way and At. No condition. -/
import Derived.Test.YtbmbiffhgdkpiaaN6
namespace Go.Proofs.Ytbmbiffhgdkpiaa
open Go.RowKit

theorem ints_snoc (k : IntKind) (l : List Int) (z : Int) : ints k (l ++ [z]) = ints k l ++ [.int k z] := by simp
theorem gz_eq {zs : List Int} {j : Nat} (h : j < zs.length) : gz zs j = zs[j] := by simp [gz, List.getD_eq_getElem?_getD, List.getElem?_eq_getElem h]
/-- Each kid stands ahead of its parent. -/
def GoodN (N : List GN) : Prop := ∀ i, i < N.length → ∀ j, j < (gn N i).kids.length → 0 ≤ gz (gn N i).kids j ∧ gz (gn N i).kids j < i
/-- The node that k steps of a path lead to. -/
def gat (N : List GN) (root : Nat) (P : List Int) : Nat → Option Nat
  | 0 => some root
  | k + 1 => (gat N root P k).bind fun r => if 0 ≤ gz P k ∧ gz P k < (gn N r).kids.length then some (gz (gn N r).kids (gz P k).toNat).toNat else none
theorem gat_lt {N : List GN} (hN : GoodN N) {root : Nat} (hr : root < N.length) (P : List Int) : ∀ {k r : Nat}, gat N root P k = some r → r < N.length := by
  intro k
  induction k with
  | zero => intro r h; simp only [gat, Option.some.injEq] at h; omega
  | succ k ih =>
    intro r h
    simp only [gat] at h
    cases hk : gat N root P k with
    | none => rw [hk] at h; cases h
    | some q =>
      rw [hk] at h
      simp only [Option.bind_some] at h
      split at h
      · rename_i hc
        have hq := ih hk
        have := hN q hq (gz P k).toNat (by omega)
        simp only [Option.some.injEq] at h
        omega
      · cases h
theorem gat_none {N : List GN} {root : Nat} {P : List Int} {k m : Nat} (h : gat N root P k = none) (hm : k ≤ m) : gat N root P m = none := by
  induction m with
  | zero => rw [show k = 0 by omega] at h; exact h
  | succ m ih =>
    rcases Nat.lt_or_ge k (m + 1) with h' | h'
    · simp only [gat, ih (by omega)]; rfl
    · rw [show k = m + 1 by omega] at h; exact h
/-- The nodes on the way. -/
def gways (N : List GN) (root : Nat) (P : List Int) (k : Nat) : List Int := (List.range (k + 1)).map fun j => (((gat N root P j).getD 0 : Nat) : Int)
theorem gways_succ (N : List GN) (root : Nat) (P : List Int) (k : Nat) : gways N root P (k + 1) = gways N root P k ++ [(((gat N root P (k + 1)).getD 0 : Nat) : Int)] := by
  unfold gways
  rw [List.range_succ, List.map_append]
  rfl
theorem gways_len (N : List GN) (root : Nat) (P : List Int) (k : Nat) : (gways N root P k).length = k + 1 := by simp [gways]
theorem gways_get (N : List GN) (root : Nat) (P : List Int) (k j : Nat) (h : j ≤ k) : gz (gways N root P k) j = (((gat N root P j).getD 0 : Nat) : Int) := by
  rw [gz_eq (by rw [gways_len]; omega)]
  simp [gways]

set_option maxRecDepth 100000 in
set_option maxHeartbeats 4000000 in
theorem way54 {w : World} {B ga : Nat} {N : List GN} (h : Arena w B ga N) (hN : GoodN N) (root : Nat) (hroot : root < N.length) (A : Option Addr) (m c : Nat) (P : List Int) (hP : Rd w w.heap.size 1 A m c (ints .i64 P)) (hm : m ≤ 4096) :
    Calls Try.prog 54 #[.pointer (some ⟨ga, 0, none⟩), .int .i64 root, .slice A m c] w fun e w' =>
      ((∃ A' c', e = .returned (.tuple #[.slice A' (m + 1) c', .bool true]) ∧ (∃ r, gat N root P m = some r) ∧ w'.ownsRow w.heap.size 3 1 (.slice A' (m + 1) c') (m + 1) (ints .i64 (gways N root P m))) ∨
        (e = .returned (.tuple #[.slice none 0 0, .bool false]) ∧ gat N root P m = none)) ∧ Below w.heap.size w w' := by
  have HL := Lib.hid hP.int_len
  have C17 := len17 h
  have t0 : decide ((N.length : Int) ≤ (root : Int)) = false := by simp; omega
  have h0 := World.ownsRow_lit (base := w.heap.size) (e := 3) (size := 1) w #[.int .i64 (root : Nat)] 1 (Nat.le_refl _) (by simp [maxLen]) rfl
  have HGN := Lib.hid hN
  obtain ⟨g, cg, bv, kv, hs, hnode⟩ := h.node
  have HS := Lib.hid (hs (by omega))
  have HN := Lib.hid hnode
  have hga := h.lt
  clear hs hnode h hN
  go_enter Try.func54, Try.ntmps54
  go_wp2_with (go_at_call 17; refine C17.mono ?_; rintro e w1 ⟨rfl, rfl⟩; clear C17)
  go_loopw [1, 8, 24] (fun r0 out i wr => ∃ k r : Nat, k ≤ m ∧ i = .int .i64 k ∧ r0 = .int .i64 r ∧ Hid (gat N root P k = some r) ∧ wr.ownsRow w.heap.size 3 1 out (k + 1) (ints .i64 (gways N root P k)) ∧ Below w.heap.size w wr)
    (fun _ _ i _ => m - (intOf i).toNat)
  case atStart => exact ⟨0, root, Nat.zero_le _, rfl, rfl, Lib.hid rfl, h0, (Below.refl _ _).alloc (Nat.le_refl _) _⟩
  case round =>
    obtain ⟨k, r, hk, rfl, rfl, HK, hown, hb⟩ := hrel
    have hsz := hb.size
    by_cases hlt : k < m
    · obtain ⟨b, off, rfl, hbb, hc⟩ := (hP.below hb).int_form (by omega)
      have x0 := hc k hlt
      clear hc
      have hr := gat_lt HGN.out hroot P HK.out
      obtain ⟨n0, _, _, _, _, n5, _, o6⟩ := HN.out r hr
      have hgl := World.block_lt_of_cell? _ _ n0
      obtain ⟨A6, c6, hv6, ho6⟩ := own_form o6
      rw [hv6] at n5
      have e1 := (hb.cell (p := ⟨ga, 0, none⟩) hga).trans HS.out
      have m5 := (hb.cell (p := ⟨g, r * 6 + 5, none⟩) hgl).trans n5
      have hkids := (Rd.of_own ho6).below hb
      have hgk := HGN.out r hr
      by_cases hv : 0 ≤ gz P k ∧ gz P k < (gn N r).kids.length
      · have HG1 := Lib.hid (show gat N root P (k + 1) = some (gz (gn N r).kids (gz P k).toNat).toNat by simp only [gat, HK.out, Option.bind_some, if_pos hv])
        obtain ⟨j, hj⟩ := Int.eq_ofNat_of_zero_le hv.1
        have hjl : j < (gn N r).kids.length := by omega
        obtain ⟨b6, o6', rfl, _, hc6⟩ := hkids.int_form (by omega)
        have x6 := hc6 j hjl
        have hq := hgk j hjl
        clear hc6 hkids
        rw [hj] at x0 HG1
        obtain ⟨q, hq'⟩ := Int.eq_ofNat_of_zero_le hq.1
        rw [show ((j : Nat) : Int).toNat = j from rfl, hq', show ((q : Nat) : Int).toNat = q from rfl] at HG1
        rw [hq'] at x6
        have HGW := Lib.hid (gways_succ N root P k)
        clear n0 n5 o6 hv6 ho6 hgk hq hq' hv hj
        generalize (gn N r).kids.length = kl at *
        go_wp2_with (at_builtin; refine wpList_push st27 rfl _ _ rfl _ rfl hown [.int .i64 (q : Nat)] wr.heap.size rfl rfl rfl (by simp [Value.oneCell']) (by omega) (by omega) hb hsz ?_; intro v1 w2 hown2 hb2 _; clear hown)
        go_roundw
        case rel => exact ⟨_, _, _, _, _, _, _, ⟨k + 1, by omega, (by go_num : Value.int .i64 ((k : Int) + 1) = .int .i64 ((k + 1 : Nat) : Int)), q, rfl, HG1, own_as hown2 rfl (by rw [HGW.out, HG1.out, ints_snoc]; rfl)⟩, rfl, rfl, rfl, rfl, rfl, rfl, rfl⟩
        case measure => simp [intOf]; omega
      · have HG0 := Lib.hid (gat_none (m := m) (show gat N root P (k + 1) = none by simp only [gat, HK.out, Option.bind_some, if_neg hv]) (by omega))
        have hcase : decide (gz P k < 0) = true ∨ (decide (gz P k < 0) = false ∧ decide (((gn N r).kids.length : Int) ≤ gz P k) = true) := by simp; omega
        clear n0 n5 o6 hv6 ho6 hgk hv hkids
        generalize (gn N r).kids.length = kl at *
        generalize gz P k = z at x0 hcase
        rcases hcase with t1 | ⟨t1, t2⟩
        all_goals
          go_wp2_with fail
          go_ret2
          exact ⟨.inr ⟨rfl, HG0.out⟩, hb⟩
    · obtain rfl : k = m := by omega
      go_wp2_with fail
      go_ret2
      obtain ⟨A', c', hv, ho⟩ := own_form hown
      subst hv
      exact ⟨.inl ⟨A', c', rfl, ⟨r, HK.out⟩, ho⟩, hb⟩
end Go.Proofs.Ytbmbiffhgdkpiaa
