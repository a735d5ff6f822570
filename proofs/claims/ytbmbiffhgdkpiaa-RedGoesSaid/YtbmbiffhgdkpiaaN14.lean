/- The walks of the document's At and Leaf. No condition. -/
import Derived.Test.YtbmbiffhgdkpiaaN13
namespace Go.Proofs.Ytbmbiffhgdkpiaa
open Go.RowKit

/-- The node that a path leads to, whatever the root; -1: none. -/
def gatR (N : List GN) (root : Int) (P : List Int) : Option Nat := if 0 ≤ root ∧ root < N.length then gatL N root.toNat P else none
def atZ (N : List GN) (root : Int) (P : List Int) : Int := match gatR N root P with | some r => r | none => -1
theorem gatR_in {N : List GN} {root : Nat} (h : root < N.length) (P : List Int) : gatR N root P = gatL N root P := by
  unfold gatR
  rw [if_pos ⟨by omega, by omega⟩]
  rfl
theorem atZ_some {N : List GN} {root : Int} {P : List Int} {r : Nat} (h : gatR N root P = some r) : atZ N root P = r := by simp [atZ, h]
theorem atZ_none {N : List GN} {root : Int} {P : List Int} (h : gatR N root P = none) : atZ N root P = -1 := by simp [atZ, h]
set_option maxRecDepth 100000 in
set_option maxHeartbeats 2000000 in
theorem at21_in {w : World} {A : Option Addr} {n c : Nat} {N : List GN} (h : DocN w (.slice A n c) N) (hN : GoodN N) (root : Nat) (hroot : root < N.length) (A2 : Option Addr) (m c2 : Nat) (P : List Int) (hP : Rd w w.heap.size 1 A2 m c2 (ints .i64 P)) (hm : m ≤ 4096) :
    Calls Try.prog 21 #[.slice A n c, .int .i64 root, .slice A2 m c2] w fun e w' => ((∃ r : Nat, e = .returned (.int .i64 r) ∧ gat N root P m = some r) ∨ (e = .returned (.int .i64 (-1)) ∧ gat N root P m = none)) ∧ w = w' := by
  have HL := Lib.hid hP.int_len
  obtain ⟨rfl, g, bv, kv, hA, hnode⟩ := h.node
  obtain rfl := hA (by omega)
  have HGN := Lib.hid hN
  have HN := Lib.hid hnode
  have hd : decide (0 ≤ (root : Int) ∧ (root : Int) < N.length) = true := by simp; omega
  have C24 := fun c (W : World) => has24 (some ⟨g, 0, none⟩) N.length c root W
  rw [hd] at C24
  clear hnode h hN hd hA
  go_enter Try.func21, Try.ntmps21
  go_wp2_with (go_at_call 24; refine (C24 _ _).mono ?_; rintro e w1 ⟨rfl, rfl⟩; clear C24)
  go_loop [1, 15] (fun r0 i => ∃ k r : Nat, k ≤ m ∧ i = .int .i64 k ∧ r0 = .int .i64 r ∧ Hid (gat N root P k = some r))
    (fun _ i => m - (intOf i).toNat)
  case atStart => exact ⟨0, root, Nat.zero_le _, rfl, rfl, Lib.hid rfl⟩
  case round =>
    obtain ⟨k, r, hk, rfl, rfl, HK⟩ := hrel
    by_cases hlt : k < m
    · obtain ⟨b, off, rfl, hbb, hc⟩ := hP.int_form (by omega)
      have x0 := hc k hlt
      clear hc
      have hr := gat_lt HGN.out hroot P HK.out
      obtain ⟨_, _, _, n3, _, _, o6⟩ := HN.out r hr
      obtain ⟨A6, c6, hv6, ho6⟩ := own_form o6
      rw [hv6] at n3
      have hkids := Rd.of_own ho6
      have hgk := HGN.out r hr
      by_cases hv : 0 ≤ gz P k ∧ gz P k < (gn N r).kids.length
      · have HG1 := Lib.hid (show gat N root P (k + 1) = some (gz (gn N r).kids (gz P k).toNat).toNat by simp only [gat, HK.out, Option.bind_some, if_pos hv])
        obtain ⟨j, hj⟩ := Int.eq_ofNat_of_zero_le hv.1
        have hjl : j < (gn N r).kids.length := by omega
        obtain ⟨b6, o6', rfl, _, hc6⟩ := hkids.int_form (by omega)
        have x6 := hc6 j hjl
        have hq := hgk j hjl
        clear hc6 hkids
        rw [hj] at x0 HG1
        obtain ⟨q, hq'⟩ := Int.eq_ofNat_of_zero_le hq.1
        rw [show ((j : Nat) : Int).toNat = j from rfl, hq', show ((q : Nat) : Int).toNat = q from rfl] at HG1
        rw [hq'] at x6
        clear o6 hv6 ho6 hgk hq hq' hv hj
        generalize (gn N r).kids.length = kl at *
        go_wp2_with fail
        go_round
        case rel => exact ⟨k + 1, q, by omega, by go_num, rfl, HG1⟩
        case measure => simp [intOf]; omega
      · have HG0 := Lib.hid (gat_none (m := m) (show gat N root P (k + 1) = none by simp only [gat, HK.out, Option.bind_some, if_neg hv]) (by omega))
        have hcase : decide (gz P k < 0) = true ∨ (decide (gz P k < 0) = false ∧ decide (((gn N r).kids.length : Int) ≤ gz P k) = true) := by simp; omega
        clear o6 hv6 ho6 hgk hv hkids
        generalize (gn N r).kids.length = kl at *
        generalize gz P k = z at x0 hcase
        rcases hcase with t1 | ⟨t1, t2⟩
        all_goals
          go_wp2_with fail
          go_ret
          exact ⟨.inr ⟨rfl, HG0.out⟩, rfl⟩
    · obtain rfl : k = m := by omega
      go_wp2_with fail
      go_ret
      exact ⟨.inl ⟨r, rfl, HK.out⟩, rfl⟩
theorem at21_out (A : Option Addr) (n c : Nat) (w : World) (root : Int) (hroot : ¬ (0 ≤ root ∧ root < n)) (A2 : Option Addr) (m c2 : Nat) :
    Calls Try.prog 21 #[.slice A n c, .int .i64 root, .slice A2 m c2] w fun e w' => e = .returned (.int .i64 (-1)) ∧ w = w' := by
  have C24 := has24 A n c root w
  rw [show decide (0 ≤ root ∧ root < n) = false by simpa using hroot] at C24
  clear hroot
  go_enter Try.func21, Try.ntmps21
  go_wp2_with (go_at_call 24; refine C24.mono ?_; rintro e w1 ⟨rfl, rfl⟩; clear C24)
  go_ret
  exact ⟨rfl, rfl⟩
theorem at21 {w : World} {A : Option Addr} {n c : Nat} {N : List GN} (h : DocN w (.slice A n c) N) (hN : GoodN N) (root : Int) (A2 : Option Addr) (m c2 : Nat) (P : List Int) (hP : Rd w w.heap.size 1 A2 m c2 (ints .i64 P)) (hm : m ≤ 4096) :
    Calls Try.prog 21 #[.slice A n c, .int .i64 root, .slice A2 m c2] w fun e w' => e = .returned (.int .i64 (atZ N root P)) ∧ w = w' := by
  obtain ⟨hn, _⟩ := h.node
  by_cases hr : 0 ≤ root ∧ root < N.length
  · obtain ⟨r, rfl⟩ := Int.eq_ofNat_of_zero_le hr.1
    have e1 := gatR_in (N := N) (root := r) (by omega) P
    refine (at21_in h hN r (by omega) A2 m c2 P hP hm).mono ?_
    rw [← hP.int_len, gat_all, ← e1]
    rintro e w' ⟨⟨q, rfl, hq⟩ | ⟨rfl, hq⟩, hb⟩
    · exact ⟨by rw [atZ_some hq], hb⟩
    · exact ⟨by rw [atZ_none hq], hb⟩
  · refine (at21_out A n c w root (by rw [hn]; exact hr) A2 m c2).mono ?_
    rintro e w' ⟨rfl, hb⟩
    exact ⟨by rw [atZ_none (show gatR N root P = none by unfold gatR; rw [if_neg hr])], hb⟩
end Go.Proofs.Ytbmbiffhgdkpiaa
