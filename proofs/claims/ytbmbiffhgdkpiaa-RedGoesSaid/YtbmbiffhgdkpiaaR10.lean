/- The walk of the document's From. No condition. -/
import Derived.Test.YtbmbiffhgdkpiaaR9
namespace Go.Proofs.Ytbmbiffhgdkpiaa
open Go.RowKit

/-- Where what a path leads to begins (the path told from its end). -/
def fromQ (N : List GN) (root : Nat) : List Int → Int
  | [] => 0
  | q :: Q => fromQ N root Q + bW N (gn N ((gatL N root Q.reverse).getD 0)).kids q.toNat
theorem Chain.from {X : Nat → Prop} {w : World} {ga : Nat} {N : List GN} {root : Nat} (hN : OkN N) (hr : root < N.length) : ∀ {Q : List Int} {n f k : Int} {u : Option Addr}, Chain X w ga N root Q n f k u → f = fromQ N root Q
  | [], _, _, _, _, ⟨_, h, _, _⟩ => h
  | q :: Q, n, f, k, u, ⟨b, n', f', k', u', _, _, _, hc, _, _, _, _, hf⟩ => by
    rw [hf, hc.from hN hr, fromQ, (hc.ok hN hr).2.2.2.2]
    rfl
theorem fromQ_bd {N : List GN} (hN : OkN N) {root : Nat} (hr : root < N.length) : ∀ (Q : List Int) (n : Nat), gatL N root Q.reverse = some n → 0 ≤ fromQ N root Q ∧ fromQ N root Q + (gn N n).w ≤ (gn N root).w
  | [], n, h => by
    simp only [List.reverse_nil, gatL, Option.some.injEq] at h
    subst h
    simp [fromQ]
  | q :: Q, n, h => by
    rw [List.reverse_cons, gatL_append] at h
    cases hg : gatL N root Q.reverse with
    | none => rw [hg] at h; cases h
    | some m =>
      rw [hg] at h
      simp only [Option.bind_some, gatL] at h
      split at h
      · rename_i hq
        have ih := fromQ_bd hN hr Q m hg
        have hm : m < N.length := by
          have := gat_lt hN.good hr Q.reverse (k := Q.reverse.length) (r := m) (by rw [gat_all]; exact hg)
          exact this
        have hb := bW_kid hN hm (q := q.toNat) (by omega)
        simp only [Option.some.injEq] at h
        have hwd : wd N (gz (gn N m).kids q.toNat) = (gn N n).w := by unfold wd; rw [h]
        rw [fromQ, hg]
        simp only [Option.getD_some]
        omega
      · cases h
set_option maxRecDepth 100000 in
set_option maxHeartbeats 4000000 in
theorem from61 {w : World} {A : Option Addr} {n c : Nat} {N : List GN} (h : DocN w (.slice A n c) N) (hN : OkN N) (hwd : ∀ i, i < N.length → (gn N i).w ≤ 100000) (root : Nat) (hr : root < N.length) (A2 : Option Addr) (m c2 : Nat) (P : List Int) (hP : Rd w w.heap.size 1 A2 m c2 (ints .i64 P)) (hm : m ≤ 4096) (last : Nat) (hv : gatL N root P = some last) :
    Calls Try.prog 61 #[.slice A n c, .int .i64 root, .slice A2 m c2] w fun e w' => e = .returned (.int .i64 (fromQ N root P.reverse)) ∧ w = w' := by
  have HL := Lib.hid hP.int_len
  have HN := Lib.hid hN
  have HW := Lib.hid hwd
  have C0 := at21 h hN.good root A2 m c2 P hP hm
  rw [atZ_some (show gatR N root P = some last from (gatR_in hr P).trans hv)] at C0
  have HV := Lib.hid hv
  have HD := Lib.hid h
  obtain ⟨rfl, g, bv, kv, hA, hnode⟩ := h.node
  obtain rfl := hA (by omega)
  have HND := Lib.hid hnode
  have hcap := hP.cap
  have hat : ∀ k, k ≤ m → ∃ r, gat N root P k = some r := fun k hk => by
    cases hq : gat N root P k with
    | some r => exact ⟨r, rfl⟩
    | none =>
      have := gat_none hq hk
      rw [← HL.out, gat_all, hv] at this
      cases this
  have HAT := Lib.hid hat
  clear hv h hA hnode hat hN hwd
  have t0 : decide ((last : Int) < 0) = false := by simp
  go_enter Try.func61, Try.ntmps61
  go_wp2_with (go_at_call 21; refine C0.mono ?_; rintro e w1 ⟨rfl, rfl⟩; clear C0)
  go_loop [7, 19] (fun at_ i => ∃ k : Nat, k ≤ m ∧ i = .int .i64 k ∧ at_ = .int .i64 (fromQ N root (P.take k).reverse))
    (fun _ i => m - (intOf i).toNat)
  case atStart => exact ⟨0, Nat.zero_le _, rfl, rfl⟩
  case round =>
    obtain ⟨k, hk, rfl, rfl⟩ := hrel
    by_cases hlt : k < m
    · obtain ⟨r, hgr⟩ := HAT.out k hk
      have hgl := hgr
      rw [gat_take N root P k (by rw [HL.out]; exact hk)] at hgl
      have hrl := gat_lt HN.out.good hr P hgr
      obtain ⟨r2, hgr2⟩ := HAT.out (k + 1) hlt
      have hq : 0 ≤ gz P k ∧ gz P k < (gn N r).kids.length := by
        simp only [gat, hgr, Option.bind_some] at hgr2
        split at hgr2
        · assumption
        · cases hgr2
      have hbd := fromQ_bd HN.out hr (P.take k).reverse r (by rw [List.reverse_reverse]; exact hgl)
      have hwr := HW.out root hr
      have htk := hP.take (k := k) hk
      rw [Nat.mul_one, ← List.map_take] at htk
      have CA := at21 HD.out HN.out.good root A2 k c2 (P.take k) htk (by omega)
      rw [atZ_some (show gatR N root (P.take k) = some r from (gatR_in hr _).trans hgl)] at CA
      obtain ⟨b, off, rfl, hbb, hc⟩ := hP.int_form (by omega)
      have x0 := hc k hlt
      obtain ⟨p, hp⟩ := Int.eq_ofNat_of_zero_le hq.1
      rw [hp] at x0 hq
      have HTK := Lib.hid (show fromQ N root (P.take (k + 1)).reverse = fromQ N root (P.take k).reverse + bW N (gn N r).kids p by
        rw [List.take_succ_eq_append_getElem (by rw [HL.out]; exact hlt), List.reverse_append]
        show fromQ N root (P[k]'_ :: (P.take k).reverse) = _
        rw [fromQ, List.reverse_reverse, hgl, ← gz_eq, hp]
        rfl)
      obtain ⟨-, -, -, m3, -, -, o6⟩ := HND.out r hrl
      obtain ⟨A6, c6, hv6, ho6⟩ := own_form o6
      rw [hv6] at m3
      have hpl : p < (gn N r).kids.length := by omega
      obtain ⟨g6, rfl⟩ := own_head ho6 (by omega)
      have j1 : k ≤ c2 := by omega
      clear hgr hgl hgr2 hq hp hc htk o6 hv6
      generalize hF : fromQ N root (P.take k).reverse = F at *
      clear hF
      go_wp2_with (go_at_call 21; refine CA.mono ?_; rintro e w1 ⟨rfl, rfl⟩; clear CA)
      have hfew := HN.out.few r hrl
      have hbp := bW_mono N (gn N r).kids (Nat.le_of_lt hpl)
      have hbk := HN.out.wid r hrl
      rw [← bW_all] at hbk
      go_loop [7, 11] (fun at_ i => ∃ j : Nat, j ≤ p ∧ i = .int .i64 j ∧ at_ = .int .i64 (F + (bW N (gn N r).kids j : Nat))) (fun _ i => p - (intOf i).toNat)
      case atStart => exact ⟨0, Nat.zero_le _, rfl, by simp [bW]⟩
      case round =>
        obtain ⟨j, hj, rfl, rfl⟩ := hrel
        by_cases hlj : j < p
        · have xk := (World.ownsRow.cellAt ho6 j (by omega)).trans (ints_get .i64 (gn N r).kids j (by omega))
          have hkd := good_kid HN.out.good hrl (z := gz (gn N r).kids j) (by rw [gz_eq (by omega)]; exact List.getElem_mem _)
          obtain ⟨y, hy⟩ := Int.eq_ofNat_of_zero_le hkd.1
          have hyl : y < N.length := by omega
          obtain ⟨-, -, m2, -, -, o5, -⟩ := HND.out y hyl
          obtain ⟨A5, c5, hv5, -⟩ := own_form o5
          rw [hv5] at m2
          have HWY := Lib.hid (HN.out.wide y hyl)
          have HB1 := Lib.hid (show bW N (gn N r).kids (j + 1) = bW N (gn N r).kids j + (pr N (y : Nat)).length by rw [← HWY.out]; simp only [bW, hy]; rfl)
          have hm2 := bW_mono N (gn N r).kids (show j + 1 ≤ p by omega)
          rw [HB1.out] at hm2
          rw [hy] at xk
          clear hy hkd o5 hv5
          generalize bW N (gn N r).kids j = S at *
          generalize (pr N (y : Nat)).length = wy at *
          go_wp2_with fail
          go_round
          case rel => exact ⟨j + 1, by omega, by go_num, by rw [HB1.out, Int.natCast_add]; go_num⟩
          case measure => simp [intOf]; omega
        · obtain rfl : j = p := by omega
          go_wp2_with fail
          go_round
          case rel => exact ⟨k + 1, by omega, by go_num, by rw [HTK.out]⟩
          case measure => simp [intOf]; omega
    · obtain rfl : k = m := by omega
      have HT := Lib.hid (show P.take k = P from List.take_of_length_le (by rw [HL.out]; exact Nat.le_refl _))
      rw [HT.out]
      go_wp2_with fail
      go_ret
      exact ⟨rfl, rfl⟩
end Go.Proofs.Ytbmbiffhgdkpiaa
