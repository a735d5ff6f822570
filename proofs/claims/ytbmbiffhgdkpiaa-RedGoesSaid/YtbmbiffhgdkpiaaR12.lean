/- The walk of the document's Seek. No condition. -/
import Derived.Test.YtbmbiffhgdkpiaaR11
namespace Go.Proofs.Ytbmbiffhgdkpiaa
open Go.RowKit

theorem gatL_snoc {N : List GN} {root : Nat} {P : List Int} {r k : Nat} (h : gatL N root P = some r) (hk : k < (gn N r).kids.length) : gatL N root (P ++ [(k : Int)]) = some (gz (gn N r).kids k).toNat := by
  rw [gatL_append, h]
  simp only [Option.bind_some, gatL]
  rw [if_pos ⟨by omega, by omega⟩]
  rfl
theorem fromQ_snoc {N : List GN} {root : Nat} {P : List Int} {r : Nat} (h : gatL N root P = some r) (k : Nat) : fromQ N root (P ++ [(k : Int)]).reverse = fromQ N root P.reverse + bW N (gn N r).kids k := by
  rw [List.reverse_append]
  show fromQ N root ((k : Int) :: P.reverse) = _
  rw [fromQ, List.reverse_reverse, h]
  rfl
/-- What the document's Seek hands back. -/
def RefSeek (P : List Int) (w : World) (e : Ending) (w' : World) : Prop := ∃ A m c, e = .returned (.slice A m c) ∧ Rd w' w'.heap.size 1 A m c (ints .i64 P) ∧ Below w.heap.size w w'
set_option maxRecDepth 100000 in
set_option maxHeartbeats 4000000 in
theorem seek39 {A : Option Addr} {n c : Nat} {N : List GN} (hN : OkN N) (hwd : ∀ i, i < N.length → (gn N i).w ≤ 100000) (root : Nat) (hr : root < N.length) (at_ : Int) :
    ∀ (last : Nat) (P : List Int) (w : World) (A2 : Option Addr) (m c2 : Nat), DocN w (.slice A n c) N → Rd w w.heap.size 1 A2 m c2 (ints .i64 P) → m + last ≤ 4000 → gatL N root P = some last →
      Calls Try.prog 39 #[.slice A n c, .int .i64 root, .slice A2 m c2, .int .i64 at_] w (RefSeek (P ++ seekP N last (fromQ N root P.reverse) at_) w) := by
  intro last
  induction last using Nat.strongRecOn with
  | ind last ih =>
  intro P w A2 m c2 hd hP hm hv
  have HL := Lib.hid hP.int_len
  have hll : last < N.length := gat_lt hN.good hr P (k := P.length) (r := last) (by rw [gat_all]; exact hv)
  have C0 := at21 hd hN.good root A2 m c2 P hP (by omega)
  rw [atZ_some (show gatR N root P = some last from (gatR_in hr P).trans hv)] at C0
  have HD := Lib.hid hd
  have HN := Lib.hid hN
  have HW := Lib.hid hwd
  have HP := Lib.hid hP
  have HV := Lib.hid hv
  have IH := Lib.hid ih
  obtain ⟨rfl, g, bv, kv, hA, hnode⟩ := hd.node
  obtain rfl := hA (by omega)
  have HND := Lib.hid hnode
  obtain ⟨-, -, -, n3, -, -, o6⟩ := hnode last hll
  obtain ⟨A6, c6, hv6, ho6⟩ := own_form o6
  rw [hv6] at n3
  have hfew := hN.few last hll
  have hbd := fromQ_bd hN hr P.reverse last (by rw [List.reverse_reverse]; exact hv)
  have hwr := hwd root hr
  have HO6 := Lib.hid ho6
  clear hv hd hN hwd hP ih hA hnode o6 hv6 ho6
  unfold RefSeek at *
  go_enter Try.func39, Try.ntmps39
  go_wp2_with (go_at_call 21; refine C0.mono ?_; rintro e w1 ⟨rfl, rfl⟩; clear C0)
  go_loopw [21] (fun i wr => ∃ k : Nat, k ≤ (gn N last).kids.length ∧ i = .int .i64 k ∧ Hid (∀ j, j < k → ¬ hasK N (gn N last).kids (fromQ N root P.reverse) at_ j) ∧ Below w.heap.size w wr)
    (fun i _ => (gn N last).kids.length - (intOf i).toNat)
  case atStart => exact ⟨0, Nat.zero_le _, rfl, Lib.hid (fun j hj => absurd hj (Nat.not_lt_zero j)), Below.refl _ _⟩
  case round =>
    obtain ⟨k, hk, rfl, HNO, hb⟩ := hrel
    by_cases hlt : k < (gn N last).kids.length
    · obtain ⟨g6, rfl⟩ := own_head HO6.out (by omega)
      have xk := (World.ownsRow.cellAt (own_below HO6.out hb) k (by omega)).trans (ints_get .i64 (gn N last).kids k (by omega))
      have hkd := good_kid HN.out.good hll (z := gz (gn N last).kids k) (by rw [gz_eq hlt]; exact List.getElem_mem _)
      have hbk := bW_kid HN.out hll hlt
      obtain ⟨y, hy⟩ := Int.eq_ofNat_of_zero_le hkd.1
      have hyl : y < N.length := by omega
      have hyn : y < last := by omega
      obtain ⟨m0, -, m2, -, -, o5, -⟩ := HND.out y hyl
      obtain ⟨A5, c5, hv5, -⟩ := own_form o5
      rw [hv5] at m2
      have hgl := World.block_lt_of_cell? _ _ m0
      have z2 := (hb.cell (p := ⟨g, y * 5 + 2, none⟩) hgl).trans m2
      have hglr := Nat.lt_of_lt_of_le hgl hb.size
      have hwy := HN.out.wide y hyl
      have HSN := Lib.hid (show gatL N root (P ++ [(k : Int)]) = some y by rw [gatL_snoc HV.out hlt, hy]; rfl)
      have HFQ := Lib.hid (fromQ_snoc HV.out k)
      have HH := Lib.hid (show hasK N (gn N last).kids (fromQ N root P.reverse) at_ k ↔ (fromQ N root P.reverse + bW N (gn N last).kids k ≤ at_ ∧ at_ < fromQ N root P.reverse + bW N (gn N last).kids k + (pr N (y : Nat)).length) from by
        unfold hasK wd; rw [hy, ← hwy]; rfl)
      have CW := Lib.hid (fun (W : World) (hW : Below w.heap.size w W) => with63 A2 m c2 P (k : Nat) (HP.out.on hW) (by omega))
      have C61 := Lib.hid (fun (W : World) (hW : Below w.heap.size w W) (A1 : Option Addr) (c1 : Nat) (hR : Rd W W.heap.size 1 A1 (m + 1) c1 (ints .i64 (P ++ [(k : Int)]))) => from61 (HD.out.below hW) HN.out HW.out root hr A1 (m + 1) c1 _ hR (by omega) y HSN.out)
      rw [HFQ.out] at C61
      have CI := Lib.hid (fun (W : World) (hW : Below w.heap.size w W) (A1 : Option Addr) (c1 : Nat) (hR : Rd W W.heap.size 1 A1 (m + 1) c1 (ints .i64 (P ++ [(k : Int)]))) => IH.out y hyn (P ++ [(k : Int)]) W A1 (m + 1) c1 (HD.out.below hW) hR (by omega) HSN.out)
      have HSP := Lib.hid (fun (h : hasK N (gn N last).kids (fromQ N root P.reverse) at_ k) => seekP_some HN.out hll (kidAt_some hlt h HNO.out))
      rw [HFQ.out, List.append_assoc] at CI
      rw [hy] at xk
      rw [show (gz (gn N last).kids k).toNat = y by rw [hy]; rfl] at HSP
      unfold wd at hbk
      rw [hy] at hbk
      have hlen : (pr N (y : Nat)).length = (gn N y).w := hwy.symm
      clear hy hkd o5 hv5 m0 m2 hwy
      unfold OwnSaid at CW
      have hS0 : 0 ≤ fromQ N root P.reverse + bW N (gn N last).kids k := by omega
      have hS1 : fromQ N root P.reverse + bW N (gn N last).kids k + (pr N (y : Nat)).length ≤ 100000 := by
        rw [hlen]
        rw [show ((y : Nat) : Int).toNat = y from rfl] at hbk
        omega
      generalize fromQ N root P.reverse + bW N (gn N last).kids k = S at *
      generalize (pr N (y : Nat)).length = L at *
      clear hbk hlen
      by_cases h1 : S ≤ at_
      · by_cases h2 : at_ < S + (L : Nat)
        · have HSQ := Lib.hid (HSP.out (HH.out.2 ⟨h1, h2⟩))
          go_wp2_with (first
            | (go_at_call 39; refine (CI.out _ b4 _ _ r4).mono ?_; rintro e w5 ⟨A7, m7, c7, rfl, r7, b7⟩)
            | (go_at_call 61; refine (C61.out _ b2 _ _ r2).mono ?_; rintro e w3 ⟨rfl, rfl⟩)
            | (go_at_call 63; refine (CW.out _ hb).mono ?_; rintro e w2 ⟨A1, c1, rfl, o2, b2'⟩; have r2 := Rd.of_own o2; have b2 := hb.trans (b2'.mono hb.size); have y2 := (b2'.cell (p := ⟨g, y * 5 + 2, none⟩) hglr).trans z2; clear o2 b2' hb z2)
            | (go_at_call 63; refine (CW.out _ b2).mono ?_; rintro e w4 ⟨A4, c4, rfl, o4, b4'⟩; have r4 := Rd.of_own o4; have b4 := b2.trans (b4'.mono b2.size); clear o4 b4'))
          go_ret
          exact ⟨A7, m7, c7, rfl, by rw [HSQ.out]; exact r7, b4.trans (b7.mono b4.size)⟩
        · have t1 : decide (at_ < S + (L : Nat)) = false := decide_eq_false h2
          go_wp2_with (first
            | (go_at_call 61; refine (C61.out _ b2 _ _ r2).mono ?_; rintro e w3 ⟨rfl, rfl⟩)
            | (go_at_call 63; refine (CW.out _ hb).mono ?_; rintro e w2 ⟨A1, c1, rfl, o2, b2'⟩; have r2 := Rd.of_own o2; have b2 := hb.trans (b2'.mono hb.size); have y2 := (b2'.cell (p := ⟨g, y * 5 + 2, none⟩) hglr).trans z2; clear o2 b2' hb z2))
          go_roundw
          case rel => exact ⟨k + 1, by omega, by go_num, Lib.hid (fun j hj => by
            rcases Nat.lt_or_eq_of_le (Nat.le_of_lt_succ hj) with h | rfl
            · exact HNO.out j h
            · exact fun h => by have := (HH.out.1 h).2; omega), b2⟩
          case measure => simp [intOf]; omega
      · have t1 : decide (S ≤ at_) = false := decide_eq_false h1
        go_wp2_with (first
          | (go_at_call 61; refine (C61.out _ b2 _ _ r2).mono ?_; rintro e w3 ⟨rfl, rfl⟩)
          | (go_at_call 63; refine (CW.out _ hb).mono ?_; rintro e w2 ⟨A1, c1, rfl, o2, b2'⟩; have r2 := Rd.of_own o2; have b2 := hb.trans (b2'.mono hb.size); have y2 := (b2'.cell (p := ⟨g, y * 5 + 2, none⟩) hglr).trans z2; clear o2 b2' hb z2))
        go_roundw
        case rel => exact ⟨k + 1, by omega, by go_num, Lib.hid (fun j hj => by
          rcases Nat.lt_or_eq_of_le (Nat.le_of_lt_succ hj) with h | rfl
          · exact HNO.out j h
          · exact fun h => by have := (HH.out.1 h).1; omega), b2⟩
        case measure => simp [intOf]; omega
    · obtain rfl : k = (gn N last).kids.length := by omega
      have HSQ := Lib.hid (seekP_none (kidAt_none HNO.out))
      go_wp2_with fail
      go_ret
      exact ⟨A2, m, c2, rfl, by rw [HSQ.out, List.append_nil]; exact HP.out.on hb, hb⟩
end Go.Proofs.Ytbmbiffhgdkpiaa
