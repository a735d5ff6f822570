/- The walk of a maker's end. No condition. -/
import Derived.Test.YtibakihcicfeoaaGreatTt
import Derived.Deep.CutBlock
namespace Go.Proofs.YtibakihcicfeoaaGreat
open Go.RowKit

theorem tkB_len {p : PC} (h : PO p) {i j : Nat} (hj : j ≤ p.nR) : (tkB p i j).length ≤ 4096 := by
  have h1 := (h.le j hj).2
  have h2 := h.n
  unfold tkB offN
  simp
  omega
theorem two_last {S : List SE} (h : 2 ≤ S.length) : ∃ P y x, S = P ++ [y, x] := by
  have h1 : S ≠ [] := by intro e; rw [e] at h; simp at h
  have h2 : S.dropLast ≠ [] := by intro e; have := congrArg List.length e; simp at this; omega
  refine ⟨S.dropLast.dropLast, S.dropLast.getLast h2, S.getLast h1, ?_⟩
  rw [show [S.dropLast.getLast h2, S.getLast h1] = [S.dropLast.getLast h2] ++ [S.getLast h1] from rfl, ← List.append_assoc, List.dropLast_concat_getLast h2, List.dropLast_concat_getLast h1]
/-- How many are open, as the maker has it. -/
def stkLen (p : PC) (w : World) : Nat := match w.cell? ⟨p.gm, 2, none⟩ with
  | some (.slice _ n _) => n
  | _ => 0
theorem MS.stkLen {p : PC} {w : World} {N : List GN} {S : List SE} {nd : Nat} (h : MS p w N S nd) : stkLen p w = S.length := by
  obtain ⟨SV, DV, ds, k1, k2, k3, -⟩ := h.ex
  obtain ⟨AS, cS, rfl, -⟩ := own_form k3
  have y2 : w.cell? ⟨p.gm, 2, none⟩ = some (.slice AS S.length cS) := cell_of_row w p.gm 2 _ _ _ k1
  unfold YtibakihcicfeoaaGreat.stkLen
  rw [y2]
set_option maxRecDepth 100000 in
set_option maxHeartbeats 8000000 in
theorem end58 {p : PC} {w : World} {N : List GN} {S : List SE} {nd T : Nat} {done : List Int} (h : MS p w N S nd) (F : Forest N (kidsOf S) done T) (hd : nd + S.length ≤ T + 1) (hP : PO p) (hT : T ≤ 2900) (hdl : done.length ≤ 4096) (kind : Int) (i j : Nat) (wh : Bool) (hij : i ≤ j) (hj : j ≤ p.nR) :
    Calls Tryz.prog 58 #[.pointer (some ⟨p.gm, 0, none⟩), .agg (tk kind (i : Nat) (j : Nat) wh)] w fun e w' => e = .returned (.tuple #[]) ∧ PS p w' (done ++ tkB p i j) (T + 3) ∧ Kp p w w' := by
  have hloB := h.mb.lo.2.2
  have hnl := F.nLen
  have hS1 := F.one
  rw [kidsOf_len] at hnl hS1
  have hb0 := (Below.refl w.heap.size w).alloc (Nat.le_refl _) (.cells (tk kind (i : Nat) (j : Nat) wh) 87)
  have t3 := heap_alloc_new w (.cells (tk kind (i : Nat) (j : Nat) wh) 87)
  obtain ⟨X, hX⟩ : ∃ X, w.alloc (.cells (tk kind (i : Nat) (j : Nat) wh) 87) = X := ⟨_, rfl⟩
  have hlt : w.heap.size < X.heap.size := by rw [← hX]; simp
  rw [hX] at hb0 t3
  have hX0 := h.below hb0
  have C56 := name56 hX0 hP.nR kind i j wh hij hj
  have e0 : X.cell? ⟨w.heap.size, 0, none⟩ = some (.int .i64 kind) := cell_of_row _ _ 0 _ _ _ t3
  have e1 : X.cell? ⟨w.heap.size, 1, none⟩ = some (.int .i64 (i : Nat)) := cell_of_row _ _ 1 _ _ _ t3
  have e2 : X.cell? ⟨w.heap.size, 2, none⟩ = some (.int .i64 (j : Nat)) := cell_of_row _ _ 2 _ _ _ t3
  have e3 : X.cell? ⟨w.heap.size, 3, none⟩ = some (.bool wh) := cell_of_row _ _ 3 _ _ _ t3
  have HX0 := Lib.hid hX0
  have KX := Lib.hid (Kp.below (p := p) hb0 hloB)
  have FF := Lib.hid F
  have T3 := Lib.hid t3
  have HPP := Lib.hid hP
  unfold NameSaid at C56
  clear hX0 hb0 h F hP t3
  go_enter Tryz.func58, Tryz.ntmps58
  go_wp2_with fail
  refine C56.mono ?_
  rintro e w1 ⟨An, mn, cn, rfl, hmn, hnm, b1⟩
  obtain ⟨nm, hnm⟩ := hnm
  have HNM := Lib.hid hnm
  have HM1 := Lib.hid (HX0.out.below b1)
  have K1 := Lib.hid (KX.out.trans (Kp.below b1 HX0.out.mb.lo.2.2))
  have T31 := Lib.hid ((b1.block _ hlt).trans T3.out)
  obtain ⟨SV, DV, ds, k1, k2, k3, -⟩ := HM1.out.ex
  rcases k3.2 with ⟨-, h0⟩ | ⟨gs, cS, cur, rfl, -, -⟩
  · omega
  have y2 : w1.cell? ⟨p.gm, 2, none⟩ = some (.slice (some ⟨gs, 0, none⟩) S.length cS) := cell_of_row w1 p.gm 2 _ _ _ k1
  have hcell : ∀ j u, (srow S)[j]? = some u → w1.cell? ⟨gs, j, none⟩ = some u := fun j u hu => by
    have := World.ownsRow.cells k3 (g := gs) rfl j u hu
    rwa [add_none, Nat.zero_add] at this
  have HCL := Lib.hid hcell
  have u1 : IntKind.i64.wrap ((S.length : Int) - 1) = (S.length : Int) - 1 := IntWalk.i64_in _ (by omega)
  obtain ⟨s, hs⟩ : ∃ s, S.length = s + 1 := ⟨S.length - 1, by omega⟩
  have u0 : (S.length : Int) - 1 = (s : Int) := by omega
  rw [u0] at u1
  have HSL := Lib.hid hs
  clear hnm b1 k1 k2 k3 C56 e0 e1 e2 e3 hcell hs
  go_upto_block 0 with fail
  clear u0 u1
  go_cut [5] from 15 to 31 (fun kv wx => ∃ k : Nat, k ≤ s ∧ kv = .int .i64 k ∧ ∃ q, wx = w1.drewN q)
  case first =>
    go_wp2_with fail
    go_loopw [5] (fun kv wx => ∃ k : Nat, k ≤ s ∧ kv = .int .i64 k ∧ ∃ q, wx = w1.drewN q) (fun kv _ => (intOf kv).toNat)
    case atStart => exact ⟨s, Nat.le_refl _, rfl, 0, rfl⟩
    case round =>
      obtain ⟨k, hk, rfl, q, rfl⟩ := hrel
      by_cases hk0 : 0 < k
      · have hkS : k < S.length := by rw [HSL.out]; omega
        have HX := Lib.hid (List.getElem?_eq_getElem hkS)
        obtain ⟨x, hx⟩ : ∃ x, S[k] = x := ⟨_, rfl⟩
        have hmem : x ∈ S := by rw [← hx]; exact List.getElem_mem hkS
        rw [hx] at HX
        have x0 := HCL.out _ _ (srow_get S k x HX.out).1
        obtain ⟨hn1, nmx, hn2⟩ := HM1.out.mb.names x hmem
        have C108 := equal108 (w := w1.drewN q) x.nA An x.nn x.nc mn cn nmx nm (hn2.drewN q) (HNM.out.drewN q) hn1 hmn
        unfold EqSaid at C108
        clear hx hn2 hmem
        obtain ⟨k', rfl⟩ : ∃ k', k = k' + 1 := ⟨k - 1, by omega⟩
        have u1 : IntKind.i64.wrap ((k' : Int) + 1 - 1) = (k' : Int) := by rw [show (k' : Int) + 1 - 1 = k' by omega]; exact IntWalk.i64_in _ (by omega)
        go_wp2_with fail
        refine C108.mono ?_
        rintro e w2 ⟨⟨b, rfl⟩, q2, rfl⟩
        clear C108
        have hb : b = true ∨ b = false := by cases b <;> simp
        rcases hb with rfl | rfl
        · go_wp2_with fail
          go_meet
          case rel => exact ⟨k' + 1, hk, by go_num, _, rfl⟩
        · go_wp2_with fail
          go_roundw
          case rel => exact ⟨k', by omega, by go_num, _, rfl⟩
          case measure => simp [intOf]; try omega
      · obtain rfl : k = 0 := by omega
        go_wp2_with fail
        go_meet
        case rel => exact ⟨0, hk, rfl, _, rfl⟩
  case rest =>
    obtain ⟨k, hk, rfl, q, rfl⟩ := hcut
    have hbV : Below w1.heap.size w1 (w1.drewN q) := Below.drewN_ (Below.refl _ _) _
    obtain ⟨V, hV⟩ : ∃ V, w1.drewN q = V := ⟨_, rfl⟩
    rw [hV] at hbV ⊢
    have HMV := Lib.hid (HM1.out.below hbV)
    have KV := Lib.hid (K1.out.trans (Kp.below hbV HM1.out.mb.lo.2.2))
    have TV := Lib.hid ((hbV.block _ (Array.getElem?_eq_some_iff.1 T31.out).1).trans T31.out)
    clear hbV hV y2
    by_cases hk0 : k = 0
    · subst hk0
      have C54 := wrong54 HMV.out 3 i j (by omega) hj (by omega)
      have e0 : V.cell? ⟨w.heap.size, 0, none⟩ = some (.int .i64 kind) := cell_of_row _ _ 0 _ _ _ TV.out
      have e1 : V.cell? ⟨w.heap.size, 1, none⟩ = some (.int .i64 (i : Nat)) := cell_of_row _ _ 1 _ _ _ TV.out
      have e2 : V.cell? ⟨w.heap.size, 2, none⟩ = some (.int .i64 (j : Nat)) := cell_of_row _ _ 2 _ _ _ TV.out
      have e3 : V.cell? ⟨w.heap.size, 3, none⟩ = some (.bool wh) := cell_of_row _ _ 3 _ _ _ TV.out
      go_wp2_with fail
      refine C54.mono ?_
      rintro e w2 ⟨rfl, m2, r2⟩
      have T32 := Lib.hid (r2.k _ _ _ TV.out)
      have K2 := Lib.hid (KV.out.trans r2)
      have C59 := leaf59 m2 HPP.out kind i j wh hij hj (by omega)
      clear C54 e0 e1 e2 e3 r2 m2
      have e0 : w2.cell? ⟨w.heap.size, 0, none⟩ = some (.int .i64 kind) := cell_of_row _ _ 0 _ _ _ T32.out
      have e1 : w2.cell? ⟨w.heap.size, 1, none⟩ = some (.int .i64 (i : Nat)) := cell_of_row _ _ 1 _ _ _ T32.out
      have e2 : w2.cell? ⟨w.heap.size, 2, none⟩ = some (.int .i64 (j : Nat)) := cell_of_row _ _ 2 _ _ _ T32.out
      have e3 : w2.cell? ⟨w.heap.size, 3, none⟩ = some (.bool wh) := cell_of_row _ _ 3 _ _ _ T32.out
      go_wp2_with fail
      refine C59.mono ?_
      rintro e w3 ⟨rfl, m3, r3⟩
      obtain ⟨P, x, rfl⟩ := last_of FF.out
      have hxk : x.kids.length ≤ T := FF.out.fewK (by simp [kidsOf])
      have K3 := Lib.hid (K2.out.trans r3)
      have C13 := kid13 m3 (N.length : Int) (by simp at hnl; omega) (by omega)
      clear C59 e0 e1 e2 e3 r3 m3
      go_wp2_with fail
      refine C13.mono ?_
      rintro e w4 ⟨rfl, ⟨v4, m4⟩, k4⟩
      clear C13
      go_wp2_with fail
      first | go_end0 | (refine bodyPost_ret (results_none rfl _ _ _) rfl ?_)
      obtain ⟨N', S', nd', a1, a2, a3⟩ := PS.leaf (FF.out.more (T' := T + 1) (by omega)) (by omega) m4
      exact ⟨rfl, ⟨N', S', nd', a1, a2.more (by omega), by omega⟩, K3.out.trans k4⟩
    · have u1 : (k == 0) = false := by simpa using hk0
      have u2 : ((k : Int) == 0) = false := by simpa using hk0
      go_upto_block 2 with fail
      go_cut [] from 45 to 56 (fun wx => ∃ N' S' nd', Hid (MS p wx N' S' nd') ∧ Hid (Forest N' (kidsOf S') done T) ∧ nd' + S'.length = nd + S.length ∧ S'.length = k + 1 ∧ S'.length ≤ S.length ∧ Hid (Kp p V wx))
      case first =>
        go_wp2_with fail
        go_loopw [] (fun wx => ∃ N' S' nd', Hid (MS p wx N' S' nd') ∧ Hid (Forest N' (kidsOf S') done T) ∧ nd' + S'.length = nd + S.length ∧ k + 1 ≤ S'.length ∧ S'.length ≤ S.length ∧ Hid (Kp p V wx)) (fun wx => stkLen p wx)
        case atStart => exact ⟨N, S, nd, HMV, FF, rfl, by rw [HSL.out]; omega, Nat.le_refl _, Lib.hid (Kp.below (Below.refl _ _) HMV.out.mb.lo.2.2)⟩
        case round =>
          obtain ⟨N', S', nd', HM', HF', hd', hk', hl', HK'⟩ := hrel
          have Twr := Lib.hid (HK'.out.k _ _ _ TV.out)
          obtain ⟨SV', DV', ds', l1, l2, l3, -⟩ := HM'.out.ex
          obtain ⟨AS', cS', rfl, l4⟩ := own_form l3
          have y2 : wr.cell? ⟨p.gm, 2, none⟩ = some (.slice AS' S'.length cS') := cell_of_row wr p.gm 2 _ _ _ l1
          have HST := Lib.hid HM'.out.stkLen
          clear l1 l2 l3 l4
          by_cases hmore : k + 1 < S'.length
          · obtain ⟨P, y, x, rfl⟩ := two_last (S := S') (by omega)
            have C34 := missing34 HM'.out HF'.out (by omega) hdl i (by omega) (by omega)
            obtain ⟨s', hs'⟩ : ∃ s', (P ++ [y, x]).length = s' + 1 := ⟨P.length + 1, by simp⟩
            have hPs : P.length + 1 = s' := by simp at hs'; omega
            rw [hs'] at y2 hmore hl' hk' hd'
            have HS' := Lib.hid hs'
            have v1 : IntKind.i64.wrap ((s' : Int) + 1 - 1) = (s' : Int) := by rw [show (s' : Int) + 1 - 1 = s' by omega]; exact IntWalk.i64_in _ (by omega)
            have v2 : decide (k < s') = true := by simp; omega
            have HPS := Lib.hid hPs
            clear hs' hPs
            have e0 : wr.cell? ⟨w.heap.size, 0, none⟩ = some (.int .i64 kind) := cell_of_row _ _ 0 _ _ _ Twr.out
            have e1 : wr.cell? ⟨w.heap.size, 1, none⟩ = some (.int .i64 (i : Nat)) := cell_of_row _ _ 1 _ _ _ Twr.out
            have e2 : wr.cell? ⟨w.heap.size, 2, none⟩ = some (.int .i64 (j : Nat)) := cell_of_row _ _ 2 _ _ _ Twr.out
            have e3 : wr.cell? ⟨w.heap.size, 3, none⟩ = some (.bool wh) := cell_of_row _ _ 3 _ _ _ Twr.out
            go_wp2_with fail
            refine C34.mono ?_
            rintro e w2 ⟨rfl, ⟨N2, y', m2, F2⟩, r2⟩
            clear C34
            have HM2 := Lib.hid m2
            have HF2 := Lib.hid F2
            have HK2 := Lib.hid (HK'.out.trans r2)
            have hL2 : (P ++ [y']).length = s' := by rw [← HPS.out]; simp
            have HL2 := Lib.hid hL2
            clear m2 F2 r2 hL2
            go_wp2_with fail
            go_roundw
            case rel => exact ⟨N2, P ++ [y'], nd' + 1, HM2, HF2, by rw [HL2.out]; omega, by rw [HL2.out]; omega, by rw [HL2.out]; omega, HK2⟩
            case measure => rw [HM2.out.stkLen, HST.out, HL2.out, HS'.out]; omega
          · have hk2 : S'.length = k + 1 := by omega
            rw [hk2] at y2
            have HK3 := Lib.hid hk2
            clear hk2 hmore
            have v1 : IntKind.i64.wrap ((k : Int) + 1 - 1) = (k : Int) := by rw [show (k : Int) + 1 - 1 = k by omega]; exact IntWalk.i64_in _ (by omega)
            have v2 : decide (k < k) = false := by simp
            go_wp2_with fail
            go_meet
            case rel => exact ⟨N', S', nd', HM', HF', hd', HK3.out, hl', HK'⟩
      case rest =>
        obtain ⟨N', S', nd', HM', HF', hd', hk', hl', HK'⟩ := hcut
        have Twr := Lib.hid (HK'.out.k _ _ _ TV.out)
        obtain ⟨P, y, x, rfl⟩ := two_last (S := S') (by omega)
        have hnl2 := HF'.out.nLen
        rw [kidsOf_len] at hnl2
        have C59 := leaf59 HM'.out HPP.out kind i j wh hij hj (by omega)
        have HKW := Lib.hid (KV.out.trans HK'.out)
        have hPl : P.length + 2 = k + 1 := by rw [← hk']; simp
        have F0 := HF'.out
        rw [kidsOf_app] at F0
        have F0 : Forest N' (kidsOf P ++ [y.kids, x.kids]) done T := F0
        obtain ⟨c1, c2, c3, c4⟩ := F0.close (by omega) kind (tkB p i j)
        have hxk : x.kids.length ≤ T := F0.fewK (by simp)
        have hyk : y.kids.length ≤ T := F0.fewK (by simp)
        have htl := tkB_len (i := i) HPP.out hj
        have C1 := Lib.hid c1
        have C2 := Lib.hid (show bW (N' ++ [gleaf kind (tkB p i j)]) (x.kids ++ [(N'.length : Int)]) (x.kids ++ [(N'.length : Int)]).length ≤ 2147483647 by simp at c2; simp; omega)
        have C3 := Lib.hid c3
        have C4 := Lib.hid c4
        have HD := Lib.hid hd'
        have HPl := Lib.hid hPl
        clear c1 c2 c3 c4 F0 hk' hl' hd' hPl
        have e0 : wc.cell? ⟨w.heap.size, 0, none⟩ = some (.int .i64 kind) := cell_of_row _ _ 0 _ _ _ Twr.out
        have e1 : wc.cell? ⟨w.heap.size, 1, none⟩ = some (.int .i64 (i : Nat)) := cell_of_row _ _ 1 _ _ _ Twr.out
        have e2 : wc.cell? ⟨w.heap.size, 2, none⟩ = some (.int .i64 (j : Nat)) := cell_of_row _ _ 2 _ _ _ Twr.out
        have e3 : wc.cell? ⟨w.heap.size, 3, none⟩ = some (.bool wh) := cell_of_row _ _ 3 _ _ _ Twr.out
        go_wp2_with fail
        refine C59.mono ?_
        rintro e w3 ⟨rfl, m3, r3⟩
        have HK4 := Lib.hid (HKW.out.trans r3)
        have C60 := shut60 m3 (N'.length : Int) C1.out C2.out C3.out.cnt (by simp; omega) (by have := HPl.out; have := HSL.out; omega) (by omega) (by omega)
        clear C59 e0 e1 e2 e3 r3 m3
        go_wp2_with fail
        refine C60.mono ?_
        rintro e w4 ⟨rfl, ⟨v4, m4⟩, k4⟩
        clear C60
        go_wp2_with fail
        go_end0
        refine ⟨rfl, ⟨_, _, nd', m4, ?_, ?_⟩, HK4.out.trans k4⟩
        · rw [kidsOf_app]
          exact Forest.more C4.out (by omega)
        · have := HD.out
          simp at this ⊢
          omega
end Go.Proofs.YtibakihcicfeoaaGreat
/- The walk of a maker's token. No condition. -/
namespace Go.Proofs.YtibakihcicfeoaaGreat
open Go.RowKit

theorem fldR (k f t : Int) (A : Option Addr) (m c : Nat) (r e : Bool) (W : World) : (Instr.field 130 (.agg (tgc k f t (.slice A m c) r e)) 2).run Tryz.prog W = .ok (.bool r) W := by kernel_rfl
set_option maxRecDepth 100000 in
set_option maxHeartbeats 8000000 in
theorem token33 {p : PC} {w : World} {N : List GN} {S : List SE} {nd T : Nat} {done : List Int} (h : MS p w N S nd) (F : Forest N (kidsOf S) done T) (hd : nd + S.length ≤ T + 1) (hP : PO p) (hT : T ≤ 2800) (hdl : done.length ≤ 4096) (kind : Int) (i j : Nat) (wh : Bool) (hij : i ≤ j) (hj : j ≤ p.nR) :
    Calls Tryz.prog 33 #[.pointer (some ⟨p.gm, 0, none⟩), .agg (tk kind (i : Nat) (j : Nat) wh)] w fun e w' => e = .returned (.tuple #[]) ∧ PS p w' (done ++ tkB p i j) (T + 4) ∧ Kp p w w' := by
  have hloB := h.mb.lo.2.2
  have hnl := F.nLen
  rw [kidsOf_len] at hnl
  have hb0 := (Below.refl w.heap.size w).alloc (Nat.le_refl _) (.cells (tk kind (i : Nat) (j : Nat) wh) 87)
  have t3 := heap_alloc_new w (.cells (tk kind (i : Nat) (j : Nat) wh) 87)
  obtain ⟨X, hX⟩ : ∃ X, w.alloc (.cells (tk kind (i : Nat) (j : Nat) wh) 87) = X := ⟨_, rfl⟩
  have hlt : w.heap.size < X.heap.size := by rw [← hX]; simp
  rw [hX] at hb0 t3
  have hX0 := h.below hb0
  have e0 : X.cell? ⟨w.heap.size, 0, none⟩ = some (.int .i64 kind) := cell_of_row _ _ 0 _ _ _ t3
  have e1 : X.cell? ⟨w.heap.size, 1, none⟩ = some (.int .i64 (i : Nat)) := cell_of_row _ _ 1 _ _ _ t3
  have e2 : X.cell? ⟨w.heap.size, 2, none⟩ = some (.int .i64 (j : Nat)) := cell_of_row _ _ 2 _ _ _ t3
  have e3 : X.cell? ⟨w.heap.size, 3, none⟩ = some (.bool wh) := cell_of_row _ _ 3 _ _ _ t3
  have HX0 := Lib.hid hX0
  have KX := Lib.hid (Kp.below (p := p) hb0 hloB)
  have FF := Lib.hid F
  have T3 := Lib.hid t3
  have HPP := Lib.hid hP
  clear hX0 hb0 h F hP t3
  go_enter Tryz.func33, Tryz.ntmps33
  go_upto_region 1 with fail
  go_cut [4] from 5 to 17 (fun tv wx => (∃ b : Bool, tv = .bool b) ∧ wx = X)
  case first =>
    by_cases k8 : kind = 8
    · subst k8
      go_wp2_with fail
      go_meet
      case rel => exact ⟨⟨_, rfl⟩, rfl⟩
    · have g8 : (kind == 8) = false := by simpa using k8
      by_cases k9 : kind = 9
      · subst k9
        go_wp2_with fail
        go_meet
        case rel => exact ⟨⟨_, rfl⟩, rfl⟩
      · have g9 : (kind == 9) = false := by simpa using k9
        go_wp2_with fail
        go_meet
        case rel => exact ⟨⟨_, rfl⟩, rfl⟩
  case rest =>
    obtain ⟨⟨b, rfl⟩, hwc⟩ := hcut
    rw [hwc]
    clear hwc
    go_upto_block 0 with fail
    go_cut [] from 18 to 52 (fun wx => ∃ nd', Hid (MS p wx N S nd') ∧ nd' ≤ nd + 1 ∧ Hid (Kp p X wx))
    case first =>
      have C54a := wrong54 HX0.out 1 i j (by omega) hj (by omega)
      have hwh : wh = true ∨ wh = false := by cases wh <;> simp
      rcases hwh with rfl | rfl
      · have hb : b = true ∨ b = false := by cases b <;> simp
        rcases hb with rfl | rfl
        · obtain ⟨SV, DV, ds, hm, ht, -, -⟩ := HX0.out.ex
          have y1 : X.cell? ⟨p.gm, 1, none⟩ = some (.pointer (some ⟨p.gt, 0, none⟩)) := cell_of_row _ p.gm 1 _ _ _ hm
          have z2 : X.cell? ⟨p.gt, 2, none⟩ = some (.slice p.AR p.nR p.cR) := cell_of_row _ p.gt 2 _ _ _ ht
          have CR := Lib.hid (fun (W : World) (hW : Below X.heap.size X W) => read55 (w := W) p.AR p.nR p.cR p.rs i j ((HX0.out.mb.R.below (hW.mono HX0.out.mb.lo.2.2)).more (Nat.le_trans HX0.out.mb.lo.2.2 hW.size)) (by have := HPP.out.nR; omega) hij hj)
          unfold ReadSaid at CR
          clear hm ht C54a
          have hDr : Below X.heap.size X X.drew := Below.drew (Below.refl _ _)
          go_wp2_with fail
          refine wp_region_held_drew (S := fun W => Below X.heap.size X W) (by kernel_rfl) hDr (fun hHeld => ?_)
          change wpAnyH _ _ _ _ _ 19 #[false, false, false, false, false, false, false, false, false, false, false, false, false, false, false, false, false, false, false] _ _
          refine wpAnyH_take (i := 0) (oi := _) (v := ?_) rfl (by kernel_rfl) (by kernel_rfl) (by kernel_rfl) (fun _ _ _ h => h) (Or.inl ⟨by rfl, ?_⟩) hHeld ?_
          rotate_left
          · intro w9 hSw; go_simp; (try with_reducible rfl)
          simp only [List.getElem_toArray, List.getElem_cons_zero, Act.put, List.setIfInBounds_toArray, List.set_cons_zero, List.set_cons_succ]
          refine wpAnyH_take (i := 1) (oi := _) (v := ?_) rfl (by kernel_rfl) (by kernel_rfl) (by kernel_rfl) (fun _ _ _ h => h) (Or.inl ⟨by rfl, ?_⟩) hHeld ?_
          rotate_left
          · intro w9 hSw; go_simp; (try with_reducible rfl)
          simp only [List.getElem_toArray, List.getElem_cons_zero, List.getElem_cons_succ, Act.put, List.setIfInBounds_toArray, List.set_cons_zero, List.set_cons_succ]
          refine wpAnyH_take (i := 2) (oi := _) (v := ?_) rfl (by kernel_rfl) (by kernel_rfl) (by kernel_rfl) (fun _ _ _ h => h) (Or.inl ⟨by rfl, ?_⟩) hHeld ?_
          rotate_left
          · intro w9 hSw; go_simp; (try with_reducible rfl)
          simp only [List.getElem_toArray, List.getElem_cons_zero, List.getElem_cons_succ, Act.put, List.setIfInBounds_toArray, List.set_cons_zero, List.set_cons_succ]
          refine wpAnyH_take (i := 3) (oi := _) (v := ?_) rfl (by kernel_rfl) (by kernel_rfl) (by kernel_rfl) (fun _ _ _ h => h) (Or.inl ⟨by rfl, ?_⟩) hHeld ?_
          rotate_left
          · intro w9 hSw; go_simp; (try with_reducible rfl)
          simp only [List.getElem_toArray, List.getElem_cons_zero, List.getElem_cons_succ, Act.put, List.setIfInBounds_toArray, List.set_cons_zero, List.set_cons_succ]
          refine wpAnyH_take (i := 4) (oi := _) (v := ?_) rfl (by kernel_rfl) (by kernel_rfl) (by kernel_rfl) (fun _ _ _ h => h) (Or.inl ⟨by rfl, ?_⟩) hHeld ?_
          rotate_left
          · intro w9 hSw; go_simp; (try with_reducible rfl)
          simp only [List.getElem_toArray, List.getElem_cons_zero, List.getElem_cons_succ, Act.put, List.setIfInBounds_toArray, List.set_cons_zero, List.set_cons_succ]
          refine wpAnyH_take (i := 5) (oi := _) (v := ?_) rfl (by kernel_rfl) (by kernel_rfl) (by kernel_rfl) (fun _ _ _ h => h) (Or.inl ⟨by rfl, ?_⟩) hHeld ?_
          rotate_left
          · intro w9 hSw; have s1 := (hSw.cell (World.block_lt_of_cell? _ _ y1)).trans y1; go_simp; (try with_reducible rfl)
          simp only [List.getElem_toArray, List.getElem_cons_zero, List.getElem_cons_succ, Act.put, List.setIfInBounds_toArray, List.set_cons_zero, List.set_cons_succ]
          refine wpAnyH_take (i := 6) (oi := _) (v := ?_) rfl (by kernel_rfl) (by kernel_rfl) (by kernel_rfl) (fun _ _ _ h => h) (Or.inl ⟨by rfl, ?_⟩) hHeld ?_
          rotate_left
          · intro w9 hSw; go_simp; (try with_reducible rfl)
          simp only [List.getElem_toArray, List.getElem_cons_zero, List.getElem_cons_succ, Act.put, List.setIfInBounds_toArray, List.set_cons_zero, List.set_cons_succ]
          refine wpAnyH_take (i := 7) (oi := _) (v := ?_) rfl (by kernel_rfl) (by kernel_rfl) (by kernel_rfl) (fun _ _ _ h => h) (Or.inl ⟨by rfl, ?_⟩) hHeld ?_
          rotate_left
          · intro w9 hSw; go_simp; (try with_reducible rfl)
          simp only [List.getElem_toArray, List.getElem_cons_zero, List.getElem_cons_succ, Act.put, List.setIfInBounds_toArray, List.set_cons_zero, List.set_cons_succ]
          refine wpAnyH_take (i := 8) (oi := _) (v := ?_) rfl (by kernel_rfl) (by kernel_rfl) (by kernel_rfl) (fun _ _ _ h => h) (Or.inl ⟨by rfl, ?_⟩) hHeld ?_
          rotate_left
          · intro w9 hSw; go_simp; (try with_reducible rfl)
          simp only [List.getElem_toArray, List.getElem_cons_zero, List.getElem_cons_succ, Act.put, List.setIfInBounds_toArray, List.set_cons_zero, List.set_cons_succ]
          refine wpAnyH_take (i := 9) (oi := _) (v := ?_) rfl (by kernel_rfl) (by kernel_rfl) (by kernel_rfl) (fun _ _ _ h => h) (Or.inl ⟨by rfl, ?_⟩) hHeld ?_
          rotate_left
          · intro w9 hSw; have s1 := (hSw.cell (World.block_lt_of_cell? _ _ z2)).trans z2; go_simp; (try with_reducible rfl)
          simp only [List.getElem_toArray, List.getElem_cons_zero, List.getElem_cons_succ, Act.put, List.setIfInBounds_toArray, List.set_cons_zero, List.set_cons_succ]
          refine wpAnyH_take (i := 10) (oi := _) (v := ?_) rfl (by kernel_rfl) (by kernel_rfl) (by kernel_rfl) (fun _ _ _ h => h) (Or.inl ⟨by rfl, ?_⟩) hHeld ?_
          rotate_left
          · intro w9 hSw; go_simp; (try with_reducible rfl)
          simp only [List.getElem_toArray, List.getElem_cons_zero, List.getElem_cons_succ, Act.put, List.setIfInBounds_toArray, List.set_cons_zero, List.set_cons_succ]
          refine wpAnyH_take (i := 11) (oi := _) (v := ?_) rfl (by kernel_rfl) (by kernel_rfl) (by kernel_rfl) (fun _ _ _ h => h) (Or.inl ⟨by rfl, ?_⟩) hHeld ?_
          rotate_left
          · intro w9 hSw; have s1 := (hSw.cell (World.block_lt_of_cell? _ _ e1)).trans e1; go_simp; (try with_reducible rfl)
          simp only [List.getElem_toArray, List.getElem_cons_zero, List.getElem_cons_succ, Act.put, List.setIfInBounds_toArray, List.set_cons_zero, List.set_cons_succ]
          refine wpAnyH_take (i := 12) (oi := _) (v := ?_) rfl (by kernel_rfl) (by kernel_rfl) (by kernel_rfl) (fun _ _ _ h => h) (Or.inl ⟨by rfl, ?_⟩) hHeld ?_
          rotate_left
          · intro w9 hSw; go_simp; (try with_reducible rfl)
          simp only [List.getElem_toArray, List.getElem_cons_zero, List.getElem_cons_succ, Act.put, List.setIfInBounds_toArray, List.set_cons_zero, List.set_cons_succ]
          refine wpAnyH_take (i := 13) (oi := _) (v := ?_) rfl (by kernel_rfl) (by kernel_rfl) (by kernel_rfl) (fun _ _ _ h => h) (Or.inl ⟨by rfl, ?_⟩) hHeld ?_
          rotate_left
          · intro w9 hSw; have s1 := (hSw.cell (World.block_lt_of_cell? _ _ e2)).trans e2; go_simp; (try with_reducible rfl)
          simp only [List.getElem_toArray, List.getElem_cons_zero, List.getElem_cons_succ, Act.put, List.setIfInBounds_toArray, List.set_cons_zero, List.set_cons_succ]
          refine wpAnyH_ready (rs := [14]) (by kernel_rfl) (by simp) ?_
          refine AllReadyH.cons (o := _) rfl (fun K hK => ?_) AllReadyH.nil
          go_simp
          refine (CR.out _ hDr).mono ?_
          rintro e x2 ⟨k6, f6, t6, A6, m6, c6, r6, e6, rfl, hf1, hf2, b2⟩
          have b2 : Below X.heap.size X x2 := hDr.trans b2
          refine hK.out _ _ b2 (fun hHeld2 => ?_)
          clear hK
          refine wpAnyH_take (i := 15) (oi := _) (v := .bool r6) rfl (by kernel_rfl) (by kernel_rfl) (by kernel_rfl) (fun _ _ _ h => h) (Or.inl ⟨by rfl, ?_⟩) hHeld2 ?_
          · intro w9 hSw; have q := fldR k6 f6 t6 A6 m6 c6 r6 e6; go_simp; (try with_reducible rfl)
          simp only [List.getElem_toArray, List.getElem_cons_zero, List.getElem_cons_succ, Act.put, List.setIfInBounds_toArray, List.set_cons_zero, List.set_cons_succ]
          refine wpAnyH_take (i := 16) (oi := _) (v := ?_) rfl (by kernel_rfl) (by kernel_rfl) (by kernel_rfl) (fun _ _ _ h => h) (Or.inl ⟨by rfl, ?_⟩) hHeld2 ?_
          rotate_left
          · intro w9 hSw; go_simp; (try with_reducible rfl)
          simp only [List.getElem_toArray, List.getElem_cons_zero, List.getElem_cons_succ, Act.put, List.setIfInBounds_toArray, List.set_cons_zero, List.set_cons_succ]
          refine wpAnyH_take (i := 17) (oi := _) (v := ?_) rfl (by kernel_rfl) (by kernel_rfl) (by kernel_rfl) (fun _ _ _ h => h) (Or.inl ⟨by rfl, ?_⟩) hHeld2 ?_
          rotate_left
          · intro w9 hSw; go_simp; (try with_reducible rfl)
          simp only [List.getElem_toArray, List.getElem_cons_zero, List.getElem_cons_succ, Act.put, List.setIfInBounds_toArray, List.set_cons_zero, List.set_cons_succ]
          refine wpAnyH_take (i := 18) (oi := _) (v := ?_) rfl (by kernel_rfl) (by kernel_rfl) (by kernel_rfl) (fun _ _ _ h => h) (Or.inl ⟨by rfl, ?_⟩) hHeld2 ?_
          rotate_left
          · intro w9 hSw; go_simp; (try with_reducible rfl)
          simp only [List.getElem_toArray, List.getElem_cons_zero, List.getElem_cons_succ, Act.put, List.setIfInBounds_toArray, List.set_cons_zero, List.set_cons_succ]
          refine wpAnyH_done (by kernel_rfl) ?_ _
          have HM2 := Lib.hid (HX0.out.below b2)
          have HK2 := Lib.hid (Kp.below b2 HX0.out.mb.lo.2.2)
          have HT2 := Lib.hid ((b2.block _ (Array.getElem?_eq_some_iff.1 T3.out).1).trans T3.out)
          clear hHeld hHeld2 y1 z2 e0 e1 e2 e3 b2 CR
          have C54 := wrong54 HM2.out 2 i j (by omega) hj (by omega)
          have e0 : x2.cell? ⟨w.heap.size, 0, none⟩ = some (.int .i64 kind) := cell_of_row _ _ 0 _ _ _ HT2.out
          have e1 : x2.cell? ⟨w.heap.size, 1, none⟩ = some (.int .i64 (i : Nat)) := cell_of_row _ _ 1 _ _ _ HT2.out
          have e2 : x2.cell? ⟨w.heap.size, 2, none⟩ = some (.int .i64 (j : Nat)) := cell_of_row _ _ 2 _ _ _ HT2.out
          have e3 : x2.cell? ⟨w.heap.size, 3, none⟩ = some (.bool true) := cell_of_row _ _ 3 _ _ _ HT2.out
          have hr6 : r6 = true ∨ r6 = false := by cases r6 <;> simp
          rcases hr6 with rfl | rfl
          · clear C54
            go_wp2_with fail
            go_meet
            case rel => exact ⟨nd, HM2, by omega, HK2⟩
          · go_wp2_with fail
            refine C54.mono ?_
            rintro e w2 ⟨rfl, m2, r2⟩
            clear C54
            go_wp2_with fail
            go_meet
            case rel => exact ⟨nd + 1, Lib.hid m2, Nat.le_refl _, Lib.hid (HK2.out.trans r2)⟩
        · clear C54a
          go_wp2_with fail
          go_quiet (fail)
          go_wp2_with fail
          go_meet
          case rel => exact ⟨nd, Lib.hid (HX0.out.below (Below.drewN_ (Below.refl _ _) _)), by omega, Lib.hid (Kp.below (Below.drewN_ (Below.refl _ _) _) HX0.out.mb.lo.2.2)⟩
      · go_wp2_with fail
        refine C54a.mono ?_
        rintro e w2 ⟨rfl, m2, r2⟩
        clear C54a
        go_wp2_with fail
        go_meet
        case rel => exact ⟨nd + 1, Lib.hid m2, Nat.le_refl _, Lib.hid r2⟩
    case rest =>
      obtain ⟨nd', HM', hnd, HK'⟩ := hcut
      have HKW := Lib.hid (KX.out.trans HK'.out)
      have TW := Lib.hid (HK'.out.k _ _ _ T3.out)
      clear HX0 KX T3 HK' e0 e1 e2 e3
      have hwh : wh = true ∨ wh = false := by cases wh <;> simp
      rcases hwh with rfl | rfl
      · by_cases k8 : kind = 8
        · subst k8
          have e0 : wc.cell? ⟨w.heap.size, 0, none⟩ = some (.int .i64 8) := cell_of_row _ _ 0 _ _ _ TW.out
          have e1 : wc.cell? ⟨w.heap.size, 1, none⟩ = some (.int .i64 (i : Nat)) := cell_of_row _ _ 1 _ _ _ TW.out
          have e2 : wc.cell? ⟨w.heap.size, 2, none⟩ = some (.int .i64 (j : Nat)) := cell_of_row _ _ 2 _ _ _ TW.out
          have e3 : wc.cell? ⟨w.heap.size, 3, none⟩ = some (.bool true) := cell_of_row _ _ 3 _ _ _ TW.out
          have C56 := name56 HM'.out HPP.out.nR 8 i j true hij hj
          unfold NameSaid at C56
          go_wp2_with fail
          refine C56.mono ?_
          rintro e w1 ⟨An, mn, cn, rfl, hmn, -, b1⟩
          have HM1 := Lib.hid (HM'.out.below b1)
          have HK1 := Lib.hid (HKW.out.trans (Kp.below b1 HM'.out.mb.lo.2.2))
          have T1 := Lib.hid ((b1.block _ (Array.getElem?_eq_some_iff.1 TW.out).1).trans TW.out)
          clear C56 b1 e0 e1 e2 e3
          have e0 : w1.cell? ⟨w.heap.size, 0, none⟩ = some (.int .i64 8) := cell_of_row _ _ 0 _ _ _ T1.out
          have e1 : w1.cell? ⟨w.heap.size, 1, none⟩ = some (.int .i64 (i : Nat)) := cell_of_row _ _ 1 _ _ _ T1.out
          have e2 : w1.cell? ⟨w.heap.size, 2, none⟩ = some (.int .i64 (j : Nat)) := cell_of_row _ _ 2 _ _ _ T1.out
          have e3 : w1.cell? ⟨w.heap.size, 3, none⟩ = some (.bool true) := cell_of_row _ _ 3 _ _ _ T1.out
          by_cases hm0 : 0 < mn
          · have q0 : decide ((0 : Int) < (mn : Int)) = true := by simp; omega
            have C := start57 HM1.out (FF.out.more (T' := T + 1) (by omega)) (by omega) HPP.out (by omega) 8 i j true hij hj
            go_wp2_with fail
            refine C.mono ?_
            rintro e w4 ⟨rfl, p4, k4⟩
            clear C
            go_wp2_with fail
            first | go_end0 | (refine bodyPost_ret (results_none rfl _ _ _) rfl ?_)
            exact ⟨rfl, p4, HK1.out.trans k4⟩
          · have q0 : decide ((0 : Int) < (mn : Int)) = false := by simp; omega
            obtain rfl : mn = 0 := by omega
            have C59 := leaf59 HM1.out HPP.out 8 i j true hij hj (by omega)
            clear e0 e1 e2 e3
            have e0 : w1.cell? ⟨w.heap.size, 0, none⟩ = some (.int .i64 8) := cell_of_row _ _ 0 _ _ _ T1.out
            have e1 : w1.cell? ⟨w.heap.size, 1, none⟩ = some (.int .i64 (i : Nat)) := cell_of_row _ _ 1 _ _ _ T1.out
            have e2 : w1.cell? ⟨w.heap.size, 2, none⟩ = some (.int .i64 (j : Nat)) := cell_of_row _ _ 2 _ _ _ T1.out
            have e3 : w1.cell? ⟨w.heap.size, 3, none⟩ = some (.bool true) := cell_of_row _ _ 3 _ _ _ T1.out
            go_wp2_with fail
            refine C59.mono ?_
            rintro e w3 ⟨rfl, m3, r3⟩
            obtain ⟨P, x, rfl⟩ := last_of FF.out
            have hxk : x.kids.length ≤ T := FF.out.fewK (by simp [kidsOf])
            have K3 := Lib.hid (HK1.out.trans r3)
            have C13 := kid13 m3 (N.length : Int) (by simp at hnl; omega) (by omega)
            clear C59 e0 e1 e2 e3 r3 m3
            go_wp2_with fail
            refine C13.mono ?_
            rintro e w4 ⟨rfl, ⟨v4, m4⟩, k4⟩
            clear C13
            go_wp2_with fail
            first | go_end0 | (refine bodyPost_ret (results_none rfl _ _ _) rfl ?_)
            obtain ⟨N', S', nd2, a1, a2, a3⟩ := PS.leaf (FF.out.more (T' := T + 1) (by omega)) (by omega) m4
            exact ⟨rfl, ⟨N', S', nd2, a1, a2.more (by omega), by omega⟩, K3.out.trans k4⟩
        · have g8 : (kind == 8) = false := by simpa using k8
          by_cases k10 : kind = 10
          · subst k10
            have e0 : wc.cell? ⟨w.heap.size, 0, none⟩ = some (.int .i64 10) := cell_of_row _ _ 0 _ _ _ TW.out
            have e1 : wc.cell? ⟨w.heap.size, 1, none⟩ = some (.int .i64 (i : Nat)) := cell_of_row _ _ 1 _ _ _ TW.out
            have e2 : wc.cell? ⟨w.heap.size, 2, none⟩ = some (.int .i64 (j : Nat)) := cell_of_row _ _ 2 _ _ _ TW.out
            have e3 : wc.cell? ⟨w.heap.size, 3, none⟩ = some (.bool true) := cell_of_row _ _ 3 _ _ _ TW.out
            have C := end58 HM'.out (FF.out.more (T' := T + 1) (by omega)) (by omega) HPP.out (by omega) hdl 10 i j true hij hj
            go_wp2_with fail
            refine C.mono ?_
            rintro e w4 ⟨rfl, p4, k4⟩
            clear C
            go_wp2_with fail
            first | go_end0 | (refine bodyPost_ret (results_none rfl _ _ _) rfl ?_)
            exact ⟨rfl, p4, HKW.out.trans k4⟩
          · have g10 : (kind == 10) = false := by simpa using k10
            have e0 : wc.cell? ⟨w.heap.size, 0, none⟩ = some (.int .i64 kind) := cell_of_row _ _ 0 _ _ _ TW.out
            have e1 : wc.cell? ⟨w.heap.size, 1, none⟩ = some (.int .i64 (i : Nat)) := cell_of_row _ _ 1 _ _ _ TW.out
            have e2 : wc.cell? ⟨w.heap.size, 2, none⟩ = some (.int .i64 (j : Nat)) := cell_of_row _ _ 2 _ _ _ TW.out
            have e3 : wc.cell? ⟨w.heap.size, 3, none⟩ = some (.bool true) := cell_of_row _ _ 3 _ _ _ TW.out
            have C59 := leaf59 HM'.out HPP.out kind i j true hij hj (by omega)
            clear e0 e1 e2 e3
            have e0 : wc.cell? ⟨w.heap.size, 0, none⟩ = some (.int .i64 kind) := cell_of_row _ _ 0 _ _ _ TW.out
            have e1 : wc.cell? ⟨w.heap.size, 1, none⟩ = some (.int .i64 (i : Nat)) := cell_of_row _ _ 1 _ _ _ TW.out
            have e2 : wc.cell? ⟨w.heap.size, 2, none⟩ = some (.int .i64 (j : Nat)) := cell_of_row _ _ 2 _ _ _ TW.out
            have e3 : wc.cell? ⟨w.heap.size, 3, none⟩ = some (.bool true) := cell_of_row _ _ 3 _ _ _ TW.out
            go_wp2_with fail
            refine C59.mono ?_
            rintro e w3 ⟨rfl, m3, r3⟩
            obtain ⟨P, x, rfl⟩ := last_of FF.out
            have hxk : x.kids.length ≤ T := FF.out.fewK (by simp [kidsOf])
            have K3 := Lib.hid (HKW.out.trans r3)
            have C13 := kid13 m3 (N.length : Int) (by simp at hnl; omega) (by omega)
            clear C59 e0 e1 e2 e3 r3 m3
            go_wp2_with fail
            refine C13.mono ?_
            rintro e w4 ⟨rfl, ⟨v4, m4⟩, k4⟩
            clear C13
            go_wp2_with fail
            first | go_end0 | (refine bodyPost_ret (results_none rfl _ _ _) rfl ?_)
            obtain ⟨N', S', nd2, a1, a2, a3⟩ := PS.leaf (FF.out.more (T' := T + 1) (by omega)) (by omega) m4
            exact ⟨rfl, ⟨N', S', nd2, a1, a2.more (by omega), by omega⟩, K3.out.trans k4⟩
      · skip
        have e0 : wc.cell? ⟨w.heap.size, 0, none⟩ = some (.int .i64 kind) := cell_of_row _ _ 0 _ _ _ TW.out
        have e1 : wc.cell? ⟨w.heap.size, 1, none⟩ = some (.int .i64 (i : Nat)) := cell_of_row _ _ 1 _ _ _ TW.out
        have e2 : wc.cell? ⟨w.heap.size, 2, none⟩ = some (.int .i64 (j : Nat)) := cell_of_row _ _ 2 _ _ _ TW.out
        have e3 : wc.cell? ⟨w.heap.size, 3, none⟩ = some (.bool false) := cell_of_row _ _ 3 _ _ _ TW.out
        have C59 := leaf59 HM'.out HPP.out kind i j false hij hj (by omega)
        clear e0 e1 e2 e3
        have e0 : wc.cell? ⟨w.heap.size, 0, none⟩ = some (.int .i64 kind) := cell_of_row _ _ 0 _ _ _ TW.out
        have e1 : wc.cell? ⟨w.heap.size, 1, none⟩ = some (.int .i64 (i : Nat)) := cell_of_row _ _ 1 _ _ _ TW.out
        have e2 : wc.cell? ⟨w.heap.size, 2, none⟩ = some (.int .i64 (j : Nat)) := cell_of_row _ _ 2 _ _ _ TW.out
        have e3 : wc.cell? ⟨w.heap.size, 3, none⟩ = some (.bool false) := cell_of_row _ _ 3 _ _ _ TW.out
        go_wp2_with fail
        refine C59.mono ?_
        rintro e w3 ⟨rfl, m3, r3⟩
        obtain ⟨P, x, rfl⟩ := last_of FF.out
        have hxk : x.kids.length ≤ T := FF.out.fewK (by simp [kidsOf])
        have K3 := Lib.hid (HKW.out.trans r3)
        have C13 := kid13 m3 (N.length : Int) (by simp at hnl; omega) (by omega)
        clear C59 e0 e1 e2 e3 r3 m3
        go_wp2_with fail
        refine C13.mono ?_
        rintro e w4 ⟨rfl, ⟨v4, m4⟩, k4⟩
        clear C13
        go_wp2_with fail
        first | go_end0 | (refine bodyPost_ret (results_none rfl _ _ _) rfl ?_)
        obtain ⟨N', S', nd2, a1, a2, a3⟩ := PS.leaf (FF.out.more (T' := T + 1) (by omega)) (by omega) m4
        exact ⟨rfl, ⟨N', S', nd2, a1, a2.more (by omega), by omega⟩, K3.out.trans k4⟩
end Go.Proofs.YtibakihcicfeoaaGreat
