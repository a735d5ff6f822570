/- Cursors: the walk of To. No condition. -/
import Derived.Test.YtbmbiffhgdkpiaaR3
namespace Go.Proofs.Ytbmbiffhgdkpiaa
open Go.RowKit

theorem to44_nil (n f k : Int) (u A : Option Addr) (m c : Nat) (w : World) : Calls Try.prog 44 #[.agg (cc none n f k u), .slice A m c] w (NoCur w) := by
  unfold NoCur
  have T := fun o o' => two_new w o o'
  go_enter Try.func44, Try.ntmps44
  go_wp2_with fail
  exact bodyPost_ret (v := .tuple #[.agg (cc none 0 0 0 none), .bool false]) (results_row2 rfl _ _ (w.heap.size + 1) 59 _ (0, 0) _ _ rfl rfl (T _ _).1 Try.underlying59 rfl (by kernel_rfl)) rfl ⟨rfl, (T _ _).2⟩
/-- What stands where a cursor was sent, or nothing. -/
def ToSaid (ga : Nat) (N : List GN) (root : Nat) (Q0 : List Int) (n : Nat) (P : List Int) (w : World) (e : Ending) (w' : World) : Prop :=
  (if (gatL N n P).isSome then ∃ n' f' k' u', e = .returned (.tuple #[.agg (cc (some ⟨ga, 0, none⟩) n' f' k' u'), .bool true]) ∧ Chain (fun _ => True) w' ga N root (P.reverse ++ Q0) n' f' k' u'
  else e = .returned (.tuple #[.agg (cc none 0 0 0 none), .bool false])) ∧ Below w.heap.size w w'
set_option maxRecDepth 100000 in
set_option maxHeartbeats 4000000 in
theorem to44 {w : World} {B ga : Nat} {N : List GN} (h : Arena w B ga N) (hN : OkN N) (hwd : ∀ i, i < N.length → (gn N i).w ≤ 1000000) (root : Nat) (hr : root < N.length) (Q0 : List Int) (n : Nat) (f k : Int) (u : Option Addr) (hc : Chain (fun _ => True) w ga N root Q0 n f k u)
    (A : Option Addr) (m c : Nat) (P : List Int) (hP : Rd w w.heap.size 1 A m c (ints .i64 P)) (hm : m ≤ 4096) :
    Calls Try.prog 44 #[.agg (cc (some ⟨ga, 0, none⟩) n f k u), .slice A m c] w (ToSaid ga N root Q0 n P w) := by
  unfold ToSaid
  have HL := Lib.hid hP.int_len
  have hN' := Lib.hid hN
  have HW := Lib.hid hwd
  have hc0 : Chain (fun b => b ≠ w.heap.size ∧ b ≠ w.heap.size + 1) w ga N root Q0 n f k u := hc.imp fun b _ hb => by omega
  have HC := Lib.hid hc0
  have T := fun o o' => two_new w o o'
  have T0 := fun o o' => (heap_alloc_old (w.alloc o) o' (r := w.heap.size) (by simp)).trans (heap_alloc_new w o)
  have HT := Lib.hid T
  have HT0 := Lib.hid T0
  clear hN hwd hc hc0 T T0
  by_cases hg : (gatL N n P).isSome
  · simp only [if_pos hg]
    obtain ⟨last, hlast⟩ := Option.isSome_iff_exists.1 hg
    have HGL := Lib.hid hlast
    clear hg hlast
    go_enter Try.func44, Try.ntmps44
    go_wp2_with fail
    go_loopw [16] (fun i wr => ∃ (j : Nat) (n' : Nat) (f' k' : Int) (u' : Option Addr), j ≤ m ∧ i = .int .i64 j ∧ Hid (gat N n P j = some n') ∧ Hid (wr.heap[w.heap.size]? = some (.cells (cc (some ⟨ga, 0, none⟩) n' f' k' u') 59 (0, 0))) ∧ Hid (wr.heap[w.heap.size + 1]? = some (.cells (cc none 0 0 0 none) 59 (0, 0))) ∧ Hid (Chain (fun b => b ≠ w.heap.size ∧ b ≠ w.heap.size + 1) wr ga N root ((P.take j).reverse ++ Q0) n' f' k' u') ∧ Below w.heap.size w wr)
      (fun i _ => m - (intOf i).toNat)
    case atStart => exact ⟨0, n, f, k, u, Nat.zero_le _, rfl, Lib.hid rfl, Lib.hid (HT0.out _ _), Lib.hid (HT.out _ _).1, Lib.hid (HC.out.below (((Below.refl w.heap.size w).alloc (Nat.le_refl _) _).alloc (by simp) _)), (HT.out _ _).2⟩
    case round =>
      obtain ⟨j, n', f', k', u', hj, rfl, HGA, HX, HR, HCH, hb⟩ := hrel
      have hsx := (Array.getElem?_eq_some_iff.1 HR.out).1
      have hX := HX.out
      have y0 : wr.cell? ⟨w.heap.size, 0, none⟩ = some (.pointer (some ⟨ga, 0, none⟩)) := cell_of_row wr _ 0 _ _ _ hX
      have y1 : wr.cell? ⟨w.heap.size, 1, none⟩ = some (.int .i64 (n' : Nat)) := cell_of_row wr _ 1 _ _ _ hX
      have y2 : wr.cell? ⟨w.heap.size, 2, none⟩ = some (.int .i64 f') := cell_of_row wr _ 2 _ _ _ hX
      have y3 : wr.cell? ⟨w.heap.size, 3, none⟩ = some (.int .i64 k') := cell_of_row wr _ 3 _ _ _ hX
      have y4 : wr.cell? ⟨w.heap.size, 4, none⟩ = some (.pointer u') := cell_of_row wr _ 4 _ _ _ hX
      clear hX
      have ok := HCH.out.ok hN'.out hr
      have hnl : n' < N.length := by omega
      have hf0 := ok.2.2.1
      have hf1 : f' ≤ 1000000 := by have := ok.2.2.2.1; have := HW.out root hr; omega
      have hfew := hN'.out.few n' hnl
      clear ok
      by_cases hlt : j < m
      · obtain ⟨b, off, rfl, hbb, hcx⟩ := (hP.below hb).int_form (by omega)
        have x0 := hcx j hlt
        clear hcx
        have C40 := down40 (h.below hb) hN'.out n' hnl f' k' u' (gz P j) hf0 hf1 (HW.out n' hnl)
        unfold DownSaid at C40
        by_cases hq : 0 ≤ gz P j ∧ gz P j < (gn N n').kids.length
        · simp only [if_pos hq] at C40
          have hkid := good_kid hN'.out.good hnl (z := gz (gn N n').kids (gz P j).toNat) (by rw [gz_eq (by omega)]; exact List.getElem_mem _)
          have HG1 := Lib.hid (show gat N n P (j + 1) = some (gz (gn N n').kids (gz P j).toNat).toNat by simp only [gat, HGA.out, Option.bind_some, if_pos hq])
          have HTK := Lib.hid (show (P.take (j + 1)).reverse ++ Q0 = gz P j :: ((P.take j).reverse ++ Q0) by rw [List.take_succ_eq_append_getElem (by rw [HL.out]; exact hlt), List.reverse_append, gz_eq (by rw [HL.out]; exact hlt)]; rfl)
          have HQ := Lib.hid hq
          obtain ⟨z, hz⟩ := Int.eq_ofNat_of_zero_le hkid.1
          have HZ := Lib.hid hz
          rw [hz] at C40 HG1
          rw [show ((z : Nat) : Int).toNat = z from rfl] at HG1
          clear hq hkid hz
          generalize hS : f' + (bW N (gn N n').kids (gz P j).toNat : Int) = S at *
          have HS := Lib.hid hS
          clear hS
          generalize hqq : gz P j = q at *
          clear hqq
          go_wp2_with (first
            | (go_at_call 40; refine C40.mono ?_; rintro e w3 ⟨⟨b2, rfl, hb2g, hb2⟩, b3⟩; clear C40; have hal := Lib.hid (fun o => (Below.refl w3.heap.size w3).alloc (Nat.le_refl _) o); have hX3 := fun o => (heap_alloc_old w3 o (Nat.lt_of_lt_of_le (Nat.lt_of_succ_lt hsx) b3.size)).trans ((b3.block w.heap.size (Nat.lt_of_succ_lt hsx)).trans HX.out))
            | (refine wpList_putc rfl _ _ rfl w.heap.size (some ⟨ga, 0, none⟩) (z : Nat) S q (some ⟨b2, 0, none⟩) rfl rfl (hX3 _) ?_; intro w4 hX4 hg4; have HX4 := Lib.hid hX4; have HG4 := Lib.hid hg4; clear hX3 hX4 hg4))
          have hal3 := fun o => b3.trans ((hal.out o).mono b3.size)
          have hlt3 : ∀ {i : Nat} {ob : Obj}, wr.heap[i]? = some ob → i ≠ w.heap.size → w4.heap[i]? = some ob := fun {i} {ob} hi hne => by
            have hil := (Array.getElem?_eq_some_iff.1 hi).1
            exact (HG4.out.block i (Nat.lt_of_lt_of_le hil (hal3 _).size) (fun e => by injection e with e; exact hne e)).trans (((hal3 _).block i hil).trans hi)
          have hb24 : w4.heap[b2]? = some (.cells (cc (some ⟨ga, 0, none⟩) (n' : Nat) f' k' u') 59 (0, 0)) := by
            have hil := (Array.getElem?_eq_some_iff.1 hb2).1
            exact (HG4.out.block b2 (Nat.lt_of_lt_of_le hil (hal.out _).size) (fun e => by injection e with e; omega)).trans (((hal.out _).block b2 hil).trans hb2)
          go_roundw
          case rel => exact ⟨j + 1, z, S, q, some ⟨b2, 0, none⟩, by omega, by go_num, HG1, HX4, Lib.hid (hlt3 HR.out (by omega)), Lib.hid (by rw [HTK.out]; exact ⟨b2, n', f', k', u', rfl, by omega, hb24, HCH.out.keep (fun i ob hi hg => ⟨hi, hlt3 hg hi.1⟩), rfl, HQ.out.1, HQ.out.2, HZ.out.symm, HS.out.symm⟩), Below.put (hb.trans ((hal3 _).mono hb.size)) (Nat.le_refl _) HG4.out (Nat.le_trans hb.size (hal3 _).size)⟩
          case measure => simp [intOf]; omega
        · have HG0 := Lib.hid (gat_none (m := m) (show gat N n P (j + 1) = none by simp only [gat, HGA.out, Option.bind_some, if_neg hq]) (by omega))
          exact absurd HG0.out (by rw [← HL.out, gat_all, HGL.out]; simp)
      · obtain rfl : j = m := by omega
        have hR := HR.out
        go_wp2_with (refine wpList_putc rfl _ _ rfl (w.heap.size + 1) (some ⟨ga, 0, none⟩) (n' : Nat) f' k' u' rfl rfl hR ?_; intro w4 hR4 hg4)
        exact bodyPost_ret (v := .tuple #[.agg (cc (some ⟨ga, 0, none⟩) (n' : Nat) f' k' u'), .bool true]) (results_row2 rfl _ _ (w.heap.size + 1) 59 _ (0, 0) _ _ rfl rfl hR4 Try.underlying59 rfl (by kernel_rfl)) rfl ⟨⟨n', f', k', u', rfl, (by have := HCH.out; rw [List.take_of_length_le (by rw [HL.out]; exact Nat.le_refl _)] at this; exact this.keep (fun i ob hi hg => ⟨trivial, (hg4.block i (Array.getElem?_eq_some_iff.1 hg).1 (fun e => by injection e with e; omega)).trans hg⟩))⟩, Below.put hb (Nat.le_succ _) hg4 hb.size⟩
  · simp only [if_neg hg]
    have HG := Lib.hid hg
    clear hg
    go_enter Try.func44, Try.ntmps44
    go_wp2_with fail
    go_loopw [16] (fun i wr => ∃ (j : Nat) (n' : Nat) (f' k' : Int) (u' : Option Addr), j ≤ m ∧ i = .int .i64 j ∧ Hid (gat N n P j = some n') ∧ Hid (wr.heap[w.heap.size]? = some (.cells (cc (some ⟨ga, 0, none⟩) n' f' k' u') 59 (0, 0))) ∧ Hid (wr.heap[w.heap.size + 1]? = some (.cells (cc none 0 0 0 none) 59 (0, 0))) ∧ Hid (Chain (fun b => b ≠ w.heap.size ∧ b ≠ w.heap.size + 1) wr ga N root ((P.take j).reverse ++ Q0) n' f' k' u') ∧ Below w.heap.size w wr)
      (fun i _ => m - (intOf i).toNat)
    case atStart => exact ⟨0, n, f, k, u, Nat.zero_le _, rfl, Lib.hid rfl, Lib.hid (HT0.out _ _), Lib.hid (HT.out _ _).1, Lib.hid (HC.out.below (((Below.refl w.heap.size w).alloc (Nat.le_refl _) _).alloc (by simp) _)), (HT.out _ _).2⟩
    case round =>
      obtain ⟨j, n', f', k', u', hj, rfl, HGA, HX, HR, HCH, hb⟩ := hrel
      have hsx := (Array.getElem?_eq_some_iff.1 HR.out).1
      have hX := HX.out
      have y0 : wr.cell? ⟨w.heap.size, 0, none⟩ = some (.pointer (some ⟨ga, 0, none⟩)) := cell_of_row wr _ 0 _ _ _ hX
      have y1 : wr.cell? ⟨w.heap.size, 1, none⟩ = some (.int .i64 (n' : Nat)) := cell_of_row wr _ 1 _ _ _ hX
      have y2 : wr.cell? ⟨w.heap.size, 2, none⟩ = some (.int .i64 f') := cell_of_row wr _ 2 _ _ _ hX
      have y3 : wr.cell? ⟨w.heap.size, 3, none⟩ = some (.int .i64 k') := cell_of_row wr _ 3 _ _ _ hX
      have y4 : wr.cell? ⟨w.heap.size, 4, none⟩ = some (.pointer u') := cell_of_row wr _ 4 _ _ _ hX
      clear hX
      have ok := HCH.out.ok hN'.out hr
      have hnl : n' < N.length := by omega
      have hf0 := ok.2.2.1
      have hf1 : f' ≤ 1000000 := by have := ok.2.2.2.1; have := HW.out root hr; omega
      have hfew := hN'.out.few n' hnl
      clear ok
      by_cases hlt : j < m
      · obtain ⟨b, off, rfl, hbb, hcx⟩ := (hP.below hb).int_form (by omega)
        have x0 := hcx j hlt
        clear hcx
        have C40 := down40 (h.below hb) hN'.out n' hnl f' k' u' (gz P j) hf0 hf1 (HW.out n' hnl)
        unfold DownSaid at C40
        by_cases hq : 0 ≤ gz P j ∧ gz P j < (gn N n').kids.length
        · simp only [if_pos hq] at C40
          have hkid := good_kid hN'.out.good hnl (z := gz (gn N n').kids (gz P j).toNat) (by rw [gz_eq (by omega)]; exact List.getElem_mem _)
          have HG1 := Lib.hid (show gat N n P (j + 1) = some (gz (gn N n').kids (gz P j).toNat).toNat by simp only [gat, HGA.out, Option.bind_some, if_pos hq])
          have HTK := Lib.hid (show (P.take (j + 1)).reverse ++ Q0 = gz P j :: ((P.take j).reverse ++ Q0) by rw [List.take_succ_eq_append_getElem (by rw [HL.out]; exact hlt), List.reverse_append, gz_eq (by rw [HL.out]; exact hlt)]; rfl)
          have HQ := Lib.hid hq
          obtain ⟨z, hz⟩ := Int.eq_ofNat_of_zero_le hkid.1
          have HZ := Lib.hid hz
          rw [hz] at C40 HG1
          rw [show ((z : Nat) : Int).toNat = z from rfl] at HG1
          clear hq hkid hz
          generalize hS : f' + (bW N (gn N n').kids (gz P j).toNat : Int) = S at *
          have HS := Lib.hid hS
          clear hS
          generalize hqq : gz P j = q at *
          clear hqq
          go_wp2_with (first
            | (go_at_call 40; refine C40.mono ?_; rintro e w3 ⟨⟨b2, rfl, hb2g, hb2⟩, b3⟩; clear C40; have hal := Lib.hid (fun o => (Below.refl w3.heap.size w3).alloc (Nat.le_refl _) o); have hX3 := fun o => (heap_alloc_old w3 o (Nat.lt_of_lt_of_le (Nat.lt_of_succ_lt hsx) b3.size)).trans ((b3.block w.heap.size (Nat.lt_of_succ_lt hsx)).trans HX.out))
            | (refine wpList_putc rfl _ _ rfl w.heap.size (some ⟨ga, 0, none⟩) (z : Nat) S q (some ⟨b2, 0, none⟩) rfl rfl (hX3 _) ?_; intro w4 hX4 hg4; have HX4 := Lib.hid hX4; have HG4 := Lib.hid hg4; clear hX3 hX4 hg4))
          have hal3 := fun o => b3.trans ((hal.out o).mono b3.size)
          have hlt3 : ∀ {i : Nat} {ob : Obj}, wr.heap[i]? = some ob → i ≠ w.heap.size → w4.heap[i]? = some ob := fun {i} {ob} hi hne => by
            have hil := (Array.getElem?_eq_some_iff.1 hi).1
            exact (HG4.out.block i (Nat.lt_of_lt_of_le hil (hal3 _).size) (fun e => by injection e with e; exact hne e)).trans (((hal3 _).block i hil).trans hi)
          have hb24 : w4.heap[b2]? = some (.cells (cc (some ⟨ga, 0, none⟩) (n' : Nat) f' k' u') 59 (0, 0)) := by
            have hil := (Array.getElem?_eq_some_iff.1 hb2).1
            exact (HG4.out.block b2 (Nat.lt_of_lt_of_le hil (hal.out _).size) (fun e => by injection e with e; omega)).trans (((hal.out _).block b2 hil).trans hb2)
          go_roundw
          case rel => exact ⟨j + 1, z, S, q, some ⟨b2, 0, none⟩, by omega, by go_num, HG1, HX4, Lib.hid (hlt3 HR.out (by omega)), Lib.hid (by rw [HTK.out]; exact ⟨b2, n', f', k', u', rfl, by omega, hb24, HCH.out.keep (fun i ob hi hg => ⟨hi, hlt3 hg hi.1⟩), rfl, HQ.out.1, HQ.out.2, HZ.out.symm, HS.out.symm⟩), Below.put (hb.trans ((hal3 _).mono hb.size)) (Nat.le_refl _) HG4.out (Nat.le_trans hb.size (hal3 _).size)⟩
          case measure => simp [intOf]; omega
        · have HG0 := Lib.hid (gat_none (m := m) (show gat N n P (j + 1) = none by simp only [gat, HGA.out, Option.bind_some, if_neg hq]) (by omega))
          simp only [if_neg hq] at C40
          clear hq
          generalize hqq : gz P j = q at *
          clear hqq
          go_wp2_with (first
            | (go_at_call 40; refine C40.mono ?_; rintro e w3 ⟨rfl, b3⟩; clear C40; have hal := Lib.hid (fun o => (Below.refl w3.heap.size w3).alloc (Nat.le_refl _) o); have hR3 := fun o => (heap_alloc_old w3 o (Nat.lt_of_lt_of_le hsx b3.size)).trans ((b3.block (w.heap.size + 1) hsx).trans HR.out))
            | (refine wpList_putc rfl _ _ rfl (w.heap.size + 1) none 0 0 0 none rfl rfl (hR3 _) ?_; intro w4 hR4 hg4; have HG4 := Lib.hid hg4; clear hg4))
          have hal3 := fun o => b3.trans ((hal.out o).mono b3.size)
          exact bodyPost_ret (v := .tuple #[.agg (cc none 0 0 0 none), .bool false]) (results_row2 rfl _ _ (w.heap.size + 1) 59 _ (0, 0) _ _ rfl rfl hR4 Try.underlying59 rfl (by kernel_rfl)) rfl ⟨rfl, Below.put (hb.trans ((hal3 _).mono hb.size)) (Nat.le_succ _) HG4.out (Nat.le_trans hb.size (hal3 _).size)⟩
      · obtain rfl : j = m := by omega
        exact absurd HGA.out (by rw [← HL.out, gat_all]; intro e; exact HG.out (by rw [e]; rfl))
end Go.Proofs.Ytbmbiffhgdkpiaa
