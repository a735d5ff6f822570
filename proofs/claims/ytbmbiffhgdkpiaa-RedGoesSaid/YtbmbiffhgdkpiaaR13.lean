/- The walk of the document's Walk. No condition. -/
import Derived.Test.YtbmbiffhgdkpiaaR12
namespace Go.Proofs.Ytbmbiffhgdkpiaa
open Go.RowKit

/-- The paths of all nodes below one, itself first. -/
def preL (N : List GN) : Nat → Nat → List Int → List (List Int)
  | 0, _, _ => []
  | d + 1, n, P => P :: (List.range (gn N n).kids.length).flatMap fun k => preL N d (gz (gn N n).kids k).toNat (P ++ [(k : Int)])
theorem preL_stable {N : List GN} (hN : OkN N) : ∀ (n : Nat), n < N.length → ∀ (d e : Nat) (P : List Int), n < d → n < e → preL N d n P = preL N e n P := by
  intro n
  induction n using Nat.strongRecOn with
  | ind n ih =>
    intro hn d e P hd he
    obtain ⟨d, rfl⟩ : ∃ d', d = d' + 1 := ⟨d - 1, by omega⟩
    obtain ⟨e, rfl⟩ : ∃ e', e = e' + 1 := ⟨e - 1, by omega⟩
    simp only [preL, List.cons.injEq, true_and]
    rw [List.flatMap_def, List.flatMap_def]
    congr 1
    refine List.map_congr_left fun k hk => ?_
    have hk' : k < (gn N n).kids.length := by simpa using hk
    have hg := good_kid hN.good hn (z := gz (gn N n).kids k) (by rw [gz_eq hk']; exact List.getElem_mem _)
    exact ih _ (by omega) (by omega) d e _ (by omega) (by omega)
def preP (N : List GN) (n : Nat) (P : List Int) : List (List Int) := preL N (n + 1) n P
/-- Those of the first kids. -/
def preK (N : List GN) (n : Nat) (P : List Int) (q : Nat) : List (List Int) := (List.range q).flatMap fun k => preP N (gz (gn N n).kids k).toNat (P ++ [(k : Int)])
theorem preK_succ (N : List GN) (n : Nat) (P : List Int) (q : Nat) : preK N n P (q + 1) = preK N n P q ++ preP N (gz (gn N n).kids q).toNat (P ++ [(q : Int)]) := by
  unfold preK
  rw [List.range_succ, List.flatMap_append]
  simp
theorem preP_eq {N : List GN} (hN : OkN N) {n : Nat} (hn : n < N.length) (P : List Int) : preP N n P = P :: preK N n P (gn N n).kids.length := by
  unfold preP preK
  simp only [preL, List.cons.injEq, true_and]
  rw [List.flatMap_def, List.flatMap_def]
  congr 1
  refine List.map_congr_left fun k hk => ?_
  have hk' : k < (gn N n).kids.length := by simpa using hk
  have hg := good_kid hN.good hn (z := gz (gn N n).kids k) (by rw [gz_eq hk']; exact List.getElem_mem _)
  exact preL_stable hN _ (by omega) _ _ _ (by omega) (by omega)
/-- Slices of integers that the call, or another, owns. -/
def Rows (w : World) : List (List Int) → List Value → Prop
  | [], [] => True
  | p :: l, v :: vs => w.ownsRow 0 3 1 v p.length (ints .i64 p) ∧ Rows w l vs
  | _, _ => False
theorem Rows.len {w : World} : ∀ {l : List (List Int)} {vs : List Value}, Rows w l vs → vs.length = l.length
  | [], [], _ => rfl
  | _ :: _, _ :: _, h => by simp [h.2.len]
  | [], _ :: _, h => h.elim
  | _ :: _, [], h => h.elim
theorem Rows.keep {w w' : World} (hk : ∀ (v : Value) (p : List Int), w.ownsRow 0 3 1 v p.length (ints .i64 p) → w'.ownsRow 0 3 1 v p.length (ints .i64 p)) : ∀ {l : List (List Int)} {vs : List Value}, Rows w l vs → Rows w' l vs
  | [], [], _ => trivial
  | _ :: _, _ :: _, h => ⟨hk _ _ h.1, h.2.keep hk⟩
  | [], _ :: _, h => h.elim
  | _ :: _, [], h => h.elim
theorem Rows.below {w w' : World} {l : List (List Int)} {vs : List Value} (h : Rows w l vs) (hb : Below w.heap.size w w') : Rows w' l vs := h.keep fun _ _ ho => own_below ho hb
theorem Rows.app {w : World} {l' : List (List Int)} {vs' : List Value} (h' : Rows w l' vs') : ∀ {l : List (List Int)} {vs : List Value}, Rows w l vs → Rows w (l ++ l') (vs ++ vs')
  | [], [], _ => h'
  | _ :: _, _ :: _, h => ⟨h.1, Rows.app h' h.2⟩
  | [], _ :: _, h => h.elim
  | _ :: _, [], h => h.elim
theorem Rows.get {w : World} : ∀ {l : List (List Int)} {vs : List Value}, Rows w l vs → ∀ (i : Nat) (p : List Int), l[i]? = some p → ∃ A c, vs[i]? = some (.slice A p.length c) ∧ w.ownsRow 0 3 1 (.slice A p.length c) p.length (ints .i64 p)
  | [], [], _, _, _, h => by simp at h
  | q :: l, v :: vs, h, 0, p, hp => by
    simp at hp
    subst hp
    obtain ⟨A, c, rfl, ho⟩ := own_form h.1
    exact ⟨A, c, rfl, ho⟩
  | q :: l, v :: vs, h, i + 1, p, hp => by
    simp at hp
    obtain ⟨A, c, h1, h2⟩ := h.2.get i p hp
    exact ⟨A, c, by simpa using h1, h2⟩
  | [], _ :: _, h, _, _, _ => h.elim
  | _ :: _, [], h, _, _, _ => h.elim
theorem Rows.one {w : World} : ∀ {l : List (List Int)} {vs : List Value}, Rows w l vs → ∀ u ∈ vs, u.oneCell' = true
  | [], [], _ => fun u hu => by cases hu
  | _ :: _, v :: vs, h => fun u hu => by
    rcases List.mem_cons.1 hu with rfl | hu
    · obtain ⟨A, c, rfl, _⟩ := own_form h.1
      rfl
    · exact h.2.one u hu
  | [], _ :: _, h => h.elim
theorem Rows.grown {w w' : World} {B : Nat} {e : TypeId} {sz n : Nat} {v : Value} {xs : List Value} (ho : w.ownsRow B e sz v n xs) (he : e ≠ 3) (hg : w.grownBy w' v.ownBlock) {l : List (List Int)} {vs : List Value} (h : Rows w l vs) : Rows w' l vs :=
  h.keep fun _ _ h1 => h1.kept hg (own_apart ho h1 he)
theorem st77 : ST Try.prog 77 27 1 24 := ST.mk' (z := .slice none 0 0) Try.underlying77 (by kernel_rfl) rfl (by decide)
theorem take_more {α : Type} (a b : List α) (m : Nat) : (a ++ b).take m = a.take m ++ b.take (m - (a.take m).length) := by
  rw [List.take_append, List.length_take]
  congr 2
  omega
/-- What the document's Walk hands back. -/
def RefWalk (L : List (List Int)) (w : World) (e : Ending) (w' : World) : Prop := ∃ A c vs, e = .returned (.slice A L.length c) ∧ w'.ownsRow w.heap.size 27 1 (.slice A L.length c) L.length vs ∧ Rows w' L vs ∧ Below w.heap.size w w'
theorem walk48_none (A : Option Addr) (n c : Nat) (root : Int) (A2 : Option Addr) (m c2 : Nat) (most : Int) (hmost : most < 1) (w : World) : Calls Try.prog 48 #[.slice A n c, .int .i64 root, .slice A2 m c2, .int .i64 most] w (RefWalk [] w) := by
  unfold RefWalk
  go_enter Try.func48, Try.ntmps48
  go_wp2_with fail
  go_ret
  exact ⟨none, 0, [], rfl, World.ownsRow_nil _ _ _ _, trivial, Below.refl _ _⟩
set_option maxRecDepth 100000 in
set_option maxHeartbeats 4000000 in
theorem walk48 {A : Option Addr} {n c : Nat} {N : List GN} (hN : OkN N) (root : Nat) (hr : root < N.length) (hfw : ∀ i, i < N.length → (gn N i).kids.length ≤ 65536) :
    ∀ (last : Nat) (P : List Int) (w : World) (A2 : Option Addr) (c2 : Nat) (most : Int), DocN w (.slice A n c) N → w.ownsRow 0 3 1 (.slice A2 P.length c2) P.length (ints .i64 P) → P.length + last ≤ 4000 → most ≤ 4096 → gatL N root P = some last →
      Calls Try.prog 48 #[.slice A n c, .int .i64 root, .slice A2 P.length c2, .int .i64 most] w (RefWalk ((preP N last P).take most.toNat) w) := by
  intro last
  induction last using Nat.strongRecOn with
  | ind last ih =>
  intro P w A2 c2 most hd ho hm hmo hv
  by_cases hmost : most < 1
  · rw [show most.toNat = 0 by omega, List.take_zero]
    exact walk48_none A n c root A2 P.length c2 most hmost w
  obtain ⟨M, rfl⟩ := Int.eq_ofNat_of_zero_le (show 0 ≤ most by omega)
  rw [show ((M : Nat) : Int).toNat = M from rfl]
  have hll : last < N.length := gat_lt hN.good hr P (k := P.length) (r := last) (by rw [gat_all]; exact hv)
  have b0 := Lib.hid (fun o => (Below.refl w.heap.size w).alloc (Nat.le_refl _) o)
  have hP := Rd.of_own ho
  have C21 := Lib.hid (fun W (hb : Below w.heap.size w W) => at21 (hd.below hb) hN.good root A2 P.length c2 P (hP.on hb) (by omega))
  rw [atZ_some (show gatR N root P = some last from (gatR_in hr P).trans hv)] at C21
  have HD := Lib.hid hd
  have HN := Lib.hid hN
  have HO := Lib.hid ho
  have HV := Lib.hid hv
  have IH := Lib.hid ih
  have HE := Lib.hid (preP_eq hN hll P)
  have HP := Lib.hid hP
  obtain ⟨rfl, g, bv, kv, hA, hnode⟩ := hd.node
  obtain rfl := hA (by omega)
  obtain ⟨-, -, -, n3, -, -, o6⟩ := hnode last hll
  obtain ⟨A6, c6, hv6, ho6⟩ := own_form o6
  rw [hv6] at n3
  have hgl := World.block_lt_of_cell? _ _ n3
  have hfew := hfw last hll
  have z3 := fun o => cell_old w _ _ o _ n3
  have t0 : decide ((last : Int) < 0) = false := by simp
  have hOwn0 := Lib.hid (World.ownsRow_lit (base := w.heap.size) (e := 27) (size := 1) w #[.slice A2 P.length c2] 1 (Nat.le_refl _) (by simp [maxLen]) rfl)
  clear hv hd hN ho ih hnode o6 hv6 ho6 hP
  unfold RefWalk at *
  go_enter Try.func48, Try.ntmps48
  go_wp2_with (first
    | (go_at_call 21; refine (C21.out _ (Below.refl _ _)).mono ?_; rintro e w0 ⟨rfl, rfl⟩)
    | (go_at_call 21; refine (C21.out _ (b0.out _)).mono ?_; rintro e w0 ⟨rfl, rfl⟩))
  go_loopw [9, 31] (fun o i wr => ∃ (k : Nat) (vs : List Value), k ≤ (gn N last).kids.length ∧ i = .int .i64 k ∧ Hid (wr.ownsRow w.heap.size 27 1 o ((P :: preK N last P k).take M).length vs) ∧ Hid (Rows wr ((P :: preK N last P k).take M) vs) ∧ Below w.heap.size w wr)
    (fun _ i _ => (gn N last).kids.length - (intOf i).toNat)
  case atStart =>
    have h1 : (P :: preK N last P 0).take M = [P] := by
      obtain ⟨M', rfl⟩ : ∃ M', M = M' + 1 := ⟨M - 1, by omega⟩
      simp [preK]
    exact ⟨0, [.slice A2 P.length c2], Nat.zero_le _, rfl, Lib.hid (by rw [h1]; exact hOwn0.out), Lib.hid (by rw [h1]; exact ⟨own_below HO.out (b0.out _), trivial⟩), b0.out _⟩
  case round =>
    obtain ⟨k, vs, hk, rfl, HOO, HRO, hb⟩ := hrel
    obtain ⟨A9, c9, rfl, ho9⟩ := own_form HOO.out
    clear HOO
    have HOO := Lib.hid ho9
    clear ho9
    have hl1 : ((P :: preK N last P k).take M).length ≤ M := by rw [List.length_take]; omega
    by_cases hlt : k < (gn N last).kids.length
    · have hkd := good_kid HN.out.good hll (z := gz (gn N last).kids k) (by rw [gz_eq hlt]; exact List.getElem_mem _)
      obtain ⟨y, hy⟩ := Int.eq_ofNat_of_zero_le hkd.1
      have hyn : y < last := by omega
      have HSN := Lib.hid (show gatL N root (P ++ [(k : Int)]) = some y by rw [gatL_snoc HV.out hlt, hy]; rfl)
      have HKS := Lib.hid (show (P :: preK N last P (k + 1)).take M = (P :: preK N last P k).take M ++ (preP N y (P ++ [(k : Int)])).take (M - ((P :: preK N last P k).take M).length) by
        rw [preK_succ, hy, ← List.cons_append, take_more]
        rfl)
      have CW := Lib.hid (with63 A2 P.length c2 P (k : Nat) (HP.out.on hb) (by omega))
      have CI := Lib.hid (fun (W : World) (hW : Below w.heap.size w W) (A1 : Option Addr) (c1 : Nat) (hR : W.ownsRow 0 3 1 (.slice A1 (P.length + 1) c1) (P.length + 1) (ints .i64 (P ++ [(k : Int)]))) => IH.out y hyn (P ++ [(k : Int)]) W A1 c1 ((M : Int) - (((P :: preK N last P k).take M).length : Nat)) (HD.out.below hW) (by simpa using hR) (by simp; omega) (by omega) HSN.out)
      rw [show ((M : Int) - (((P :: preK N last P k).take M).length : Nat)).toNat = M - ((P :: preK N last P k).take M).length by omega, show (P ++ [(k : Int)]).length = P.length + 1 by simp] at CI
      have hl2 : ((preP N y (P ++ [(k : Int)])).take (M - ((P :: preK N last P k).take M).length)).length ≤ M := by rw [List.length_take]; omega
      clear hy hkd
      unfold OwnSaid at CW
      generalize (P :: preK N last P k).take M = L at *
      generalize (preP N y (P ++ [(k : Int)])).take (M - L.length) = L2 at *
      go_wp2_with (first
        | (go_at_call 48; refine (CI.out _ b2 _ _ r2).mono ?_; rintro e w3 ⟨A7, c7, vs7, rfl, o7, q7, b7⟩; have o3 := own_below HO2.out b7; have b3 := b2.trans (b7.mono b2.size); have Q3 := Lib.hid (Rows.app q7 (HR2.out.below b7)); have r7 := Rd.of_own o7; have one7 := q7.one; have s3 := b3.size; clear o7 b7)
        | (go_at_call 63; refine CW.out.mono ?_; rintro e w2 ⟨A1, c1, rfl, o2, b2'⟩; have HO2 := Lib.hid (own_below HOO.out b2'); have HR2 := Lib.hid (HRO.out.below b2'); have r2 := own_mono o2 (Nat.zero_le _); have b2 := hb.trans (b2'.mono hb.size); clear o2 b2')
        | (at_builtin; go_loud (refine wpList_pushesG st77 rfl _ _ rfl _ rfl o3 rfl r7 one7 (by omega) (by omega) s3 ?_); intro v5 w5 ho5 hg5; have HO5 := Lib.hid ho5; have HQ5 := Lib.hid (Q3.out.grown o3 (by decide) hg5); have hb5 := b3.grown hg5 s3 (fun k hk => (o3.lt k hk).1); clear hg5 ho5))
      go_roundw
      case rel => exact ⟨k + 1, vs ++ vs7, by omega, by go_num, Lib.hid (by rw [HKS.out, List.length_append]; exact HO5.out), Lib.hid (by rw [HKS.out]; exact HQ5.out), hb5⟩
      case measure => simp [intOf]; omega
    · obtain rfl : k = (gn N last).kids.length := by omega
      go_wp2_with fail
      go_ret
      rw [HE.out]
      exact ⟨A9, c9, vs, rfl, HOO.out, HRO.out, hb⟩
end Go.Proofs.Ytbmbiffhgdkpiaa
