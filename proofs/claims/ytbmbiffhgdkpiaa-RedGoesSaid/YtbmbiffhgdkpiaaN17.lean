/- The walk of the document's Replace. No condition. -/
import Derived.Test.YtbmbiffhgdkpiaaN16
namespace Go.Proofs.Ytbmbiffhgdkpiaa
open Go.RowKit

theorem repN_wd {N : List GN} (hN : OkN N) {M : Nat} (hM : ∀ i, i < N.length → (gn N i).w ≤ M) : ∀ (P : List Int) (root wth : Nat), root < N.length → wth < N.length → (gatL N root P).isSome → ∀ i, i < (repN N root P wth).1.length → (gn (repN N root P wth).1 i).w ≤ 2 * M
  | [], root, wth, _, _, _, i, hi => by have := hM i hi; show (gn N i).w ≤ 2 * M; omega
  | p :: P, root, wth, hr, hw, hg, i, hi => by
    have hp : 0 ≤ p ∧ p < (gn N root).kids.length := by
      simp only [gatL] at hg
      split at hg
      · assumption
      · cases hg
    simp only [gatL, if_pos hp] at hg
    have hkid := good_kid hN.good hr (z := gz (gn N root).kids p.toNat) (by rw [gz_eq (by omega)]; exact List.getElem_mem _)
    have hok := repN_ok hN P (gz (gn N root).kids p.toNat).toNat wth (by omega) hw hg
    have ih := repN_wd hN hM P (gz (gn N root).kids p.toNat).toNat wth (by omega) hw hg
    have hst := rep_step hN hr hp hok
    have h1 := hM root hr
    have h2 := hM wth hw
    rw [repN_cons] at hi ⊢
    simp only [gbr_len] at hi
    simp only [gbr]
    rcases Nat.lt_or_ge i (repN N (gz (gn N root).kids p.toNat).toNat P wth).1.length with h | h
    · rw [gn_snoc_lt _ _ h]
      exact ih i h
    · obtain rfl : i = (repN N (gz (gn N root).kids p.toNat).toNat P wth).1.length := by omega
      rw [gn_snoc_at]
      have := hst.2.1
      show bW _ _ _ ≤ _
      omega
/-- Where 'path[1:]' lies. -/
def tl1 (b off c : Nat) : Option Addr := if c = 1 then some ⟨b, off, none⟩ else some ⟨b, off + 1, none⟩
theorem run_tl1 (W : World) (b off m c : Nat) : (Instr.slice 27 (.slice (some ⟨b, off, none⟩) (m + 1) c) (some (.int .i64 1)) none none).run Try.prog W = .ok (.slice (tl1 b off c) m (c - 1)) W := by
  have ht' : Try.prog.underlying 27 = some (.slice (Try.prog.elem 27)) := by simp [Program.elem, Try.underlying27]
  have he : Try.prog.elem 27 = 3 := by simp [Program.elem, Try.underlying27]
  rw [run_slice_l W 27 _ _ _ ht' .i64 1 (by omega) (by omega), he, show (Go.sizeOf 3).run Try.prog W = .ok 1 W from by kernel_rfl]
  unfold tl1
  by_cases h0 : c = 1
  · simp [Result.andThen, sliced, h0]
  · simp [Result.andThen, sliced, Addr.add, h0]
theorem Rd.tl1 {w : World} {B b off m c : Nat} {z : Int} {zs : List Int} (h : Rd w B 1 (some ⟨b, off, none⟩) (m + 1) c (ints .i64 (z :: zs))) : Rd w B 1 (tl1 b off c) m (c - 1) (ints .i64 zs) := by
  have hl := h.int_len
  have hc := h.cap
  have := h.cut (l := 1) (k := m + 1) (m := c) (by omega) (Nat.le_refl _) (Nat.le_refl _) (by omega)
  rw [Nat.mul_one, Nat.mul_one, List.take_of_length_le (by simp at hl ⊢; omega), Nat.add_sub_cancel] at this
  unfold Go.Proofs.Ytbmbiffhgdkpiaa.tl1
  by_cases h0 : c = 1
  · rw [if_pos h0] at this ⊢
    exact this
  · rw [if_neg h0] at this ⊢
    exact this
theorem gatL_cons {N : List GN} {root : Nat} {p : Int} {P : List Int} (h : (gatL N root (p :: P)).isSome) : (0 ≤ p ∧ p < (gn N root).kids.length) ∧ (gatL N (gz (gn N root).kids p.toNat).toNat P).isSome := by
  simp only [gatL] at h
  split at h
  · rename_i hp
    exact ⟨hp, h⟩
  · cases h
/-- The document's nodes behind a replacement, and the one that was asked for. -/
def RepDSaid (S : List GN × Nat) (w : World) (e : Ending) (w' : World) : Prop := ∃ A' c', e = .returned (.tuple #[.slice A' S.1.length c', .int .i64 S.2, .int .i64 0]) ∧ DocN w' (.slice A' S.1.length c') S.1 ∧ Below w.heap.size w w'

set_option maxRecDepth 100000 in
set_option maxHeartbeats 8000000 in
theorem replace52_in {N : List GN} (hN : OkN N) (hM : ∀ i, i < N.length → (gn N i).w ≤ 4096) : ∀ (P : List Int) (root wth : Nat) (A A2 : Option Addr) (n c m c2 : Nat) (w : World), root < N.length → wth < N.length → (gatL N root P).isSome → N.length + m ≤ 65536 → m ≤ 64 → DocN w (.slice A n c) N → Rd w w.heap.size 1 A2 m c2 (ints .i64 P) →
    Calls Try.prog 52 #[.slice A n c, .int .i64 root, .int .i64 wth, .slice A2 m c2] w (RepDSaid (repN N root P wth) w) := by
  intro P
  induction P with
  | nil =>
    intro root wth A A2 n c m c2 w hr hw hg hl hm h hP
    obtain rfl : m = 0 := by have := hP.int_len; simpa using this.symm
    unfold RepDSaid
    obtain ⟨rfl, _⟩ := h.node
    have C21 := at21 h hN.good root A2 0 c2 [] hP (by omega)
    rw [atZ_some (show gatR N root [] = some root from gatR_in hr [])] at C21
    have C24 := has24 A N.length c wth w
    rw [show decide (0 ≤ (wth : Int) ∧ (wth : Int) < N.length) = true by simp; omega] at C24
    have HH := Lib.hid h
    clear h hr hw
    go_enter Try.func52, Try.ntmps52
    go_wp2_with (first | (go_at_call 21; refine C21.mono ?_; rintro e w9 ⟨rfl, rfl⟩; clear C21) | (go_at_call 24; refine C24.mono ?_; rintro e w9 ⟨rfl, rfl⟩; clear C24))
    go_ret3
    exact ⟨A, c, rfl, HH.out, Below.refl _ _⟩
  | cons p P ih =>
    intro root wth A A2 n c m c2 w hr hw hg hl hm h hP
    obtain ⟨m, rfl⟩ : ∃ m', m = m' + 1 := ⟨P.length, by have := hP.int_len; simpa using this.symm⟩
    obtain ⟨hp, hg'⟩ := gatL_cons hg
    unfold RepDSaid at ih ⊢
    obtain ⟨q, hq⟩ := Option.isSome_iff_exists.1 hg
    have C21 := at21 h hN.good root A2 (m + 1) c2 _ hP (by omega)
    rw [atZ_some (show gatR N root (p :: P) = some q from (gatR_in hr _).trans hq)] at C21
    have C24 := has24 A n c wth w
    obtain ⟨rfl, g, bv, kv, hA, hnode⟩ := h.node
    rw [show decide (0 ≤ (wth : Int) ∧ (wth : Int) < N.length) = true by simp; omega] at C24
    obtain rfl := hA (by omega)
    obtain ⟨n0, _, _, n3, _, _, o6⟩ := hnode root hr
    obtain ⟨A6, c6, hv6, ho6⟩ := own_form o6
    rw [hv6] at n3
    have hcap := hP.cap
    obtain ⟨b2, f2, rfl, hb2, hc2⟩ := hP.int_form (by omega)
    have x0 := hc2 0 (by omega)
    rw [Nat.add_zero, show gz (p :: P) 0 = p from rfl] at x0
    obtain ⟨pn, rfl⟩ := Int.eq_ofNat_of_zero_le hp.1
    have hpl : pn < (gn N root).kids.length := by omega
    have hr6 := Rd.of_own ho6
    obtain ⟨b6, f6, rfl, hb6, hc6⟩ := hr6.int_form (by omega)
    have x6 := hc6 pn hpl
    have hkid := good_kid hN.good hr (z := gz (gn N root).kids pn) (by rw [gz_eq hpl]; exact List.getElem_mem _)
    rw [show ((pn : Nat) : Int).toNat = pn from rfl] at hg'
    obtain ⟨y, hy⟩ := Int.eq_ofNat_of_zero_le hkid.1
    rw [hy, show ((y : Nat) : Int).toNat = y from rfl] at hg'
    rw [hy] at x6
    have hyl : y < N.length := by omega
    have hok := repN_ok hN P y wth hyl hw hg'
    have hwd := repN_wd hN hM P y wth hyl hw hg'
    have hst := rep_step hN hr hp (by rw [show ((pn : Nat) : Int).toNat = pn from rfl, hy, show ((y : Nat) : Int).toNat = y from rfl]; exact hok)
    have HS := Lib.hid (repN_cons N root (pn : Int) P wth)
    rw [show ((pn : Nat) : Int).toNat = pn from rfl] at HS hst
    rw [hy, show ((y : Nat) : Int).toNat = y from rfl] at HS
    have C52 := ih y wth (some ⟨g, 0, none⟩) (tl1 b2 f2 c2) N.length c m (c2 - 1) w.drew hyl hw hg' (by omega) (by omega) h.drew hP.tl1.drew
    have hrun := fun W => run_tl1 W b2 f2 m c2
    have hlen : (repN N y P wth).1.length ≤ 65536 := by
      have h1 := hok.len
      have h2 := hP.int_len
      rw [List.length_cons] at h2
      omega
    have HOK := Lib.hid hok
    have HWD := Lib.hid hwd
    have HST := Lib.hid hst
    have hfew := hN.few root hr
    clear hok hwd hst hnode o6 hv6 ho6 hc2 hc6 ih hkid hy hg hg' hq hp h hA
    have j0 : (0 : Int) < (m : Int) + 1 := by omega
    have j1 : (pn : Int) < ((gn N root).kids.length : Int) := by omega
    have j2 : (root : Int) < (N.length : Int) := by omega
    go_enter Try.func52, Try.ntmps52
    go_wp2_with (first | (go_at_call 21; refine C21.mono ?_; rintro e w9 ⟨rfl, rfl⟩; clear C21) | (go_at_call 24; refine C24.mono ?_; rintro e w9 ⟨rfl, rfl⟩; clear C24))
    go_region_with ((go_at_call 52; refine C52.mono ?_; rintro e w5 ⟨A5, c5, rfl, hd5, hb5⟩; clear C52))
    all_goals
      have hs5 : w.heap.size ≤ w5.heap.size := hb5.size
      have n35 := (hb5.cell (p := ⟨g, root * 5 + 3, none⟩) (World.block_lt_of_cell? _ _ n3)).trans n3
      have n05 := (hb5.cell (p := ⟨g, root * 5, none⟩) (World.block_lt_of_cell? _ _ n0)).trans n0
      have x05 := (hb5.cell (p := ⟨b2, f2, none⟩) (World.block_lt_of_cell? _ _ x0)).trans x0
      have hr65 := hr6.drew.below hb5
      have d35 := fun X => cell_old w5 g (root * 5 + 3) X _ n35
      clear hrun n3 n0 x0 x6
      go_wp2_with (at_builtin; go_loud (refine wpList_pushesG st27 rfl _ _ rfl _ rfl (own_empty w5 3 1 w5.heap.size (Nat.le_refl _)) rfl (hr65.alloc hs5 _) (ints_cells _ _) (by omega) (by omega) (by simp) ?_; intro v6 w6 hown6 hg6; obtain ⟨A7, c7, rfl, hown6⟩ := own_form hown6; simp only [Nat.zero_add, List.nil_append] at hown6; have hb6 := ((Below.refl w5.heap.size w5).alloc (Nat.le_refl _) _).grown hg6 (by simp) (fun k hk => ((own_empty w5 3 1 w5.heap.size (Nat.le_refl _)).lt k hk).1); clear hg6; obtain ⟨g7, rfl⟩ := own_head hown6 (by omega); have f7 := hown6.frozenAt pn; have z7 := (hown6.cellAt pn (by omega)).trans (ints_get .i64 (gn N root).kids pn hpl); have x06 := (hb6.cell (p := ⟨b2, f2, none⟩) (World.block_lt_of_cell? _ _ x05)).trans x05; have hb7 := hb6.setCell (p := ⟨g7, pn, none⟩) (hown6.lt g7 rfl).1 (.int .i64 (repN N y P wth).2); have n07 := (hb7.cell (p := ⟨g, root * 5, none⟩) (World.block_lt_of_cell? _ _ n05)).trans n05; have ho7 := (hown6.stored pn (.int .i64 (repN N y P wth).2)).1; rw [ints_set] at ho7; have hd7 := hd5.below hb7; clear hd5 n35 n05 x05 hr65 d35))
      have C51 := (branch51 hd7 HOK.out.ok.good (gn N root).kind (some ⟨g7, 0, none⟩) (gn N root).kids.length c7 ((gn N root).kids.set pn (repN N y P wth).2) (Rd.of_own ho7) hlen hfew HOK.out.ok.cnt (fun i hi => by rw [← HOK.out.ok.wide i hi]; exact HWD.out i hi)).mono (R' := fun e w' => ∃ A' c', e = .returned (.tuple #[.slice A' ((repN N y P wth).1.length + 1) c', .int .i64 0]) ∧ DocN w' (.slice A' ((repN N y P wth).1.length + 1) c') (gbr (repN N y P wth).1 (gn N root).kind ((gn N root).kids.set pn (repN N y P wth).2)) ∧ Below (w6.setCell ⟨g7, pn, none⟩ (.int .i64 (repN N y P wth).2)).heap.size (w6.setCell ⟨g7, pn, none⟩ (.int .i64 (repN N y P wth).2)) w') (by
        rintro e w' ⟨⟨A', c', rfl, _, hd⟩ | ⟨_, hk⟩, hb⟩
        · exact ⟨A', c', rfl, hd, hb⟩
        · exact absurd HST.out.1 hk)
      have hs7 := hb7.size
      clear f7 z7 x06
      generalize w6.setCell ⟨g7, pn, none⟩ (.int .i64 (repN N y P wth).2) = w7 at *
      refine C51.mono ?_
      rintro e w8 ⟨A8, c8, rfl, hd8, hb8⟩
      clear C51
      have t1 : IntKind.i64.wrap (((repN N y P wth).1.length : Int) + 1 - 1) = ((repN N y P wth).1.length : Int) := by rw [show (((repN N y P wth).1.length : Int) + 1 - 1) = ((repN N y P wth).1.length : Int) by omega]; exact IntWalk.i64_in _ (by omega)
      go_wp2_with fail
      go_ret3
      rw [HS.out]
      refine ⟨A8, c8, by simp only [gbr_len]; rfl, by simp only [gbr_len]; exact hd8, ?_⟩
      have hb5' : Below w.heap.size w w5 := ⟨hb5.os, hb5.tape, hb5.output, hb5.size, hb5.block⟩
      exact hb5'.trans ((hb7.mono hs5).trans (hb8.mono (by omega)))
/-- What the document's Replace hands back. -/
def RepD (N : List GN) (root wth : Int) (P : List Int) (A : Option Addr) (n c : Nat) (w : World) (e : Ending) (w' : World) : Prop :=
  if (gatR N root P).isSome ∧ 0 ≤ wth ∧ wth < N.length then RepDSaid (repN N root.toNat P wth.toNat) w e w'
  else e = .returned (.tuple #[.slice A n c, .int .i64 0, .int .i64 6]) ∧ w = w'
set_option maxRecDepth 100000 in
theorem replace52_out (A A2 : Option Addr) (n c m c2 : Nat) (root wth at_ : Int) (w : World) (C21 : Calls Try.prog 21 #[.slice A n c, .int .i64 root, .slice A2 m c2] w fun e w' => e = .returned (.int .i64 at_) ∧ w = w') (h : at_ < 0 ∨ ¬ (0 ≤ wth ∧ wth < n)) :
    Calls Try.prog 52 #[.slice A n c, .int .i64 root, .int .i64 wth, .slice A2 m c2] w fun e w' => e = .returned (.tuple #[.slice A n c, .int .i64 0, .int .i64 6]) ∧ w = w' := by
  have C24 := has24 A n c wth w
  by_cases h0 : at_ < 0
  · have t0 : decide (at_ < 0) = true := by simpa using h0
    clear h h0
    go_enter Try.func52, Try.ntmps52
    go_wp2_with (first | (go_at_call 21; refine C21.mono ?_; rintro e w9 ⟨rfl, rfl⟩; clear C21) | (go_at_call 24; refine C24.mono ?_; rintro e w9 ⟨rfl, rfl⟩; clear C24))
    go_ret3
    exact ⟨rfl, rfl⟩
  · have t0 : decide (at_ < 0) = false := by simpa using h0
    rw [show decide (0 ≤ wth ∧ wth < n) = false from decide_eq_false (by rcases h with h | h; exact absurd h h0; exact h)] at C24
    clear h h0
    go_enter Try.func52, Try.ntmps52
    go_wp2_with (first | (go_at_call 21; refine C21.mono ?_; rintro e w9 ⟨rfl, rfl⟩; clear C21) | (go_at_call 24; refine C24.mono ?_; rintro e w9 ⟨rfl, rfl⟩; clear C24))
    go_ret3
    exact ⟨rfl, rfl⟩
theorem gatR_isSome {N : List GN} {root : Int} {P : List Int} (h : (gatR N root P).isSome) : ∃ r : Nat, root = r ∧ r < N.length ∧ (gatL N r P).isSome := by
  unfold gatR at h
  split at h
  · rename_i hr
    obtain ⟨r, rfl⟩ := Int.eq_ofNat_of_zero_le hr.1
    exact ⟨r, rfl, by omega, h⟩
  · cases h
theorem replace52 {N : List GN} (hN : OkN N) (hM : ∀ i, i < N.length → (gn N i).w ≤ 4096) (P : List Int) (root wth : Int) (A A2 : Option Addr) (n c m c2 : Nat) (w : World) (hl : N.length + m ≤ 65536) (hm : m ≤ 64) (h : DocN w (.slice A n c) N) (hP : Rd w w.heap.size 1 A2 m c2 (ints .i64 P)) :
    Calls Try.prog 52 #[.slice A n c, .int .i64 root, .int .i64 wth, .slice A2 m c2] w (RepD N root wth P A n c w) := by
  unfold RepD
  by_cases hc : (gatR N root P).isSome ∧ 0 ≤ wth ∧ wth < N.length
  · obtain ⟨r, rfl, hr, hg⟩ := gatR_isSome hc.1
    obtain ⟨t, rfl⟩ := Int.eq_ofNat_of_zero_le hc.2.1
    refine (replace52_in hN hM P r t A A2 n c m c2 w hr (by omega) hg hl hm h hP).mono fun e w' he => ?_
    rw [if_pos hc]
    exact he
  · obtain ⟨hn, _⟩ := h.node
    refine (replace52_out A A2 n c m c2 root wth _ w (at21 h hN.good root A2 m c2 P hP (by omega)) ?_).mono fun e w' he => ?_
    · rw [hn]
      cases hq : gatR N root P with
      | none => rw [atZ_none hq]; exact .inl (by omega)
      | some r => exact .inr (fun hh => hc ⟨by rw [hq]; rfl, hh⟩)
    · rw [if_neg hc]
      exact he
end Go.Proofs.Ytbmbiffhgdkpiaa
