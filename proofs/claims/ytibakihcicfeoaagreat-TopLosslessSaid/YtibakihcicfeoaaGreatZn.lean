/- What the evaluator's runs say of the program: format.Format and rename.Prefix at alive()'s arguments. No condition. -/
import Derived.Test.YtibakihcicfeoaaGreatZk
import Derived.Test.YtibakihcicfeoaaGreatZm
namespace Go.Proofs.YtibakihcicfeoaaGreat.Ev
open Go.RowKit
/-- Bytes at a place of the model. -/
def BytesAt (w : World) (p : Pl) (l : List Nat) : Prop := ∃ c t fr, w.heap[p.b]? = some (.cells c t fr) ∧ Soft c fr ∧ p.o + p.cap ≤ c.size ∧ l.length ≤ p.cap ∧ ∀ (j x : Nat), l[j]? = some x → c[p.o + j]? = some (.int .u8 x)
theorem bytes_vr {ρ : Pm} (x : Nat) : VR ρ (byteV x) (.int .u8 (x : Int)) := VR.int_to .u8 _
theorem BytesAt.blk {w : World} {p : Pl} {l : List Nat} (h : BytesAt w p l) {ρ : Pm} {i : Nat} (hp : ρ i = some p) : BlkOk ρ w i (.cells (l.map byteV)) := by
  obtain ⟨c, t, fr, h1, h2, h3, h4, h5⟩ := h
  refine ⟨p, c, t, fr, hp, h1, h2, h3, by simpa using h4, ?_, fun j v hj => ?_⟩
  · rw [List.all_eq_true]
    intro v hv
    obtain ⟨x, _, rfl⟩ := List.mem_map.1 hv
    rfl
  · rw [List.getElem?_map] at hj
    cases hx : l[j]? with
    | none => rw [hx] at hj; cases hj
    | some x =>
      rw [hx] at hj
      injection hj with hj; subst hj
      exact ⟨_, h5 j x hx, bytes_vr x⟩
theorem bytesV_to {ρ : Pm} : ∀ {cs : List AV} {l : List Nat} {us : List Value}, bytesV cs = some l → VRs ρ cs us → us = ints .u8 (toZ l)
  | [], l, us, h, hv => by
    simp only [bytesV] at h; injection h with h; subst h
    simp only [VRs] at hv; subst hv; rfl
  | c :: cs, l, us, h, hv => by
    unfold bytesV at h
    split at h
    · next heq => cases heq
    · next b r heq =>
      injection heq with h1 h2
      subst h1; subst h2
      split at h
      · next l' hl' =>
        cases hb : Nat.blt b 256 with
        | false => simp [hb] at h
        | true =>
          simp only [hb, cond_true] at h
          injection h with h; subst h
          simp only [VRs] at hv
          obtain ⟨d, r', rfl, h1, h2⟩ := hv
          have e1 := bytesV_to hl' h2
          simp only [VR] at h1
          obtain ⟨K, hK, rfl⟩ := h1
          have hK : K = .u8 := by cases K <;> first | rfl | (exact absurd hK (by decide))
          subst hK
          rw [e1]; rfl
      · cases h
    · cases h
theorem sameBytes_to {h : Hp} {i o n : Nat} {l : List Nat} (hb : sameBytes h i o n l = true) : ∃ bs cs, h.t.get i = some (.cells bs) ∧ subL bs o n = some cs ∧ bytesV cs = some l := by
  unfold sameBytes at hb
  split at hb
  · next cs hcs =>
    unfold rdAt at hcs
    split at hcs
    · next bs hg =>
      split at hb
      · next m hm => exact ⟨bs, cs, hg, hcs, by rw [hm, eqS_to hb]⟩
      · cases hb
    · cases hcs
  · cases hb
/-- Bytes that the evaluator made, as they lie in the model. -/
theorem made_bytes {ρ : Pm} {φ : Nat → Option Blk} {h : Hp} {w : World} {i o n : Nat} {l : List Nat} {u : Value} (hS : Sim ρ (h.on φ) w) (hb : sameBytes h i o n l = true) (hv : VR ρ (.sl 1 i o n) u) (hn : 0 < n) :
    ∃ p c, u = .slice (some ⟨p.b, p.o, none⟩) n c ∧ n ≤ c ∧ c ≤ 9223372036854775807 ∧ l.length = n ∧ BytesAt w p l ∧ ∀ (j : Nat) w0, h.on φ j = some (.out w0) → w0.heap.size ≤ p.b := by
  obtain ⟨bs, cs, h1, h2, h3⟩ := sameBytes_to hb
  have hF := on_get (φ := φ) h1
  simp only [VR] at hv
  obtain ⟨p, a, c, hp, rfl, hnc, hc⟩ := hv
  obtain ⟨us, u1, u2, u3⟩ := hS.sub hF hp h2
  have e1 := bytesV_to h3 u2
  have hl : l.length = n := by rw [← u1, e1]; simp [toZ]
  rcases hc with h0 | ⟨rfl, hcc⟩
  · omega
  obtain ⟨p', cc, t, fr, f1, f2, f3, f4, f5, f6, f7⟩ := hS.ok i _ hF
  rw [hp] at f1; injection f1 with f1; subst f1
  have hon : o + n ≤ bs.length := by
    have := ((subL_some h2).2 (n - 1) (by omega)).2
    omega
  refine ⟨⟨p.b, p.o + o, n⟩, c, rfl, hnc.1, hnc.2, hl, ⟨cc, t, fr, f2, f3, by show p.o + o + n ≤ _; omega, by show l.length ≤ n; omega, fun j x hj => ?_⟩, fun j w0 hj => hS.out j w0 hj i _ p hF rfl hp⟩
  have hx : us[j]? = some (.int .u8 x) := by
    rw [e1]; simp [toZ, List.getElem?_map, hj]
  have := u3 j _ hx
  rw [addr_add] at this
  rw [cell_of_row w p.b _ cc t fr f2] at this
  exact this
theorem BytesAt.rd {w : World} {p : Pl} {l : List Nat} {n c : Nat} (h : BytesAt w p l) (hl : l.length = n) (hn : n ≤ c) (hc : c ≤ 9223372036854775807) : Rd w w.heap.size 1 (some ⟨p.b, p.o, none⟩) n c (ints .u8 (toZ l)) := by
  obtain ⟨cc, t, fr, h1, h2, h3, h4, h5⟩ := h
  refine ⟨by simp [toZ, hl], hn, hc, fun _ => ⟨p.b, p.o, rfl, (Array.getElem?_eq_some_iff.1 h1).1, fun j u hj => ?_⟩⟩
  have hj : ((toZ l).map (Value.int .u8))[j]? = some u := hj
  simp only [toZ, List.map_map, List.getElem?_map] at hj
  cases hx : l[j]? with
  | none => rw [hx] at hj; cases hj
  | some x =>
    rw [hx] at hj
    injection hj with hj
    rw [cell_of_row w p.b _ cc t fr h1, ← hj]
    exact h5 j x hx
theorem BytesAt.below {w w' : World} {p : Pl} {l : List Nat} (h : BytesAt w p l) (hb : Below w.heap.size w w') : BytesAt w' p l := by
  obtain ⟨c, t, fr, h1, h2⟩ := h
  exact ⟨c, t, fr, (hb.block p.b (Array.getElem?_eq_some_iff.1 h1).1).trans h1, h2⟩
theorem hpOf_wf (l : List Nat) : Wf (hpOf l) := (good_new _ _).2 fun j => by
  have : (Tr.nil : Tr Blk).get j = none := by cases j <;> rfl
  show ((Tr.nil : Tr Blk).get j).isSome = _
  rw [this]
  simp [Hp.n]
theorem hpOf_get (l : List Nat) (j : Nat) : (hpOf l).t.get j = if j = 0 then some (.cells (l.map byteV)) else none := by
  unfold hpOf
  rw [get_new]
  by_cases hj : j = 0
  · subst hj; rfl
  · rw [if_neg hj, if_neg (by exact hj)]
    show (Tr.nil : Tr Blk).get j = none
    cases j <;> rfl
/-- A run of the evaluator with bytes in block 0, in the model; other bytes and an elder world ride along. -/
theorem run_ok2 {g d : Nat} {args : List AV} {l m : List Nat} {h' : Hp} {v : AV} (hev : evF Gx dfrG d g args (hpOf l) = .ok v h') {w0 w : World} (hb : Below w0.heap.size w0 w) {p q : Pl} (hp : BytesAt w p l) (hpb : w0.heap.size ≤ p.b)
    (hq : BytesAt w q m) (hqb : w0.heap.size ≤ q.b) (hne : Apart p q) {us : List Value} (hv : ∀ ρ : Pm, ρ 0 = some p → VRs ρ args us) :
    Calls Tryz.prog g us.toArray w fun e w' => ∃ u ρ' φ, e = .returned u ∧ VR ρ' v u ∧ Sim ρ' (h'.on φ) w' ∧ (∃ j, h'.on φ j = some (.out w0)) ∧ BytesAt w' q m ∧ Below w0.heap.size w0 w' := by
  have hm := (evF_ok tysOk fnsOk orcOk dfrOk mixedOk d).1
  have hgd := hm g args (hpOf l) v h' hev
  have hn1 : (hpOf l).n = 1 := rfl
  have hnn := hgd.1
  rw [hn1] at hnn
  let ρ : Pm := fun j => if j = 0 then some p else if j = h'.n then some q else none
  let φ : Nat → Option Blk := fun j => if j = h'.n then some (.cells (m.map byteV)) else if j = h'.n + 1 then some (.out w0) else none
  have ρ0 : ρ 0 = some p := rfl
  have ρq : ρ h'.n = some q := by show (if h'.n = 0 then _ else if h'.n = h'.n then _ else _) = _; rw [if_neg (by omega), if_pos rfl]
  have on : ∀ j k, (hpOf l).on φ j = some k → (j = 0 ∧ k = .cells (l.map byteV)) ∨ (j = h'.n ∧ k = .cells (m.map byteV)) ∨ (j = h'.n + 1 ∧ k = .out w0) := fun j k hj => by
    unfold Hp.on at hj
    rw [hpOf_get] at hj
    by_cases h0 : j = 0
    · rw [if_pos h0] at hj; injection hj with hj; exact .inl ⟨h0, hj.symm⟩
    · rw [if_neg h0] at hj
      have hj : (if j = h'.n then some (Blk.cells (m.map byteV)) else if j = h'.n + 1 then some (Blk.out w0) else none) = some k := hj
      by_cases h1 : j = h'.n
      · rw [if_pos h1] at hj; injection hj with hj; exact .inr (.inl ⟨h1, hj.symm⟩)
      · rw [if_neg h1] at hj
        by_cases h2 : j = h'.n + 1
        · rw [if_pos h2] at hj; injection hj with hj; exact .inr (.inr ⟨h2, hj.symm⟩)
        · rw [if_neg h2] at hj; cases hj
  have hS : Sim ρ ((hpOf l).on φ) w := by
    refine ⟨fun i k hi => ?_, fun i j k k' r s hij hi hj hk hk' hr hs => ?_, fun i w1 hi j k r hj hk hr => ?_⟩
    · rcases on i k hi with ⟨rfl, rfl⟩ | ⟨rfl, rfl⟩ | ⟨rfl, rfl⟩
      · exact hp.blk ρ0
      · exact hq.blk ρq
      · exact hb
    · have key : ∀ i k r, (hpOf l).on φ i = some k → isLive k = true → ρ i = some r → (i = 0 ∧ r = p) ∨ (i = h'.n ∧ r = q) := fun i k r hi hk hr => by
        rcases on i k hi with ⟨rfl, rfl⟩ | ⟨rfl, rfl⟩ | ⟨rfl, rfl⟩
        · rw [ρ0] at hr; injection hr with hr; exact .inl ⟨rfl, hr.symm⟩
        · rw [ρq] at hr; injection hr with hr; exact .inr ⟨rfl, hr.symm⟩
        · cases hk
      rcases key i k r hi hk hr with ⟨rfl, rfl⟩ | ⟨rfl, rfl⟩ <;> rcases key j k' s hj hk' hs with ⟨rfl, rfl⟩ | ⟨rfl, rfl⟩
      · exact absurd rfl hij
      · exact hne
      · exact hne.symm
      · exact absurd rfl hij
    · rcases on i _ hi with ⟨_, he⟩ | ⟨_, he⟩ | ⟨_, he⟩
      · cases he
      · cases he
      · injection he with he; subst he
        rcases on j k hj with ⟨rfl, rfl⟩ | ⟨rfl, rfl⟩ | ⟨rfl, rfl⟩
        · rw [ρ0] at hr; injection hr with hr; subst hr; exact hpb
        · rw [ρq] at hr; injection hr with hr; subst hr; exact hqb
        · cases hk
  have hfr : Free ρ (hpOf l) h' := fun i h1 h2 => by
    rw [hn1] at h1
    show (if i = 0 then some p else if i = h'.n then some q else none) = none
    rw [if_neg (by omega), if_neg (by omega)]
  have hwf' := hgd.2 (hpOf_wf l)
  refine Calls.mono ((ev_ok d) g args (hpOf l) v h' hev (hpOf_wf l) ρ φ w us (hv ρ ρ0) hS hfr).2 ?_
  rintro e w' ⟨u, ρ', rfl, g1, s1, v1⟩
  have hno : ∀ j, h'.n ≤ j → h'.on φ j = φ j := fun j hj => by
    have := hwf' j
    unfold Hp.on
    cases hc : h'.t.get j with
    | none => rfl
    | some b => rw [hc] at this; simp at this; omega
  have f1 : h'.on φ h'.n = some (.cells (m.map byteV)) := by
    rw [hno _ (Nat.le_refl _)]; show (if h'.n = h'.n then _ else _) = _; rw [if_pos rfl]
  have f2 : h'.on φ (h'.n + 1) = some (.out w0) := by
    rw [hno _ (by omega)]; show (if h'.n + 1 = h'.n then _ else if h'.n + 1 = h'.n + 1 then _ else _) = _; rw [if_neg (by omega), if_pos rfl]
  have hq' : ρ' h'.n = some q := g1.1 _ _ ρq
  refine ⟨u, ρ', φ, rfl, v1, s1, ⟨_, f2⟩, ?_, s1.ok _ _ f2⟩
  obtain ⟨p', c, t, fr, e1, e2, e3, e4, e5, e6, e7⟩ := s1.ok _ _ f1
  rw [hq'] at e1; injection e1 with e1; subst e1
  refine ⟨c, t, fr, e2, e3, e4, by simpa using e5, fun j x hj => ?_⟩
  obtain ⟨y, y1, y2⟩ := e7 j (byteV x) (by rw [List.getElem?_map, hj]; rfl)
  rw [y1]
  simp only [byteV, VR] at y2
  obtain ⟨K, hK, rfl⟩ := y2
  have hK : K = .u8 := by cases K <;> first | rfl | (exact absurd hK (by decide))
  subst hK
  rfl
theorem BytesAt.none_ {w : World} {p : Pl} {l : List Nat} (h : BytesAt w p l) : BytesAt w ⟨p.b, p.o, 0⟩ [] := by
  obtain ⟨c, t, fr, h1, h2, h3, h4, h5⟩ := h
  exact ⟨c, t, fr, h1, h2, by show p.o + 0 ≤ c.size; omega, Nat.le_refl _, fun j x hj => by cases hj⟩
/-- A constant's bytes, in a block that was just laid. -/
theorem lit_bytes (w : World) (l : List Nat) (cs : Array Value) (fr : Nat × Nat) (hcs : cs = (ints .u8 (toZ l)).toArray) (hfr : fr.1 = fr.2 ∨ l.length ≤ fr.1) : BytesAt (w.alloc (.cells cs 5 fr)) ⟨w.heap.size, 0, l.length⟩ l := by
  subst hcs
  refine ⟨_, 5, fr, heap_alloc_new w _, by unfold Soft; simpa [toZ] using hfr, by simp [toZ], Nat.le_refl _, fun j x hj => ?_⟩
  simp [toZ, hj]
theorem fmtB_to {R : RA} {l : List Nat} (hf : fmtB l R = true) : ∃ i o n h', R = .ok (.tup [.sl 1 i o n, .int 3 (.ofNat 0)]) h' ∧ sameBytes h' i o n l = true := by
  unfold fmtB at hf
  split at hf
  · next i o n h' => exact ⟨i, o, n, h', rfl, hf⟩
  · cases hf
theorem fmt_run : ∃ i o n h', evF Gx dfrG 100 25 [cfg, .sl 1 0 0 11, .int 3 0] (hpOf inF) = .ok (.tup [.sl 1 i o n, .int 3 (.ofNat 0)]) h' ∧ sameBytes h' i o n outF = true := by
  have := fmtB_to fmt_ok
  unfold fmtR at this
  exact this
theorem preB_to {R : RA} {l : List Nat} (hf : preB l R = true) : ∃ i o n x h', R = .ok (.tup [.sl 1 i o n, x, .int 3 (.ofNat 0)]) h' ∧ sameBytes h' i o n l = true := by
  unfold preB at hf
  split at hf
  · next i o n x h' => exact ⟨i, o, n, x, h', rfl, hf⟩
  · cases hf
theorem pre_run : ∃ i o n x h', evF Gx dfrG 100 27 [.sl 1 0 0 18, .nils, .str [112], .str [113], .int 3 0] (hpOf inP) = .ok (.tup [.sl 1 i o n, x, .int 3 (.ofNat 0)]) h' ∧ sameBytes h' i o n outP = true := by
  have := preB_to pre_ok
  unfold preR at this
  exact this
def cfgV : Value := .agg #[.int .i64 2, .int .i64 80, .int .i64 0, .int .i64 0, .int .i64 0, .bool false, .bool false]
theorem cfg_vr (ρ : Pm) : VR ρ cfg cfgV := by
  simp only [cfg, cfgV, VR]
  exact ⟨_, rfl, VRs.cons (VR.int_to .i64 _) (VRs.cons (VR.int_to .i64 _) (VRs.cons (VR.int_to .i64 _) (VRs.cons (VR.int_to .i64 _) (VRs.cons (VR.int_to .i64 _) (VRs.cons (by simp only [VR]) (VRs.cons (by simp only [VR]) VRs.nil))))))⟩
theorem sl_vr {ρ : Pm} {p : Pl} (hp : ρ 0 = some p) {n c : Nat} (hn : n ≤ c) (hc : c ≤ p.cap) (hm : c ≤ 9223372036854775807) : VR ρ (.sl 1 0 0 n) (.slice (some ⟨p.b, p.o, none⟩) n c) := by
  simp only [VR]
  exact ⟨p, _, c, hp, rfl, ⟨hn, hm⟩, .inr ⟨by simp, by omega⟩⟩
theorem str_vr {ρ : Pm} (s : ByteArray) (l : List Nat) (h : s.data.toList.map UInt8.toNat = l) : VR ρ (.str l) (.string s) := by
  simp only [VR]; exact ⟨s, rfl, h⟩
/-- format.Format, at alive()'s argument. -/
theorem format25 {w0 w : World} (hb : Below w0.heap.size w0 w) {p : Pl} (hp : BytesAt w p inF) (hpb : w0.heap.size ≤ p.b) (hpc : p.cap = 11) :
    Calls Tryz.prog 25 #[cfgV, .slice (some ⟨p.b, p.o, none⟩) 11 11, .int .i64 0] w fun e w' => ∃ q c, e = .returned (.tuple #[.slice (some ⟨q.b, q.o, none⟩) 16 c, .int .i64 0]) ∧ 16 ≤ c ∧ c ≤ 9223372036854775807 ∧ w0.heap.size ≤ q.b ∧ BytesAt w' q outF ∧ Below w0.heap.size w0 w' := by
  obtain ⟨i, o, n, h', hR, hf⟩ := fmt_run
  · refine (run_ok2 (us := [cfgV, .slice (some ⟨p.b, p.o, none⟩) 11 11, .int .i64 0]) hR hb hp hpb hp.none_ hpb (fun _ x y _ hy => absurd hy (by simp)) fun ρ hρ => VRs.cons (cfg_vr ρ) (VRs.cons (sl_vr hρ (Nat.le_refl _) (by omega) (by omega)) (VRs.cons (VR.int_to .i64 0) VRs.nil))).mono ?_
    rintro e w' ⟨u, ρ', φ, rfl, hv, hS, ⟨j, hj⟩, _, hb'⟩
    simp only [VR, VRs] at hv
    obtain ⟨ds, rfl, u1, r1, rfl, h1, u2, r2, rfl, ⟨K, hK, rfl⟩, rfl⟩ := hv
    rw [k3 hK]
    have hn : 0 < n := by
      obtain ⟨bs, cs, _, s1, s2⟩ := sameBytes_to hf
      cases n with
      | zero =>
        have := (subL_some s1).1
        have : cs = [] := List.length_eq_zero_iff.1 this
        subst this
        simp [bytesV, outF] at s2
      | succ n => omega
    obtain ⟨q, c, rfl, c1, c2, c3, c4, c5⟩ := made_bytes hS hf (by simp only [VR]; exact h1) hn
    have hn16 : n = 16 := by rw [← c3]; rfl
    subst hn16
    exact ⟨q, c, rfl, c1, c2, c5 j w0 hj, c4, hb'⟩
/-- rename.Prefix, at alive()'s argument; other bytes ride along. -/
theorem prefix27 {w0 w : World} (hb : Below w0.heap.size w0 w) {p q : Pl} {m : List Nat} (hp : BytesAt w p inP) (hpb : w0.heap.size ≤ p.b) (hpc : p.cap = 18) (hq : BytesAt w q m) (hqb : w0.heap.size ≤ q.b) (hne : p.b ≠ q.b) :
    Calls Tryz.prog 27 #[.slice (some ⟨p.b, p.o, none⟩) 18 18, .slice none 0 0, .string ⟨#[112]⟩, .string ⟨#[113]⟩, .int .i64 0] w fun e w' => ∃ z c x, e = .returned (.tuple #[.slice (some ⟨z.b, z.o, none⟩) 18 c, x, .int .i64 0]) ∧ 18 ≤ c ∧ c ≤ 9223372036854775807 ∧ BytesAt w' z outP ∧ BytesAt w' q m ∧ Below w0.heap.size w0 w' := by
  obtain ⟨i, o, n, x, h', hR, hf⟩ := pre_run
  · refine (run_ok2 (us := [.slice (some ⟨p.b, p.o, none⟩) 18 18, .slice none 0 0, .string ⟨#[112]⟩, .string ⟨#[113]⟩, .int .i64 0]) hR hb hp hpb hq hqb (fun hh => absurd hh hne) fun ρ hρ =>
      VRs.cons (sl_vr hρ (Nat.le_refl _) (by omega) (by omega)) (VRs.cons (by simp only [VR]) (VRs.cons (str_vr _ _ rfl) (VRs.cons (str_vr _ _ rfl) (VRs.cons (VR.int_to .i64 0) VRs.nil))))).mono ?_
    rintro e w' ⟨u, ρ', φ, rfl, hv, hS, ⟨j, hj⟩, hq', hb'⟩
    simp only [VR, VRs] at hv
    obtain ⟨ds, rfl, u1, r1, rfl, h1, u3, r3, rfl, _, u2, r2, rfl, ⟨K, hK, rfl⟩, rfl⟩ := hv
    rw [k3 hK]
    have hn : 0 < n := by
      obtain ⟨bs, cs, _, s1, s2⟩ := sameBytes_to hf
      cases n with
      | zero =>
        have := (subL_some s1).1
        have : cs = [] := List.length_eq_zero_iff.1 this
        subst this
        simp [bytesV, outP] at s2
      | succ n => omega
    obtain ⟨z, c, rfl, c1, c2, c3, c4, c5⟩ := made_bytes hS hf (by simp only [VR]; exact h1) hn
    have hn16 : n = 18 := by rw [← c3]; rfl
    subst hn16
    exact ⟨z, c, u3, rfl, c1, c2, c4, hq', hb'⟩
end Go.Proofs.YtibakihcicfeoaaGreat.Ev
