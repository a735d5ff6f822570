/- The evaluator's operations on memory against the model's: append, copy, conversions, iterators, calls. No condition. -/
import Derived.Test.YtibakihcicfeoaaGreatZc
namespace Go.Proofs.YtibakihcicfeoaaGreat.Ev
section
variable {P : Program} {o : Oper} {G : Cx}

theorem Grow.new {ρ : Pm} {h : Hp} {b : Blk} {p : Pl} (hn : ρ h.n = none) : Grow ρ (upd ρ h.n p) h (h.new b) :=
  ⟨upd_le hn, fun i hi => upd_ne _ _ (fun he => hi (by rw [n_new]; omega)), by rw [n_new]; omega⟩
theorem Free.one {ρ : Pm} {h : Hp} {b : Blk} (hf : Free ρ h (h.new b)) : ρ h.n = none := hf h.n (Nat.le_refl _) (by rw [n_new]; omega)
/-- The cells of a slice's first elements. -/
theorem first_ok {ρ : Pm} {φ : Nat → Option Blk} {w : World} {h : Hp} (H : Sim ρ (h.on φ) w) {sz n : Nat} {v : AV} {u : Value} {news : List AV} (hv : VR ρ v u)
    (hl : lenV v = some n) (hf : firstV h sz v = some news) :
    (∃ b c, u = .slice b n c) ∧ ∃ us : List Value, us.length = n * sz ∧ VRs ρ news us ∧ news.all one = true ∧ ∀ w2 : World, w2.heap = w.heap → (Builtin.firstCells sz n u).run P w2 = .ok us.toArray w2 := by
  cases v with
  | sl s i of m =>
    simp only [lenV] at hl
    injection hl with hl; subst hl
    simp only [VR] at hv
    obtain ⟨p, ad, c, hp, rfl, hnc, hc⟩ := hv
    refine ⟨⟨_, _, rfl⟩, ?_⟩
    cases m with
    | zero =>
      simp only [firstV] at hf
      injection hf with hf; subst hf
      refine ⟨[], by simp, VRs.nil, rfl, fun w2 _ => ?_⟩
      simp [Builtin.firstCells, loadCells, loadCellsFrom]
    | succ m =>
      simp only [firstV] at hf
      rcases hc with h0 | ⟨rfl, hcap⟩
      · omega
      unfold rdAt at hf
      cases hg : h.t.get i with
      | none => simp [hg] at hf
      | some b =>
        cases b with
        | cells bs =>
          simp only [hg] at hf
          obtain ⟨us, u1, u2, u3⟩ := H.sub (on_get hg) hp hf
          refine ⟨us, u1, u2, subL_one hf (H.ones (on_get hg)), fun w2 hw2 => ?_⟩
          have hcell : ∀ ad, w2.cell? ad = w.cell? ad := fun ad => by simp [World.cell?, hw2]
          have hld := run_loadCells_list (P := P) w2 ⟨p.b, p.o + of, none⟩ us fun j v hj => (hcell _).trans (u3 j v hj)
          rw [u1] at hld
          simpa [Builtin.firstCells] using hld
        | iter _ _ => simp [hg] at hf
        | dead => simp [hg] at hf
        | out _ => simp [hg] at hf
  | nils =>
    simp only [lenV] at hl
    injection hl with hl; subst hl
    simp only [VR] at hv
    subst hv
    simp only [firstV] at hf
    injection hf with hf; subst hf
    exact ⟨⟨_, _, rfl⟩, [], by simp, VRs.nil, rfl, fun w2 _ => rfl⟩
  | _ => simp [firstV] at hf
/-- What is appended: its cells, by its kind. -/
def Src (P : Program) (x : Value) (tx : TypeId) (z : Value) (sz n : Nat) (us : List Value) (w : World) : Prop :=
  ((∃ e', P.underlying tx = some (.slice e')) ∧ (∃ b c, x = .slice b n c) ∧ ∀ w2 : World, w2.heap = w.heap → (Builtin.firstCells sz n x).run P w2 = .ok us.toArray w2) ∨
  (P.underlying tx = some .string ∧ (∃ s : ByteArray, x = .string s ∧ s.size = n) ∧ ∀ w2 : World, w2.heap = w.heap → (Builtin.firstCells sz n x).run P w2 = .ok us.toArray w2) ∨
  ((∃ K, P.underlying tx = some (.int K)) ∧ (∃ K, x = .int K (n : Int)) ∧ us.toArray = Builtin.zeroCells z.cells n)
section
variable {t tx ty el : TypeId} {te : TI} {inf : TypeInfo} {z x : Value} {n : Nat} {us : List Value} {w : World}
theorem wrap_nat {n : Nat} (h : n < 65536) : IntKind.i64.wrap (n : Int) = n := by
  rw [IntKind.wrap_i64]
  omega
theorem app_nil (hu : P.underlying t = some (.slice el)) (hty : TyOk P el te inf z) (hsz : 0 < te.size) (hby : te.bytes < 65536) (hn : n < 65536) (h0 : 0 < n) (hs : Src P x tx z te.size n us w) :
    (Builtin.append_ #[t, tx] ty #[.slice none 0 0, x]).run P w = .ok (.slice (some ⟨w.heap.size, 0, none⟩) n (grownCap w n 0 el)) (w.drew.alloc (.cells (us.toArray ++ Builtin.zeroCells z.cells (grownCap w n 0 el - n)) el)) := by
  have hn0 : n ≠ 0 := by omega
  have h63' : ¬ (9223372036854775807 < (n : Int)) := by omega
  have hb0 : inf.bytes < 65536 := by rw [hty.bytes]; exact hby
  have hnb : n * inf.bytes ≤ 281474976710656 := Nat.le_trans (Nat.mul_le_mul (Nat.le_of_lt hn) (Nat.le_of_lt hb0)) (by omega)
  have h48' : ¬ (281474976710656 < Builtin.nextslicecap n 0 * inf.bytes) := by rw [nextslicecap_zero h0]; omega
  rcases hs with ⟨⟨e', hx⟩, ⟨b, c, rfl⟩, hf⟩ | ⟨hx, ⟨s, rfl, hsn⟩, hf⟩ | ⟨⟨K, hx⟩, ⟨K', rfl⟩, hf⟩
  · have hf' := hf w.drew rfl
    simp [Builtin.append_, run_underlying hu, run_underlying hx, sizeOf, typeInfo, zeroValue, hty.info, hty.zero, hty.size, Builtin.lenOf, hn0, h63', h48', Question.forced, run_firstCells_none, hf', newRow, grownCap]
  · subst hsn
    have hf' := hf w.drew rfl
    simp [Builtin.append_, run_underlying hu, run_underlying hx, sizeOf, typeInfo, zeroValue, hty.info, hty.zero, hty.size, Builtin.lenOf, hn0, h63', h48', Question.forced, run_firstCells_none, hf', newRow, grownCap]
  · have hw := wrap_nat hn
    have hneg : ¬ ((n : Int) < 0) := by omega
    have hbig : ¬ (281474976710656 < (n : Int) * inf.bytes) := by
      have : ((n * inf.bytes : Nat) : Int) ≤ 281474976710656 := by omega
      rw [Int.natCast_mul] at this; omega
    have hns : n * te.size ≠ 0 := by
      have := Nat.mul_pos h0 hsz; omega
    simp [Builtin.append_, run_underlying hu, run_underlying hx, sizeOf, typeInfo, zeroValue, hty.info, hty.zero, hty.size, asInt, asIntOf, hw, hneg, hbig, hn0, h63', h48', hns, Question.forced, run_firstCells_none, newRow, grownCap, hf]
theorem assoc3 (a b : List Value) (c : Array Value) : a.toArray ++ (b.toArray ++ c) = (a ++ b).toArray ++ c := by
  apply Array.ext'
  simp [List.append_assoc]
theorem app_grow (hu : P.underlying t = some (.slice el)) (hty : TyOk P el te inf z) (hsz : 0 < te.size) (hby : te.bytes < 65536) (hn : n < 65536) (h0 : 0 < n) (hs : Src P x tx z te.size n us w)
    {b : Addr} {m c : Nat} {olds : List Value} (hm : m + n < 65536) (hg : c < m + n) (ho : ∀ w2 : World, w2.heap = w.heap → (Builtin.firstCells te.size m (.slice (some b) m c)).run P w2 = .ok olds.toArray w2) :
    (Builtin.append_ #[t, tx] ty #[.slice (some b) m c, x]).run P w = .ok (.slice (some ⟨w.heap.size, 0, none⟩) (m + n) (grownCap w (m + n) c el))
      (w.drew.alloc (.cells (olds.toArray ++ us.toArray ++ Builtin.zeroCells z.cells (grownCap w (m + n) c el - (m + n))) el)) := by
  have hn0 : ¬ (m + n ≤ c) := by omega
  have h63' : ¬ (9223372036854775807 < ((m : Int) + (n : Int))) := by omega
  have hb0 : inf.bytes < 65536 := by rw [hty.bytes]; exact hby
  have hnb : n * inf.bytes ≤ 281474976710656 := Nat.le_trans (Nat.mul_le_mul (Nat.le_of_lt hn) (Nat.le_of_lt hb0)) (by omega)
  have hmb : (m + n) * inf.bytes ≤ 140737488355328 := Nat.le_trans (Nat.mul_le_mul (Nat.le_of_lt hm) (Nat.le_of_lt hb0)) (by omega)
  have h48' : ¬ (281474976710656 < Builtin.nextslicecap (m + n) c * inf.bytes) := by have := growslice_fits hg hmb; omega
  have ho' := ho w.drew rfl
  rcases hs with ⟨⟨e', hx⟩, ⟨b', c', rfl⟩, hf⟩ | ⟨hx, ⟨s, rfl, hsn⟩, hf⟩ | ⟨⟨K, hx⟩, ⟨K', rfl⟩, hf⟩
  · have hf' := hf w.drew rfl
    simp [Builtin.append_, run_underlying hu, run_underlying hx, sizeOf, typeInfo, zeroValue, hty.info, hty.zero, hty.size, Builtin.lenOf, hn0, h63', h48', Question.forced, ho', hf', newRow, grownCap]
    rw [assoc3]
  · subst hsn
    have hf' := hf w.drew rfl
    simp [Builtin.append_, run_underlying hu, run_underlying hx, sizeOf, typeInfo, zeroValue, hty.info, hty.zero, hty.size, Builtin.lenOf, hn0, h63', h48', Question.forced, ho', hf', newRow, grownCap]
    rw [assoc3]
  · have hw := wrap_nat hn
    have hneg : ¬ ((n : Int) < 0) := by omega
    have hbig : ¬ (281474976710656 < (n : Int) * inf.bytes) := by
      have : ((n * inf.bytes : Nat) : Int) ≤ 281474976710656 := by omega
      rw [Int.natCast_mul] at this; omega
    have hns : n * te.size ≠ 0 := by
      have := Nat.mul_pos h0 hsz; omega
    simp [Builtin.append_, run_underlying hu, run_underlying hx, sizeOf, typeInfo, zeroValue, hty.info, hty.zero, hty.size, asInt, asIntOf, hw, hneg, hbig, hn0, h63', h48', hns, Question.forced, ho', newRow, grownCap, hf]
/-- In place: what is stored. -/
theorem app_room (hu : P.underlying t = some (.slice el)) (hty : TyOk P el te inf z) (hsz : 0 < te.size) (hby : te.bytes < 65536) (hn : n < 65536) (hs : Src P x tx z te.size n us w)
    {b : Addr} {m c : Nat} (hg : m + n ≤ c) {w' : World} (hst : (storeCells (b.add (m * te.size)) us).run P w = .ok () w') :
    (Builtin.append_ #[t, tx] ty #[.slice (some b) m c, x]).run P w = .ok (.slice (some b) (m + n) c) w' := by
  have hb0 : inf.bytes < 65536 := by rw [hty.bytes]; exact hby
  have hnb : n * inf.bytes ≤ 281474976710656 := Nat.le_trans (Nat.mul_le_mul (Nat.le_of_lt hn) (Nat.le_of_lt hb0)) (by omega)
  rcases hs with ⟨⟨e', hx⟩, ⟨b', c', rfl⟩, hf⟩ | ⟨hx, ⟨s, rfl, hsn⟩, hf⟩ | ⟨⟨K, hx⟩, ⟨K', rfl⟩, hf⟩
  · have hf' := hf w rfl
    simp [Builtin.append_, run_underlying hu, run_underlying hx, sizeOf, typeInfo, zeroValue, hty.info, hty.zero, hty.size, Builtin.lenOf, hg, hf', hst]
  · subst hsn
    have hf' := hf w rfl
    simp [Builtin.append_, run_underlying hu, run_underlying hx, sizeOf, typeInfo, zeroValue, hty.info, hty.zero, hty.size, Builtin.lenOf, hg, hf', hst]
  · have hw := wrap_nat hn
    have hneg : ¬ ((n : Int) < 0) := by omega
    have hbig : ¬ (281474976710656 < (n : Int) * inf.bytes) := by
      have : ((n * inf.bytes : Nat) : Int) ≤ 281474976710656 := by omega
      rw [Int.natCast_mul] at this; omega
    have hul : us = (Builtin.zeroCells z.cells n).toList := by rw [← hf]
    subst hul
    by_cases hns : n * te.size = 0
    · have hn00 : n = 0 := by
        rcases Nat.eq_zero_or_pos n with h | h
        · exact h
        · have := Nat.mul_pos h hsz; omega
      subst hn00
      have h00 : (Builtin.zeroCells z.cells 0).toList = [] := by simp [Builtin.zeroCells]
      rw [h00] at hst
      simp [Builtin.append_, run_underlying hu, run_underlying hx, sizeOf, typeInfo, zeroValue, hty.info, hty.zero, hty.size, asInt, asIntOf, show IntKind.i64.wrap (0 : Int) = 0 from rfl, hg, hst]
      all_goals omega
    · simp [Builtin.append_, run_underlying hu, run_underlying hx, sizeOf, typeInfo, zeroValue, hty.info, hty.zero, hty.size, asInt, asIntOf, hw, hneg, hbig, hg, hns, hst]
end
end
end Go.Proofs.YtibakihcicfeoaaGreat.Ev
/- The evaluator's append against the model's. No condition. -/
namespace Go.Proofs.YtibakihcicfeoaaGreat.Ev
section
variable {P : Program} {o : Oper} {G : Cx}

/-- A block's cells go over to a new block, within the same row of the model. -/
theorem Sim.move {ρ : Pm} {F : Nat → Option Blk} {w w' : World} (H : Sim ρ F w) {i n : Nat} {cs : List AV} {k' : Blk} {p q : Pl} (hF : F i = some (.cells cs)) (hp : ρ i = some p) (hn : ρ n = none)
    (hb : q.b = p.b) (h1 : p.o ≤ q.o) (h2 : q.o + q.cap ≤ p.o + p.cap) {c c' : Array Value} {t : TypeId} {fr : Nat × Nat}
    (hc : w.heap[p.b]? = some (.cells c t fr)) (hc' : w'.heap[p.b]? = some (.cells c' t fr)) (hs : c'.size = c.size)
    (ho : ∀ b, b ≠ p.b → w'.heap[b]? = w.heap[b]?) (hout : ∀ x, (x < p.o ∨ p.o + p.cap ≤ x) → c'[x]? = c[x]?) (hk : BlkOk (upd ρ n q) w' n k') (hno : ∀ w0, k' ≠ .out w0) (hks : Keeps w w') : Sim (upd ρ n q) (upd (upd F i .dead) n k') w' := by
  have H1 : Sim ρ (upd F i .dead) w' := H.write (k' := .dead) hF rfl hp hc hc' hs (fun h => by unfold Soft at *; omega) ho hout trivial (fun _ h => by cases h) hks
  have key : ∀ b l r, b ≠ n → upd F i .dead b = some l → isLive l = true → ρ b = some r → Apart q r := fun b l r hbn hfb hl hr => by
    by_cases hbi : b = i
    · subst hbi; rw [upd_same] at hfb; injection hfb with hfb; subst hfb; cases hl
    · rw [upd_ne _ _ hbi] at hfb
      have ap := H.apart i b _ _ p r (Ne.symm hbi) hF hfb rfl hl hp hr
      intro he x y hx hy heq
      exact ap (hb ▸ he) (q.o - p.o + x) y (by omega) hy (by omega)
  refine ⟨fun j l hFj => ?_, fun a b l m q' r hab ha hb' hl hm hq hr => ?_, fun a w0 ha j l q' hj hl hq => ?_⟩
  · by_cases hj : j = n
    · subst hj; rw [upd_same] at hFj; injection hFj with hFj; subst hFj; exact hk
    · rw [upd_ne _ _ hj] at hFj; exact (H1.ok j l hFj).ext (upd_le hn)
  · by_cases ha1 : a = n
    · subst ha1
      rw [upd_same] at hq; injection hq with hq; subst hq
      rw [upd_ne _ _ (Ne.symm hab)] at hb' hr
      exact key b m r (Ne.symm hab) hb' hm hr
    · rw [upd_ne _ _ ha1] at ha hq
      by_cases hb1 : b = n
      · subst hb1
        rw [upd_same] at hr; injection hr with hr; subst hr
        exact (key a l q' ha1 ha hl hq).symm
      · rw [upd_ne _ _ hb1] at hb' hr
        exact H1.apart a b l m q' r hab ha hb' hl hm hq hr
  · by_cases ha1 : a = n
    · subst ha1
      rw [upd_same] at ha; injection ha with ha
      exact absurd ha (hno w0)
    · rw [upd_ne _ _ ha1] at ha
      by_cases hj1 : j = n
      · subst hj1
        rw [upd_same] at hq; injection hq with hq; subst hq
        by_cases ha2 : a = i
        · subst ha2; rw [upd_same] at ha; cases ha
        · rw [upd_ne _ _ ha2] at ha
          rw [hb]
          exact H.out a w0 ha i _ p hF rfl hp
      · rw [upd_ne _ _ hj1] at hj hq
        exact H1.out a w0 ha j l q' hj hl hq
theorem app_none {t tx ty el : TypeId} {te : TI} {inf : TypeInfo} {z x : Value} {us : List Value} {w : World} (hu : P.underlying t = some (.slice el)) (hty : TyOk P el te inf z) (hs : Src P x tx z te.size 0 us w) :
    (Builtin.append_ #[t, tx] ty #[.slice none 0 0, x]).run P w = .ok (.slice none 0 0) w := by
  rcases hs with ⟨⟨e', hx⟩, ⟨b', c', rfl⟩, hf⟩ | ⟨hx, ⟨s, rfl, hsn⟩, hf⟩ | ⟨⟨K, hx⟩, ⟨K', rfl⟩, hf⟩
  · have hf' := hf w rfl
    simp [Builtin.append_, run_underlying hu, run_underlying hx, sizeOf, typeInfo, zeroValue, hty.info, hty.zero, hty.size, Builtin.lenOf, hf']
  · have hf' := hf w rfl
    simp [Builtin.append_, run_underlying hu, run_underlying hx, sizeOf, typeInfo, zeroValue, hty.info, hty.zero, hty.size, Builtin.lenOf, hsn, hf']
  · simp [Builtin.append_, run_underlying hu, run_underlying hx, sizeOf, typeInfo, zeroValue, hty.info, hty.zero, hty.size, asInt, asIntOf, show IntKind.i64.wrap (0 : Int) = 0 from rfl]
theorem VRs.app_get {ρ : Pm} {a b : List AV} {v u : List Value} (h1 : VRs ρ a v) (h2 : VRs ρ b u) (rest : Array Value) : ∀ (j : Nat) (x : AV), (a ++ b)[j]? = some x → ∃ y, (v.toArray ++ u.toArray ++ rest)[j]? = some y ∧ VR ρ x y := fun j x hx => by
  obtain ⟨d, e1, e2⟩ := (h1.app h2).get hx
  refine ⟨d, ?_, e2⟩
  have hlt : j < (v ++ u).length := (List.getElem?_eq_some_iff.1 e1).1
  rw [Array.getElem?_append_left (by simpa using hlt)]
  simpa using e1
theorem appV_ok {ρ : Pm} {φ : Nat → Option Blk} {w : World} {h h' : Hp} {n : Nat} {s r : AV} {u x : Value} {news : List AV} {t tx ty el : TypeId} {te : TI} {inf : TypeInfo} {z : Value} {us : List Value}
    (hu : P.underlying t = some (.slice el)) (hty : TyOk P el te inf z) (hsz : 0 < te.size) (hby : te.bytes < 65536) (hS : Sim ρ (h.on φ) w) (hv : VR ρ s u) (hn : n < 65536)
    (hul : us.length = n * te.size) (hus : VRs ρ news us) (hno : news.all one = true) (hs : Src P x tx z te.size n us w)
    (hf : appV h te.size s news n = .ok r h') (hfr : Free ρ h h') :
    ∃ u' w' ρ', (Builtin.append_ #[t, tx] ty #[u, x]).run P w = .ok u' w' ∧ Grow ρ ρ' h h' ∧ Sim ρ' (h'.on φ) w' ∧ VR ρ' r u' := by
  have hnl : news.length = n * te.size := by rw [← hul]; exact hus.len.symm
  have hone := vrs_one hus hno
  have hzl : z.cells.size = te.size := by have := (hty.zs ρ).len; simpa [hty.len] using this
  cases n with
  | zero =>
    have hu0 : us = [] := List.length_eq_zero_iff.1 (by rw [hul]; omega)
    subst hu0
    cases s with
    | nils =>
      simp only [appV] at hf
      injection hf with e1 e2; subst e1; subst e2
      simp only [VR] at hv; subst hv
      exact ⟨.slice none 0 0, w, ρ, app_none hu hty hs, Grow.refl _ _, hS, by simp only [VR]⟩
    | sl s' i of m =>
      simp only [appV] at hf
      injection hf with e1 e2; subst e1; subst e2
      have hv' := hv
      simp only [VR] at hv
      obtain ⟨p, ad, c, hp, rfl, hmc, hc⟩ := hv
      refine ⟨.slice (some ad) (m + 0) c, w, ρ, app_room hu hty hsz hby hn hs (by omega) rfl, Grow.refl _ _, hS, ?_⟩
      exact hv'
    | _ => simp [appV] at hf
  | succ n =>
    cases s with
    | nils =>
      simp only [appV] at hf
      injection hf with e1 e2; subst e1; subst e2
      simp only [VR] at hv; subst hv
      have hn1 := hfr.one
      have hge := grownCap_ge w (n + 1) 0 el
      have hgm : grownCap w (n + 1) 0 el ≤ 9223372036854775807 := grownCap_le_maxLen w (n + 1) 0 el (by unfold maxLen; omega)
      refine ⟨_, _, upd ρ h.n ⟨w.drew.heap.size, 0, grownCap w (n + 1) 0 el * te.size⟩, app_nil hu hty hsz hby hn (by omega) hs, Grow.new hn1, ?_, ?_⟩
      · rw [on_new]
        have hS2 : Sim ρ (h.on φ) w.drew := hS.heap rfl
        refine hS2.row hn1 _ el _ _ ?_ ?_ hno fun j v hj => ?_
        · rw [Array.size_append, size_zeroCells, hzl]
          have : us.toArray.size = (n + 1) * te.size := by simpa using hul
          rw [this, ← Nat.add_mul]
          exact Nat.mul_le_mul_right _ (by omega)
        · rw [hnl]; exact Nat.mul_le_mul_right _ hge
        · obtain ⟨d, e1, e2⟩ := VRs.app_get VRs.nil hus (Builtin.zeroCells z.cells (grownCap w (n + 1) 0 el - (n + 1))) j v hj
          exact ⟨d, by simpa using e1, e2⟩
      · simp only [VR]
        exact ⟨_, _, _, upd_same _ _ _, rfl, ⟨hge, hgm⟩, .inr ⟨by simp, by simp⟩⟩
    | sl s' i of m =>
      simp only [appV] at hf
      cases hg : h.t.get i with
      | none => simp [hg] at hf
      | some b =>
        cases b with
        | iter _ _ => simp [hg] at hf
        | dead => simp [hg] at hf
        | out _ => simp [hg] at hf
        | cells cs =>
          simp only [hg] at hf
          cases hsub : subL cs of (m * te.size) with
          | none => simp [hsub] at hf
          | some olds =>
            simp only [hsub] at hf
            cases hb : Nat.beq s' te.size && Nat.blt (m + (n + 1)) 65536 with
            | false => simp [hb] at hf
            | true =>
              simp only [hb, cond_true] at hf
              injection hf with e1 e2; subst e1; subst e2
              simp only [Bool.and_eq_true] at hb
              have hss := beqT hb.1
              have hmn := bltT hb.2
              subst hss
              have hn1 : ρ h.n = none := hfr h.n (Nat.le_refl _) (by rw [n_new, n_set]; omega)
              have hgr : ∀ p, Grow ρ (upd ρ h.n p) h ((h.set i .dead).new (.cells (olds ++ news))) := fun p =>
                ⟨upd_le hn1, fun j hj => upd_ne _ _ (fun he => hj (by rw [n_new, n_set]; omega)), by rw [n_new, n_set]; omega⟩
              have hF := on_get (φ := φ) hg
              simp only [VR] at hv
              obtain ⟨p, ad, c, hp, rfl, hmc, hc⟩ := hv
              obtain ⟨os, o1, o2, o3⟩ := hS.sub hF hp hsub
              have hol : olds.length = m * te.size := by rw [← o2.len, o1]
              have hoo : (olds ++ news).all one = true := by rw [List.all_append, subL_one hsub (hS.ones hF), hno]; rfl
              have hset : (h.set i .dead).n = h.n := n_set h i .dead
              by_cases hroom : m + (n + 1) ≤ c
              · rcases hc with h0 | ⟨rfl, hcap⟩
                · omega
                obtain ⟨p', cc, tt, fr, f1, f2, f3, f4, f5, f6, f7⟩ := hS.ok i _ hF
                rw [hp] at f1; injection f1 with f1; subst f1
                have hmul : (m + (n + 1)) * te.size ≤ c * te.size := Nat.mul_le_mul_right _ hroom
                rw [Nat.add_mul] at hmul
                obtain ⟨c', s1, s2, s3⟩ := run_storeSoft (P := P) p.b (p.o + of + m * te.size) tt fr us 0 cc w f2 f3 (by omega) hone
                have hst : (storeCells ((⟨p.b, p.o + of, none⟩ : Addr).add (m * te.size)) us).run P w = .ok () (w.setRow p.b c') := by
                  rw [addr_add]; exact s1
                refine ⟨_, _, upd ρ h.n ⟨p.b, p.o + of, c * te.size⟩, app_room hu hty hsz hby hn hs hroom hst, hgr _, ?_, ?_⟩
                · rw [on_new, on_set, hset]
                  refine hS.move hF hp hn1 rfl (by show p.o ≤ p.o + of; omega) (by show p.o + of + c * te.size ≤ _; omega) f2 (setRow_heap w p.b cc c' tt fr f2) s2
                    (fun b hb => setRow_other w p.b b c' hb) (fun x hx => ?_) ?_ (cells_no _) (setRow_keeps _ _ _)
                  · rw [s3 x, if_neg (by omega)]
                  · refine ⟨_, c', tt, fr, upd_same _ _ _, setRow_heap w p.b cc c' tt fr f2, by unfold Soft at *; omega, by show p.o + of + c * te.size ≤ _; omega,
                      by rw [List.length_append, hol, hnl]; exact hmul, hoo, fun j v hj => ?_⟩
                    by_cases hjm : j < m * te.size
                    · rw [List.getElem?_append_left (by omega)] at hj
                      obtain ⟨g1, g2⟩ := (subL_some hsub).2 j hjm
                      rw [g1] at hj
                      obtain ⟨d, q1, q2⟩ := f7 _ v hj
                      refine ⟨d, ?_, q2.ext (upd_le hn1)⟩
                      show c'[p.o + of + j]? = _
                      rw [s3, if_neg (by omega), Nat.add_assoc]
                      exact q1
                    · rw [List.getElem?_append_right (by omega), hol] at hj
                      have hjl : j - m * te.size < news.length := (List.getElem?_eq_some_iff.1 hj).1
                      obtain ⟨d, q1, q2⟩ := hus.get hj
                      refine ⟨d, ?_, q2.ext (upd_le hn1)⟩
                      show c'[p.o + of + j]? = _
                      rw [s3, if_pos (by omega), ← q1]
                      congr 1; omega
                · simp only [VR]
                  exact ⟨_, _, c, upd_same _ _ _, rfl, ⟨hroom, hmc.2⟩, .inr ⟨by simp, by simp⟩⟩
              · have hgrow : c < m + (n + 1) := by omega
                have hge := grownCap_ge w (m + (n + 1)) c el
                have hgm : grownCap w (m + (n + 1)) c el ≤ 9223372036854775807 := grownCap_le_maxLen w (m + (n + 1)) c el (by unfold maxLen; omega)
                have hfc : ∀ w2 : World, w2.heap = w.heap → (Builtin.firstCells te.size m (.slice (some ad) m c)).run P w2 = .ok os.toArray w2 := fun w2 hw2 => by
                  rcases hc with h0 | ⟨rfl, _⟩
                  · have hm0 : m = 0 := by omega
                    subst hm0
                    have : os = [] := List.length_eq_zero_iff.1 (by rw [o1]; omega)
                    subst this
                    simp [Builtin.firstCells, loadCells, loadCellsFrom]
                  · have hcell : ∀ ad, w2.cell? ad = w.cell? ad := fun ad => by simp [World.cell?, hw2]
                    have hld := run_loadCells_list (P := P) w2 ⟨p.b, p.o + of, none⟩ os fun j v hj => (hcell _).trans (o3 j v hj)
                    rw [o1] at hld
                    simpa [Builtin.firstCells] using hld
                refine ⟨_, _, upd ρ h.n ⟨w.drew.heap.size, 0, grownCap w (m + (n + 1)) c el * te.size⟩, app_grow hu hty hsz hby hn (by omega) hs hmn hgrow hfc, hgr _, ?_, ?_⟩
                · rw [on_new, on_set, hset]
                  have hS2 : Sim ρ (upd (h.on φ) i .dead) w.drew := (hS.kill i).heap rfl
                  refine hS2.row hn1 _ el _ _ ?_ ?_ hoo (VRs.app_get o2 hus _)
                  · rw [Array.size_append, Array.size_append, size_zeroCells, hzl]
                    have e1 : us.toArray.size = (n + 1) * te.size := by simpa using hul
                    have e2 : os.toArray.size = m * te.size := by simpa using o1
                    rw [e1, e2, ← Nat.add_mul, ← Nat.add_mul]
                    exact Nat.mul_le_mul_right _ (by omega)
                  · rw [List.length_append, hol, hnl, ← Nat.add_mul]; exact Nat.mul_le_mul_right _ hge
                · simp only [VR]
                  exact ⟨_, _, _, upd_same _ _ _, rfl, ⟨hge, hgm⟩, .inr ⟨by simp, by simp⟩⟩
    | _ => simp [appV] at hf
end
end Go.Proofs.YtibakihcicfeoaaGreat.Ev
/- The evaluator's writing operations against the model's: appends, copy, conversions, slices made, iterators; calls; all operations. No condition. -/
namespace Go.Proofs.YtibakihcicfeoaaGreat.Ev
section
variable {P : Program} {o : Oper} {G : Cx}

theorem bytes_vrs {ρ : Pm} (l : List Nat) : VRs ρ (l.map byteV) (l.map fun (b : Nat) => Value.int .u8 (b : Int)) := by
  induction l with
  | nil => exact VRs.nil
  | cons b l ih => exact VRs.cons (VR.int_to .u8 _) ih
theorem bytes_one (l : List Nat) : (l.map byteV).all one = true := by
  rw [List.all_eq_true]
  intro v hv
  obtain ⟨b, _, rfl⟩ := List.mem_map.1 hv
  rfl
theorem repL_vrs {ρ : Pm} {te : TI} {inf : TypeInfo} {z : Value} {el : TypeId} (hty : TyOk P el te inf z) (hsz : 0 < te.size) (n : Nat) :
    VRs ρ (repL te.zero n) (Builtin.zeroCells z.cells n).toList ∧ (Builtin.zeroCells z.cells n).toList.length = n * te.size ∧ (repL te.zero n).all one = true := by
  have hz := hty.zs ρ
  have hzl : z.cells.size = te.size := by have := hz.len; simpa [hty.len] using this
  have h := rep_vrs hz n (n * z.cells.size) (by rw [hty.len]; exact hsz) (by rw [hty.len, hzl])
  exact ⟨h, by simp [size_zeroCells, hzl], repL_one _ hty.ones n⟩
theorem append_run {x y : Operand} {t u : TypeId} {c : Call} (hc : c.callee = .builtin .append) (ho : o.op = .call c) (ha : c.args = #[x, y]) (hat : c.argTypes = #[t, u]) {a : Act} {v v' r : Value} {w w' : World}
    (hx : a.eval x = v) (hy : a.eval y = v') (h : (Builtin.append_ #[t, u] o.type #[v, v']).run P w = .ok r w') : (execOp a.eval o).run P w = .ok (.value r) w' := by
  simp only [execOp, ho, resolve, hc, ha, hat, invoke, builtin, Sem.run_bind, Sem.run_pure, Result.andThen_ok, List.map_toArray, List.map_cons, List.map_nil, hx, hy, h]
theorem append_ok (hT : TysOk P G.tys) (c : Call) (hc : c.callee = .builtin .append) (ho : o.op = .call c) (x y : Operand) (t u : TypeId) (ha : c.args = #[x, y]) (hat : c.argTypes = #[t, u]) :
    COk P o (cBuiltin G .append [x, y] [t, u]) := by
  simp only [cBuiltin]
  cases hti : G.tys.get t with
  | none => trivial
  | some ti =>
    cases htu : G.tys.get u with
    | none => trivial
    | some tu =>
      obtain ⟨inf, z, hty⟩ := hT t ti hti
      obtain ⟨inf2, z2, hty2⟩ := hT u tu htu
      have hk := hty.k
      have hk2 := hty2.k
      simp only []
      split
      · next el hkk =>
        rw [hkk] at hk
        have hu : P.underlying t = some (.slice el) := hk
        cases hte : G.tys.get el with
        | none => trivial
        | some te =>
          obtain ⟨inf3, z3, hty3⟩ := hT el te hte
          simp only []
          cases hb : Nat.blt 0 te.size && Nat.blt te.bytes 65536 with
          | false => trivial
          | true =>
            simp only [Bool.and_eq_true] at hb
            have hsz := bltT hb.1
            have hby := bltT hb.2
            simp only [cond_true]
            split
            · next K hkk2 =>
              rw [hkk2] at hk2
              refine ef2_ok fun ρ φ a w v v' r q q' h h' hux huy hv hv' hS hf hfr => ?_
              unfold appMk at hf
              split at hf
              · next k n =>
                cases hbn : Nat.blt n 65536 with
                | false => simp [hbn] at hf
                | true =>
                  simp only [hbn, cond_true] at hf
                  simp only [VR] at hv'
                  obtain ⟨K', _, rfl⟩ := hv'
                  obtain ⟨z1, z2, z3⟩ := repL_vrs (ρ := ρ) hty3 hsz n
                  obtain ⟨u', w', ρ', r1, r2, r3, r4⟩ := appV_ok (P := P) (tx := u) (ty := o.type) hu hty3 hsz hby hS hv (bltT hbn) z2 z1 z3 (.inr (.inr ⟨⟨K, hk2⟩, ⟨K', rfl⟩, rfl⟩)) hf hfr
                  exact ⟨u', w', ρ', .inl (append_run hc ho ha hat hux huy r1), r2, r3, r4⟩
              · cases hf
            · next e' hkk2 =>
              rw [hkk2] at hk2
              refine ef2_ok fun ρ φ a w v v' r q q' h h' hux huy hv hv' hS hf hfr => ?_
              unfold appSl at hf
              cases hl : lenV v' with
              | none => simp [hl] at hf
              | some n =>
                simp only [hl] at hf
                cases hbn : Nat.blt n 65536 with
                | false => simp [hbn] at hf
                | true =>
                  simp only [hbn, cond_true] at hf
                  cases hfi : firstV h te.size v' with
                  | none => simp [hfi] at hf
                  | some news =>
                    simp only [hfi] at hf
                    obtain ⟨⟨b, c2, rfl⟩, us, f1, f2, f3, f4⟩ := first_ok (P := P) hS hv' hl hfi
                    obtain ⟨u', w', ρ', r1, r2, r3, r4⟩ := appV_ok (P := P) (tx := u) (ty := o.type) hu hty3 hsz hby hS hv (bltT hbn) f1 f2 f3 (.inl ⟨⟨e', hk2⟩, ⟨b, c2, rfl⟩, f4⟩) hf hfr
                    exact ⟨u', w', ρ', .inl (append_run hc ho ha hat hux huy r1), r2, r3, r4⟩
            · next hkk2 =>
              rw [hkk2] at hk2
              split
              · next hke =>
                cases hb1 : Nat.beq te.size 1 with
                | false => trivial
                | true =>
                  have h1 := beqT hb1
                  simp only [cond_true]
                  refine ef2_ok fun ρ φ a w v v' r q q' h h' hux huy hv hv' hS hf hfr => ?_
                  unfold appSt at hf
                  split at hf
                  · next l =>
                    cases hbn : Nat.blt l.length 65536 && l.all isByte with
                    | false => simp [hbn] at hf
                    | true =>
                      simp only [hbn, cond_true] at hf
                      simp only [Bool.and_eq_true] at hbn
                      simp only [VR] at hv'
                      obtain ⟨bs, rfl, hbs⟩ := hv'
                      have hsl : bs.size = l.length := by rw [← hbs]; simp
                      rw [← h1] at hf
                      have hfc : ∀ w2 : World, w2.heap = w.heap → (Builtin.firstCells te.size l.length (.string bs)).run P w2 = .ok (l.map fun (b : Nat) => Value.int .u8 (b : Int)).toArray w2 := fun w2 _ => by
                        simp only [Builtin.firstCells, Sem.run_pure]
                        congr 1
                        apply Array.ext'
                        rw [← hbs]
                        have : bs.extract 0 bs.size = bs := by apply ByteArray.ext; simp
                        simp [this]
                      obtain ⟨u', w', ρ', r1, r2, r3, r4⟩ := appV_ok (P := P) (tx := u) (ty := o.type) hu hty3 hsz hby hS hv (bltT hbn.1) (by simp [h1]) (bytes_vrs l) (bytes_one l) (.inr (.inl ⟨hk2, ⟨bs, rfl, hsl⟩, hfc⟩)) hf hfr
                      exact ⟨u', w', ρ', .inl (append_run hc ho ha hat hux huy r1), r2, r3, r4⟩
                  · cases hf
              · trivial
            · trivial
      · trivial
end
end Go.Proofs.YtibakihcicfeoaaGreat.Ev
/- The evaluator's writing operations against the model's: copy, conversions, slices made, iterators; calls; all operations. No condition. -/
namespace Go.Proofs.YtibakihcicfeoaaGreat.Ev
section
variable {P : Program} {o : Oper} {G : Cx}

theorem Grow.set {ρ : Pm} {h : Hp} {i : Nat} {b : Blk} : Grow ρ ρ h (h.set i b) := ⟨fun _ _ h => h, fun _ _ => rfl, by rw [n_set]; exact Nat.le_refl _⟩
theorem copy_ok (hT : TysOk P G.tys) (c : Call) (hc : c.callee = .builtin .copy) (ho : o.op = .call c) (x y : Operand) (t u : TypeId) (ha : c.args = #[x, y]) (hat : c.argTypes = #[t, u]) :
    COk P o (cBuiltin G .copy [x, y] [t, u]) := by
  simp only [cBuiltin]
  cases hti : G.tys.get t with
  | none => trivial
  | some ti =>
    cases htu : G.tys.get u with
    | none => trivial
    | some tu =>
      obtain ⟨inf, z, hty⟩ := hT t ti hti
      have hk := hty.k
      simp only []
      split
      · next el el2 hkk hkk2 =>
        rw [hkk] at hk
        have hu : P.underlying t = some (.slice el) := hk
        cases hte : G.tys.get el with
        | none => trivial
        | some te =>
          obtain ⟨inf3, z3, hty3⟩ := hT el te hte
          simp only []
          cases hb : Nat.blt 0 te.size with
          | false => trivial
          | true =>
            simp only [cond_true]
            refine ef2_ok fun ρ φ a w v v' r q q' h h' hux huy hv hv' hS hf hfr => ?_
            unfold copyF at hf
            split at hf
            · next sd i of m s j pf n =>
              cases hfi : firstV h te.size (.sl s j pf (bif Nat.ble n m then n else m)) with
              | none => simp [hfi] at hf
              | some vs =>
                cases hg : h.t.get i with
                | none => simp [hfi, hg] at hf
                | some b =>
                  cases b with
                  | iter _ _ => simp [hfi, hg] at hf
                  | dead => simp [hfi, hg] at hf
                  | out _ => simp [hfi, hg] at hf
                  | cells cs =>
                    simp only [hfi, hg] at hf
                    cases hm : Nat.blt 0 m with
                    | false =>
                      simp only [hm, cond_false] at hf
                      injection hf with e1 e2; subst e1; subst e2
                      have hm0 : m = 0 := by
                        rcases Nat.eq_zero_or_pos m with h0 | h0
                        · exact h0
                        · exact absurd (Nat.ble_eq_true_of_le h0) (by rw [show Nat.ble 1 m = Nat.blt 0 m from rfl, hm]; simp)
                      subst hm0
                      simp only [VR] at hv hv'
                      obtain ⟨p, ad, cd, hp, rfl, hmc, hcc⟩ := hv
                      obtain ⟨p2, ad2, cd2, hp2, rfl, hmc2, hcc2⟩ := hv'
                      refine ⟨.int .i64 ((0 : Nat) : Int), w, ρ, .inl ?_, Grow.refl _ _, hS, VR.int_to .i64 _⟩
                      simp only [execOp, ho, resolve, hc, ha, hat, invoke, builtin, Sem.run_bind, Sem.run_pure, Result.andThen_ok, List.map_toArray, List.map_cons, List.map_nil, hux, huy]
                      simp [Builtin.copy_, run_underlying hu, Builtin.lenOf, hty3.run_size, Builtin.firstCells, loadCells, loadCellsFrom, storeCells, goInt]
                    | true =>
                      simp only [hm, cond_true] at hf
                      cases hw : wrL cs of vs with
                      | none => simp [hw] at hf
                      | some cs' =>
                        simp only [hw] at hf
                        injection hf with e1 e2; subst e1; subst e2
                        have hm0 := bltT hm
                        have hmin : (bif Nat.ble n m then n else m) = Nat.min n m := by
                          cases hle : Nat.ble n m with
                          | true => have := Nat.le_of_ble_eq_true hle; simp [Nat.min_def, this]
                          | false =>
                            have : ¬ n ≤ m := fun hh => by rw [Nat.ble_eq_true_of_le hh] at hle; cases hle
                            simp [Nat.min_def, this]
                        rw [hmin] at hfi ⊢
                        have hv2 := hv'
                        simp only [VR] at hv hv'
                        obtain ⟨p, ad, cd, hp, rfl, hmc, hcc⟩ := hv
                        obtain ⟨p2, ad2, cd2, hp2, rfl, hmc2, hcc2⟩ := hv'
                        rcases hcc with h0 | ⟨rfl, hcap⟩
                        · omega
                        have hvn : VR ρ (.sl s j pf (Nat.min n m)) (.slice (some ad2) (Nat.min n m) cd2) := by
                          simp only [VR]
                          exact ⟨p2, ad2, cd2, hp2, rfl, ⟨Nat.le_trans (Nat.min_le_left _ _) hmc2.1, hmc2.2⟩, hcc2⟩
                        obtain ⟨_, us, f1, f2, f3, f4⟩ := first_ok (P := P) hS hvn rfl hfi
                        obtain ⟨w', s1, s2⟩ := hS.wr (P := P) (on_get hg) hp hw f2 f3
                        refine ⟨.int .i64 (Nat.min n m : Nat), w', ρ, .inl ?_, Grow.set, by rw [on_set]; exact s2, VR.int_to .i64 _⟩
                        have hfc : (Builtin.firstCells te.size (Nat.min n m) (.slice (some ad2) n cd2)).run P w = .ok us.toArray w := by
                          have := f4 w rfl
                          simpa [Builtin.firstCells] using this
                        simp only [execOp, ho, resolve, hc, ha, hat, invoke, builtin, Sem.run_bind, Sem.run_pure, Result.andThen_ok, List.map_toArray, List.map_cons, List.map_nil, hux, huy]
                        simp [Builtin.copy_, run_underlying hu, Builtin.lenOf, hty3.run_size, hfc, s1, goInt]
            · cases hf
      · trivial
theorem mark_run {a : Addr} {w : World} {e : TypeId} {n : Nat} (h : w.shape? a.block = some (e, n)) : (markStringish a).run P w = .ok () (w.freeze ⟨a.block, n, none⟩ 1) := by
  simp only [markStringish, Sem.run_bind, run_shape, Result.andThen_ok, h, run_freeze]
/-- A mark behind a row's last cell. -/
theorem freeze_row {w : World} {b : Nat} {c : Array Value} {t : TypeId} {fr : Nat × Nat} (h : w.heap[b]? = some (.cells c t fr)) :
    (w.freeze ⟨b, c.size, none⟩ 1).heap[b]? = some (.cells c t (if fr.1 == fr.2 then (c.size, c.size + 1) else (min fr.1 c.size, max fr.2 (c.size + 1)))) ∧
    (∀ i, i ≠ b → (w.freeze ⟨b, c.size, none⟩ 1).heap[i]? = w.heap[i]?) ∧ (w.freeze ⟨b, c.size, none⟩ 1).heap.size = w.heap.size := by
  obtain ⟨lo, hi⟩ := fr
  unfold World.freeze
  rw [if_neg (by decide)]
  refine ⟨?_, fun i hi' => ?_, by simp⟩
  · simp [Array.getElem?_modify, h]
  · simp [Array.getElem?_modify, Ne.symm hi']
theorem s2b_ok (hT : TysOk P G.tys) (s d : TypeId) (x : Operand) (ho : o.op = .convert s d x) (ts td te : TI) (hs : G.tys.get s = some ts) (hd : G.tys.get d = some td) (el : Nat)
    (hk : ts.k = .str) (hkd : td.k = .slice el) (he : G.tys.get el = some te) (hke : te.k = .int .u8) : COk P o (ef1 x s2bF) := by
  obtain ⟨inf, z, hty⟩ := hT s ts hs
  obtain ⟨inf2, z2, hty2⟩ := hT d td hd
  obtain ⟨inf3, z3, hty3⟩ := hT el te he
  have h1 : P.underlying s = some .string := by have := hty.k; rw [hk] at this; exact this
  have h2 : P.underlying d = some (.slice el) := by have := hty2.k; rw [hkd] at this; exact this
  have h3 : P.underlying el = some (.int .u8) := by have := hty3.k; rw [hke] at this; exact this
  refine ef1_ok fun ρ φ a w v r u h h' hux hv hS hf hfr => ?_
  unfold s2bF at hf
  split at hf
  · next l =>
    cases hb : Nat.blt l.length 65536 && l.all isByte with
    | false => simp [hb] at hf
    | true =>
      simp only [hb, cond_true] at hf
      injection hf with e1 e2; subst e1; subst e2
      simp only [VR] at hv
      obtain ⟨bs, rfl, hbs⟩ := hv
      have hsl : bs.size = l.length := by rw [← hbs]; simp
      have hn1 := hfr.one
      have hl6 : l.length < 65536 := bltT (Bool.and_eq_true _ _ ▸ hb).1
      have hge := grownCap_ge w bs.size 0 el
      let c : Array Value := (bs.data.map fun b => Value.int .u8 (b.toNat : Int)) ++ Array.replicate (grownCap w bs.size 0 el - bs.size) (.int .u8 0)
      have hcs : c.size = grownCap w bs.size 0 el := by
        simp only [c, Array.size_append, Array.size_map, Array.size_replicate]
        show bs.size + _ = _
        omega
      have hheap : ((w.drew.alloc (.cells c el)).freeze ⟨w.heap.size, c.size, none⟩ 1).heap = (w.alloc (.cells c el (c.size, c.size + 1))).heap := by
        have := freeze_row (w := w.drew.alloc (.cells c el)) (b := w.heap.size) (c := c) (t := el) (fr := (0, 0)) (by show (w.heap.push _)[w.heap.size]? = _; simp)
        obtain ⟨f1, f2, f3⟩ := this
        apply Array.ext
        · rw [f3]
          show (w.heap.push _).size = (w.heap.push _).size
          rw [Array.size_push, Array.size_push]
        · intro i hi1 hi2
          have key : ((w.drew.alloc (.cells c el)).freeze ⟨w.heap.size, c.size, none⟩ 1).heap[i]? = (w.alloc (.cells c el (c.size, c.size + 1))).heap[i]? := by
            by_cases hi : i = w.heap.size
            · subst hi
              rw [f1]
              show _ = (w.heap.push _)[w.heap.size]?
              simp
            · rw [f2 i hi]
              show (w.heap.push _)[i]? = (w.heap.push _)[i]?
              rw [Array.getElem?_push, Array.getElem?_push]
              simp [hi]
          rw [Array.getElem?_eq_getElem hi1, Array.getElem?_eq_getElem hi2] at key
          exact Option.some.inj key
      refine ⟨.slice (some ⟨w.heap.size, 0, none⟩) bs.size (grownCap w bs.size 0 el), (w.drew.alloc (.cells c el)).freeze ⟨w.heap.size, c.size, none⟩ 1,
        upd ρ h.n ⟨w.heap.size, 0, grownCap w bs.size 0 el⟩, .inl ?_, Grow.new hn1, ?_, ?_⟩
      · have hsh : (w.drew.alloc (.cells c el)).shape? w.heap.size = some (el, c.size) := by
          show (match (w.heap.push (.cells c el))[w.heap.size]? with
            | some (.cells c elem _) => some (elem, c.size)
            | _ => none) = _
          simp
        have hmk := mark_run (P := P) (a := ⟨w.heap.size, 0, none⟩) hsh
        have hrun : (Conv.stringToBytes el bs).run P w = .ok (.slice (some ⟨w.heap.size, 0, none⟩) bs.size (grownCap w bs.size 0 el)) ((w.drew.alloc (.cells c el)).freeze ⟨w.heap.size, c.size, none⟩ 1) := by
          unfold Conv.stringToBytes
          simp only [Sem.run_bind, run_choose, Question.forced, Bool.false_eq_true, if_false, Result.andThen_ok, newRow, run_newObj, Sem.run_pure, World.drew_eq, World.alloc_eq]
          exact (congrArg (fun r => Result.andThen r fun _ w' => Result.ok (Value.slice (some ⟨w.heap.size, 0, none⟩) bs.size (grownCap w bs.size 0 el)) w') hmk).trans rfl
        simp only [execOp, ho, hux, convert, Sem.run_bind, run_underlying h1, run_underlying h2, run_underlying h3, Result.andThen_ok, hrun, Sem.run_pure]
      · rw [on_new]
        refine (Sim.fresh hS hn1 (ob := .cells c el (c.size, c.size + 1)) rfl ?_ rfl).heap hheap ⟨(freeze_keeps _ _ _).1, (freeze_keeps _ _ _).2.1, (freeze_keeps _ _ _).2.2.1, by rw [hheap]; exact Nat.le_refl _⟩
        refine ⟨_, c, el, (c.size, c.size + 1), upd_same _ _ _, ?_, .inr (Nat.le_refl _), by show 0 + grownCap w bs.size 0 el ≤ c.size; omega, by show (l.map byteV).length ≤ grownCap w bs.size 0 el; rw [List.length_map]; omega, bytes_one l, fun j v hj => ?_⟩
        · show (w.heap.push _)[w.heap.size]? = _
          simp
        · rw [List.getElem?_map] at hj
          cases hlj : l[j]? with
          | none => rw [hlj] at hj; cases hj
          | some b =>
            rw [hlj] at hj; injection hj with hj; subst hj
            refine ⟨.int .u8 (b : Int), ?_, VR.int_to .u8 _⟩
            have hjl : j < bs.size := by rw [hsl]; exact (List.getElem?_eq_some_iff.1 hlj).1
            have hd2 : (bs.data.toList.map UInt8.toNat)[j]? = some b := by rw [hbs]; exact hlj
            rw [List.getElem?_map] at hd2
            have hjd : j < bs.data.size := hjl
            show c[0 + j]? = _
            rw [Nat.zero_add, Array.getElem?_append_left (by simpa using hjd), Array.getElem?_map]
            rw [Array.getElem?_toList] at hd2
            cases hq : bs.data[j]? with
            | none => rw [hq] at hd2; cases hd2
            | some q => rw [hq] at hd2; injection hd2 with hd2; subst hd2; rfl
      · simp only [VR]
        rw [hsl]
        exact ⟨_, _, _, upd_same _ _ _, rfl, ⟨by rw [← hsl]; exact hge, by rw [← hsl]; exact grownCap_le_maxLen w bs.size 0 el (by unfold maxLen; omega)⟩, .inr ⟨by simp, by simp⟩⟩
  · cases hf
theorem markF_ok (hT : TysOk P G.tys) (s : TypeId) (x : Operand) (ho : o.op = .convert s s x) (ts te : TI) (hs : G.tys.get s = some ts) (el : Nat)
    (hk : ts.k = .slice el) (he : G.tys.get el = some te) (hke : te.k = .int .u8) : COk P o (ef1 x markF) := by
  obtain ⟨inf, z, hty⟩ := hT s ts hs
  obtain ⟨inf3, z3, hty3⟩ := hT el te he
  have h1 : P.underlying s = some (.slice el) := by have := hty.k; rw [hk] at this; exact this
  have h3 : P.underlying el = some (.int .u8) := by have := hty3.k; rw [hke] at this; exact this
  refine ef1_ok fun ρ φ a w v r u h h' hux hv hS hf hfr => ?_
  unfold markF at hf
  split at hf
  · next s' i of n =>
    cases hg : h.t.get i with
    | none => simp [hg] at hf
    | some b =>
      cases b with
      | iter _ _ => simp [hg] at hf
      | dead => simp [hg] at hf
      | out _ => simp [hg] at hf
      | cells cs =>
        simp only [hg] at hf
        cases n with
        | zero => simp at hf
        | succ n =>
          simp only at hf
          injection hf with e1 e2; subst e1; subst e2
          have hv' := hv
          simp only [VR] at hv
          obtain ⟨p, ad, c, hp, rfl, hnc, hc⟩ := hv
          rcases hc with h0 | ⟨rfl, hcap⟩
          · omega
          have hF := on_get (φ := φ) hg
          obtain ⟨p', cc, tt, fr, f1, f2, f3, f4, f5, f6, f7⟩ := hS.ok i _ hF
          rw [hp] at f1; injection f1 with f1; subst f1
          have hsh : w.shape? (⟨p.b, p.o + of, none⟩ : Addr).block = some (tt, cc.size) := by simp [World.shape?, f2]
          obtain ⟨g1, g2, g3⟩ := freeze_row f2
          have hsoft : Soft cc fr → Soft cc (if fr.1 == fr.2 then (cc.size, cc.size + 1) else (min fr.1 cc.size, max fr.2 (cc.size + 1))) := fun hh => by
            unfold Soft at *
            right
            split
            · exact Nat.le_refl _
            · next hne =>
              simp only [beq_iff_eq] at hne
              rcases hh with hh | hh
              · exact absurd hh hne
              · show cc.size ≤ min fr.1 cc.size; omega
          refine ⟨.slice (some ⟨p.b, p.o + of, none⟩) (n + 1) c, w.freeze ⟨p.b, cc.size, none⟩ 1, ρ, .inl ?_, Grow.refl _ _, ?_, hv'⟩
          · simp only [execOp, ho, hux, convert, Sem.run_bind, run_underlying h1, run_underlying h3, Result.andThen_ok, beq_self_eq_true, mark_run hsh, Sem.run_pure]
          · have hw := hS.write (w' := w.freeze ⟨p.b, cc.size, none⟩ 1) (k' := .cells cs) hF rfl hp f2 g1 rfl hsoft (fun b hb => g2 b hb) (fun x _ => rfl)
              ⟨p, cc, tt, _, hp, g1, hsoft f3, f4, f5, f6, f7⟩ (cells_no _) (freeze_keeps _ _ _)
            have hsame : upd (h.on φ) i (.cells cs) = h.on φ := by
              funext j
              by_cases hj : j = i
              · subst hj; rw [upd_same, hF]
              · rw [upd_ne _ _ hj]
            rwa [hsame] at hw
  · cases hf
theorem makeSlice_ok (hT : TysOk P G.tys) (t : TypeId) (x y : Operand) (ho : o.op = .makeSlice t x y) : COk P o (cOp G (.makeSlice t x y)) := by
  simp only [cOp]
  split
  · next ti hti =>
    obtain ⟨inf, z, hty⟩ := hT t ti hti
    have hk := hty.k
    split
    · next el hkk =>
      have hu : P.underlying t = some (.slice el) := by rw [hkk] at hk; exact hk
      split
      · next te hte =>
        obtain ⟨inf2, z2, hty2⟩ := hT el te hte
        cases hb : Nat.blt 0 te.size && Nat.blt te.bytes 65536 with
        | false => trivial
        | true =>
          simp only [Bool.and_eq_true] at hb
          have hsz := bltT hb.1
          have hby := bltT hb.2
          simp only [cond_true]
          refine ef2_ok fun ρ φ a w v v' r u u' h h' hux huy hv hv' hS hf hfr => ?_
          unfold mkslF at hf
          split at hf
          · next ln cn hl hc =>
            cases hbb : Nat.ble ln cn && Nat.blt (cn * te.size) 65536 && Nat.blt cn 65536 with
            | false => simp [hbb] at hf
            | true =>
              simp only [hbb, cond_true] at hf
              injection hf with e1 e2; subst e1; subst e2
              simp only [Bool.and_eq_true] at hbb
              have hlc := Nat.le_of_ble_eq_true hbb.1.1
              have hcs := bltT hbb.1.2
              have hcn := bltT hbb.2
              have hnat : ∀ {v : AV} {u : Value} {n : Nat}, VR ρ v u → natV v = some n → ∃ K, u = .int K (n : Int) := fun {v u n} hv hn => by
                unfold natV at hn
                split at hn
                · injection hn with hn; subst hn
                  simp only [VR] at hv
                  obtain ⟨K, _, rfl⟩ := hv
                  exact ⟨K, rfl⟩
                · cases hn
              obtain ⟨K1, rfl⟩ := hnat hv hl
              obtain ⟨K2, rfl⟩ := hnat hv' hc
              have hn1 := hfr.one
              have hz := hty2.zs ρ
              have hzl : z2.cells.size = te.size := by have := hz.len; simpa [hty2.len] using this
              have hrep := rep_vrs hz cn (cn * te.size) (by rw [hty2.len]; exact hsz) (by rw [hty2.len])
              have hwl := wrap_nat (show ln < 65536 by omega)
              have hwc := wrap_nat hcn
              have hb0 : inf2.bytes < 65536 := by rw [hty2.bytes]; exact hby
              have hbig : inf2.bytes * cn ≤ 281474976710656 := Nat.le_trans (Nat.mul_le_mul (Nat.le_of_lt hb0) (Nat.le_of_lt hcn)) (by omega)
              have hbigI : ¬ ((281474976710656 : Int) < (inf2.bytes : Int) * (cn : Int)) := by
                have : ((inf2.bytes * cn : Nat) : Int) ≤ 281474976710656 := by omega
                rw [Int.natCast_mul] at this; omega
              have hneg1 : ¬ ((cn : Int) < 0) := by omega
              have hneg2 : ¬ ((ln : Int) < 0) := by omega
              have hle : ¬ ((cn : Int) < (ln : Int)) := by omega
              refine ⟨.slice (some ⟨w.heap.size, 0, none⟩) ln cn, w.alloc (.cells ((Array.range (cn * te.size)).map (fun i => z2.cells[i % z2.cells.size]!)) el), upd ρ h.n ⟨w.heap.size, 0, cn * te.size⟩, .inl ?_, Grow.new hn1, ?_, ?_⟩
              · simp only [execOp, ho, hux, huy]
                by_cases h0 : cn * te.size = 0
                · have hcn0 : cn = 0 := by
                    rcases Nat.eq_zero_or_pos cn with hh | hh
                    · exact hh
                    · have := Nat.mul_pos hh hsz; omega
                  subst hcn0
                  have hln0 : ln = 0 := by omega
                  subst hln0
                  simp [Instr.makeSlice, run_underlying hu, asInt, asIntOf, typeInfo, hty2.info, sizeOf, hty2.size, newRow, show IntKind.i64.wrap (0 : Int) = 0 from rfl]
                  congr 2
                  simp
                · simp [Instr.makeSlice, run_underlying hu, asInt, asIntOf, typeInfo, hty2.info, sizeOf, hty2.size, zeroValue, hty2.zero, newRow, hwl, hwc, hneg1, hneg2, hle, hbigI, h0]
              · rw [on_new]
                refine hS.row hn1 _ el _ _ (by simp) ?_ (repL_one _ hty2.ones cn) hrep.cells
                rw [repL_len, hty2.len]; exact Nat.le_refl _
              · simp only [VR]
                exact ⟨_, _, _, upd_same _ _ _, rfl, ⟨hlc, by omega⟩, .inr ⟨by simp, by simp⟩⟩
          · cases hf
      · trivial
    · trivial
  · trivial
end
end Go.Proofs.YtibakihcicfeoaaGreat.Ev
/- The evaluator's iterators and calls against the model's; all operations. No condition. -/
namespace Go.Proofs.YtibakihcicfeoaaGreat.Ev
open Go.RowKit
section
variable {P : Program} {o : Oper} {G : Cx}

theorem range_ok (hT : TysOk P G.tys) (t : TypeId) (x : Operand) (ho : o.op = .range t x) : COk P o (cOp G (.range t x)) := by
  simp only [cOp]
  split
  · next ti hti =>
    obtain ⟨inf, z, hty⟩ := hT t ti hti
    have hk := hty.k
    split
    · next hkk =>
      have hu : P.underlying t = some .string := by rw [hkk] at hk; exact hk
      refine ef1_ok fun ρ φ a w v r u h h' hux hv hS hf hfr => ?_
      unfold rangeF at hf
      split at hf
      · next s =>
        injection hf with e1 e2; subst e1; subst e2
        simp only [VR] at hv
        obtain ⟨bs, rfl, hbs⟩ := hv
        have hn1 := hfr.one
        refine ⟨.pointer (some ⟨w.heap.size, 0, none⟩), w.iter bs 0, upd ρ h.n ⟨w.heap.size, 0, 1⟩, .inl ?_, Grow.new hn1, ?_, ?_⟩
        · simp only [execOp, ho, hux, run_range_string w t bs hu, Sem.run_bind, Result.andThen_ok, Sem.run_pure]
        · rw [on_new]
          refine hS.fresh hn1 (ob := .stringIter bs 0) rfl ?_ rfl
          exact ⟨_, bs, upd_same _ _ _, rfl, rfl, World.iter_heap w bs 0, hbs⟩
        · simp only [VR]; exact ⟨_, upd_same _ _ _, rfl⟩
      · cases hf
    · trivial
  · trivial
theorem Sim.step {ρ : Pm} {F : Nat → Option Blk} {w : World} (H : Sim ρ F w) {i pos pos' : Nat} {l : List Nat} {p : Pl} {t : ByteArray} (hF : F i = some (.iter l pos)) (hp : ρ i = some p)
    (hb : w.heap[p.b]? = some (.stringIter t pos)) (hl : t.data.toList.map UInt8.toNat = l) (ho : p.o = 0) (hc : p.cap = 1) :
    Sim ρ (upd F i (.iter l pos')) { w with heap := w.heap.setIfInBounds p.b (.stringIter t pos') } := by
  have hlt : p.b < w.heap.size := (Array.getElem?_eq_some_iff.1 hb).1
  have hother : ∀ b, b ≠ p.b → (w.heap.setIfInBounds p.b (.stringIter t pos'))[b]? = w.heap[b]? := fun b hne => by
    rw [Array.getElem?_setIfInBounds_ne (Ne.symm hne)]
  refine ⟨fun j k hj => ?_, fun a b k m q r hab ha hb' hl' hm hq hr => ?_, fun a w0 ha j k q hj hl' hq => ?_⟩
  · by_cases hji : j = i
    · subst hji
      rw [upd_same] at hj; injection hj with hj; subst hj
      refine ⟨p, t, hp, ho, hc, ?_, hl⟩
      show (w.heap.setIfInBounds p.b _)[p.b]? = _
      simp [hlt]
    · rw [upd_ne _ _ hji] at hj
      refine (H.ok j k hj).kept (fun q hq hlv => hother q.b fun he => ?_) fun w0 he => ?_
      rotate_left
      · subst he
        have h0 : Below w0.heap.size w0 w := H.ok j _ hj
        refine ⟨h0.os, h0.tape, h0.output, by show _ ≤ (w.heap.setIfInBounds p.b _).size; rw [Array.size_setIfInBounds]; exact h0.size, fun b hb' => (hother b fun he => ?_).trans (h0.block b hb')⟩
        have := H.out j w0 hj i _ p hF rfl hp
        omega
      have ap := H.apart j i k _ q p hji hj hF hlv rfl hq hp he
      have hcap : 0 < q.cap ∧ q.o = 0 := by
        have hok := H.ok j k hj
        cases k with
        | dead => cases hlv
        | out _ => cases hlv
        | cells cs =>
          obtain ⟨q', c, tt, fr, e1, e2, _⟩ := hok
          rw [hq] at e1; injection e1 with e1; subst e1
          rw [he, hb] at e2; cases e2
        | iter l2 pos2 =>
          obtain ⟨q', t2, e1, e2, e3, _⟩ := hok
          rw [hq] at e1; injection e1 with e1; subst e1
          exact ⟨by omega, e2⟩
      exact ap 0 0 hcap.1 (by omega) (by omega)
  · have look : ∀ {x : Nat} {y : Blk}, upd F i (.iter l pos') x = some y → isLive y = true → ∃ y', F x = some y' ∧ isLive y' = true := fun {x y} hx hy => by
      by_cases hxi : x = i
      · subst hxi; exact ⟨_, hF, rfl⟩
      · rw [upd_ne _ _ hxi] at hx; exact ⟨y, hx, hy⟩
    obtain ⟨k', hk1, hk2⟩ := look ha hl'
    obtain ⟨m', hm1, hm2⟩ := look hb' hm
    exact H.apart a b k' m' q r hab hk1 hm1 hk2 hm2 hq hr
  · by_cases hai : a = i
    · subst hai; rw [upd_same] at ha; cases ha
    rw [upd_ne _ _ hai] at ha
    by_cases hji : j = i
    · subst hji
      exact H.out a w0 ha j _ q hF rfl hq
    · rw [upd_ne _ _ hji] at hj
      exact H.out a w0 ha j k q hj hl' hq
theorem next_ok (x : Operand) (ho : o.op = .next x true) : COk P o (ef1 x nextF) := by
  refine ef1_ok fun ρ φ a w v r u h h' hux hv hS hf hfr => ?_
  unfold nextF at hf
  split at hf
  · next i =>
    cases hg : h.t.get i with
    | none => simp [hg] at hf
    | some b =>
      cases b with
      | cells _ => simp [hg] at hf
      | dead => simp [hg] at hf
      | out _ => simp [hg] at hf
      | iter s pos =>
        simp only [hg] at hf
        have hF := on_get (φ := φ) hg
        obtain ⟨p, t, e1, e2, e3, e4, e5⟩ := hS.ok i _ hF
        simp only [VR] at hv
        obtain ⟨p', hp, rfl⟩ := hv
        rw [e1] at hp; injection hp with hp; subst hp
        have hsz : t.size = s.length := by rw [← e5]; simp
        have hp0 : p.o + 0 = 0 := by omega
        rw [hp0] at hux
        rw [nthL_eq] at hf
        cases hq : s[pos]? with
        | none =>
          simp only [hq] at hf
          injection hf with e6 e7; subst e6; subst e7
          have hnot : ¬ pos < t.size := by rw [hsz]; intro hh; rw [List.getElem?_eq_getElem hh] at hq; cases hq
          refine ⟨.tuple #[.bool false], w, ρ, .inl ?_, Grow.refl _ _, hS, ?_⟩
          · have hr : (Instr.next (.pointer (some ⟨p.b, 0, none⟩)) true o.type).run P w = .ok (.tuple #[.bool false]) w := by
              simp [Instr.next, getObj, Sem.run, e4, hnot]
            simp only [execOp, ho, hux, hr, Sem.run_bind, Result.andThen_ok, Sem.run_pure]
          · simp only [VR]; exact ⟨_, rfl, VRs.cons (by simp only [VR]) VRs.nil⟩
        | some b =>
          simp only [hq] at hf
          cases hb : Nat.blt b 128 with
          | false => simp [hb] at hf
          | true =>
            simp only [hb, cond_true] at hf
            injection hf with e6 e7; subst e6; subst e7
            have hlt : pos < t.size := by rw [hsz]; exact (List.getElem?_eq_some_iff.1 hq).1
            have hbq : (t[pos]'hlt).toNat = b := by
              rw [← e5, List.getElem?_map] at hq
              have : t.data.toList[pos]? = some (t[pos]'hlt) := by
                rw [List.getElem?_eq_getElem (by simpa using hlt)]
                rfl
              rw [this] at hq
              injection hq
            have hda := decode_ascii t pos hlt (by rw [hbq]; exact bltT hb)
            refine ⟨.tuple #[.bool true, .int .i64 (pos : Int), .int .i32 (b : Int)], { w with heap := w.heap.setIfInBounds p.b (.stringIter t (pos + 1)) }, ρ, .inl ?_, Grow.set, ?_, ?_⟩
            · have hr : (Instr.next (.pointer (some ⟨p.b, 0, none⟩)) true o.type).run P w = .ok (.tuple #[.bool true, .int .i64 (pos : Int), .int .i32 (b : Int)]) { w with heap := w.heap.setIfInBounds p.b (.stringIter t (pos + 1)) } := by
                simp [Instr.next, getObj, setObj, Sem.run, e4, hlt, hda, hbq, goInt]
              simp only [execOp, ho, hux, hr, Sem.run_bind, Result.andThen_ok, Sem.run_pure]
            · rw [on_set]
              exact hS.step hF e1 e4 e5 e2 e3
            · simp only [VR]
              exact ⟨_, rfl, VRs.cons (by simp only [VR]) (VRs.cons (VR.int_to .i64 _) (VRs.cons (VR.int_to .i32 _) VRs.nil))⟩
  · cases hf
theorem appL_eq (l m : List AV) : appL l m = l ++ m := by
  induction l with
  | nil => rfl
  | cons a l ih => simp [appL, ih]
theorem cCall_eq (f : Operand) (args : List Operand) : cCall f args = .call fun e => (match (cX f).get e with
    | some (.fn i cap) => (match getsF e (cX1 args) with
      | some l => some (i, appL l cap)
      | none => none)
    | _ => none) := by unfold cCall; cases cX f; rfl
theorem call_ok (c : Call) (f : Operand) (hc : c.callee = .value f) (ho : o.op = .call c) : COk P o (cCall f c.args.toList) := by
  rw [cCall_eq]
  intro ρ e a g args hE hf
  cases hx : (cX f).get e with
  | none => simp [hx] at hf
  | some v =>
    cases v with
    | fn i cap =>
      simp only [hx] at hf
      cases hl : getsF e (cX1 c.args.toList) with
      | none => simp [hl] at hf
      | some l =>
        simp only [hl] at hf
        injection hf with hf
        injection hf with e1 e2; subst e1; subst e2
        have hv := cX_ok hE hx
        simp only [VR] at hv
        obtain ⟨ds, hfv, hds⟩ := hv
        refine ⟨c.args.toList.map a.eval ++ ds, by rw [appL_eq]; exact (getsF_ok hE _ l hl).app hds, fun w => ?_⟩
        simp only [execOp, ho, resolve, hc, Deferred.ofValue, hfv, Sem.run_bind, Sem.run_pure, Result.andThen_ok, invoke]
        congr 2
        apply Array.ext'
        simp
    | _ => simp [hx] at hf
theorem defer_ok (c : Call) (f : Operand) (hc : c.callee = .value f) (ho : o.op = .defer c) : COk P o (cDefer f c.args.toList) := by
  unfold cDefer
  split
  · next g hg hargs =>
    intro ρ e a i hE hf
    cases hx : g e with
    | none => simp [hx] at hf
    | some v =>
      cases v with
      | fn i' cap =>
        simp only [hx] at hf
        split at hf
        · next c0 heq =>
          injection hf with hf; subst hf
          injection heq with heq
          injection heq with e1 e2; subst e1; subst e2
          have hv := cX_ok hE (x := f) (v := .fn i' [c0]) (by rw [hg]; exact hx)
          simp only [VR] at hv
          obtain ⟨ds, hfv, hds⟩ := hv
          simp only [VRs] at hds
          obtain ⟨d, r, rfl, _, rfl⟩ := hds
          refine ⟨d, fun w => ?_⟩
          have ha : c.args = #[] := Array.ext' hargs
          simp only [execOp, ho, resolve, hc, Deferred.ofValue, hfv, Sem.run_bind, Sem.run_pure, Result.andThen_ok, ha]
          simp
        · cases hf
      | _ => simp [hx] at hf
  · trivial
theorem builtin_ok (hT : TysOk P G.tys) (c : Call) (b : Builtin) (hc : c.callee = .builtin b) (ho : o.op = .call c) : COk P o (cBuiltin G b c.args.toList c.argTypes.toList) := by
  have arr : ∀ {α : Type} {a : Array α} {l : List α}, a.toList = l → a = l.toArray := fun h => by rw [← h]
  generalize ha : c.args.toList = as
  generalize hat : c.argTypes.toList = ts
  unfold cBuiltin
  split
  · next x t =>
    split
    · next ti hti =>
      have h := pureBuiltin_ok hT c _ hc ho x t (arr ha) (arr hat) ti hti
      split
      · next el hk => exact h.1 rfl ⟨el, hk⟩
      · next hk => exact h.2.1 rfl hk
      · trivial
    · trivial
  · next x t =>
    split
    · next ti hti =>
      have h := pureBuiltin_ok hT c _ hc ho x t (arr ha) (arr hat) ti hti
      split
      · next el hk => exact h.2.2 rfl ⟨el, hk⟩
      · trivial
    · trivial
  · next x y => exact (minmax_ok c _ hc ho x y (arr ha)).1 rfl
  · next x y => exact (minmax_ok c _ hc ho x y (arr ha)).2 rfl
  · next x y t u =>
    have := append_ok hT c hc ho x y t u (arr ha) (arr hat)
    unfold cBuiltin at this
    exact this
  · next x y t u =>
    have := copy_ok hT c hc ho x y t u (arr ha) (arr hat)
    unfold cBuiltin at this
    exact this
  · trivial
theorem cConv_ok (hT : TysOk P G.tys) (s d : TypeId) (x : Operand) (ho : o.op = .convert s d x) : COk P o (cConv G s d x) := by
  unfold cConv
  split
  · next ts td hs hd =>
    split
    · next K k hk hkd => exact (conv_ok hT s d x ho ts td hs hd K hk).1 k hkd
    · next K hk hkd => exact (conv_ok hT s d x ho ts td hs hd K hk).2 hkd
    · next el hk hkd =>
      split
      · next te he =>
        split
        · next hke => exact b2s_ok hT s d x ho ts td te hs hd el hk hkd he hke
        · trivial
      · trivial
    · next el hk hkd =>
      split
      · next te he =>
        split
        · next hke =>
          cases hb : Nat.beq te.size 1 with
          | false => trivial
          | true => exact s2b_ok hT s d x ho ts td te hs hd el hk hkd he hke
        · trivial
      · trivial
    · next el e2 hk hkd =>
      split
      · next te he =>
        split
        · next hke =>
          cases hb : Nat.beq s d with
          | false => trivial
          | true =>
            have := beqT hb
            subst this
            exact markF_ok hT s x ho ts te hs el hk he hke
        · trivial
      · trivial
    · trivial
  · trivial
/-- **Every operation that the evaluator carries out is the model's.** -/
theorem cOp_ok (hT : TysOk P G.tys) (o : Oper) : COk P o (cOp G o.op) := by
  cases ho : o.op with
  | move x => exact move_ok x ho
  | assign x => exact assign_ok x ho
  | pick c x y => exact pick_ok c x y ho
  | build t parts => exact build_ok hT t parts ho
  | nilCheck x => exact nilF_ok x ho
  | binOp op t x y yt => exact cBin_ok hT op t yt x y ho
  | unOp op t x =>
    cases op with
    | not => exact notF_ok x t ho
    | _ => trivial
  | convert s d x => exact cConv_ok hT s d x ho
  | makeFunc fn first cap =>
    cases fn with
    | func f =>
      obtain ⟨l⟩ := first
      obtain ⟨c⟩ := cap
      cases l with
      | nil => exact makeFunc_ok f c ho
      | cons _ _ => trivial
    | _ => trivial
  | slice t x lo hi mx => exact slice_ok hT t x lo hi mx ho
  | fieldAddr t x f => exact fieldAddr_ok hT t x f ho
  | field t x f => exact field_ok hT t x f ho
  | indexAddr t x y => exact indexAddr_ok hT t x y ho
  | index t x y => exact index_ok hT t x y ho
  | extract x i => exact extF_ok x i ho
  | load t x =>
    simp only [cOp]
    split
    · next ti hti =>
      cases ha : ti.k.isAgg with
      | true => exact loadN_ok hT t x ho ti hti ha
      | false => exact load1_ok hT t x ho ti hti ha
    · trivial
  | alloc t => exact alloc_ok hT t ho
  | box t x => exact box_ok hT t x ho
  | buildSlice t n parts => exact buildSlice_ok hT t n parts ho
  | store t x y =>
    simp only [cOp]
    split
    · next ti hti => exact store_ok hT t x y ho ti hti
    · trivial
  | makeSlice t x y => exact makeSlice_ok hT t x y ho
  | range t x => exact range_ok hT t x ho
  | next x s =>
    cases s with
    | true => exact next_ok x ho
    | false => trivial
  | call c =>
    simp only [cOp]
    split
    · next f hc => exact call_ok c f hc ho
    · next b hc => exact builtin_ok hT c b hc ho
    · trivial
  | defer c =>
    simp only [cOp]
    split
    · next f hc => exact defer_ok c f hc ho
    · trivial
  | _ => trivial
end
end Go.Proofs.YtibakihcicfeoaaGreat.Ev
/- The evaluator's regions in the order of the text against the model's. No condition. -/
namespace Go.Proofs.YtibakihcicfeoaaGreat.Ev

/-! ### Numbers of blocks only grow -/
/-- Just the numbers below the next one have a block. -/
def Wf (h : Hp) : Prop := ∀ j, (h.t.get j).isSome = decide (j < h.n)
def Good (h h' : Hp) : Prop := h.n ≤ h'.n ∧ (Wf h → Wf h')
theorem Good.refl (h : Hp) : Good h h := ⟨Nat.le_refl _, id⟩
theorem Good.trans {h h' h'' : Hp} (a : Good h h') (b : Good h' h'') : Good h h'' := ⟨Nat.le_trans a.1 b.1, fun w => b.2 (a.2 w)⟩
theorem get_new (h : Hp) (b : Blk) (j : Nat) : (h.new b).t.get j = if j = h.n then some b else h.t.get j := by
  cases h with
  | mk t n => exact Tr.get_put b (n + 1) t n j Nat.lt_two_pow_self
theorem get_set (h : Hp) (i : Nat) (b : Blk) (j : Nat) : (h.set i b).t.get j = if j = i then some b else h.t.get j := by
  cases h with
  | mk t n => exact Tr.get_put b (i + 1) t i j Nat.lt_two_pow_self
theorem good_new (h : Hp) (b : Blk) : Good h (h.new b) := ⟨by rw [n_new]; omega, fun w j => by
  rw [get_new, n_new]
  by_cases hj : j = h.n
  · rw [if_pos hj]; simp; omega
  · rw [if_neg hj, w j]
    rw [decide_eq_decide]; omega⟩
theorem good_set {h : Hp} {i : Nat} {b : Blk} (hg : h.t.get i = some b) (b' : Blk) : Good h (h.set i b') := ⟨by rw [n_set]; exact Nat.le_refl _, fun w j => by
  rw [get_set, n_set]
  by_cases hj : j = i
  · subst hj
    rw [if_pos rfl]
    have := w j
    rw [hg] at this
    simpa using this
  · rw [if_neg hj, w j]⟩
def EffM : CO → Prop
  | .eff f => ∀ e h v h', f e h = .ok v h' → Good h h'
  | _ => True
theorem ef1_m {x : Operand} {f : AV → Hp → RA} (H : ∀ v h r h', f v h = .ok r h' → Good h h') : EffM (ef1 x f) := by
  rw [ef1_eq]
  intro e h v h' hf
  cases hx : (cX x).get e with
  | none => simp only [hx] at hf; cases hf
  | some y => simp only [hx] at hf; exact H _ _ _ _ hf
theorem ef2_m {x y : Operand} {f : AV → AV → Hp → RA} (H : ∀ v v' h r h', f v v' h = .ok r h' → Good h h') : EffM (ef2 x y f) := by
  rw [ef2_eq]
  intro e h v h' hf
  cases hx : (cX x).get e with
  | none => simp only [hx] at hf; cases hf
  | some a =>
    cases hy : (cX y).get e with
    | none => simp only [hx, hy] at hf; cases hf
    | some b => simp only [hx, hy] at hf; exact H _ _ _ _ _ hf
theorem un_m {x : Operand} {f : AV → Option AV} : EffM (un x f) := by rw [un_eq]; trivial
theorem bi_m {x y : Operand} {f : AV → AV → Option AV} : EffM (bi x y f) := by rw [bi_eq]; trivial
theorem rd_m {k : Nat} {x : Operand} {f : AV → Option (Nat × Nat × Nat)} : EffM (rd k x f) := by rw [rd_eq]; trivial
theorem appV_m {h h' : Hp} {sz n : Nat} {s r : AV} {news : List AV} (hf : appV h sz s news n = .ok r h') : Good h h' := by
  unfold appV at hf
  repeat' split at hf
  all_goals first
    | cases hf
    | skip
  all_goals first
    | exact Good.refl _
    | exact good_new _ _
    | skip
  all_goals
    rename_i cs _ olds _
    revert hf
    generalize (Nat.beq _ _ && Nat.blt _ _) = b
    intro hf
    cases b with
    | false => cases hf
    | true => injection hf with e1 e2; subst e2; exact (good_set (by assumption) _).trans (good_new _ _)
theorem bif_ok {b : Bool} {x : RA} {r : AV} {h : Hp} (hf : (bif b then x else .no) = .ok r h) : x = .ok r h := by cases b <;> first | exact hf | cases hf
theorem cBin_m {G : Cx} {op : BinOp} {t : TypeId} {x y : Operand} : EffM (cBin G op t x y) := by
  unfold cBin cBinI
  repeat' split
  all_goals first
    | exact bi_m
    | trivial
theorem bifM {b : Bool} {x : CO} (h : EffM x) : EffM (bif b then x else .bad) := by cases b <;> first | exact h | trivial
theorem badM : EffM .bad := trivial
theorem s2b_m {x : Operand} : EffM (ef1 x s2bF) := ef1_m fun v h r h' hf => by
  unfold s2bF at hf
  split at hf
  · have := bif_ok hf; injection this with e1 e2; subst e2; exact good_new _ _
  · cases hf
theorem mark_m {x : Operand} : EffM (ef1 x markF) := ef1_m fun v h r h' hf => by
  unfold markF at hf
  repeat' split at hf
  all_goals first
    | (cases hf; done)
    | (injection hf with e1 e2; subst e2; exact Good.refl _)
theorem appMk_m {x y : Operand} {sz : Nat} {z : List AV} : EffM (ef2 x y (appMk sz z)) := ef2_m fun v v' h r h' hf => by
  unfold appMk at hf
  split at hf
  · exact appV_m (bif_ok hf)
  · cases hf
theorem appSl_m {x y : Operand} {sz : Nat} : EffM (ef2 x y (appSl sz)) := ef2_m fun v v' h r h' hf => by
  unfold appSl at hf
  split at hf
  · have := bif_ok hf
    split at this
    · exact appV_m this
    · cases this
  · cases hf
theorem appSt_m {x y : Operand} : EffM (ef2 x y appSt) := ef2_m fun v v' h r h' hf => by
  unfold appSt at hf
  split at hf
  · exact appV_m (bif_ok hf)
  · cases hf
theorem copy_m {x y : Operand} {sz : Nat} : EffM (ef2 x y (copyF sz)) := ef2_m fun v v' h r h' hf => by
  unfold copyF at hf
  split at hf
  · next si i o m s j p n =>
    split at hf
    · generalize Nat.blt 0 m = b at hf
      cases b with
      | false => injection hf with e1 e2; subst e2; exact Good.refl _
      | true =>
        simp only [cond_true] at hf
        split at hf
        · injection hf with e1 e2; subst e2; exact good_set (by assumption) _
        · cases hf
    · cases hf
  · cases hf
theorem store_m {x y : Operand} {n : Nat} : EffM (ef2 x y (storeF n)) := ef2_m fun v v' h r h' hf => by
  unfold storeF at hf
  repeat' split at hf
  all_goals first
    | (cases hf; done)
    | (injection hf with e1 e2; subst e2; exact good_set (by assumption) _)
theorem mksl_m {x y : Operand} {sz : Nat} {z : List AV} : EffM (ef2 x y (mkslF sz z)) := ef2_m fun v v' h r h' hf => by
  unfold mkslF at hf
  split at hf
  · have := bif_ok hf; injection this with e1 e2; subst e2; exact good_new _ _
  · cases hf
theorem range_m {x : Operand} : EffM (ef1 x rangeF) := ef1_m fun v h r h' hf => by
  unfold rangeF at hf
  split at hf
  · injection hf with e1 e2; subst e2; exact good_new _ _
  · cases hf
theorem next_m {x : Operand} : EffM (ef1 x nextF) := ef1_m fun v h r h' hf => by
  unfold nextF at hf
  repeat' split at hf
  all_goals first
    | (cases hf; done)
    | (injection hf with e1 e2; subst e2; exact Good.refl _)
    | (have := bif_ok hf; injection this with e1 e2; subst e2; exact good_set (by assumption) _)
theorem cConv_m {G : Cx} {s d : TypeId} {x : Operand} : EffM (cConv G s d x) := by
  unfold cConv
  repeat' split
  all_goals first
    | exact un_m
    | exact rd_m
    | exact badM
    | exact bifM s2b_m
    | exact bifM mark_m
theorem cBuiltin_m {G : Cx} {b : Builtin} {l : List Operand} {ts : List TypeId} : EffM (cBuiltin G b l ts) := by
  unfold cBuiltin
  repeat' split
  all_goals first
    | exact un_m
    | exact bi_m
    | exact badM
    | exact bifM badM
    | exact bifM appMk_m
    | exact bifM appSl_m
    | exact bifM (bifM appSt_m)
    | exact bifM copy_m
theorem cBuild_m {G : Cx} {t : TypeId} {l : List (Nat × Operand)} : EffM (cBuild G t l) := by
  unfold cBuild
  repeat' split
  all_goals trivial
theorem cSlice_m {G : Cx} {t : TypeId} {x : Operand} {a b c : Option Operand} : EffM (cSlice G t x a b c) := by
  unfold cSlice
  repeat' split
  all_goals trivial
theorem cOp_m {G : Cx} (o : Op) : EffM (cOp G o) := by
  cases o with
  | move x => exact un_m
  | assign x => exact un_m
  | pick c x y =>
    simp only [cOp]
    generalize cX c = c', cX x = x', cX y = y'
    cases c'; cases x'; cases y'; trivial
  | build t parts => exact cBuild_m
  | nilCheck x => exact un_m
  | binOp op t x y yt => exact cBin_m
  | unOp op t x => cases op <;> first | exact un_m | trivial
  | convert s d x => exact cConv_m
  | makeFunc fn first cap =>
    cases fn with
    | func f =>
      obtain ⟨l⟩ := first
      obtain ⟨c⟩ := cap
      cases l <;> trivial
    | _ => trivial
  | slice t x lo hi mx => exact cSlice_m
  | fieldAddr t x f =>
    simp only [cOp]
    repeat' split
    all_goals first
      | trivial
      | (generalize Nat.beq _ _ = b; cases b <;> first | trivial | exact un_m)
  | field t x f =>
    simp only [cOp]
    repeat' split
    all_goals first
      | trivial
      | exact un_m
  | indexAddr t x y =>
    simp only [cOp]
    repeat' split
    all_goals first
      | trivial
      | exact bi_m
  | index t x y =>
    simp only [cOp]
    repeat' split
    all_goals first
      | trivial
      | exact bi_m
  | extract x i => exact un_m
  | load t x =>
    simp only [cOp]
    split
    · rename_i ti _
      cases ti.k.isAgg <;> exact rd_m
    · trivial
  | alloc t =>
    simp only [cOp]
    split <;> trivial
  | box t x =>
    simp only [cOp]
    generalize cX x = c'
    cases c'
    split <;> trivial
  | buildSlice t n parts =>
    simp only [cOp]
    repeat' split
    all_goals first
      | trivial
      | (refine bifM ?_; trivial)
  | store t x y =>
    simp only [cOp]
    split
    · exact store_m
    · trivial
  | makeSlice t x y =>
    simp only [cOp]
    repeat' split
    all_goals first
      | trivial
      | exact bifM mksl_m
  | range t x =>
    simp only [cOp]
    repeat' split
    all_goals first
      | trivial
      | exact range_m
  | next x s => cases s <;> first | exact next_m | trivial
  | call c =>
    simp only [cOp]
    split
    · rw [cCall_eq]; trivial
    · exact cBuiltin_m
    · trivial
  | defer c =>
    simp only [cOp]
    split
    · unfold cDefer
      split <;> trivial
    · trivial
  | _ => trivial
end Go.Proofs.YtibakihcicfeoaaGreat.Ev
