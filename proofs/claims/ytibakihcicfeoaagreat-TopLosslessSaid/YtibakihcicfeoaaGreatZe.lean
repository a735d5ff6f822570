/- The evaluator's regions in the order of the text against the model's. No condition. -/
import Derived.Test.YtibakihcicfeoaaGreatZd
import Derived.Defers
import Derived.Orders
namespace Go.Proofs.YtibakihcicfeoaaGreat.Ev

def ClM (cl : Cl) : Prop := ∀ g args h v h', cl g args h = .ok v h' → Good h h'
/-- The calls that the evaluator makes are the model's. -/
def ClOk (P : Program) (cl : Cl) : Prop := ∀ g args h v h', cl g args h = .ok v h' → Wf h → ∀ (ρ : Pm) (φ : Nat → Option Blk) (w : World) (us : List Value), VRs ρ args us → Sim ρ (h.on φ) w → Free ρ h h' →
  (callFunc g us.toArray).run P w = .ok (.enter g us.toArray) w ∧
  Calls P g us.toArray w fun e w' => ∃ u ρ', e = .returned u ∧ Grow ρ ρ' h h' ∧ Sim ρ' (h'.on φ) w' ∧ VR ρ' v u
/-- A deferred call that does nothing as long as nobody panics. -/
def Harm (P : Program) (d : Deferred) : Prop := ∃ fv cap f args, d.target = .fn fv cap ∧ (∀ w, (invoke d.target d.args).run P w = .ok (.enter f args) w) ∧
  ∀ w, CallsD P f args .returning w fun e u' w' => (∃ v, e = .returned v) ∧ u' = .returning ∧ w' = w
def DfrG (P : Program) (dfr : Nat → Bool) : Prop := ∀ g, dfr g = true → ∀ c : Value, Harm P { target := .fn (.func g) #[c], args := #[] }
def HD (P : Program) (a : Act) : Prop := ∀ d ∈ a.defers, Harm P d

theorem Grow.trans {ρ ρ' ρ'' : Pm} {h h' h'' : Hp} (a : Grow ρ ρ' h h') (b : Grow ρ' ρ'' h' h'') : Grow ρ ρ'' h h'' :=
  ⟨fun i p hi => b.1 i p (a.1 i p hi), fun i hi => (b.2.1 i (fun hh => hi ⟨Nat.le_trans a.2.2 hh.1, hh.2⟩)).trans (a.2.1 i (fun hh => hi ⟨hh.1, Nat.lt_of_lt_of_le hh.2 b.2.2⟩)), Nat.le_trans a.2.2 b.2.2⟩
theorem Free.left {ρ : Pm} {h h' h'' : Hp} (f : Free ρ h h'') (hm : h'.n ≤ h''.n) : Free ρ h h' := fun i h1 h2 => f i h1 (Nat.lt_of_lt_of_le h2 hm)
theorem Free.right {ρ ρ' : Pm} {h h' h'' : Hp} (f : Free ρ h h'') (g : Grow ρ ρ' h h') : Free ρ' h' h'' := fun i h1 h2 => by
  rw [g.2.1 i (fun hh => by omega)]
  exact f i (Nat.le_trans g.2.2 h1) h2
theorem evO_m {G : Cx} {dfr : Nat → Bool} {cl : Cl} (hcl : ClM cl) {o : Op} {e : Tr AV} {h h' : Hp} {v : AV} (hf : evO dfr (cOp G o) cl e h = .ok v h') : Good h h' := by
  have hm := cOp_m (G := G) o
  generalize cOp G o = c at *
  unfold evO at hf
  split at hf
  · split at hf
    · injection hf with e1 e2; subst e2; exact Good.refl _
    · cases hf
  · split at hf
    · split at hf
      · split at hf
        · injection hf with e1 e2; subst e2; exact Good.refl _
        · cases hf
      · cases hf
    · cases hf
  · split at hf
    · injection hf with e1 e2; subst e2; exact good_new _ _
    · cases hf
  · exact hm _ _ _ _ hf
  · split at hf
    · exact hcl _ _ _ _ _ hf
    · cases hf
  · split at hf
    · have := bif_ok hf; injection this with e1 e2; subst e2; exact Good.refl _
    · cases hf
  · cases hf
section
variable {P : Program} {G : Cx} {dfr : Nat → Bool} {cl : Cl}
/-- **One operation.** -/
theorem op_ok (hT : TysOk P G.tys) (hcl : ClOk P cl) (hd : DfrG P dfr) (o : Oper) {e : Tr AV} {h h' : Hp} {v : AV} (hf : evO dfr (cOp G o.op) cl e h = .ok v h') (hwf : isEffC (cOp G o.op) = true → Wf h)
    {ρ : Pm} {φ : Nat → Option Blk} {a : Act} {w : World} (hE : EnvR ρ e a) (hD : HD P a) (hS : Sim ρ (h.on φ) w) (hfr : Free ρ h h') {K : Act → World → Prop} {Q : Exit → Act → World → Prop}
    (hK : ∀ (u : Value) (a' : Act) (w' : World) (ρ' : Pm), a'.tmps = a.tmps → HD P a' → Grow ρ ρ' h h' → Sim ρ' (h'.on φ) w' → VR ρ' v u → K (a'.put o.dst u) w') : o.wp P a w K Q := by
  have hc := cOp_ok (P := P) hT o
  generalize cOp G o.op = c at *
  unfold Oper.wp
  cases c with
  | pure p =>
    simp only [evO] at hf
    cases hp : p e with
    | none => simp [hp] at hf
    | some x =>
      simp only [hp] at hf
      injection hf with e1 e2; subst e1; subst e2
      obtain ⟨u, h1, h2⟩ := hc ρ e a w x hE hp
      rw [h1]
      exact hK u a w ρ rfl hD (Grow.refl _ _) hS h2
  | read k p =>
    simp only [evO] at hf
    cases hp : p e with
    | none => simp [hp] at hf
    | some ion =>
      obtain ⟨i, off, n⟩ := ion
      simp only [hp] at hf
      cases hr : rdAt h i off n with
      | none => simp [hr] at hf
      | some cs =>
        simp only [hr] at hf
        cases hm : madeOf k cs with
        | none => simp [hm] at hf
        | some x =>
          simp only [hm] at hf
          injection hf with e1 e2; subst e1; subst e2
          unfold rdAt at hr
          split at hr
          · next bs hg =>
            obtain ⟨u, h1, h2⟩ := hc ρ (h.on φ) e a w i off n bs cs x hE hS hp (on_get hg) hr hm
            rw [h1]
            exact hK u a w ρ rfl hD (Grow.refl _ _) hS h2
          · cases hr
  | lay s l p =>
    simp only [evO] at hf
    cases hp : p e with
    | none => simp [hp] at hf
    | some cs =>
      simp only [hp] at hf
      injection hf with e1 e2; subst e1; subst e2
      have hn := hfr.one
      obtain ⟨u, w', q, h1, h2, h3⟩ := hc ρ (h.on φ) e a w cs h.n hE hS hp hn
      rw [h1]
      exact hK u a w' _ rfl hD (Grow.new hn) (by rw [on_new]; exact h2) h3
  | eff p =>
    simp only [evO] at hf
    obtain ⟨u, w', ρ', h1, h2, h3, h4⟩ := hc ρ φ e a w v h h' hE hS hf hfr
    rcases h1 with h1 | ⟨h1, rfl⟩
    · rw [h1]; exact hK u a w' ρ' rfl hD h2 h3 h4
    · rw [h1]; exact hK undef a w' ρ' rfl hD h2 h3 h4
  | call p =>
    simp only [evO] at hf
    cases hp : p e with
    | none => simp [hp] at hf
    | some ga =>
      obtain ⟨g, args⟩ := ga
      simp only [hp] at hf
      obtain ⟨us, h1, h2⟩ := hc ρ e a g args hE hp
      obtain ⟨c1, c2⟩ := hcl g args h v h' hf (hwf rfl) ρ φ w us h1 hS hfr
      rw [h2, c1]
      refine Calls.mono c2 fun en w' hR => ?_
      obtain ⟨u, ρ', rfl, r1, r2, r3⟩ := hR
      exact hK u a w' ρ' rfl hD r1 r2 r3
  | dfr p =>
    simp only [evO] at hf
    cases hp : p e with
    | none => simp [hp] at hf
    | some g =>
      simp only [hp] at hf
      cases hg : dfr g with
      | false => simp [hg] at hf
      | true =>
        simp only [hg, cond_true] at hf
        injection hf with e1 e2; subst e1; subst e2
        obtain ⟨c0, h1⟩ := hc ρ e a g hE hp
        rw [h1]
        refine hK undef { a with defers := _ :: a.defers } w ρ rfl (fun d hdm => ?_) (Grow.refl _ _) hS (by simp only [VR]; exact ⟨[], rfl, VRs.nil⟩)
        rcases List.mem_cons.1 hdm with rfl | hdm
        · exact hd g hg c0
        · exact hD d hdm
  | bad => simp [evO] at hf
theorem put_ok {n : Nat} (hn : n < 1000) {dst : Option Tmp} {p : FP} (hp : cPut n dst = some p) {ρ : Pm} {e : Tr AV} {a : Act} {v : AV} {u : Value} (hE : EnvR ρ e a) (hv : VR ρ v u) (hs : a.tmps.size = n) :
    EnvR ρ (p.put e v) (a.put dst u) ∧ (a.put dst u).tmps.size = n ∧ (a.put dst u).defers = a.defers := by
  cases dst with
  | none =>
    simp only [cPut] at hp
    injection hp with hp; subst hp
    exact ⟨hE, hs, rfl⟩
  | some d =>
    simp only [cPut] at hp
    cases hb : Nat.blt d n with
    | false => simp [hb] at hp
    | true =>
      simp only [hb, cond_true] at hp
      injection hp with hp; subst hp
      have hlt : (d : Nat) < n := bltT hb
      exact ⟨hE.put hv (by rw [hs]; exact hlt) (Nat.lt_trans hlt hn), by simp [Act.put, hs], rfl⟩
theorem want_ok {all : List Oper} {o : Oper} {ρ : Pm} {e : Tr AV} {a : Act} (hE : EnvR ρ e a) {b : Bool} (h : (cWant all o).want e = some b) : Region.wanted o (yielded all.toArray a.tmps) = b := by
  unfold cWant at h
  unfold Region.wanted
  split at h
  · next hg => injection h with h; subst h; rw [hg]
  · next j b' hg =>
    rw [hg]
    split at h
    · next oj hoj =>
      rw [nthL_eq] at hoj
      split at h
      · next d hd =>
        have e1 : (match cX (.tmp d) with | ⟨g⟩ => (⟨fun e => wantB b' (g e)⟩ : FW)).want e = wantB b' ((cX (.tmp d)).get e) := by
          generalize cX (.tmp d) = c; cases c; rfl
        rw [e1] at h
        have hy : yielded all.toArray a.tmps j = (match a.tmps[d]? with
            | some (.bool b) => some b
            | _ => none) := by
          unfold yielded
          have : (all.toArray)[j]? = some oj := by simpa using hoj
          rw [this]
          simp only [Option.bind_some, hd]
          rfl
        cases hx : (cX (.tmp d)).get e with
        | none => rw [hx] at h; simp [wantB] at h
        | some v =>
          rw [hx] at h
          have hv := cX_ok hE hx
          simp only [Act.eval] at hv
          have hex : ∃ u, a.tmps[d]? = some u ∧ VR ρ v u := by
            simp only [cX] at hx
            by_cases ht : Nat.blt d 1000 = true
            · rw [ht] at hx
              simp only [cond_true] at hx
              rw [cGet_eq 10 d e (Nat.lt_of_lt_of_le (Nat.succ_lt_succ (bltT ht)) (by decide))] at hx
              exact hE d v hx
            · rw [Bool.eq_false_iff.2 ht] at hx; cases hx
          obtain ⟨u, hu, hvu⟩ := hex
          show (yielded all.toArray a.tmps j == some b') = b
          rw [hy, hu]
          unfold wantB at h
          split at h
          · next c heq =>
            injection heq with heq; subst heq
            injection h with h; subst h
            simp only [VR] at hvu
            subst hvu
            rw [eqB_eq]
            simp
          · next vs heq =>
            injection heq with heq; subst heq
            injection h with h; subst h
            simp only [VR] at hvu
            obtain ⟨ds, rfl, _⟩ := hvu
            simp
          · cases h
      · cases h
    · cases h
theorem stepC_run (c : CO) (p : Tr AV → AV → Tr AV) (k : FO) (e : Tr AV) (h : Hp) : (stepC dfr c p k).run cl e h = (match evO dfr c cl e h with
    | .ok v h' => k.run cl (p e v) h'
    | .no => .no) := by
  cases c with
  | pure f => simp only [stepC, evO]; cases f e <;> rfl
  | read j f =>
    simp only [stepC, evO]
    cases f e with
    | none => rfl
    | some ion =>
      obtain ⟨i, off, n⟩ := ion
      simp only []
      cases rdAt h i off n with
      | none => rfl
      | some cs => simp only []; cases madeOf j cs <;> rfl
  | lay s l f => simp only [stepC, evO]; cases f e <;> rfl
  | eff f => rfl
  | call f =>
    simp only [stepC, evO]
    cases f e with
    | none => rfl
    | some ga => obtain ⟨g, args⟩ := ga; rfl
  | dfr f =>
    simp only [stepC, evO]
    cases f e with
    | none => rfl
    | some g => simp only []; cases dfr g <;> rfl
  | bad => rfl
/-- What the rest of a region answers, operation by operation. -/
theorem cOps_run (n : Nat) (all : List Oper) (o : Oper) (r : List Oper) (e : Tr AV) (h : Hp) {e' : Tr AV} {h' : Hp} (hf : (cOps G dfr n all (o :: r)).run cl e h = .ok e' h') :
    ∃ p, cPut n o.dst = some p ∧ (((cWant all o).want e = some true ∧ ∃ v h1, evO dfr (cOp G o.op) cl e h = .ok v h1 ∧ (cOps G dfr n all r).run cl (p.put e v) h1 = .ok e' h') ∨
      ((cWant all o).want e = some false ∧ (cOps G dfr n all r).run cl (p.put e (.tup [])) h = .ok e' h')) := by
  simp only [cOps] at hf
  cases hp : cPut n o.dst with
  | none => simp [hp, FO.no] at hf
  | some p =>
    obtain ⟨p⟩ := p
    refine ⟨⟨p⟩, rfl, ?_⟩
    simp only [hp] at hf
    have one : ∀ {x : RO}, (stepC dfr (cOp G o.op) p (cOps G dfr n all r)).run cl e h = x → x = .ok e' h' → ∃ v h1, evO dfr (cOp G o.op) cl e h = .ok v h1 ∧ (cOps G dfr n all r).run cl (p e v) h1 = .ok e' h' := fun {x} hx hy => by
      rw [stepC_run] at hx
      subst hy
      cases hev : evO dfr (cOp G o.op) cl e h with
      | no => simp [hev] at hx
      | ok v h1 => simp only [hev] at hx; exact ⟨v, h1, rfl, hx⟩
    split at hf
    · next hg =>
      exact .inl ⟨by unfold cWant; rw [hg], one rfl hf⟩
    · next gw hg =>
      generalize hw : cWant all o = wt at hf ⊢
      obtain ⟨wt⟩ := wt
      simp only [guardC] at hf
      cases hwe : wt e with
      | none => simp [hwe] at hf
      | some b =>
        cases b with
        | true => simp only [hwe] at hf; exact .inl ⟨hwe, one rfl hf⟩
        | false => simp only [hwe] at hf; exact .inr ⟨hwe, hf⟩
theorem cOps_m (hcl : ClM cl) (n : Nat) (all : List Oper) : ∀ (l : List Oper) (e : Tr AV) (h : Hp) (e' : Tr AV) (h' : Hp), (cOps G dfr n all l).run cl e h = .ok e' h' → Good h h'
  | [], e, h, e', h', hf => by simp only [cOps] at hf; injection hf with e1 e2; subst e2; exact Good.refl _
  | o :: r, e, h, e', h', hf => by
    obtain ⟨p, hp, ⟨_, v, h1, hv, hr⟩ | ⟨_, hr⟩⟩ := cOps_run n all o r e h hf
    · exact (evO_m hcl hv).trans (cOps_m hcl n all r _ _ _ _ hr)
    · exact cOps_m hcl n all r _ _ _ _ hr
/-- What is known behind code. -/
structure Aft (P : Program) (n : Nat) (ρ : Pm) (φ : Nat → Option Blk) (h : Hp) (e' : Tr AV) (h' : Hp) (a' : Act) (w' : World) : Prop where
  ex : ∃ ρ', Grow ρ ρ' h h' ∧ Sim ρ' (h'.on φ) w' ∧ EnvR ρ' e' a'
  size : a'.tmps.size = n
  hd : HD P a'
theorem cOps_ok (hT : TysOk P G.tys) (hcl : ClOk P cl) (hm : ClM cl) (hd : DfrG P dfr) {n : Nat} (hn : n < 1000) (all : List Oper) {Q : Exit → Act → World → Prop} : ∀ (l : List Oper) (e : Tr AV) (h : Hp) (e' : Tr AV) (h' : Hp),
    (cOps G dfr n all l).run cl e h = .ok e' h' → Wf h → ∀ (ρ : Pm) (φ : Nat → Option Blk) (a : Act) (w : World), EnvR ρ e a → a.tmps.size = n → HD P a → Sim ρ (h.on φ) w → Free ρ h h' →
    (∀ a' w', Aft P n ρ φ h e' h' a' w' → Q .normal a' w') → wpList P all.toArray Q l a w
  | [], e, h, e', h', hf, _, ρ, φ, a, w, hE, hs, hD, hS, hfr, hQ => by
    simp only [cOps] at hf
    injection hf with e1 e2; subst e1; subst e2
    exact hQ a w ⟨⟨ρ, Grow.refl _ _, hS, hE⟩, hs, hD⟩
  | o :: r, e, h, e', h', hf, hwf, ρ, φ, a, w, hE, hs, hD, hS, hfr, hQ => by
    obtain ⟨p, hp, ⟨hw, v, h1, hv, hr⟩ | ⟨hw, hr⟩⟩ := cOps_run n all o r e h hf
    · have hwant := want_ok hE hw
      unfold wpList
      rw [if_pos hwant]
      refine .inl (op_ok hT hcl hd o hv (fun _ => hwf) hE hD hS (hfr.left (cOps_m hm n all r _ _ _ _ hr).1) fun u a' w' ρ' ht hD' hg hS' hvr => ?_)
      have hE' : EnvR ρ' e a' := fun t x hx => by rw [ht]; exact (hE.ext hg.1) t x hx
      obtain ⟨q1, q2, q3⟩ := put_ok hn hp hE' hvr (by rw [ht]; exact hs)
      exact cOps_ok hT hcl hm hd hn all r _ h1 e' h' hr ((evO_m hm hv).2 hwf) ρ' φ _ w' q1 q2 (fun d hdm => hD' d (by rw [q3] at hdm; exact hdm)) hS' (hfr.right hg) fun a'' w'' hA =>
        hQ a'' w'' ⟨let ⟨ρ'', g, s, en⟩ := hA.ex; ⟨ρ'', hg.trans g, s, en⟩, hA.size, hA.hd⟩
    · have hwant := want_ok hE hw
      unfold wpList
      rw [if_neg (by rw [hwant]; simp)]
      obtain ⟨q1, q2, q3⟩ := put_ok (u := undef) hn hp hE (v := .tup []) (by simp only [VR]; exact ⟨[], rfl, VRs.nil⟩) hs
      exact cOps_ok hT hcl hm hd hn all r _ h e' h' hr hwf ρ φ _ w q1 q2 (fun d hdm => hD d (by rw [q3] at hdm; exact hdm)) hS hfr hQ
end
end Go.Proofs.YtibakihcicfeoaaGreat.Ev
/- An operation of the evaluator looks at its own operands alone; the static plan of a region whose order is drawn. No condition. -/
namespace Go.Proofs.YtibakihcicfeoaaGreat.Ev

/-- A ready operation answers alike over two rows of slots. -/
def Alike (e e' : Tr AV) : CO → Prop
  | .pure p => p e = p e'
  | .read _ p => p e = p e'
  | .lay _ _ p => p e = p e'
  | .eff p => ∀ h, p e h = p e' h
  | .call p => p e = p e'
  | .dfr p => p e = p e'
  | .bad => True
section
variable {G : Cx} {e e' : Tr AV}
theorem un_a {x : Operand} {f : AV → Option AV} (h : (cX x).get e = (cX x).get e') : Alike e e' (un x f) := by
  rw [un_eq]; show (match (cX x).get e with | some v => f v | none => none) = _; rw [h]; rfl
theorem bi_a {x y : Operand} {f : AV → AV → Option AV} (h : (cX x).get e = (cX x).get e') (h' : (cX y).get e = (cX y).get e') : Alike e e' (bi x y f) := by
  rw [bi_eq]
  show (match (cX x).get e with | some v => (match (cX y).get e with | some u => f v u | none => none) | none => none) = _
  rw [h, h']
  rfl
theorem rd_a {k : Nat} {x : Operand} {f : AV → Option (Nat × Nat × Nat)} (h : (cX x).get e = (cX x).get e') : Alike e e' (rd k x f) := by
  rw [rd_eq]; show (match (cX x).get e with | some v => f v | none => none) = _; rw [h]; rfl
theorem ef1_a {x : Operand} {f : AV → Hp → RA} (h : (cX x).get e = (cX x).get e') : Alike e e' (ef1 x f) := by
  rw [ef1_eq]; intro hp; show (match (cX x).get e with | some v => f v hp | none => .no) = _; rw [h]; rfl
theorem ef2_a {x y : Operand} {f : AV → AV → Hp → RA} (h : (cX x).get e = (cX x).get e') (h' : (cX y).get e = (cX y).get e') : Alike e e' (ef2 x y f) := by
  rw [ef2_eq]; intro hp
  show (match (cX x).get e with | some v => (match (cX y).get e with | some u => f v u hp | none => .no) | none => .no) = _
  rw [h, h']
  rfl
theorem badA : Alike e e' .bad := trivial
theorem bifA {b : Bool} {x : CO} (h : Alike e e' x) : Alike e e' (bif b then x else .bad) := by cases b <;> first | exact h | trivial
theorem fillD_a (pl : Nat → Option (Nat × Nat)) : ∀ (ps : List (Nat × Operand)) (l : List (Nat × Nat × FX)) (cs : List AV), cParts pl ps = some l → (∀ q ∈ ps, (cX q.2).get e = (cX q.2).get e') → fillD e l cs = fillD e' l cs
  | [], l, cs, hl, _ => by simp only [cParts] at hl; injection hl with hl; subst hl; rfl
  | (i, x) :: ps, l, cs, hl, h => by
    simp only [cParts] at hl
    cases hp : pl i with
    | none => simp [hp] at hl
    | some on =>
      obtain ⟨off, n⟩ := on
      simp only [hp] at hl
      cases hr : cParts pl ps with
      | none => simp [hr] at hl
      | some l' =>
        simp only [hr] at hl
        injection hl with hl; subst hl
        simp only [fillD]
        rw [h (i, x) (List.mem_cons_self ..)]
        cases (cX x).get e' with
        | none => rfl
        | some v =>
          simp only []
          cases asCells n v with
          | none => rfl
          | some vs =>
            simp only []
            cases wrL cs off vs with
            | none => rfl
            | some cs' => exact fillD_a pl ps l' cs' hr fun q hq => h q (List.mem_cons_of_mem _ hq)
theorem getsF_a : ∀ (xs : List Operand), (∀ x ∈ xs, (cX x).get e = (cX x).get e') → getsF e (cX1 xs) = getsF e' (cX1 xs)
  | [], _ => rfl
  | x :: xs, h => by
    simp only [cX1, getsF]
    rw [h x (List.mem_cons_self ..), getsF_a xs fun y hy => h y (List.mem_cons_of_mem _ hy)]
theorem bound_a {x : Option Operand} {d : Nat} (h : ∀ y, x = some y → (cX y).get e = (cX y).get e') : cBound x e d = cBound x e' d := by
  cases x with
  | none => rfl
  | some y =>
    have e1 : ∀ e, cBound (some y) e d = (match (cX y).get e with
      | some v => natV v
      | none => none) := fun e => by
      simp only [cBound]
      generalize cX y = c
      cases c; rfl
    rw [e1, e1, h y rfl]
theorem cSlice_a {t : TypeId} {x : Operand} {lo hi mx : Option Operand} (hx : (cX x).get e = (cX x).get e') (hl : ∀ y, lo = some y → (cX y).get e = (cX y).get e') (hh : ∀ y, hi = some y → (cX y).get e = (cX y).get e') : Alike e e' (cSlice G t x lo hi mx) := by
  have b1 : cBound lo e = cBound lo e' := funext fun d => bound_a hl
  have b2 : cBound hi e = cBound hi e' := funext fun d => bound_a hh
  unfold cSlice
  split
  · trivial
  · cases G.tys.get t with
    | none => trivial
    | some ti =>
      generalize hc : cX x = c at hx
      obtain ⟨g⟩ := c
      have hg : g e = g e' := hx
      simp only []
      split
      · show (match g e with | some v => sliStr (cBound lo e) (cBound hi e) v | none => none) = _
        rw [hg, b1, b2]
        rfl
      · split
        · next te _ =>
          show (match g e with | some v => sliL te.size (cBound lo e) (cBound hi e) v | none => none) = _
          rw [hg, b1, b2]
          rfl
        · trivial
      · trivial
theorem cOp_a (o : Op) (h : ∀ x ∈ o.operands.toList, (cX x).get e = (cX x).get e') : Alike e e' (cOp G o) := by
  cases o with
  | move x => exact un_a (h x (by simp [Op.operands]))
  | assign x => exact un_a (h x (by simp [Op.operands]))
  | pick c x y =>
    have h1 := h c (by simp [Op.operands])
    have h2 := h x (by simp [Op.operands])
    have h3 := h y (by simp [Op.operands])
    simp only [cOp]
    generalize cX c = c', cX x = x', cX y = y' at *
    cases c'; cases x'; cases y'
    rename_i g a b
    have h1 : g e = g e' := h1
    have h2 : a e = a e' := h2
    have h3 : b e = b e' := h3
    show (match g e with | some (.bool t) => bif t then a e else b e | _ => none) = _
    rw [h1, h2, h3]
    rfl
  | build t parts =>
    have hp : ∀ q ∈ parts.toList, (cX q.2).get e = (cX q.2).get e' := fun q hq => h q.2 (by simp only [Op.operands, List.mem_map]; exact ⟨q, hq, rfl⟩)
    simp only [cOp]
    unfold cBuild
    split
    · trivial
    · next ti _ =>
      split
      · split
        · next l hl => exact congrArg aggO (fillD_a _ _ l ti.zero hl hp)
        · trivial
      · split
        · trivial
        · split
          · next l hl => exact congrArg aggO (fillD_a _ _ l ti.zero hl hp)
          · trivial
      · trivial
  | nilCheck x => exact un_a (h x (by simp [Op.operands]))
  | binOp op t x y yt =>
    have h1 := h x (by simp [Op.operands])
    have h2 := h y (by simp [Op.operands])
    simp only [cOp]
    unfold cBin cBinI
    repeat' split
    all_goals first
      | exact bi_a h1 h2
      | trivial
  | unOp op t x => cases op <;> first | exact un_a (h x (by simp [Op.operands])) | trivial
  | convert s d x =>
    have h1 := h x (by simp [Op.operands])
    simp only [cOp]
    unfold cConv
    repeat' split
    all_goals first
      | exact un_a h1
      | exact rd_a h1
      | exact badA
      | exact bifA (ef1_a h1)
  | makeFunc fn first cap =>
    cases fn with
    | func f =>
      obtain ⟨l⟩ := first
      obtain ⟨c⟩ := cap
      cases l with
      | cons _ _ => trivial
      | nil =>
        show (match getsF e (cX1 c) with | some l => some (AV.fn f l) | none => none) = _
        rw [getsF_a c fun x hx => h x (by simp [Op.operands, hx])]
        rfl
    | _ => trivial
  | slice t x lo hi mx =>
    exact cSlice_a (h x (by simp [Op.operands])) (fun y hy => h y (by subst hy; simp [Op.operands])) (fun y hy => h y (by subst hy; simp [Op.operands]))
  | fieldAddr t x f =>
    have h1 := h x (by simp [Op.operands])
    simp only [cOp]
    repeat' split
    all_goals first
      | trivial
      | (generalize Nat.beq _ _ = b; cases b <;> first | trivial | exact un_a h1)
  | field t x f =>
    have h1 := h x (by simp [Op.operands])
    simp only [cOp]
    repeat' split
    all_goals first
      | trivial
      | exact un_a h1
  | indexAddr t x y =>
    have h1 := h x (by simp [Op.operands])
    have h2 := h y (by simp [Op.operands])
    simp only [cOp]
    repeat' split
    all_goals first
      | trivial
      | exact bi_a h1 h2
  | index t x y =>
    have h1 := h x (by simp [Op.operands])
    have h2 := h y (by simp [Op.operands])
    simp only [cOp]
    repeat' split
    all_goals first
      | trivial
      | exact bi_a h1 h2
  | extract x i => exact un_a (h x (by simp [Op.operands]))
  | load t x =>
    have h1 := h x (by simp [Op.operands])
    simp only [cOp]
    split
    · rename_i ti _
      cases ti.k.isAgg <;> exact rd_a h1
    · trivial
  | alloc t =>
    simp only [cOp]
    split
    · rfl
    · trivial
  | box t x =>
    have h1 := h x (by simp [Op.operands])
    simp only [cOp]
    generalize cX x = c' at *
    obtain ⟨g⟩ := c'
    have h1 : g e = g e' := h1
    cases G.tys.get t with
    | none => trivial
    | some ti =>
      show (match g e with | some v => asCells ti.size v | none => none) = _
      rw [h1]
      rfl
  | buildSlice t n parts =>
    have hp : ∀ q ∈ parts.toList, (cX q.2).get e = (cX q.2).get e' := fun q hq => h q.2 (by simp only [Op.operands, List.mem_map]; exact ⟨q, hq, rfl⟩)
    simp only [cOp]
    split
    · split
      · split
        · next te _ =>
          refine bifA ?_
          split
          · next l hl => exact fillD_a _ _ l _ hl hp
          · trivial
        · trivial
      · trivial
    · trivial
  | store t x y =>
    simp only [cOp]
    split
    · exact ef2_a (h x (by simp [Op.operands])) (h y (by simp [Op.operands]))
    · trivial
  | makeSlice t x y =>
    have h1 := h x (by simp [Op.operands])
    have h2 := h y (by simp [Op.operands])
    simp only [cOp]
    repeat' split
    all_goals first
      | trivial
      | exact bifA (ef2_a h1 h2)
  | range t x =>
    have h1 := h x (by simp [Op.operands])
    simp only [cOp]
    repeat' split
    all_goals first
      | trivial
      | exact ef1_a h1
  | next x s =>
    have h1 := h x (by simp [Op.operands])
    cases s <;> first | exact ef1_a h1 | trivial
  | call c =>
    simp only [cOp]
    split
    · next f hc =>
      have h1 := h f (by simp [Op.operands, Call.operands, hc])
      have h2 := getsF_a (e := e) (e' := e') c.args.toList fun x hx => h x (by simp [Op.operands, Call.operands]; exact .inr (by simpa using hx))
      rw [cCall_eq]
      show (match (cX f).get e with | some (.fn i cap) => (match getsF e (cX1 c.args.toList) with | some l => some (i, appL l cap) | none => none) | _ => none) = _
      rw [h1, h2]
      rfl
    · next b hc =>
      have h1 : ∀ x ∈ c.args.toList, (cX x).get e = (cX x).get e' := fun x hx => h x (by simp [Op.operands, Call.operands]; exact .inr (by simpa using hx))
      generalize c.args.toList = as at h1
      unfold cBuiltin
      repeat' split
      all_goals first
        | exact un_a (h1 _ (by simp))
        | exact bi_a (h1 _ (by simp)) (h1 _ (by simp))
        | exact badA
        | exact bifA badA
        | exact bifA (ef2_a (h1 _ (by simp)) (h1 _ (by simp)))
        | exact bifA (bifA (ef2_a (h1 _ (by simp)) (h1 _ (by simp))))
    · trivial
  | defer c =>
    simp only [cOp]
    split
    · next f hc =>
      have h1 := h f (by simp [Op.operands, Call.operands, hc])
      unfold cDefer
      split
      · next g hg _ =>
        rw [hg] at h1
        have h1 : g e = g e' := h1
        show (match g e with | some (.fn i [_]) => some i | _ => none) = _
        rw [h1]
        rfl
      · trivial
    · trivial
  | _ => trivial
theorem evO_a {dfr : Nat → Bool} {cl : Cl} {c : CO} (h : Alike e e' c) (hp : Hp) : evO dfr c cl e hp = evO dfr c cl e' hp := by
  cases c with
  | eff p => exact h hp
  | bad => rfl
  | pure p => simp only [evO]; rw [show p e = p e' from h]
  | read k p => simp only [evO]; rw [show p e = p e' from h]
  | lay s l p => simp only [evO]; rw [show p e = p e' from h]
  | call p => simp only [evO]; rw [show p e = p e' from h]
  | dfr p => simp only [evO]; rw [show p e = p e' from h]
end
/-- The slots that an operation looks at, alone. -/
def keepT (e : Tr AV) : List Nat → Tr AV
  | [] => .nil
  | t :: l => match e.get t with
    | some v => Tr.put (t + 1) (keepT e l) t v
    | none => keepT e l
theorem keepT_get (e : Tr AV) : ∀ (l : List Nat) (t : Nat), ((keepT e l).get t = none ∨ (keepT e l).get t = e.get t ∧ t ∈ l) ∧ (t ∈ l → (keepT e l).get t = e.get t)
  | [], t => ⟨.inl rfl, fun h => by cases h⟩
  | s :: l, t => by
    obtain ⟨i1, i2⟩ := keepT_get e l t
    simp only [keepT]
    cases hs : e.get s with
    | none =>
      simp only []
      refine ⟨i1.imp id fun ⟨a, b⟩ => ⟨a, List.mem_cons_of_mem _ b⟩, fun hm => ?_⟩
      rcases List.mem_cons.1 hm with rfl | hm
      · rcases i1 with h | ⟨h, _⟩
        · rw [h, hs]
        · exact h
      · exact i2 hm
    | some v =>
      simp only []
      rw [Tr.get_put v (s + 1) _ s t Nat.lt_two_pow_self]
      by_cases ht : t = s
      · subst ht
        rw [if_pos rfl, hs]
        exact ⟨.inr ⟨rfl, List.mem_cons_self ..⟩, fun _ => rfl⟩
      · rw [if_neg ht]
        refine ⟨i1.imp id fun ⟨a, b⟩ => ⟨a, List.mem_cons_of_mem _ b⟩, fun hm => ?_⟩
        rcases List.mem_cons.1 hm with h | hm
        · exact absurd h ht
        · exact i2 hm
theorem cX_keep {e : Tr AV} {l : List Nat} {x : Operand} (h : ∀ t, x = .tmp t → t ∈ l) : (cX x).get (keepT e l) = (cX x).get e := by
  cases x with
  | tmp t =>
    simp only [cX]
    by_cases ht : Nat.blt t 1000 = true
    · rw [ht]
      simp only [cond_true]
      have hlt : (t : Nat) + 1 < 2 ^ 10 := Nat.lt_of_lt_of_le (Nat.succ_lt_succ (bltT ht)) (by decide)
      rw [cGet_eq 10 t _ hlt, cGet_eq 10 t _ hlt]
      exact (keepT_get e l t).2 (h t rfl)
    · rw [Bool.eq_false_iff.2 ht]; rfl
  | const c => simp only [cX]; split <;> rfl
  | func f => rfl
  | global g => rfl

/-! ### The plan of a drawn region -/
theorem binds_eq (e : Edge) : bindsF e.ground = Region.binds .any e := by
  obtain ⟨on, g⟩ := e
  cases g <;> rfl
def tmpsOf : List Operand → List Nat
  | [] => []
  | .tmp t :: l => t :: tmpsOf l
  | _ :: l => tmpsOf l
theorem tmpsOf_mem : ∀ {l : List Operand} {t : Nat}, .tmp t ∈ l → t ∈ tmpsOf l
  | [], t, h => by cases h
  | x :: l, t, h => by
    rcases List.mem_cons.1 h with h1 | h2
    · rw [← h1]; exact List.mem_cons_self ..
    · have ih := tmpsOf_mem h2
      cases x <;> simp only [tmpsOf] <;> first | exact List.mem_cons_of_mem _ ih | exact ih
/-- The slots that an operation looks at: its operands, and its guard's. -/
def looks (all : List Oper) (o : Oper) : List Nat := (match o.guard with
  | some (g, _) => (match nthL all g with
    | some og => (match og.dst with
      | some d => [d]
      | none => [])
    | none => [])
  | none => []) ++ tmpsOf o.op.operands.toList
def isLay : CO → Bool
  | .lay _ _ _ => true
  | _ => false
/-- One operation is known to come behind another one. -/
def Bef (ms : List Nat) (i j : Nat) : Prop := ∃ m : Nat, ms[i]? = some m ∧ m.testBit j = true
/-- All of what is asked of a region. -/
structure Plan (G : Cx) (ops : List Oper) (ms es : List Nat) : Prop where
  mask : ∀ (i : Nat) (o : Oper), ops[i]? = some o → ∃ m : Nat, ms[i]? = some m ∧ maskE ms i o.after.toList = some m
  effs : es = effs G ops 0
  chain : ∀ (k x y : Nat), es[k]? = some x → es[k + 1]? = some y → Bef ms y x
  lays : ∀ (i : Nat) (o : Oper) (x : Nat), ops[i]? = some o → isLay (cOp G o.op) = true → x ∈ es → i < x → Bef ms x i
  dsts : ∀ (i j : Nat) (oi oj : Oper) (t : Nat), ops[i]? = some oi → ops[j]? = some oj → oi.dst = some t → oj.dst = some t → i = j
  uses : ∀ (i j : Nat) (oi oj : Oper) (t : Nat), ops[i]? = some oi → ops[j]? = some oj → t ∈ looks ops oi → oj.dst = some t → i = j ∨ Bef ms i j ∨ Bef ms j i
theorem maskE_bit {ms : List Nat} {i : Nat} : ∀ {l : List Edge} {m : Nat}, maskE ms i l = some m → ∀ j, m.testBit j = true → ∃ e ∈ l, bindsF e.ground = true ∧ e.on < i ∧ (e.on = j ∨ Bef ms e.on j)
  | [], m, h, j, hj => by
    simp only [maskE] at h; injection h with h; subst h
    simp at hj
  | e :: l, m, h, j, hj => by
    simp only [maskE] at h
    cases hr : maskE ms i l with
    | none => simp [hr] at h
    | some m' =>
      simp only [hr] at h
      have tail : m'.testBit j = true → ∃ e' ∈ e :: l, bindsF e'.ground = true ∧ e'.on < i ∧ (e'.on = j ∨ Bef ms e'.on j) := fun hb => by
        obtain ⟨e', h1, h2⟩ := maskE_bit hr j hb
        exact ⟨e', List.mem_cons_of_mem _ h1, h2⟩
      cases hb : bindsF e.ground with
      | false =>
        simp only [hb, cond_false] at h
        injection h with h; subst h
        exact tail hj
      | true =>
        simp only [hb, cond_true] at h
        cases hlt : Nat.blt e.on i with
        | false => simp [hlt] at h
        | true =>
          simp only [hlt, cond_true, nthL_eq] at h
          cases hp : ms[e.on]? with
          | none => simp [hp] at h
          | some p =>
            simp only [hp] at h
            injection h with h; subst h
            have e1 : (Nat.lor (Nat.lor m' p) (Nat.shiftLeft 1 e.on)).testBit j = ((m'.testBit j || p.testBit j) || (1 <<< e.on : Nat).testBit j) := by
              show ((m' ||| p) ||| (1 <<< e.on)).testBit j = _
              rw [Nat.testBit_or, Nat.testBit_or]
            rw [e1] at hj
            rcases Bool.or_eq_true _ _ ▸ hj with hj | hj
            · rcases Bool.or_eq_true _ _ ▸ hj with hj | hj
              · exact tail hj
              · exact ⟨e, List.mem_cons_self .., hb, bltT hlt, .inr ⟨p, hp, hj⟩⟩
            · refine ⟨e, List.mem_cons_self .., hb, bltT hlt, .inl ?_⟩
              rw [Nat.one_shiftLeft, Nat.testBit_two_pow] at hj
              simpa using hj
theorem Plan.lt {G : Cx} {ops : List Oper} {ms es : List Nat} (p : Plan G ops ms es) (hl : ms.length = ops.length) : ∀ (i j : Nat), Bef ms i j → j < i := by
  intro i
  induction i using Nat.strongRecOn with
  | _ i ih =>
    intro j ⟨m, hm, hj⟩
    have hi : i < ops.length := by rw [← hl]; exact (List.getElem?_eq_some_iff.1 hm).1
    obtain ⟨m', h1, h2⟩ := p.mask i _ (List.getElem?_eq_getElem hi)
    rw [hm] at h1; injection h1 with h1; subst h1
    obtain ⟨e, _, _, h3, h4⟩ := maskE_bit h2 j hj
    rcases h4 with h4 | h4
    · omega
    · have := ih e.on h3 j h4; omega
theorem effs_get {G : Cx} : ∀ (l : List Oper) (off k x : Nat), (effs G l off)[k]? = some x → ∃ j o, x = off + j ∧ l[j]? = some o ∧ isEff G o = true
  | [], off, k, x, h => by simp [effs] at h
  | o :: l, off, k, x, h => by
    simp only [effs] at h
    cases hb : isEff G o with
    | true =>
      simp only [hb, cond_true] at h
      cases k with
      | zero => simp at h; exact ⟨0, o, by omega, by simp, hb⟩
      | succ k =>
        obtain ⟨j, o', h1, h2, h3⟩ := effs_get l (off + 1) k x (by simpa using h)
        exact ⟨j + 1, o', by omega, by simpa using h2, h3⟩
    | false =>
      simp only [hb, cond_false] at h
      obtain ⟨j, o', h1, h2, h3⟩ := effs_get l (off + 1) k x h
      exact ⟨j + 1, o', by omega, by simpa using h2, h3⟩
theorem effs_mem {G : Cx} : ∀ (l : List Oper) (off j : Nat) (o : Oper), l[j]? = some o → isEff G o = true → ∃ k : Nat, (effs G l off)[k]? = some (off + j)
  | [], off, j, o, h, _ => by simp at h
  | o' :: l, off, j, o, h, he => by
    simp only [effs]
    cases j with
    | zero =>
      simp at h; subst h
      rw [he]
      exact ⟨0, by simp⟩
    | succ j =>
      obtain ⟨k, hk⟩ := effs_mem l (off + 1) j o (by simpa using h) he
      cases hb : isEff G o' with
      | true => exact ⟨k + 1, by simp only [cond_true]; rw [List.getElem?_cons_succ, hk]; congr 1; omega⟩
      | false => exact ⟨k, by simp only [cond_false]; rw [hk]; congr 1; omega⟩
theorem effs_lt {G : Cx} : ∀ (l : List Oper) (off k k' x x' : Nat), (effs G l off)[k]? = some x → (effs G l off)[k']? = some x' → k < k' → x < x'
  | [], off, k, k', x, x', h, _, _ => by simp [effs] at h
  | o :: l, off, k, k', x, x', h, h', hk => by
    simp only [effs] at h h'
    cases hb : isEff G o with
    | true =>
      simp only [hb, cond_true] at h h'
      cases k' with
      | zero => omega
      | succ k' =>
        have h2 : (effs G l (off + 1))[k']? = some x' := by simpa using h'
        cases k with
        | zero =>
          simp at h
          obtain ⟨j, o', e1, _, _⟩ := effs_get l (off + 1) k' x' h2
          omega
        | succ k => exact effs_lt l (off + 1) k k' x x' (by simpa using h) h2 (by omega)
    | false =>
      simp only [hb, cond_false] at h h'
      exact effs_lt l (off + 1) k k' x x' h h' hk
theorem lo_le {m k : Nat} : ∀ (l : List Nat) (off : Nat), (∀ (idx x : Nat), l[idx]? = some x → m.testBit x = true → off + idx < k) → loOf m l off ≤ k
  | [], off, _ => Nat.zero_le _
  | e :: l, off, h => by
    simp only [loOf]
    have ih := lo_le (m := m) (k := k) l (off + 1) fun idx x hx hb => by
      have := h (idx + 1) x (by simpa using hx) hb
      omega
    refine Nat.max_le.2 ⟨?_, ih⟩
    cases hb : m.testBit e with
    | false => exact Nat.zero_le _
    | true =>
      have := h 0 e (by simp) hb
      simp only [cond_true]; omega
theorem le_hi {ms : List Nat} {i k : Nat} : ∀ (l : List Nat) (off : Nat), k ≤ off + l.length → (∀ (idx x : Nat), l[idx]? = some x → off + idx < k → ∃ m : Nat, ms[x]? = some m ∧ m.testBit i = false) → k ≤ hiOf ms i l off
  | [], off, hk, _ => by simp only [hiOf]; simpa using hk
  | e :: l, off, hk, h => by
    simp only [hiOf]
    by_cases hlt : off < k
    · obtain ⟨m, hm, hb⟩ := h 0 e (by simp) (by omega)
      rw [nthL_eq, hm]
      simp only [hb, cond_false]
      exact le_hi l (off + 1) (by simp only [List.length_cons] at hk; omega) fun idx x hx hx2 => h (idx + 1) x (by simpa using hx) (by omega)
    · have : k ≤ off := by omega
      split
      · next m _ =>
        cases m.testBit i with
        | true => exact this
        | false =>
          simp only [cond_false]
          refine Nat.le_trans this ?_
          have : ∀ (l : List Nat) (off : Nat), off ≤ hiOf ms i l off := fun l => by
            induction l with
            | nil => intro off; exact Nat.le_refl _
            | cons x l ih =>
              intro off
              simp only [hiOf]
              split
              · next m _ =>
                cases m.testBit i with
                | true => exact Nat.le_refl _
                | false => exact Nat.le_trans (Nat.le_succ _) (ih (off + 1))
              · exact Nat.le_refl _
          exact Nat.le_trans (Nat.le_succ _) (this l (off + 1))
      · exact this
end Go.Proofs.YtibakihcicfeoaaGreat.Ev
/- The evaluator's region whose order is drawn against the model's: the run in the order of the text, and what is known of it. No condition. -/
namespace Go.Proofs.YtibakihcicfeoaaGreat.Ev
def sw {α : Type} (i : Nat) (x : α) (F : Nat → α) : Nat → α := fun k => if k = i then x else F k
theorem sw_same {α : Type} (i : Nat) (x : α) (F : Nat → α) : sw i x F i = x := by simp [sw]
theorem sw_ne {α : Type} {i k : Nat} (x : α) (F : Nat → α) (h : ¬ (k = i)) : sw i x F k = F k := by simp [sw, h]
section
variable {G : Cx} {dfr : Nat → Bool} {cl : Cl} {n : Nat} {all : List Oper} {ms es : List Nat}

/-- One step of the run in the order of the text. -/
def StepAt (G : Cx) (dfr : Nat → Bool) (cl : Cl) (n : Nat) (all : List Oper) (E : Nat → Tr AV) (H : Nat → Hp) (W : Nat → Bool) (V : Nat → AV) (i : Nat) (o : Oper) : Prop :=
  ∃ p, cPut n o.dst = some p ∧ (cWant all o).want (E i) = some (W i) ∧ E (i + 1) = p.put (E i) (V i) ∧
    (W i = true → evO dfr (cOp G o.op) cl (E i) (H i) = .ok (V i) (H (i + 1))) ∧ (W i = false → V i = .tup [] ∧ H (i + 1) = H i)
/-- What is asked of a read. -/
def CkAt (G : Cx) (ms es : List Nat) (E : Nat → Tr AV) (H : Nat → Hp) (W : Nat → Bool) (ck : List Ck) (i : Nat) (o : Oper) : Prop :=
  W i = true → ∀ k f b off m cs, cOp G o.op = .read k f → f (E i) = some (b, off, m) → rdAt (H i) b off m = some cs → Ck.mk b off m cs (lhOf ms es i).lo (lhOf ms es i).hi ∈ ck
theorem revH_eq : ∀ (l m : List Hp), revH l m = l.reverse ++ m
  | [], m => rfl
  | h :: l, m => by simp [revH, revH_eq l]
theorem cDr_can : ∀ (l : List Oper) (i : Nat) (e : Tr AV) (h : Hp) (bs : List Hp) (ck : List Ck) (e' : Tr AV) (h' : Hp) (bs' : List Hp) (ck' : List Ck),
    (cDr G dfr n all ms es l i).run cl e h bs ck = .ok e' h' bs' ck' →
    ∃ (E : Nat → Tr AV) (H : Nat → Hp) (W : Nat → Bool) (V : Nat → AV), E i = e ∧ H i = h ∧ E (i + l.length) = e' ∧ H (i + l.length) = h' ∧
      (∀ (j : Nat) (o : Oper), l[j]? = some o → StepAt G dfr cl n all E H W V (i + j) o ∧ CkAt G ms es E H W ck' (i + j) o) ∧
      bs'.reverse = bs.reverse ++ (effs G l i).map (fun k => H (k + 1)) ∧ ∀ c ∈ ck, c ∈ ck'
  | [], i, e, h, bs, ck, e', h', bs', ck', hf => by
    simp only [cDr] at hf
    injection hf with e1 e2 e3 e4
    subst e1; subst e2; subst e3; subst e4
    exact ⟨fun _ => e, fun _ => h, fun _ => true, fun _ => .nilp, rfl, rfl, rfl, rfl, fun j o ho => by simp at ho, by simp [effs], fun c hc => hc⟩
  | o :: l, i, e, h, bs, ck, e', h', bs', ck', hf => by
    simp only [cDr] at hf
    cases hp : cPut n o.dst with
    | none => simp [hp] at hf
    | some p =>
      obtain ⟨p⟩ := p
      simp only [hp] at hf
      generalize hw : cWant all o = wt at hf
      obtain ⟨wt⟩ := wt
      generalize hlh : lhOf ms es i = lh at hf
      obtain ⟨lo, hi⟩ := lh
      simp only [] at hf
      cases hwe : wt e with
      | none => simp [hwe] at hf
      | some b =>
        have hpush : ∀ (x : Hp), (pushB (cOp G o.op) x bs).reverse = bs.reverse ++ (bif isEff G o then [x] else []) := fun x => by
          unfold pushB isEff
          cases isEffC (cOp G o.op) <;> simp
        have heff : ∀ (H : Nat → Hp), (effs G (o :: l) i).map (fun k => H (k + 1)) = (bif isEff G o then [H (i + 1)] else []) ++ (effs G l (i + 1)).map (fun k => H (k + 1)) := fun H => by
          simp only [effs]
          cases isEff G o <;> simp
        cases b with
        | true =>
          simp only [hwe] at hf
          cases hev : evO dfr (cOp G o.op) cl e h with
          | no => simp [hev] at hf
          | ok v h1 =>
            simp only [hev] at hf
            obtain ⟨E, H, W, V, a1, a2, a3, a4, a5, a6, a7⟩ := cDr_can l (i + 1) _ _ _ _ _ _ _ _ hf
            refine ⟨sw i e E, sw i h H, sw i true W, sw i v V,
              sw_same _ _ _, sw_same _ _ _, ?_, ?_, ?_, ?_, ?_⟩
            · rw [sw_ne _ _ (by simp only [List.length_cons]; omega), ← a3]; congr 1; simp only [List.length_cons]; omega
            · rw [sw_ne _ _ (by simp only [List.length_cons]; omega), ← a4]; congr 1; simp only [List.length_cons]; omega
            · intro j o' ho'
              cases j with
              | zero =>
                simp at ho'; subst ho'
                have hne : ¬ (i + 1 = i) := by omega
                refine ⟨⟨⟨p⟩, hp, ?_, ?_, ?_, ?_⟩, ?_⟩
                · simp only [Nat.add_zero, sw_same]; rw [hw]; exact hwe
                · simp only [Nat.add_zero, sw_ne _ _ hne, sw_same]; rw [a1]
                · intro _; simp only [Nat.add_zero, sw_ne _ _ hne, sw_same]; rw [hev, a2]
                · intro hc; simp only [Nat.add_zero, sw_same] at hc; cases hc
                · intro _ k f b off m cs hc hfe hrd
                  simp only [Nat.add_zero, sw_same] at hfe hrd ⊢
                  refine a7 _ ?_
                  rw [hlh]
                  unfold ckOf
                  rw [hc]
                  simp only [hfe, hrd]
                  exact List.mem_cons_self ..
              | succ j =>
                have hj := a5 j o' (by simpa using ho')
                have e1 : i + (j + 1) = i + 1 + j := by omega
                have hne : ¬ (i + 1 + j = i) := by omega
                have hne2 : ¬ (i + 1 + j + 1 = i) := by omega
                rw [e1]
                refine ⟨?_, ?_⟩
                · unfold StepAt
                  simp only [sw_ne _ _ hne, sw_ne _ _ hne2]
                  exact hj.1
                · unfold CkAt
                  simp only [sw_ne _ _ hne]
                  exact hj.2
            · rw [a6, hpush, heff, List.append_assoc]
              congr 1
              have hne : ¬ (i + 1 = i) := by omega
              simp only [sw_ne _ _ hne, a2]
              congr 1
              apply List.map_congr_left
              intro k hk
              obtain ⟨m, hm⟩ := List.getElem?_of_mem hk
              obtain ⟨j, o2, h1, _, _⟩ := effs_get l (i + 1) m k hm
              rw [sw_ne _ _ (by omega)]
            · intro c hc
              refine a7 c ?_
              unfold ckOf
              split
              · split
                · split
                  · exact List.mem_cons_of_mem _ hc
                  · exact hc
                · exact hc
              · exact hc
        | false =>
          simp only [hwe] at hf
          obtain ⟨E, H, W, V, a1, a2, a3, a4, a5, a6, a7⟩ := cDr_can l (i + 1) _ _ _ _ _ _ _ _ hf
          refine ⟨sw i e E, sw i h H, sw i false W, sw i (.tup []) V,
            sw_same _ _ _, sw_same _ _ _, ?_, ?_, ?_, ?_, ?_⟩
          · rw [sw_ne _ _ (by simp only [List.length_cons]; omega), ← a3]; congr 1; simp only [List.length_cons]; omega
          · rw [sw_ne _ _ (by simp only [List.length_cons]; omega), ← a4]; congr 1; simp only [List.length_cons]; omega
          · intro j o' ho'
            cases j with
            | zero =>
              simp at ho'; subst ho'
              have hne : ¬ (i + 1 = i) := by omega
              refine ⟨⟨⟨p⟩, hp, ?_, ?_, ?_, ?_⟩, ?_⟩
              · simp only [Nat.add_zero, sw_same]; rw [hw]; exact hwe
              · simp only [Nat.add_zero, sw_ne _ _ hne, sw_same]; rw [a1]
              · intro hc; simp only [Nat.add_zero, sw_same] at hc; cases hc
              · intro _; simp only [Nat.add_zero, sw_ne _ _ hne, sw_same]; exact ⟨trivial, a2⟩
              · intro hc; simp only [Nat.add_zero, sw_same] at hc; cases hc
            | succ j =>
              have hj := a5 j o' (by simpa using ho')
              have e1 : i + (j + 1) = i + 1 + j := by omega
              have hne : ¬ (i + 1 + j = i) := by omega
              have hne2 : ¬ (i + 1 + j + 1 = i) := by omega
              rw [e1]
              refine ⟨?_, ?_⟩
              · unfold StepAt
                simp only [sw_ne _ _ hne, sw_ne _ _ hne2]
                exact hj.1
              · unfold CkAt
                simp only [sw_ne _ _ hne]
                exact hj.2
          · rw [a6, hpush, heff, List.append_assoc]
            congr 1
            have hne : ¬ (i + 1 = i) := by omega
            simp only [sw_ne _ _ hne, a2]
            congr 1
            apply List.map_congr_left
            intro k hk
            obtain ⟨m, hm⟩ := List.getElem?_of_mem hk
            obtain ⟨j, o2, h1, _, _⟩ := effs_get l (i + 1) m k hm
            rw [sw_ne _ _ (by omega)]
          · intro c hc
            exact a7 c hc
theorem eqI_to {x y : Int} (h : eqI x y = true) : x = y := by rw [eqI_eq] at h; simpa using h
theorem eqS_to {l m : List Nat} (h : eqS l m = true) : l = m := by rw [eqS_eq] at h; simpa using h
theorem eqAV_to {a b : AV} (h : eqAV a b = true) : a = b := by
  unfold eqAV at h
  split at h
  all_goals first
    | rfl
    | (cases h; done)
    | skip
  all_goals (try simp only [Bool.and_eq_true] at h)
  · rw [beqT h.1, eqI_to h.2]
  · rw [eqB_eq] at h; rw [eq_of_beq h]
  · rw [eqS_to h]
  · rw [beqT h.1, beqT h.2]
  · rw [beqT h.1, beqT h.2.1, beqT h.2.2.1, beqT h.2.2.2]
  · rw [beqT h]
theorem eqAVs_to : ∀ {l m : List AV}, eqAVs l m = true → l = m
  | [], [], _ => rfl
  | [], _ :: _, h => by simp [eqAVs] at h
  | _ :: _, [], h => by simp [eqAVs] at h
  | a :: l, b :: m, h => by
    simp only [eqAVs, Bool.and_eq_true] at h
    rw [eqAV_to h.1, eqAVs_to h.2]
theorem ckAt_to {i o m : Nat} {cs : List AV} {lo hi : Nat} : ∀ (l : List Hp) (off : Nat), ckAt i o m cs lo hi l off = true → ∀ (j : Nat) (hp : Hp), l[j]? = some hp → lo ≤ off + j → off + j ≤ hi → rdAt hp i o m = some cs
  | [], off, _, j, hp, hj, _, _ => by simp at hj
  | x :: l, off, h, j, hp, hj, h1, h2 => by
    simp only [ckAt, Bool.and_eq_true] at h
    cases j with
    | zero =>
      simp at hj; subst hj
      have hc := h.1
      rw [Nat.ble_eq_true_of_le (by simpa using h1), Nat.ble_eq_true_of_le (by simpa using h2)] at hc
      simp only [Bool.and_self, cond_true] at hc
      split at hc
      · next l' hl' => rw [hl', eqAVs_to hc]
      · cases hc
    | succ j => exact ckAt_to l (off + 1) h.2 j hp (by simpa using hj) (by omega) (by omega)
theorem allCk_to {bs : List Hp} : ∀ {l : List Ck}, allCk bs l = true → ∀ c ∈ l, ckOk bs c = true
  | [], _, c, hc => by cases hc
  | x :: l, h, c, hc => by
    simp only [allCk] at h
    cases hx : ckOk bs x with
    | false => simp [hx] at h
    | true =>
      simp only [hx, cond_true] at h
      rcases List.mem_cons.1 hc with rfl | hc
      · exact hx
      · exact allCk_to h c hc
end
/-- The run in the order of the text, of a whole region. -/
structure Can (G : Cx) (dfr : Nat → Bool) (cl : Cl) (n : Nat) (ops : List Oper) (ms es : List Nat) (E : Nat → Tr AV) (H : Nat → Hp) (W : Nat → Bool) (V : Nat → AV) (B : Nat → Hp) : Prop where
  step : ∀ (i : Nat) (o : Oper), ops[i]? = some o → StepAt G dfr cl n ops E H W V i o
  b0 : B 0 = H 0
  bs : ∀ (k x : Nat), es[k]? = some x → B (k + 1) = H (x + 1)
  rd : ∀ (i : Nat) (o : Oper), ops[i]? = some o → W i = true → ∀ kk f b off m cs, cOp G o.op = .read kk f → f (E i) = some (b, off, m) → rdAt (H i) b off m = some cs →
    ∀ k, k ≤ es.length → (lhOf ms es i).lo ≤ k → k ≤ (lhOf ms es i).hi → rdAt (B k) b off m = some cs
theorem cDraw_can {G : Cx} {dfr : Nat → Bool} {cl : Cl} {n : Nat} {ops : List Oper} {e e' : Tr AV} {h h' : Hp} (hf : (cDraw G dfr n ops).run cl e h = .ok e' h') :
    ∃ E H W V B, Can G dfr cl n ops (masks ops) (effs G ops 0) E H W V B ∧ E 0 = e ∧ H 0 = h ∧ E ops.length = e' ∧ H ops.length = h' := by
  unfold cDraw at hf
  generalize hd : cDr G dfr n ops (masks ops) (effs G ops 0) ops 0 = d at hf
  obtain ⟨d⟩ := d
  simp only [] at hf
  cases hr : d cl e h [h] [] with
  | no => simp [hr] at hf
  | ok e2 h2 bs ck =>
    simp only [hr] at hf
    cases hck : allCk (revH bs []) ck with
    | false => simp [hck] at hf
    | true =>
      simp only [hck, cond_true] at hf
      injection hf with e3 e4; subst e3; subst e4
      have hrun : (cDr G dfr n ops (masks ops) (effs G ops 0) ops 0).run cl e h [h] [] = .ok e2 h2 bs ck := by rw [hd]; exact hr
      obtain ⟨E, H, W, V, a1, a2, a3, a4, a5, a6, a7⟩ := cDr_can ops 0 e h [h] [] e2 h2 bs ck hrun
      simp only [Nat.zero_add] at a3 a4 a5
      have hlist : revH bs [] = h :: (effs G ops 0).map (fun k => H (k + 1)) := by rw [revH_eq, List.append_nil, a6]; rfl
      refine ⟨E, H, W, V, fun k => match k with
        | 0 => H 0
        | k + 1 => match (effs G ops 0)[k]? with
          | some x => H (x + 1)
          | none => H 0, ⟨fun i o ho => (a5 i o ho).1, rfl, fun k x hx => by simp only [hx], fun i o ho hW kk f b off m cs hc hfe hrd k hk h1 h2 => ?_⟩, a1, a2, a3, a4⟩
      have hm := (a5 i o ho).2 hW kk f b off m cs hc hfe hrd
      have hok := allCk_to hck _ hm
      rw [hlist] at hok
      simp only [ckOk] at hok
      refine ckAt_to _ 0 hok k _ ?_ (by omega) (by omega)
      cases k with
      | zero => simp [a2]
      | succ k =>
        rw [List.getElem?_cons_succ, List.getElem?_map]
        have hlt : k < (effs G ops 0).length := by omega
        simp only [List.getElem?_eq_getElem hlt, Option.map_some]
end Go.Proofs.YtibakihcicfeoaaGreat.Ev
/- The evaluator's region whose order is drawn: what is kept while operations are listed. No condition. -/
namespace Go.Proofs.YtibakihcicfeoaaGreat.Ev

/-- An operation is listed. -/
def On (listed : Array Bool) (j : Nat) : Prop := listed[j]? = some true
theorem On_set {listed : Array Bool} {i j : Nat} (hi : i < listed.size) : On (listed.setIfInBounds i true) j ↔ j = i ∨ On listed j := by
  unfold On
  by_cases h : j = i
  · subst h; simp [hi]
  · rw [Array.getElem?_setIfInBounds_ne (Ne.symm h)]; simp [h]
theorem On_getD {listed : Array Bool} {j : Nat} : listed.getD j false = true ↔ On listed j := by
  unfold On
  rw [Array.getD_eq_getD_getElem?]
  cases listed[j]? with
  | none => simp
  | some b => simp
theorem On_getD' {listed : Array Bool} {j : Nat} : listed.getD j true = false ↔ j < listed.size ∧ ¬ On listed j := by
  unfold On
  rw [Array.getD_eq_getD_getElem?]
  by_cases h : j < listed.size
  · simp [h]
  · simp [h]
/-- A wanted operation that lays a block. -/
def LayAt (G : Cx) (ops : List Oper) (W : Nat → Bool) (i : Nat) : Prop := ∃ o, ops[i]? = some o ∧ isLay (cOp G o.op) = true ∧ W i = true
/-- All that is known of the run in the order of the text. -/
structure Drw (G : Cx) (dfr : Nat → Bool) (cl : Cl) (n : Nat) (ops : List Oper) (ms es : List Nat) (E : Nat → Tr AV) (H : Nat → Hp) (W : Nat → Bool) (V : Nat → AV) (B : Nat → Hp) : Prop where
  can : Can G dfr cl n ops ms es E H W V B
  plan : Plan G ops ms es
  len : ms.length = ops.length
  clm : ClM cl
  wf : Wf (H 0)
section
variable {G : Cx} {dfr : Nat → Bool} {cl : Cl} {n : Nat} {ops : List Oper} {ms es : List Nat} {E : Nat → Tr AV} {H : Nat → Hp} {W : Nat → Bool} {V : Nat → AV} {B : Nat → Hp}
namespace Drw
variable (D : Drw G dfr cl n ops ms es E H W V B)
include D
theorem good1 {i : Nat} (hi : i < ops.length) : Good (H i) (H (i + 1)) := by
  obtain ⟨p, _, _, _, h4, h5⟩ := D.can.step i _ (List.getElem?_eq_getElem hi)
  cases hW : W i with
  | true => exact evO_m D.clm (h4 hW)
  | false => rw [(h5 hW).2]; exact Good.refl _
theorem good : ∀ (d i : Nat), i + d ≤ ops.length → Good (H i) (H (i + d))
  | 0, i, _ => Good.refl _
  | d + 1, i, h => (good d i (by omega)).trans (D.good1 (by omega))
theorem mono {i j : Nat} (h : i ≤ j) (hj : j ≤ ops.length) : (H i).n ≤ (H j).n := by
  have := (D.good (j - i) i (by omega)).1
  rwa [show i + (j - i) = j by omega] at this
theorem wfAt {i : Nat} (hi : i ≤ ops.length) : Wf (H i) := by
  have := (D.good i 0 (by omega)).2 D.wf
  rwa [Nat.zero_add] at this
theorem layAt {i : Nat} (h : LayAt G ops W i) : ∃ cs, H (i + 1) = (H i).new (.cells cs) ∧ i < ops.length := by
  obtain ⟨o, ho, hl, hW⟩ := h
  obtain ⟨p, _, _, _, h4, _⟩ := D.can.step i o ho
  have h4 := h4 hW
  have hi : i < ops.length := (List.getElem?_eq_some_iff.1 ho).1
  generalize cOp G o.op = c at *
  cases c <;> simp only [isLay] at hl <;> try (cases hl; done)
  simp only [evO] at h4
  split at h4
  · next cs _ => injection h4 with e1 e2; exact ⟨cs, e2.symm, hi⟩
  · cases h4
theorem layLt {i : Nat} (h : LayAt G ops W i) : (H i).n < (H (i + 1)).n := by
  obtain ⟨cs, h1, _⟩ := D.layAt h
  rw [h1, n_new]; omega
theorem layInj {i j : Nat} (h : LayAt G ops W i) (h' : LayAt G ops W j) (he : (H i).n = (H j).n) : i = j := by
  have hi := (D.layAt h).choose_spec.2
  have hj := (D.layAt h').choose_spec.2
  have l1 := D.layLt h
  have l2 := D.layLt h'
  rcases Nat.lt_trichotomy i j with hlt | hq | hlt
  · have := D.mono (i := i + 1) (j := j) (by omega) (by omega); omega
  · exact hq
  · have := D.mono (i := j + 1) (j := i) (by omega) (by omega); omega
/-- Between effects only blocks laid come on. -/
theorem quiet (s : Nat) : ∀ (d : Nat), s + d ≤ ops.length → (∀ y o, s ≤ y → y < s + d → ops[y]? = some o → isEff G o = false) →
    (∀ j, j < (H s).n → (H (s + d)).t.get j = (H s).t.get j) ∧
    ∀ j, (H s).n ≤ j → j < (H (s + d)).n → ∃ l, s ≤ l ∧ l < s + d ∧ LayAt G ops W l ∧ (H l).n = j ∧ (H (s + d)).t.get j = (H (l + 1)).t.get j
  | 0, _, _ => ⟨fun _ _ => rfl, fun j h1 h2 => by simp at h2; omega⟩
  | d + 1, hd, hq => by
    obtain ⟨i1, i2⟩ := quiet s d (by omega) fun y o h1 h2 => hq y o h1 (by omega)
    have hlt : s + d < ops.length := by omega
    have ho := List.getElem?_eq_getElem hlt
    have hne := hq (s + d) _ (by omega) (by omega) ho
    obtain ⟨p, _, _, _, h4, h5⟩ := D.can.step _ _ ho
    have hm := D.mono (i := s) (j := s + d) (by omega) (by omega)
    have same : H (s + d + 1) = H (s + d) → _ := fun he => show (∀ j, j < (H s).n → (H (s + (d + 1))).t.get j = (H s).t.get j) ∧
        ∀ j, (H s).n ≤ j → j < (H (s + (d + 1))).n → ∃ l, s ≤ l ∧ l < s + (d + 1) ∧ LayAt G ops W l ∧ (H l).n = j ∧ (H (s + (d + 1))).t.get j = (H (l + 1)).t.get j by
      rw [show s + (d + 1) = s + d + 1 by omega, he]
      exact ⟨i1, fun j h1 h2 => let ⟨l, a, b, c⟩ := i2 j h1 h2; ⟨l, a, by omega, c⟩⟩
    cases hW : W (s + d) with
    | false => exact same (h5 hW).2
    | true =>
      have h4 := h4 hW
      by_cases hl : isLay (cOp G (ops[s + d]'hlt).op) = true
      · have hLA : LayAt G ops W (s + d) := ⟨_, ho, hl, hW⟩
        obtain ⟨cs, h6, _⟩ := D.layAt hLA
        rw [show s + (d + 1) = s + d + 1 by omega]
        refine ⟨fun j hj => ?_, fun j h1 h2 => ?_⟩
        · rw [h6, get_new, if_neg (by omega)]; exact i1 j hj
        · by_cases hj : j = (H (s + d)).n
          · exact ⟨s + d, by omega, by omega, hLA, hj.symm, rfl⟩
          · rw [h6, n_new] at h2
            obtain ⟨l, a, b, c, e, f⟩ := i2 j h1 (by omega)
            exact ⟨l, a, by omega, c, e, by rw [h6, get_new, if_neg hj]; exact f⟩
      · refine same ?_
        unfold isEff at hne
        generalize cOp G (ops[s + d]'hlt).op = c at *
        cases c <;> simp only [isEffC, isLay] at hne hl <;> first
          | (cases hne; done)
          | (exact absurd trivial hl)
          | skip
        · simp only [evO] at h4
          split at h4
          · injection h4 with e1 e2; exact e2.symm
          · cases h4
        · simp only [evO] at h4
          repeat' split at h4
          all_goals first
            | (injection h4 with e1 e2; exact e2.symm)
            | cases h4
/-- Where a stretch begins. -/
theorem stretch {k : Nat} (hk : k ≤ es.length) : ∃ s, B k = H s ∧ s ≤ ops.length ∧ (s = 0 ∨ ∃ m y, m < k ∧ es[m]? = some y ∧ s = y + 1) ∧
    (∀ m y, es[m]? = some y → m < k → y < s) ∧ ∀ m y, es[m]? = some y → k ≤ m → s ≤ y := by
  have hes := D.plan.effs
  cases k with
  | zero => exact ⟨0, D.can.b0, Nat.zero_le _, .inl rfl, fun m y _ h => by omega, fun m y _ _ => Nat.zero_le _⟩
  | succ k =>
    have hx := List.getElem?_eq_getElem (show k < es.length by omega)
    generalize es[k]'(by omega) = x at hx
    refine ⟨x + 1, D.can.bs k x hx, ?_, .inr ⟨k, x, by omega, hx, rfl⟩, fun m y hy hm => ?_, fun m y hy hm => ?_⟩
    · rw [hes] at hx
      obtain ⟨j, o, h1, h2, _⟩ := effs_get ops 0 k x hx
      have := (List.getElem?_eq_some_iff.1 h2).1
      omega
    · by_cases he : m = k
      · subst he; rw [hx] at hy; injection hy with hy; omega
      · rw [hes] at hx hy
        have := effs_lt ops 0 m k y x hy hx (by omega); omega
    · rw [hes] at hx hy
      have := effs_lt ops 0 k m x y hx hy (by omega); omega
/-- No effect lies between the beginning of a stretch and the next effect. -/
theorem noEff {k s x : Nat} (h1 : ∀ m y, es[m]? = some y → m < k → y < s) (hx : es[k]? = some x ∨ es.length = k ∧ x = ops.length) : ∀ y o, s ≤ y → y < x → ops[y]? = some o → isEff G o = false := by
  intro y o hs hy ho
  cases hb : isEff G o with
  | false => rfl
  | true =>
    exfalso
    obtain ⟨m, hm⟩ := effs_mem ops 0 y o ho hb
    rw [← D.plan.effs, Nat.zero_add] at hm
    have hmk : ¬ (m < k) := fun h => by have := h1 m y hm h; omega
    rcases hx with hx | ⟨hx, rfl⟩
    · by_cases he : m = k
      · subst he; rw [hx] at hm; injection hm with hm; omega
      · have e := D.plan.effs
        rw [e] at hx hm
        have := effs_lt ops 0 k m x y hx hm (by omega); omega
    · have := (List.getElem?_eq_some_iff.1 hm).1; omega
theorem befLt {i j : Nat} (h : Bef ms i j) : j < i := D.plan.lt D.len i j h
end Drw

/-- What is kept of memory and of what is listed. -/
structure HI (G : Cx) (ops : List Oper) (ms es : List Nat) (H : Nat → Hp) (W : Nat → Bool) (B : Nat → Hp) (φ : Nat → Option Blk) (ρ0 : Pm) (listed : Array Bool) (k : Nat) (F : Nat → Option Blk) (ρ : Pm) : Prop where
  size : listed.size = ops.length
  closed : ∀ i j, On listed i → Bef ms i j → On listed j
  pre : ∀ m x, es[m]? = some x → (On listed x ↔ m < k)
  kle : k ≤ es.length
  fB : ∀ j b, (B k).t.get j = some b → F j = some b
  fL : ∀ i, LayAt G ops W i → On listed i → (B k).n ≤ (H i).n → F (H i).n = (H (i + 1)).t.get (H i).n
  fφ : ∀ j, (B k).n ≤ j → (∀ i, LayAt G ops W i → On listed i → (H i).n ≠ j) → F j = φ j
  fr : ∀ j, (B k).n ≤ j → j < (H ops.length).n → (∀ i, LayAt G ops W i → On listed i → (H i).n ≠ j) → ρ j = none
  le : ρ0.le ρ
  out : ∀ j, ¬ ((H 0).n ≤ j ∧ j < (H ops.length).n) → ρ j = ρ0 j
/-- An operation may come next. -/
structure Rdy (ops : List Oper) (ms : List Nat) (listed : Array Bool) (i : Nat) : Prop where
  lt : i < ops.length
  off : ¬ On listed i
  bef : ∀ j, Bef ms i j → On listed j
variable {φ F : Nat → Option Blk} {ρ0 ρ : Pm} {listed : Array Bool} {k i : Nat}
theorem HI.fOn (h : HI G ops ms es H W B φ ρ0 listed k F ρ) : (B k).on F = F := by
  funext j
  unfold Hp.on
  split
  · next b hb => exact (h.fB j b hb).symm
  · rfl
theorem on_on {h : Hp} {F : Nat → Option Blk} (hh : ∀ j b, h.t.get j = some b → F j = some b) : h.on F = F := by
  funext j
  unfold Hp.on
  split
  · next b hb => exact (hh j b hb).symm
  · rfl
theorem HI.closed' (h : HI G ops ms es H W B φ ρ0 listed k F ρ) (r : Rdy ops ms listed i) : ∀ x y, On (listed.setIfInBounds i true) x → Bef ms x y → On (listed.setIfInBounds i true) y := by
  intro x y hx hb
  have hs : i < listed.size := by rw [h.size]; exact r.lt
  rw [On_set hs] at hx ⊢
  rcases hx with rfl | hx
  · exact .inr (r.bef y hb)
  · exact .inr (h.closed x y hx hb)
/-- Nothing that touches memory. -/
theorem HI.idle (D : Drw G dfr cl n ops ms es E H W V B) (h : HI G ops ms es H W B φ ρ0 listed k F ρ) (r : Rdy ops ms listed i) (hE : ∀ m : Nat, es[m]? ≠ some i) (hL : ¬ LayAt G ops W i) :
    HI G ops ms es H W B φ ρ0 (listed.setIfInBounds i true) k F ρ := by
  have hs : i < listed.size := by rw [h.size]; exact r.lt
  have e : ∀ l, LayAt G ops W l → (On (listed.setIfInBounds i true) l ↔ On listed l) := fun l hl => by
    rw [On_set hs]
    exact ⟨fun hh => hh.resolve_left fun he => hL (he ▸ hl), .inr⟩
  refine ⟨by simp [h.size], h.closed' r, fun m x hx => ?_, h.kle, h.fB, fun l hl ho hb => h.fL l hl ((e l hl).1 ho) hb, fun j hj hn => h.fφ j hj fun l hl ho => hn l hl ((e l hl).2 ho),
    fun j hj hj2 hn => h.fr j hj hj2 fun l hl ho => hn l hl ((e l hl).2 ho), h.le, h.out⟩
  rw [On_set hs, ← h.pre m x hx]
  exact ⟨fun hh => hh.resolve_left fun he => hE m (he ▸ hx), .inr⟩
/-- All effects that are listed lie ahead of a lay that comes up. -/
theorem HI.layGe (D : Drw G dfr cl n ops ms es E H W V B) (h : HI G ops ms es H W B φ ρ0 listed k F ρ) (r : Rdy ops ms listed i) (hL : LayAt G ops W i) : (B k).n ≤ (H i).n := by
  obtain ⟨s, e1, e2, e3, e4, e5⟩ := D.stretch h.kle
  rw [e1]
  refine D.mono ?_ (Nat.le_of_lt r.lt)
  rcases e3 with rfl | ⟨m, y, hm, hy, rfl⟩
  · exact Nat.zero_le _
  · have hon := (h.pre m y hy).2 hm
    obtain ⟨o, ho, hl, _⟩ := hL
    rcases Nat.lt_trichotomy y i with hlt | he | hlt
    · omega
    · exact absurd (he ▸ hon) r.off
    · exact absurd (h.closed y i hon (D.plan.lays i o y ho hl (List.mem_of_getElem? hy) hlt)) r.off
theorem HI.layFree (D : Drw G dfr cl n ops ms es E H W V B) (h : HI G ops ms es H W B φ ρ0 listed k F ρ) (r : Rdy ops ms listed i) (hL : LayAt G ops W i) : ρ (H i).n = none := by
  have h1 := D.layLt hL
  have h2 := D.mono (i := i + 1) (j := ops.length) (by have := r.lt; omega) (Nat.le_refl _)
  exact h.fr _ (h.layGe D r hL) (by omega) fun l hl ho he => r.off (D.layInj hl hL he ▸ ho)
theorem notEff_lay (D : Drw G dfr cl n ops ms es E H W V B) (hL : LayAt G ops W i) : ∀ m : Nat, es[m]? ≠ some i := fun m hm => by
  obtain ⟨o, ho, hl, _⟩ := hL
  rw [D.plan.effs] at hm
  obtain ⟨j, o', h1, h2, h3⟩ := effs_get ops 0 m i hm
  rw [Nat.zero_add] at h1; subst h1
  rw [ho] at h2; injection h2 with h2; subst h2
  unfold isEff at h3
  generalize cOp G o.op = c at *
  cases c <;> simp [isLay, isEffC] at hl h3
/-- A block is laid. -/
theorem HI.lay (D : Drw G dfr cl n ops ms es E H W V B) (h : HI G ops ms es H W B φ ρ0 listed k F ρ) (r : Rdy ops ms listed i) (hL : LayAt G ops W i) (p : Option Pl) :
    HI G ops ms es H W B φ ρ0 (listed.setIfInBounds i true) k (fun j => if j = (H i).n then (H (i + 1)).t.get j else F j) (fun j => if j = (H i).n then p else ρ j) := by
  have hs : i < listed.size := by rw [h.size]; exact r.lt
  have hge := h.layGe D r hL
  have hfr := h.layFree D r hL
  have hkW : Wf (B k) := by
    obtain ⟨s, e1, e2, _⟩ := D.stretch h.kle
    rw [e1]; exact D.wfAt e2
  have hin : (H 0).n ≤ (H i).n ∧ (H i).n < (H ops.length).n := by
    have h1 := D.layLt hL
    have h2 := D.mono (i := i + 1) (j := ops.length) (by have := r.lt; omega) (Nat.le_refl _)
    have h3 := D.mono (i := 0) (j := i) (Nat.zero_le _) (Nat.le_of_lt r.lt)
    omega
  refine ⟨by simp [h.size], h.closed' r, fun m x hx => ?_, h.kle, fun j b hb => ?_, fun l hl ho hb => ?_, fun j hj hn => ?_, fun j hj hj2 hn => ?_, fun j q hq => ?_, fun j hj => ?_⟩
  · rw [On_set hs, ← h.pre m x hx]
    exact ⟨fun hh => hh.resolve_left fun he => notEff_lay D hL m (he ▸ hx), .inr⟩
  · have hj : j ≠ (H i).n := fun he => by
      have := hkW j
      rw [hb] at this
      have : j < (B k).n := by simpa using this
      omega
    simp only [if_neg hj]
    exact h.fB j b hb
  · by_cases hl2 : l = i
    · subst hl2; simp
    · have hne : (H l).n ≠ (H i).n := fun he => hl2 (D.layInj hl hL he)
      simp only [if_neg hne]
      exact h.fL l hl (((On_set hs).1 ho).resolve_left hl2) hb
  · have hne : j ≠ (H i).n := fun he => hn i hL ((On_set hs).2 (.inl rfl)) he.symm
    simp only [if_neg hne]
    exact h.fφ j hj fun l hl ho => hn l hl ((On_set hs).2 (.inr ho))
  · have hne : j ≠ (H i).n := fun he => hn i hL ((On_set hs).2 (.inl rfl)) he.symm
    simp only [if_neg hne]
    exact h.fr j hj hj2 fun l hl ho => hn l hl ((On_set hs).2 (.inr ho))
  · have hq' := h.le j q hq
    have hne : j ≠ (H i).n := fun he => by rw [he, hfr] at hq'; cases hq'
    simp only [if_neg hne]
    exact hq'
  · have hne : j ≠ (H i).n := fun he => hj (he ▸ hin)
    simp only [if_neg hne]
    exact h.out j hj
/-- Which effect comes up. -/
theorem HI.effK (D : Drw G dfr cl n ops ms es E H W V B) (h : HI G ops ms es H W B φ ρ0 listed k F ρ) (r : Rdy ops ms listed i) {m : Nat} (hm : es[m]? = some i) : m = k := by
  have h1 : ¬ (m < k) := fun hlt => r.off ((h.pre m i hm).2 hlt)
  cases m with
  | zero => omega
  | succ m =>
    have hlt : m < es.length := by have := (List.getElem?_eq_some_iff.1 hm).1; omega
    have hx := List.getElem?_eq_getElem hlt
    have := (h.pre m _ hx).1 (r.bef _ (D.plan.chain m _ _ hx hm))
    omega
/-- What an effect meets. -/
theorem HI.effOn (D : Drw G dfr cl n ops ms es E H W V B) (h : HI G ops ms es H W B φ ρ0 listed k F ρ) (r : Rdy ops ms listed i) (hk : es[k]? = some i) : ∀ j b, (H i).t.get j = some b → F j = some b := by
  obtain ⟨s, e1, e2, e3, e4, e5⟩ := D.stretch h.kle
  have hsi := e5 k i hk (Nat.le_refl _)
  have hlt := r.lt
  obtain ⟨q1, q2⟩ := D.quiet s (i - s) (by omega) fun y o h1 h2 => D.noEff e4 (.inl hk) y o h1 (by omega)
  rw [show s + (i - s) = i by omega] at q1 q2
  intro j b hb
  by_cases hj : j < (H s).n
  · rw [q1 j hj] at hb
    exact h.fB j b (by rw [e1]; exact hb)
  · have hj2 : j < (H i).n := by
      have := D.wfAt (Nat.le_of_lt hlt) j
      rw [hb] at this
      simpa using this
    obtain ⟨l, l1, l2, l3, l4, l5⟩ := q2 j (by omega) hj2
    have hon : On listed l := by
      obtain ⟨o, ho, hl, _⟩ := l3
      exact r.bef l (D.plan.lays l o i ho hl (List.mem_of_getElem? hk) (by omega))
    have := h.fL l l3 hon (by rw [e1]; exact D.mono l1 (by omega))
    rw [l4] at this
    rw [this, ← l5, hb]
theorem HI.effFree (D : Drw G dfr cl n ops ms es E H W V B) (h : HI G ops ms es H W B φ ρ0 listed k F ρ) (r : Rdy ops ms listed i) (hk : es[k]? = some i) : Free ρ (H i) (H (i + 1)) := by
  obtain ⟨s, e1, e2, e3, e4, e5⟩ := D.stretch h.kle
  have hsi := e5 k i hk (Nat.le_refl _)
  have hlt := r.lt
  intro j h1 h2
  refine h.fr j (by rw [e1]; exact Nat.le_trans (D.mono hsi (by omega)) h1) (Nat.lt_of_lt_of_le h2 (D.mono (by omega) (Nat.le_refl _))) fun l hl ho he => ?_
  have hll := D.layLt hl
  have hlen := (D.layAt hl).choose_spec.2
  rcases Nat.lt_trichotomy l i with hc | hc | hc
  · have := D.mono (i := l + 1) (j := i) (by omega) (by omega); omega
  · exact notEff_lay D hl k (hc ▸ hk)
  · have := D.mono (i := i + 1) (j := l) (by omega) (by omega); omega
/-- An effect. -/
theorem HI.eff (D : Drw G dfr cl n ops ms es E H W V B) (h : HI G ops ms es H W B φ ρ0 listed k F ρ) (r : Rdy ops ms listed i) (hk : es[k]? = some i) {ρ' : Pm} (hg : Grow ρ ρ' (H i) (H (i + 1))) :
    HI G ops ms es H W B φ ρ0 (listed.setIfInBounds i true) (k + 1) ((H (i + 1)).on F) ρ' := by
  have hs : i < listed.size := by rw [h.size]; exact r.lt
  have hlt := r.lt
  have hB : B (k + 1) = H (i + 1) := D.can.bs k i hk
  have hwf := D.wfAt (i := i + 1) (by omega)
  have hnl : ∀ l, LayAt G ops W l → On (listed.setIfInBounds i true) l → On listed l := fun l hl ho => ((On_set hs).1 ho).resolve_left fun he => notEff_lay D hl k (he ▸ hk)
  have hBk : (B k).n ≤ (H i).n := by
    obtain ⟨s, e1, e2, e3, e4, e5⟩ := D.stretch h.kle
    rw [e1]; exact D.mono (e5 k i hk (Nat.le_refl _)) (by omega)
  have hmi := D.mono (i := i) (j := i + 1) (by omega) (by omega)
  have hon : ∀ j, (H (i + 1)).n ≤ j → (H (i + 1)).on F j = F j := fun j hj => by
    have := hwf j
    unfold Hp.on
    cases hc : (H (i + 1)).t.get j with
    | none => rfl
    | some b => rw [hc] at this; simp at this; omega
  refine ⟨by simp [h.size], h.closed' r, fun m x hx => ?_, (List.getElem?_eq_some_iff.1 hk).1, fun j b hb => ?_, fun l hl ho hb => ?_, fun j hj hn => ?_, fun j hj hj2 hn => ?_, fun j q hq => ?_, fun j hj => ?_⟩
  · rw [On_set hs, h.pre m x hx]
    constructor
    · rintro (rfl | hh)
      · have := h.effK D r hx; omega
      · omega
    · intro hh
      by_cases he : m = k
      · subst he; rw [hk] at hx; injection hx with hx; exact .inl hx.symm
      · exact .inr (by omega)
  · rw [hB] at hb; unfold Hp.on; rw [hb]
  · rw [hB] at hb
    rw [hon _ hb]
    exact h.fL l hl (hnl l hl ho) (by omega)
  · rw [hB] at hj
    rw [hon _ hj]
    exact h.fφ j (by omega) fun l hl ho => hn l hl ((On_set hs).2 (.inr ho))
  · rw [hB] at hj
    rw [hg.2.1 j (by omega)]
    exact h.fr j (by omega) hj2 fun l hl ho => hn l hl ((On_set hs).2 (.inr ho))
  · exact hg.1 j q (h.le j q hq)
  · have h3 := D.mono (i := 0) (j := i) (Nat.zero_le _) (by omega)
    have h4 := D.mono (i := i + 1) (j := ops.length) (by omega) (Nat.le_refl _)
    rw [hg.2.1 j (by omega)]
    exact h.out j hj
/-- The end. -/
theorem HI.done (D : Drw G dfr cl n ops ms es E H W V B) (h : HI G ops ms es H W B φ ρ0 listed k F ρ) (hall : ∀ i, i < ops.length → On listed i) : F = (H ops.length).on φ ∧ Grow ρ0 ρ (H 0) (H ops.length) := by
  have hk : es.length = k := by
    have := h.kle
    by_cases hlt : k < es.length
    · have hx := List.getElem?_eq_getElem hlt
      generalize es[k]'hlt = x at hx
      have hx3 : (effs G ops 0)[k]? = some x := D.plan.effs ▸ hx
      obtain ⟨j, o, h1, h2, _⟩ := effs_get ops 0 k _ hx3
      have hj := (List.getElem?_eq_some_iff.1 h2).1
      have := (h.pre k _ hx).1 (hall _ (by omega))
      omega
    · omega
  obtain ⟨s, e1, e2, e3, e4, e5⟩ := D.stretch h.kle
  obtain ⟨q1, q2⟩ := D.quiet s (ops.length - s) (by omega) fun y o h1 h2 => D.noEff e4 (.inr ⟨hk, rfl⟩) y o h1 (by omega)
  rw [show s + (ops.length - s) = ops.length by omega] at q1 q2
  have hwf := D.wfAt (Nat.le_refl ops.length)
  have hms := D.mono e2 (Nat.le_refl _)
  refine ⟨funext fun j => ?_, h.le, h.out, D.mono (Nat.zero_le _) (Nat.le_refl _)⟩
  have hw := hwf j
  unfold Hp.on
  cases hc : (H ops.length).t.get j with
  | some b =>
    rw [hc] at hw
    have hj2 : j < (H ops.length).n := by simpa using hw
    simp only []
    by_cases hj : j < (H s).n
    · rw [q1 j hj] at hc
      exact h.fB j b (by rw [e1]; exact hc)
    · obtain ⟨l, l1, l2, l3, l4, l5⟩ := q2 j (by omega) hj2
      have := h.fL l l3 (hall l (by omega)) (by rw [e1]; exact D.mono l1 (by omega))
      rw [l4] at this
      rw [this, ← l5, hc]
  | none =>
    rw [hc] at hw
    have hj2 : ¬ (j < (H ops.length).n) := by simpa using hw
    simp only []
    refine h.fφ j (by rw [e1]; omega) fun l hl _ he => ?_
    have := D.layLt hl
    have := D.mono (i := l + 1) (j := ops.length) (by have := (D.layAt hl).choose_spec.2; omega) (Nat.le_refl _)
    omega
end
end Go.Proofs.YtibakihcicfeoaaGreat.Ev
/- The evaluator's region whose order is drawn against the model's. No condition. -/
namespace Go.Proofs.YtibakihcicfeoaaGreat.Ev

/-- How many operations are yet to be listed. -/
def left (listed : Array Bool) : Nat := listed.toList.count false
theorem left_set {listed : Array Bool} {i : Nat} (hi : i < listed.size) (h : ¬ On listed i) : left (listed.setIfInBounds i true) + 1 = left listed := by
  have go : ∀ (l : List Bool) (i : Nat), l[i]? = some false → (l.set i true).count false + 1 = l.count false := fun l => by
    induction l with
    | nil => intro i h; simp at h
    | cons b l ih =>
      intro i h
      cases i with
      | zero => simp at h; subst h; simp
      | succ i =>
        have := ih i (by simpa using h)
        simp only [List.set_cons_succ, List.count_cons]
        omega
  unfold left
  rw [Array.toList_setIfInBounds]
  refine go _ i ?_
  unfold On at h
  rw [Array.getElem?_toList]
  rw [Array.getElem?_eq_getElem hi] at h ⊢
  cases hb : listed[i] with
  | false => rfl
  | true => exact absurd (by rw [hb]) h
theorem left_on {listed : Array Bool} (h : left listed = 0) {i : Nat} (hi : i < listed.size) : On listed i := by
  unfold left at h
  rw [List.count_eq_zero] at h
  unfold On
  rw [Array.getElem?_eq_getElem hi]
  cases hb : listed[i] with
  | true => rfl
  | false => exact absurd (by rw [← hb]; simp) h
section
variable {P : Program} {G : Cx} {dfr : Nat → Bool} {cl : Cl} {n : Nat} {ops : List Oper} {ms es : List Nat} {E : Nat → Tr AV} {H : Nat → Hp} {W : Nat → Bool} {V : Nat → AV} {B : Nat → Hp}
variable {φ F : Nat → Option Blk} {ρ0 ρ : Pm} {listed : Array Bool} {k i : Nat}

/-- What is kept of the slots. -/
structure EI (P : Program) (n : Nat) (ops : List Oper) (E : Nat → Tr AV) (V : Nat → AV) (listed : Array Bool) (ρ : Pm) (a : Act) : Prop where
  on : ∀ j o t, ops[j]? = some o → o.dst = some t → On listed j → ∃ u, a.tmps[t]? = some u ∧ VR ρ (V j) u
  off : ∀ t v, (∀ j o, ops[j]? = some o → o.dst = some t → ¬ On listed j) → (E 0).get t = some v → ∃ u, a.tmps[t]? = some u ∧ VR ρ v u
  size : a.tmps.size = n
  hd : HD P a
theorem EI.ext {ρ' : Pm} {a a' : Act} (h : EI P n ops E V listed ρ a) (hl : ρ.le ρ') (ht : a'.tmps = a.tmps) (hd : HD P a') : EI P n ops E V listed ρ' a' :=
  ⟨fun j o t h1 h2 h3 => by rw [ht]; obtain ⟨u, x, y⟩ := h.on j o t h1 h2 h3; exact ⟨u, x, y.ext hl⟩,
   fun t v h1 h2 => by rw [ht]; obtain ⟨u, x, y⟩ := h.off t v h1 h2; exact ⟨u, x, y.ext hl⟩, by rw [ht]; exact h.size, hd⟩
theorem Drw.put (D : Drw G dfr cl n ops ms es E H W V B) (hn : n < 1000) {o : Oper} (ho : ops[i]? = some o) : (o.dst = none ∧ E (i + 1) = E i) ∨ ∃ d, o.dst = some d ∧ d < n ∧ ∀ t, (E (i + 1)).get t = if t = d then some (V i) else (E i).get t := by
  obtain ⟨p, hp, _, h3, _⟩ := D.can.step _ _ ho
  cases hd : o.dst with
  | none => rw [hd] at hp; simp only [cPut] at hp; injection hp with hp; subst hp; exact .inl ⟨rfl, h3⟩
  | some s =>
    rw [hd] at hp
    simp only [cPut] at hp
    cases hb : Nat.blt s n with
    | false => simp [hb] at hp
    | true =>
      simp only [hb, cond_true] at hp
      injection hp with hp; subst hp
      have hlt : (s : Nat) < n := bltT hb
      refine .inr ⟨s, rfl, hlt, fun t => ?_⟩
      rw [h3, cPutT_eq, Tr.get_put _ 10 _ s t (Nat.lt_of_lt_of_le (Nat.succ_lt_succ (Nat.lt_trans hlt hn)) (by decide))]
theorem Drw.keep (D : Drw G dfr cl n ops ms es E H W V B) (hn : n < 1000) (t : Nat) (i : Nat) : ∀ (d : Nat), i + d ≤ ops.length → (∀ j o, i ≤ j → j < i + d → ops[j]? = some o → o.dst ≠ some t) → (E (i + d)).get t = (E i).get t
  | 0, _, _ => rfl
  | d + 1, hd, h => by
    have ih := D.keep hn t i d (by omega) fun j o h1 h2 => h j o h1 (by omega)
    have hlt : i + d < ops.length := by omega
    have ho := List.getElem?_eq_getElem hlt
    have hne := h _ _ (by omega) (by omega) ho
    rw [show i + (d + 1) = i + d + 1 by omega, ← ih]
    rcases D.put hn ho with ⟨_, he⟩ | ⟨s, hs, _, he⟩
    · rw [he]
    · rw [he, if_neg (fun hh => hne (by rw [hs, hh]))]
/-- What a slot holds in the run in the order of the text. -/
theorem Drw.slot (D : Drw G dfr cl n ops ms es E H W V B) (hn : n < 1000) (t : Nat) (hi : i ≤ ops.length) :
    (∃ j o, j < i ∧ ops[j]? = some o ∧ o.dst = some t ∧ (E i).get t = some (V j)) ∨ ((∀ j o, j < i → ops[j]? = some o → o.dst ≠ some t) ∧ (E i).get t = (E 0).get t) := by
  by_cases hw : ∃ j o, j < i ∧ ops[j]? = some o ∧ o.dst = some t
  · obtain ⟨j, o, h1, h2, h3⟩ := hw
    refine .inl ⟨j, o, h1, h2, h3, ?_⟩
    have hk := D.keep hn t (j + 1) (i - (j + 1)) (by omega) fun j' o' g1 g2 g3 g4 => by
      have := D.plan.dsts j j' o o' t h2 g3 h3 g4
      omega
    rw [show j + 1 + (i - (j + 1)) = i by omega] at hk
    rw [hk]
    rcases D.put hn h2 with ⟨hd, _⟩ | ⟨d, hd, _, he⟩
    · rw [h3] at hd; cases hd
    · rw [h3] at hd; injection hd with hd; rw [he, if_pos hd]
  · have hno : ∀ j o, j < i → ops[j]? = some o → o.dst ≠ some t := fun j o h1 h2 h3 => hw ⟨j, o, h1, h2, h3⟩
    refine .inr ⟨hno, ?_⟩
    have hk := D.keep hn t 0 i (by omega) fun j o _ g2 g3 => hno j o (by omega) g3
    rw [Nat.zero_add] at hk
    exact hk
theorem EI.env (D : Drw G dfr cl n ops ms es E H W V B) (hn : n < 1000) {a : Act} (h : EI P n ops E V listed ρ a) (hcl : ∀ x y, On listed x → Bef ms x y → On listed y) (r : Rdy ops ms listed i) {o : Oper} (ho : ops[i]? = some o) : EnvR ρ (keepT (E i) (looks ops o)) a := by
  intro t v hv
  rcases (keepT_get (E i) (looks ops o) t).1 with hc | ⟨hc, hm⟩
  · rw [hc] at hv; cases hv
  · rw [hc] at hv
    rcases D.slot hn t (Nat.le_of_lt r.lt) with ⟨j, oj, h1, h2, h3, h4⟩ | ⟨h1, h2⟩
    · rw [hv] at h4; injection h4 with h4; subst h4
      refine h.on j oj t h2 h3 ?_
      rcases D.plan.uses i j o oj t ho h2 hm h3 with he | he | he
      · omega
      · exact r.bef j he
      · have := D.befLt he; omega
    · rw [h2] at hv
      refine h.off t v (fun j oj g1 g2 g3 => ?_) hv
      have hj : ¬ (j < i) := fun hlt => h1 j oj hlt g1 g2
      rcases D.plan.uses i j o oj t ho g1 hm g2 with he | he | he
      · exact r.off (he ▸ g3)
      · have := D.befLt he; omega
      · exact r.off (hcl j i g3 he)
theorem EI.fin (D : Drw G dfr cl n ops ms es E H W V B) (hn : n < 1000) {a : Act} (h : EI P n ops E V listed ρ a) (hall : ∀ i, i < ops.length → On listed i) : EnvR ρ (E ops.length) a := by
  intro t v hv
  rcases D.slot hn t (Nat.le_refl _) with ⟨j, oj, h1, h2, h3, h4⟩ | ⟨h1, h2⟩
  · rw [hv] at h4; injection h4 with h4; subst h4
    exact h.on j oj t h2 h3 (hall j h1)
  · rw [h2] at hv
    refine h.off t v (fun j oj g1 g2 _ => ?_) hv
    exact h1 j oj (List.getElem?_eq_some_iff.1 g1).1 g1 g2
theorem EI.put (D : Drw G dfr cl n ops ms es E H W V B) (hn : n < 1000) {a : Act} (h : EI P n ops E V listed ρ a) (hsz : i < listed.size) {o : Oper} (ho : ops[i]? = some o) {u : Value} (hv : VR ρ (V i) u) :
    EI P n ops E V (listed.setIfInBounds i true) ρ (a.put o.dst u) := by
  have hother : ∀ t, o.dst ≠ some t → (a.put o.dst u).tmps[t]? = a.tmps[t]? := fun t ht => by
    cases hd : o.dst with
    | none => rfl
    | some d =>
      have hne : d ≠ t := fun he => ht (by rw [hd, he])
      simp [Act.put, Array.getElem?_setIfInBounds_ne hne]
  refine ⟨fun j oj t h1 h2 h3 => ?_, fun t v h1 h2 => ?_, ?_, ?_⟩
  · by_cases hji : j = i
    · subst hji
      rw [ho] at h1; injection h1 with h1; subst h1
      refine ⟨u, ?_, hv⟩
      rcases D.put hn ho with ⟨hd, _⟩ | ⟨d, hd, hlt, _⟩
      · rw [h2] at hd; cases hd
      · rw [h2] at hd; injection hd with hd; subst hd
        rw [h2]
        have := h.size
        simp [Act.put, this, hlt]
    · rw [hother t fun hd => hji (D.plan.dsts j i oj o t h1 ho h2 hd)]
      exact h.on j oj t h1 h2 (((On_set hsz).1 h3).resolve_left hji)
  · rw [hother t fun hd => h1 i o ho hd ((On_set hsz).2 (.inl rfl))]
    exact h.off t v (fun j oj g1 g2 g3 => h1 j oj g1 g2 ((On_set hsz).2 (.inr g3))) h2
  · have := h.size
    cases hd : o.dst <;> simp [Act.put, this]
  · intro d hd
    refine h.hd d ?_
    cases hd2 : o.dst with
    | none => rw [hd2] at hd; exact hd
    | some t => rw [hd2] at hd; exact hd
theorem cWant_keep (e : Tr AV) (o : Oper) : (cWant ops o).want (keepT e (looks ops o)) = (cWant ops o).want e := by
  unfold cWant
  split
  · rfl
  · next j b hg =>
    split
    · next oj hoj =>
      split
      · next d hd =>
        have hk : (cX (.tmp d)).get (keepT e (looks ops o)) = (cX (.tmp d)).get e := cX_keep fun t ht => by
          injection ht with ht; subst ht
          unfold looks
          rw [hg]
          simp only [hoj, hd]
          simp
        generalize cX (.tmp d) = c at *
        obtain ⟨g⟩ := c
        show wantB b _ = wantB b _
        exact congrArg (wantB b) hk
      · rfl
    · rfl
theorem maskE_all {ms : List Nat} {i : Nat} : ∀ {l : List Edge} {m : Nat}, maskE ms i l = some m → ∀ e ∈ l, bindsF e.ground = true → e.on < i
  | [], m, h, e, he, _ => by cases he
  | x :: l, m, h, e, he, hb => by
    simp only [maskE] at h
    cases hr : maskE ms i l with
    | none => simp [hr] at h
    | some m' =>
      simp only [hr] at h
      rcases List.mem_cons.1 he with rfl | he
      · rw [hb] at h
        simp only [cond_true] at h
        cases hlt : Nat.blt e.on i with
        | false => simp [hlt] at h
        | true => exact bltT hlt
      · exact maskE_all hr e he hb
theorem grow_same {ρ ρ' : Pm} {h : Hp} (g : Grow ρ ρ' h h) : ρ' = ρ := funext fun j => g.2.1 j (by omega)
/-- One operation that may come next. -/
theorem draw_step (hT : TysOk P G.tys) (hcl : ClOk P cl) (hd : DfrG P dfr) (D : Drw G dfr cl n ops ms es E H W V B) (hn : n < 1000) {a : Act} {w : World}
    (hI : HI G ops ms es H W B φ ρ0 listed k F ρ) (hE : EI P n ops E V listed ρ a) (hS : Sim ρ F w) (r : Rdy ops ms listed i) {K : Act → World → Prop} {Q : Exit → Act → World → Prop}
    (hK : ∀ k' F' ρ' a' w', HI G ops ms es H W B φ ρ0 (listed.setIfInBounds i true) k' F' ρ' → EI P n ops E V (listed.setIfInBounds i true) ρ' a' → Sim ρ' F' w' → K a' w') :
    wpOp P ops.toArray Q i K a w := by
  have ho := List.getElem?_eq_getElem r.lt
  generalize ops[i]'r.lt = o at ho
  have hsz : i < listed.size := by rw [hI.size]; exact r.lt
  have henv := hE.env D hn hI.closed r ho
  obtain ⟨p, hp, hw, h3, h4, h5⟩ := D.can.step i o ho
  rw [← cWant_keep] at hw
  have hwant := want_ok henv hw
  have hal : Alike (keepT (E i) (looks ops o)) (E i) (cOp G o.op) := cOp_a o.op fun x hx => cX_keep fun t ht => by
    unfold looks
    exact List.mem_append_right _ (tmpsOf_mem (ht ▸ hx))
  have ho' : ops.toArray[i]? = some o := by simpa using ho
  have hkEff : isEff G o = true → es[k]? = some i := fun hb => by
    obtain ⟨m, hm⟩ := effs_mem ops 0 i o ho hb
    rw [← D.plan.effs, Nat.zero_add] at hm
    have := hI.effK D r hm
    subst this
    exact hm
  have hnEff : isEff G o = false → ∀ m : Nat, es[m]? ≠ some i := fun hb m hm => by
    rw [D.plan.effs] at hm
    obtain ⟨j, o', g1, g2, g3⟩ := effs_get ops 0 m i hm
    rw [Nat.zero_add] at g1; subst g1
    rw [ho] at g2; injection g2 with g2; subst g2
    rw [hb] at g3; cases g3
  have hnLay : isLay (cOp G o.op) = false → ¬ LayAt G ops W i := fun hb ⟨o', g1, g2, _⟩ => by
    rw [ho] at g1; injection g1 with g1; subst g1
    rw [hb] at g2; cases g2
  unfold wpOp
  simp only [ho']
  cases hW : W i with
  | false =>
    rw [if_neg (by rw [hwant, hW]; simp)]
    obtain ⟨v1, v2⟩ := h5 hW
    have hEu := hE.put D hn hsz ho (u := undef) (by rw [v1]; simp only [VR]; exact ⟨[], rfl, VRs.nil⟩)
    cases hb : isEff G o with
    | true =>
      have hk := hkEff hb
      refine hK _ _ _ _ _ (hI.eff D r hk (ρ' := ρ) (by rw [v2]; exact Grow.refl _ _)) hEu ?_
      rw [v2, on_on (hI.effOn D r hk)]
      exact hS
    | false => exact hK _ _ _ _ _ (hI.idle D r (hnEff hb) fun ⟨o', g1, g2, g3⟩ => by rw [hW] at g3; cases g3) hEu hS
  | true =>
    rw [if_pos (by rw [hwant, hW])]
    have hev := h4 hW
    have key : ∃ h h' k', evO dfr (cOp G o.op) cl (E i) h = .ok (V i) h' ∧ (isEffC (cOp G o.op) = true → Wf h) ∧ h.on F = F ∧ Free ρ h h' ∧ ∀ ρ', Grow ρ ρ' h h' → HI G ops ms es H W B φ ρ0 (listed.setIfInBounds i true) k' (h'.on F) ρ' := by
      have hEff : isEff G o = true → ∃ h h' k', evO dfr (cOp G o.op) cl (E i) h = .ok (V i) h' ∧ (isEffC (cOp G o.op) = true → Wf h) ∧ h.on F = F ∧ Free ρ h h' ∧ ∀ ρ', Grow ρ ρ' h h' → HI G ops ms es H W B φ ρ0 (listed.setIfInBounds i true) k' (h'.on F) ρ' := fun hb =>
        have hk := hkEff hb
        ⟨H i, H (i + 1), k + 1, hev, fun _ => D.wfAt (Nat.le_of_lt r.lt), on_on (hI.effOn D r hk), hI.effFree D r hk, fun ρ' hg => hI.eff D r hk hg⟩
      have hIdle : isEff G o = false → isLay (cOp G o.op) = false → ∀ ρ', Grow ρ ρ' (B k) (B k) → HI G ops ms es H W B φ ρ0 (listed.setIfInBounds i true) k ((B k).on F) ρ' := fun hb hl ρ' hg => by
        rw [grow_same hg, hI.fOn]
        exact hI.idle D r (hnEff hb) (hnLay hl)
      have hrd := D.can.rd i o ho hW
      have hee : isEff G o = isEffC (cOp G o.op) := rfl
      have hLA : isLay (cOp G o.op) = true → LayAt G ops W i := fun hl => ⟨o, ho, hl, hW⟩
      rw [hee] at hEff hIdle
      generalize cOp G o.op = c at *
      cases c with
      | pure f =>
        refine ⟨B k, B k, k, ?_, (fun hc => by simp [isEffC] at hc), hI.fOn, fun j h1 h2 => by omega, hIdle rfl rfl⟩
        simp only [evO] at hev ⊢
        cases hf : f (E i) with
        | none => simp [hf] at hev
        | some v => simp only [hf] at hev ⊢; injection hev with e1 e2; rw [e1]
      | read kk f =>
        refine ⟨B k, B k, k, ?_, (fun hc => by simp [isEffC] at hc), hI.fOn, fun j h1 h2 => by omega, hIdle rfl rfl⟩
        simp only [evO] at hev ⊢
        cases hf : f (E i) with
        | none => simp [hf] at hev
        | some v =>
          obtain ⟨b, off, m⟩ := v
          simp only [hf] at hev ⊢
          cases hc : rdAt (H i) b off m with
          | none => simp [hc] at hev
          | some cs =>
            simp only [hc] at hev
            have hne := hnEff (show isEff G o = false from hee)
            rw [hrd kk f b off m cs rfl hf hc k hI.kle ?_ ?_]
            · simp only []
              cases hm : madeOf kk cs with
              | none => simp [hm] at hev
              | some v => simp only [hm] at hev ⊢; injection hev with e1 e2; rw [e1]
            · unfold lhOf
              rw [nthL_eq]
              cases hms : ms[i]? with
              | none => exact Nat.zero_le _
              | some m =>
                refine lo_le es 0 fun idx x hx hb => ?_
                rw [Nat.zero_add]
                exact (hI.pre idx x hx).1 (r.bef x ⟨m, hms, hb⟩)
            · unfold lhOf
              rw [nthL_eq]
              cases hms : ms[i]? with
              | none => exact hI.kle
              | some m =>
                refine le_hi es 0 (by simpa using hI.kle) fun idx x hx hlt => ?_
                rw [Nat.zero_add] at hlt
                have hon := (hI.pre idx x hx).2 hlt
                have hxl : x < ms.length := by
                  rw [D.len]
                  have hx2 := hx
                  rw [D.plan.effs] at hx2
                  obtain ⟨j, o', g1, g2, _⟩ := effs_get ops 0 idx x hx2
                  have := (List.getElem?_eq_some_iff.1 g2).1
                  omega
                refine ⟨_, List.getElem?_eq_getElem hxl, ?_⟩
                cases hb : (ms[x]'hxl).testBit i with
                | false => rfl
                | true => exact absurd (hI.closed x i hon ⟨_, List.getElem?_eq_getElem hxl, hb⟩) r.off
      | lay s l f =>
        have hL := hLA rfl
        simp only [evO] at hev
        cases hf : f (E i) with
        | none => simp [hf] at hev
        | some cs =>
          simp only [hf] at hev
          injection hev with e1 e2
          refine ⟨⟨.nil, (H i).n⟩, (⟨.nil, (H i).n⟩ : Hp).new (.cells cs), k, ?_, (fun hc => by simp [isEffC] at hc), ?_, ?_, fun ρ' hg => ?_⟩
          · simp only [evO, hf]
            rw [← e1]
            rfl
          · exact on_on fun j b hb => by
              have hb : (Tr.nil : Tr Blk).get j = some b := hb
              cases j <;> cases hb
          · exact fun j h1 h2 => by
              rw [n_new] at h2
              have h1 : (H i).n ≤ j := h1
              have h2 : j < (H i).n + 1 := h2
              have : j = (H i).n := by omega
              subst this
              exact hI.layFree D r hL
          · have q := hI.lay D r hL (ρ' (H i).n)
            have eF : ((⟨.nil, (H i).n⟩ : Hp).new (.cells cs)).on F = fun j => if j = (H i).n then (H (i + 1)).t.get j else F j := by
              funext j
              unfold Hp.on
              rw [get_new, ← e2, get_new]
              show (match (if j = (H i).n then some (Blk.cells cs) else none) with | some b => some b | none => F j) = _
              by_cases hj : j = (H i).n
              · simp [hj]
              · simp [hj]
            have eρ : ρ' = fun j => if j = (H i).n then ρ' (H i).n else ρ j := by
              funext j
              by_cases hj : j = (H i).n
              · simp [hj]
              · simp only [if_neg hj]
                refine hg.2.1 j ?_
                rw [n_new]
                show ¬ ((H i).n ≤ j ∧ j < (H i).n + 1)
                omega
            rw [eF, eρ]
            exact q
      | eff f => exact hEff rfl
      | call f => exact hEff rfl
      | dfr f => exact hEff rfl
      | bad => simp [evO] at hev
    obtain ⟨h, h', k', c1, cw, c2, c3, c4⟩ := key
    rw [← evO_a hal] at c1
    refine .inl (op_ok hT hcl hd o c1 cw henv hE.hd (by rw [c2]; exact hS) c3 fun u a' w' ρ' ht hD' hg hS' hvr => ?_)
    exact hK _ _ _ _ _ (c4 ρ' hg) ((hE.ext hg.1 ht hD').put D hn hsz ho hvr) hS'
theorem Rdy.of (D : Drw G dfr cl n ops ms es E H W V B) (hI : HI G ops ms es H W B φ ρ0 listed k F ρ) (h : i ∈ Region.ready .any ops.toArray listed) : Rdy ops ms listed i := by
  obtain ⟨h1, o, h2, h3⟩ := mem_ready.1 h
  have h2 : ops[i]? = some o := by simpa using h2
  refine ⟨(List.getElem?_eq_some_iff.1 h2).1, (On_getD'.1 h1).2, fun j ⟨m, hm, hb⟩ => ?_⟩
  obtain ⟨m', g1, g2⟩ := D.plan.mask i o h2
  rw [hm] at g1; injection g1 with g1; subst g1
  obtain ⟨e, e1, e2, _, e4⟩ := maskE_bit g2 j hb
  have hon : On listed e.on := On_getD.1 (h3 e (by simpa using e1) (by rw [← binds_eq]; exact e2))
  rcases e4 with rfl | e4
  · exact hon
  · exact hI.closed _ _ hon e4
theorem all_listed (D : Drw G dfr cl n ops ms es E H W V B) (hI : HI G ops ms es H W B φ ρ0 listed k F ρ) (h : Region.ready .any ops.toArray listed = []) : ∀ i, i < ops.length → On listed i := by
  intro i
  induction i using Nat.strongRecOn with
  | _ i ih =>
    intro hi
    by_cases hon : On listed i
    · exact hon
    · have ho := List.getElem?_eq_getElem hi
      obtain ⟨m', g1, g2⟩ := D.plan.mask i _ ho
      have : i ∈ Region.ready .any ops.toArray listed := mem_ready.2 ⟨On_getD'.2 ⟨by rw [hI.size]; exact hi, hon⟩, ops[i]'hi, by rw [List.getElem?_toArray]; exact ho, fun e he hb => by
        have hlt := maskE_all g2 e (by simpa using he) (by rw [binds_eq]; exact hb)
        exact On_getD.2 (ih e.on hlt (by omega))⟩
      rw [h] at this
      cases this
theorem draw_any (hT : TysOk P G.tys) (hcl : ClOk P cl) (hd : DfrG P dfr) (D : Drw G dfr cl n ops ms es E H W V B) (hn : n < 1000) {Q : Exit → Act → World → Prop}
    (hQ : ∀ a' w', Aft P n ρ0 φ (H 0) (E ops.length) (H ops.length) a' w' → Q .normal a' w') : ∀ (fuel : Nat) (listed : Array Bool) (k : Nat) (F : Nat → Option Blk) (ρ : Pm) (a : Act) (w : World),
    HI G ops ms es H W B φ ρ0 listed k F ρ → EI P n ops E V listed ρ a → Sim ρ F w → left listed ≤ fuel → wpAny P .any ops.toArray Q fuel listed a w := by
  intro fuel
  have fin : ∀ (listed : Array Bool) (k : Nat) (F : Nat → Option Blk) (ρ : Pm) (a : Act) (w : World),
      HI G ops ms es H W B φ ρ0 listed k F ρ → EI P n ops E V listed ρ a → Sim ρ F w → (∀ i, i < ops.length → On listed i) → Q .normal a w := fun listed k F ρ a w hI hE hS hall => by
    obtain ⟨e1, e2⟩ := hI.done D hall
    subst e1
    exact hQ a w ⟨⟨ρ, e2, hS, hE.fin D hn hall⟩, hE.size, hE.hd⟩
  induction fuel with
  | zero =>
    intro listed k F ρ a w hI hE hS hf
    have hall : ∀ i, i < ops.length → On listed i := fun i hi => left_on (by omega) (by rw [hI.size]; exact hi)
    refine ⟨?_, fin listed k F ρ a w hI hE hS hall⟩
    cases hr : Region.ready .any ops.toArray listed with
    | nil => rfl
    | cons x l =>
      have rd := Rdy.of (i := x) D hI (by rw [hr]; exact List.mem_cons_self ..)
      exact absurd (hall x rd.lt) rd.off
  | succ fuel ih =>
    intro listed k F ρ a w hI hE hS hf
    refine ⟨fun hr => fin listed k F ρ a w hI hE hS (all_listed D hI hr), fun i hi => ?_⟩
    have rd := Rdy.of D hI hi
    refine draw_step hT hcl hd D hn hI hE hS rd fun k' F' ρ' a' w' hI' hE' hS' => ih _ k' F' ρ' a' w' hI' hE' hS' ?_
    have := left_set (by rw [hI.size]; exact rd.lt) rd.off
    omega
/-- **A region whose order is drawn.** -/
theorem cDraw_ok (hT : TysOk P G.tys) (hcl : ClOk P cl) (hm : ClM cl) (hd : DfrG P dfr) (hP : P.follows .mixedOrders = true) (hn : n < 1000) (hp : Plan G ops (masks ops) (effs G ops 0)) (hl : (masks ops).length = ops.length)
    {e e' : Tr AV} {h h' : Hp} (hf : (cDraw G dfr n ops).run cl e h = .ok e' h') (hwf : Wf h) {a : Act} {w : World} (hE : EnvR ρ e a) (hs : a.tmps.size = n) (hD : HD P a) (hS : Sim ρ (h.on φ) w) (hfr : Free ρ h h')
    {id : Nat} {Q : Exit → Act → World → Prop} (hQ : ∀ a' w', Aft P n ρ φ h e' h' a' w' → Q .normal a' w') : (Code.region id ops.toArray true).wp P Q a w := by
  obtain ⟨E, H, W, V, B, hC, e0, h0, e1, h1⟩ := cDraw_can hf
  subst e0; subst h0; subst e1; subst h1
  have D : Drw G dfr cl n ops (masks ops) (effs G ops 0) E H W V B := ⟨hC, hp, hl, hm, hwf⟩
  refine wp_region_any hP (draw_any hT hcl hd D hn hQ _ _ 0 ((H 0).on φ) ρ a _ ?_ ?_ (hS.heap rfl) ?_)
  · have hno : ∀ x, ¬ On (Array.replicate ops.toArray.size false) x := fun x hx => by
      unfold On at hx
      rw [Array.getElem?_replicate] at hx
      split at hx <;> simp at hx
    refine ⟨by simp, fun i j h1 _ => absurd h1 (hno i), fun m x _ => ⟨fun h1 => absurd h1 (hno x), fun h1 => by omega⟩, Nat.zero_le _, fun j b hb => ?_, fun i _ h1 => absurd h1 (hno i), fun j hj _ => ?_, fun j hj hj2 _ => ?_, fun j p hj => hj, fun j _ => rfl⟩
    · rw [hC.b0] at hb; unfold Hp.on; rw [hb]
    · rw [hC.b0] at hj
      have := hwf j
      unfold Hp.on
      cases hc : (H 0).t.get j with
      | none => rfl
      | some b => rw [hc] at this; simp at this; omega
    · rw [hC.b0] at hj; exact hfr j hj hj2
  · refine ⟨fun j o t _ _ h3 => ?_, fun t v _ h2 => hE t v h2, hs, hD⟩
    unfold On at h3
    rw [Array.getElem?_replicate] at h3
    split at h3 <;> simp at h3
  · have : left (Array.replicate ops.toArray.size false) ≤ (Array.replicate ops.toArray.size false).toList.length := List.count_le_length ..
    simpa using this
end
end Go.Proofs.YtibakihcicfeoaaGreat.Ev
/- The evaluator's drawn region that ends with two stores in any order, against the model's. No condition. -/
namespace Go.Proofs.YtibakihcicfeoaaGreat.Ev
theorem splitL_to : ∀ {l l0 : List Oper} {y : Oper}, splitL l = some (l0, y) → l = l0 ++ [y]
  | [], _, _, h => by cases h
  | o :: r, l0, y, h => by
    simp only [splitL] at h
    split at h
    · next hr =>
      injection h with h; injection h with h1 h2; subst h1; subst h2
      cases r with
      | nil => rfl
      | cons b r => simp only [splitL] at hr; split at hr <;> cases hr
    · next l y' hr =>
      injection h with h; injection h with h1 h2; subst h1; subst h2
      rw [splitL_to hr]; rfl
theorem lastE_to : ∀ {l : List Nat} {x : Nat}, lastE l = some x → ∃ m : Nat, l[m]? = some x ∧ l.length = m + 1
  | [], _, h => by cases h
  | o :: r, x, h => by
    simp only [lastE] at h
    split at h
    · next hr =>
      injection h with h; subst h
      cases r with
      | nil => exact ⟨0, rfl, rfl⟩
      | cons b r => simp only [lastE] at hr; split at hr <;> cases hr
    · next y hr =>
      injection h with h; subst h
      obtain ⟨m, h1, h2⟩ := lastE_to hr
      exact ⟨m + 1, by simpa using h1, by simp [h2]⟩
theorem storeX_to {o : Op} {p : Operand} (h : storeX o = some p) : ∃ t v, o = .store t p v := by
  cases o <;> simp only [storeX] at h <;> first | (cases h; done) | skip
  injection h with h; subst h
  exact ⟨_, _, rfl⟩
def isPureC : CO → Bool
  | .pure _ => true
  | _ => false
/-- What is asked of such a region. -/
structure T2Ok (G : Cx) (ops0 : List Oper) (y : Oper) (x : Nat) (ox : Oper) (px py : Operand) (my : Nat) : Prop where
  plan : Plan G ops0 (masks ops0) (effs G ops0 0)
  len : (masks ops0).length = ops0.length
  last : lastE (effs G ops0 0) = some x
  hx : ops0[x]? = some ox
  xop : storeX ox.op = some px
  xdst : ox.dst = none
  yop : storeX y.op = some py
  ydst : y.dst = none
  yg : y.guard = none
  gs : ∀ (i : Nat) (o : Oper), ops0[i]? = some o → o.guard = none
  ym : maskE (masks ops0) ops0.length y.after.toList = some my
  late : ∀ (i : Nat) (o : Oper), ops0[i]? = some o → my.testBit i = true ∨ i = x ∨ isPureC (cOp G o.op) = true
  aft : ∀ (i : Nat) (o : Oper), ops0[i]? = some o → x < i → isPureC (cOp G o.op) = true
  keep : ∀ t : Nat, px = .tmp t → ∀ (i : Nat) (o : Oper), ops0[i]? = some o → x < i → o.dst ≠ some t
  uses : ∀ t : Nat, t ∈ tmpsOf y.op.operands.toList → ∀ (j : Nat) (oj : Oper), ops0[j]? = some oj → oj.dst = some t → my.testBit j = true
section
variable {P : Program} {G : Cx} {dfr : Nat → Bool} {cl : Cl} {n : Nat} {ops : List Oper} {ms es : List Nat} {E : Nat → Tr AV} {H : Nat → Hp} {W : Nat → Bool} {V : Nat → AV} {B : Nat → Hp}
variable {φ F : Nat → Option Blk} {ρ0 ρ : Pm} {listed : Array Bool} {k i : Nat}
theorem evO_ef2 (x y : Operand) (f : AV → AV → Hp → RA) (e : Tr AV) (h : Hp) : evO dfr (ef2 x y f) cl e h = (match (cX x).get e with
    | some v => (match (cX y).get e with
      | some u => f v u h
      | none => .no)
    | none => .no) := by
  rw [ef2_eq]; rfl
theorem storeF_inv {n : Nat} {p v r : AV} {h h' : Hp} (hf : storeF n p v h = .ok r h') : ∃ i off vs cs cs', p = .ptr i off ∧ asCells n v = some vs ∧ h.t.get i = some (.cells cs) ∧ wrL cs off vs = some cs' ∧ r = .tup [] ∧ h' = h.set i (.cells cs') := by
  unfold storeF at hf
  split at hf
  · next i off =>
    split at hf
    · next vs hvs =>
      split at hf
      · next cs hcs =>
        split at hf
        · next cs' hcs' =>
          injection hf with e1 e2; subst e1; subst e2
          exact ⟨i, off, vs, cs, cs', rfl, hvs, hcs, hcs', rfl, rfl⟩
        · cases hf
      · cases hf
    · cases hf
  · cases hf
theorem storeF_run {n i off : Nat} {v : AV} {h : Hp} {vs cs cs' : List AV} (h1 : asCells n v = some vs) (h2 : h.t.get i = some (.cells cs)) (h3 : wrL cs off vs = some cs') : storeF n (.ptr i off) v h = .ok (.tup []) (h.set i (.cells cs')) := by
  simp only [storeF, h1, h2, h3]
/-- A store's run. -/
theorem store_run {o : Oper} {p : Operand} (ho : storeX o.op = some p) {e : Tr AV} {h h' : Hp} {r : AV} (hf : evO dfr (cOp G o.op) cl e h = .ok r h') :
    ∃ i off cs cs', (cX p).get e = some (.ptr i off) ∧ h.t.get i = some (.cells cs) ∧ r = .tup [] ∧ h' = h.set i (.cells cs') ∧ isEffC (cOp G o.op) = true ∧
      ∀ h2 : Hp, h2.t.get i = some (.cells cs) → evO dfr (cOp G o.op) cl e h2 = .ok (.tup []) (h2.set i (.cells cs')) := by
  obtain ⟨t, v, ho⟩ := storeX_to ho
  rw [ho] at hf ⊢
  simp only [cOp] at hf ⊢
  split at hf
  · next ti hti =>
    rw [evO_ef2] at hf
    cases hp : (cX p).get e with
    | none => simp [hp] at hf
    | some pv =>
      simp only [hp] at hf
      cases hv : (cX v).get e with
      | none => simp [hv] at hf
      | some vv =>
        simp only [hv] at hf
        obtain ⟨i, off, vs, cs, cs', rfl, h1, h2, h3, rfl, rfl⟩ := storeF_inv hf
        refine ⟨i, off, cs, cs', rfl, h2, rfl, rfl, ?_, fun h4 hg => ?_⟩
        · simp only [hti, ef2_eq]; rfl
        · simp only [hti, evO_ef2, hp, hv]
          exact storeF_run h1 hg h3
  · simp [evO] at hf
theorem pure_stay (D : Drw G dfr cl n ops ms es E H W V B) {o : Oper} (ho : ops[i]? = some o) (hp : isPureC (cOp G o.op) = true) : H (i + 1) = H i := by
  obtain ⟨p, _, _, _, h4, h5⟩ := D.can.step i o ho
  cases hW : W i with
  | false => exact (h5 hW).2
  | true =>
    have h4 := h4 hW
    generalize cOp G o.op = c at *
    cases c <;> simp only [isPureC] at hp <;> try (cases hp; done)
    simp only [evO] at h4
    split at h4
    · injection h4 with _ h4; exact h4.symm
    · cases h4
theorem pure_stays (D : Drw G dfr cl n ops ms es E H W V B) {x : Nat} (hp : ∀ (i : Nat) (o : Oper), ops[i]? = some o → x < i → isPureC (cOp G o.op) = true) : ∀ d : Nat, x + 1 + d ≤ ops.length → H (x + 1 + d) = H (x + 1)
  | 0, _ => rfl
  | d + 1, h => by
    have hlt : x + 1 + d < ops.length := by omega
    have ho := List.getElem?_eq_getElem hlt
    rw [← pure_stays D hp d (by omega)]
    exact pure_stay D ho (hp _ _ ho (by omega))
theorem pure_noEff {o : Oper} (h : isPureC (cOp G o.op) = true) : isEff G o = false ∧ isLay (cOp G o.op) = false := by
  unfold isEff
  generalize cOp G o.op = c at *
  cases c <;> simp only [isPureC] at h <;> first | (cases h; done) | exact ⟨rfl, rfl⟩
/-- What an effect meets, if all that is laid ahead of it is listed. -/
theorem HI.effOn' (D : Drw G dfr cl n ops ms es E H W V B) (h : HI G ops ms es H W B φ ρ0 listed k F ρ) (hlt : i < ops.length) (hk : es[k]? = some i) (hl : ∀ l, l < i → LayAt G ops W l → On listed l) : ∀ j b, (H i).t.get j = some b → F j = some b := by
  obtain ⟨s, e1, e2, e3, e4, e5⟩ := D.stretch h.kle
  have hsi := e5 k i hk (Nat.le_refl _)
  obtain ⟨q1, q2⟩ := D.quiet s (i - s) (by omega) fun y o h1 h2 => D.noEff e4 (.inl hk) y o h1 (by omega)
  rw [show s + (i - s) = i by omega] at q1 q2
  intro j b hb
  by_cases hj : j < (H s).n
  · rw [q1 j hj] at hb
    exact h.fB j b (by rw [e1]; exact hb)
  · have hj2 : j < (H i).n := by
      have := D.wfAt (Nat.le_of_lt hlt) j
      rw [hb] at this
      simpa using this
    obtain ⟨l, l1, l2, l3, l4, l5⟩ := q2 j (by omega) hj2
    have := h.fL l l3 (hl l (by omega) l3) (by rw [e1]; exact D.mono l1 (by omega))
    rw [l4] at this
    rw [this, ← l5, hb]
theorem EI.env' (D : Drw G dfr cl n ops ms es E H W V B) (hn : n < 1000) {a : Act} (h : EI P n ops E V listed ρ a) {sl : List Nat} (hs : ∀ t ∈ sl, ∀ (j : Nat) (oj : Oper), ops[j]? = some oj → oj.dst = some t → On listed j) : EnvR ρ (keepT (E ops.length) sl) a := by
  intro t v hv
  rcases (keepT_get (E ops.length) sl t).1 with hc | ⟨hc, hm⟩
  · rw [hc] at hv; cases hv
  · rw [hc] at hv
    rcases D.slot hn t (Nat.le_refl _) with ⟨j, oj, h1, h2, h3, h4⟩ | ⟨h1, h2⟩
    · rw [hv] at h4; injection h4 with h4; subst h4
      exact h.on j oj t h2 h3 (hs t hm j oj h2 h3)
    · rw [h2] at hv
      exact h.off t v (fun j oj g1 g2 _ => h1 j oj (List.getElem?_eq_some_iff.1 g1).1 g1 g2) hv
theorem cX_stay (D : Drw G dfr cl n ops ms es E H W V B) (hn : n < 1000) {x : Nat} (hx : x < ops.length) {ox : Oper} (hox : ops[x]? = some ox) (hd : ox.dst = none) {p : Operand} (hk : ∀ t : Nat, p = .tmp t → ∀ (i : Nat) (o : Oper), ops[i]? = some o → x < i → o.dst ≠ some t) :
    (cX p).get (E ops.length) = (cX p).get (E x) := by
  cases p with
  | tmp t =>
    simp only [cX]
    by_cases ht : Nat.blt t 1000 = true
    · rw [ht]
      simp only [cond_true]
      have hlt : (t : Nat) + 1 < 2 ^ 10 := Nat.lt_of_lt_of_le (Nat.succ_lt_succ (bltT ht)) (by decide)
      rw [cGet_eq 10 t _ hlt, cGet_eq 10 t _ hlt]
      have := D.keep hn t x (ops.length - x) (by omega) fun j o h1 h2 h3 => by
        by_cases hj : j = x
        · subst hj; rw [hox] at h3; injection h3 with h3; subst h3; rw [hd]; simp
        · exact hk t rfl j o h3 (by omega)
      rw [show x + (ops.length - x) = ops.length by omega] at this
      exact this
    · rw [Bool.eq_false_iff.2 ht]; rfl
  | const c => simp only [cX]; split <;> rfl
  | func f => rfl
  | global g => rfl
end
end Go.Proofs.YtibakihcicfeoaaGreat.Ev
/- The evaluator's drawn region that ends with two stores in any order: its run. No condition. -/
namespace Go.Proofs.YtibakihcicfeoaaGreat.Ev
section
variable {P : Program} {G : Cx} {dfr : Nat → Bool} {cl : Cl} {n : Nat} {ops : List Oper} {E : Nat → Tr AV} {H : Nat → Hp} {W : Nat → Bool} {V : Nat → AV} {B : Nat → Hp}
variable {φ F : Nat → Option Blk} {ρ0 ρ : Pm} {listed : Array Bool} {k i : Nat} {y ox : Oper} {x my : Nat} {px py : Operand}
theorem On_pop {listed : Array Bool} {N : Nat} (hs : listed.size = N + 1) {j : Nat} : On listed.pop j ↔ On listed j ∧ j < N := by
  unfold On
  by_cases hj : j < N
  · have h1 : j < listed.pop.size := by simp [hs, hj]
    have h2 : j < listed.size := by omega
    rw [Array.getElem?_eq_getElem h1, Array.getElem?_eq_getElem h2, Array.getElem_pop]
    simp [hj]
  · have : listed.pop[j]? = none := Array.getElem?_eq_none (by simp [hs]; omega)
    rw [this]
    simp [hj]
theorem set_pop {listed : Array Bool} {N i : Nat} (hs : listed.size = N + 1) (hi : i < N) : (listed.setIfInBounds i true).pop = listed.pop.setIfInBounds i true := by
  apply Array.ext
  · simp
  · intro j h1 h2
    simp only [Array.size_pop, Array.size_setIfInBounds] at h1 h2
    rw [Array.getElem_pop, Array.getElem_setIfInBounds, Array.getElem_setIfInBounds, Array.getElem_pop]
    simp only [Array.size_pop]; exact h1
theorem set_pop_last {listed : Array Bool} {N : Nat} (hs : listed.size = N + 1) : (listed.setIfInBounds N true).pop = listed.pop := by
  apply Array.ext
  · simp
  · intro j h1 h2
    simp only [Array.size_pop, Array.size_setIfInBounds] at h1 h2
    rw [Array.getElem_pop, Array.getElem_setIfInBounds, if_neg (by omega), Array.getElem_pop]
/-- A part of the longer region that is ready, is so in the shorter one. -/
theorem Rdy.of2 (D : Drw G dfr cl n ops (masks ops) (effs G ops 0) E H W V B) (hs : listed.size = ops.length + 1) (hcl : ∀ i j, On listed.pop i → Bef (masks ops) i j → On listed.pop j)
    (hi : i < ops.length) (h : i ∈ Region.ready .any (ops ++ [y]).toArray listed) : Rdy ops (masks ops) listed.pop i := by
  obtain ⟨h1, o, h2, h3⟩ := mem_ready.1 h
  have h2 : (ops ++ [y])[i]? = some o := by simpa using h2
  rw [List.getElem?_append_left hi] at h2
  refine ⟨hi, fun hh => (On_getD'.1 h1).2 ((On_pop hs).1 hh).1, fun j ⟨m, hm, hb⟩ => ?_⟩
  obtain ⟨m', g1, g2⟩ := D.plan.mask i o h2
  rw [hm] at g1; injection g1 with g1; subst g1
  obtain ⟨e, e1, e2, e3, e4⟩ := maskE_bit g2 j hb
  have hon : On listed.pop e.on := (On_pop hs).2 ⟨On_getD.1 (h3 e (by simpa using e1) (by rw [← binds_eq]; exact e2)), by omega⟩
  rcases e4 with rfl | e4
  · exact hon
  · exact hcl _ _ hon e4
theorem Rdy.ofY (T : T2Ok G ops y x ox px py my) (hs : listed.size = ops.length + 1) (hcl : ∀ i j, On listed.pop i → Bef (masks ops) i j → On listed.pop j)
    (h : ops.length ∈ Region.ready .any (ops ++ [y]).toArray listed) : ∀ j, my.testBit j = true → On listed.pop j := by
  obtain ⟨h1, o, h2, h3⟩ := mem_ready.1 h
  have h2 : (ops ++ [y])[ops.length]? = some o := by simpa using h2
  rw [List.getElem?_append_right (Nat.le_refl _), Nat.sub_self] at h2
  have h2 : y = o := by simpa using h2
  subst h2
  intro j hb
  obtain ⟨e, e1, e2, e3, e4⟩ := maskE_bit T.ym j hb
  have hon : On listed.pop e.on := (On_pop hs).2 ⟨On_getD.1 (h3 e (by simpa using e1) (by rw [← binds_eq]; exact e2)), by omega⟩
  rcases e4 with rfl | e4
  · exact hon
  · exact hcl _ _ hon e4
/-- Nothing is ready: all is listed. -/
theorem all_listed2 (D : Drw G dfr cl n ops (masks ops) (effs G ops 0) E H W V B) (T : T2Ok G ops y x ox px py my) (hs : listed.size = ops.length + 1) (h : Region.ready .any (ops ++ [y]).toArray listed = []) :
    (∀ i, i < ops.length → On listed.pop i) ∧ On listed ops.length := by
  have h1 : ∀ i, i < ops.length → On listed.pop i := by
    intro i
    induction i using Nat.strongRecOn with
    | _ i ih =>
      intro hi
      by_cases hon : On listed.pop i
      · exact hon
      · have ho := List.getElem?_eq_getElem hi
        obtain ⟨m', g1, g2⟩ := D.plan.mask i _ ho
        have : i ∈ Region.ready .any (ops ++ [y]).toArray listed := mem_ready.2 ⟨On_getD'.2 ⟨by omega, fun hh => hon ((On_pop hs).2 ⟨hh, hi⟩)⟩, ops[i]'hi, by rw [List.getElem?_toArray, List.getElem?_append_left hi]; exact ho, fun e he hb => by
          have hlt := maskE_all g2 e (by simpa using he) (by rw [binds_eq]; exact hb)
          exact On_getD.2 ((On_pop hs).1 (ih e.on hlt (by omega))).1⟩
        rw [h] at this
        cases this
  refine ⟨h1, ?_⟩
  by_cases hon : On listed ops.length
  · exact hon
  · have : ops.length ∈ Region.ready .any (ops ++ [y]).toArray listed := mem_ready.2 ⟨On_getD'.2 ⟨by omega, hon⟩, y, by simp, fun e he hb => by
      have hlt := maskE_all T.ym e (by simpa using he) (by rw [binds_eq]; exact hb)
      exact On_getD.2 ((On_pop hs).1 (h1 e.on hlt)).1⟩
    rw [h] at this
    cases this
/-- A step of the shorter region is one of the longer region. -/
theorem wpOp_more {K : Act → World → Prop} {Q : Exit → Act → World → Prop} {a : Act} {w : World} (hi : i < ops.length) (hg : ∀ (i : Nat) (o : Oper), ops[i]? = some o → o.guard = none) (h : wpOp P ops.toArray Q i K a w) : wpOp P (ops ++ [y]).toArray Q i K a w := by
  unfold wpOp at h ⊢
  have e1 : ops.toArray[i]? = some (ops[i]'hi) := by simp [List.getElem?_eq_getElem hi]
  have e2 : (ops ++ [y]).toArray[i]? = some (ops[i]'hi) := by simp [List.getElem?_append_left hi, List.getElem?_eq_getElem hi]
  have hgd := hg i _ (List.getElem?_eq_getElem hi)
  have w1 : Region.wanted (ops[i]'hi) (yielded ops.toArray a.tmps) = true := by unfold Region.wanted; rw [hgd]
  have w2 : Region.wanted (ops[i]'hi) (yielded (ops ++ [y]).toArray a.tmps) = true := by unfold Region.wanted; rw [hgd]
  rw [e1] at h
  rw [e2]
  simp only [w1, if_true] at h
  simp only [w2, if_true]
  exact h
/-- What is known of the last two. -/
structure Two (G : Cx) (dfr : Nat → Bool) (cl : Cl) (ops : List Oper) (y ox : Oper) (x : Nat) (E : Nat → Tr AV) (H : Nat → Hp) (V : Nat → AV) (i j : Nat) (cx cx' cy cy' : List AV) : Prop where
  ne : i ≠ j
  gx : (H x).t.get i = some (.cells cx)
  gy : (H x).t.get j = some (.cells cy)
  hx : H (x + 1) = (H x).set i (.cells cx')
  hl : H ops.length = H (x + 1)
  vx : V x = .tup []
  rx : ∀ h2 : Hp, h2.t.get i = some (.cells cx) → evO dfr (cOp G ox.op) cl (E x) h2 = .ok (.tup []) (h2.set i (.cells cx'))
  ry : ∀ h2 : Hp, h2.t.get j = some (.cells cy) → evO dfr (cOp G y.op) cl (E ops.length) h2 = .ok (.tup []) (h2.set j (.cells cy'))
theorem two_of (D : Drw G dfr cl n ops (masks ops) (effs G ops 0) E H W V B) (T : T2Ok G ops y x ox px py my) (hn : n < 1000) {r : AV} {h2 : Hp} (hy : evO dfr (cOp G y.op) cl (E ops.length) (H ops.length) = .ok r h2)
    (ha : apartF ((cX px).get (E ops.length)) ((cX py).get (E ops.length)) = true) : ∃ i j cx cx' cy cy', Two G dfr cl ops y ox x E H V i j cx cx' cy cy' ∧ h2 = (H ops.length).set j (.cells cy') ∧ isEffC (cOp G y.op) = true ∧ W x = true := by
  have hxl : x < ops.length := (List.getElem?_eq_some_iff.1 T.hx).1
  obtain ⟨p, p1, p2, p3, p4, p5⟩ := D.can.step x ox T.hx
  have hW : W x = true := by
    have : (cWant ops ox).want (E x) = some true := by unfold cWant; rw [T.gs x ox T.hx]
    rw [this] at p2; injection p2 with p2; exact p2.symm
  obtain ⟨i, oi, cx, cx', x1, x2, x3, x4, x5, x6⟩ := store_run T.xop (p4 hW)
  obtain ⟨j, oj, cy, cy', y1, y2, y3, y4, y5, y6⟩ := store_run T.yop hy
  have hst := cX_stay D hn hxl T.hx T.xdst (p := px) T.keep
  rw [hst, x1, y1] at ha
  have hne : i ≠ j := fun he => by
    subst he
    simp [apartF, Nat.beq_refl] at ha
  have hl : H ops.length = H (x + 1) := by
    have := pure_stays D T.aft (ops.length - (x + 1)) (by omega)
    rwa [show x + 1 + (ops.length - (x + 1)) = ops.length by omega] at this
  have gy : (H x).t.get j = some (.cells cy) := by
    rw [hl, x4, get_set, if_neg (Ne.symm hne)] at y2
    exact y2
  exact ⟨i, j, cx, cx', cy, cy', ⟨hne, x2, gy, x4, hl, x3, x6, y6⟩, y4, y5, hW⟩
theorem put_none (a : Act) (u : Value) : a.put none u = a := rfl
theorem upd_upd_ne {F : Nat → Option Blk} {i j : Nat} (b c : Blk) (h : i ≠ j) : upd (upd F i b) j c = upd (upd F j c) i b := by
  funext z
  unfold upd
  by_cases h1 : z = j
  · subst h1; simp [Ne.symm h]
  · simp [h1]
/-- The last store, done. -/
structure PB (P : Program) (G : Cx) (n : Nat) (ops : List Oper) (E : Nat → Tr AV) (H : Nat → Hp) (W : Nat → Bool) (V : Nat → AV) (B : Nat → Hp) (φ : Nat → Option Blk) (ρ0 : Pm) (j : Nat) (cy' : List AV) (my : Nat) (listed : Array Bool) (a : Act) (w : World) : Prop where
  on : On listed ops.length
  ys : ∀ i, my.testBit i = true → On listed.pop i
  ex : ∃ k F ρ, HI G ops (masks ops) (effs G ops 0) H W B φ ρ0 listed.pop k F ρ ∧ EI P n ops E V listed.pop ρ a ∧ Sim ρ (upd F j (.cells cy')) w
section
variable (hT : TysOk P G.tys) (hcl : ClOk P cl) (hd : DfrG P dfr) (D : Drw G dfr cl n ops (masks ops) (effs G ops 0) E H W V B) (T : T2Ok G ops y x ox px py my) (hn : n < 1000)
variable {i0 j0 : Nat} {cx cx' cy cy' : List AV} (Z : Two G dfr cl ops y ox x E H V i0 j0 cx cx' cy cy')
include hT hcl hd D T hn Z
/-- A step behind the last store. -/
theorem pb_step (hs : listed.size = ops.length + 1) {a : Act} {w : World} (hB : PB P G n ops E H W V B φ ρ0 j0 cy' my listed a w) (hi : i ∈ Region.ready .any (ops ++ [y]).toArray listed) {K : Act → World → Prop} {Q : Exit → Act → World → Prop}
    (hK : ∀ a' w', PB P G n ops E H W V B φ ρ0 j0 cy' my (listed.setIfInBounds i true) a' w' → K a' w') : wpOp P (ops ++ [y]).toArray Q i K a w := by
  obtain ⟨k, F, ρ, hI, hE, hS⟩ := hB.ex
  have hil : i < ops.length := by
    obtain ⟨h1, o, h2, _⟩ := mem_ready.1 hi
    have h2 : (ops ++ [y])[i]? = some o := by simpa using h2
    have h3 := (List.getElem?_eq_some_iff.1 h2).1
    simp only [List.length_append, List.length_singleton] at h3
    have : i ≠ ops.length := fun he => (On_getD'.1 h1).2 (he ▸ hB.on)
    omega
  have r := Rdy.of2 D hs hI.closed hil hi
  have ho := List.getElem?_eq_getElem hil
  generalize ops[i]'hil = o at ho
  refine wpOp_more hil T.gs ?_
  have hsz : i < listed.pop.size := by rw [hI.size]; exact hil
  have henv := hE.env D hn hI.closed r ho
  obtain ⟨p, hp, hw, h3, h4, h5⟩ := D.can.step i o ho
  have hW : W i = true := by
    have : (cWant ops o).want (E i) = some true := by unfold cWant; rw [T.gs i o ho]
    rw [this] at hw; injection hw with hw; exact hw.symm
  have hal : Alike (keepT (E i) (looks ops o)) (E i) (cOp G o.op) := cOp_a o.op fun x hx => cX_keep fun t ht => by
    unfold looks
    exact List.mem_append_right _ (tmpsOf_mem (ht ▸ hx))
  have hev := h4 hW
  unfold wpOp
  have ho' : ops.toArray[i]? = some o := by simpa using ho
  have hwant : Region.wanted o (yielded ops.toArray a.tmps) = true := by unfold Region.wanted; rw [T.gs i o ho]
  simp only [ho', hwant, if_true]
  have hPB : ∀ a' w' k' F' ρ', HI G ops (masks ops) (effs G ops 0) H W B φ ρ0 (listed.pop.setIfInBounds i true) k' F' ρ' → EI P n ops E V (listed.pop.setIfInBounds i true) ρ' a' → Sim ρ' (upd F' j0 (.cells cy')) w' → K a' w' := fun a' w' k' F' ρ' q1 q2 q3 => by
    refine hK a' w' ⟨(On_set (by omega)).2 (.inr hB.on), fun z hz => ?_, k', F', ρ', ?_, ?_, q3⟩
    · rw [set_pop hs hil]; exact (On_set hsz).2 (.inr (hB.ys z hz))
    · rw [set_pop hs hil]; exact q1
    · rw [set_pop hs hil]; exact q2
  rcases T.late i o ho with hb | hix | hpu
  · exact absurd (hB.ys i hb) r.off
  · subst hix
    rw [T.hx] at ho; injection ho with ho; subst ho
    have hk : (effs G ops 0)[k]? = some i := by
      obtain ⟨m, m1, m2⟩ := lastE_to T.last
      have := hI.effK D r m1
      subst this
      exact m1
    have hon := hI.effOn D r hk
    have hF : (H i).on F = F := on_on hon
    have hwf : Wf ((H i).set j0 (.cells cy')) := (good_set Z.gy _).2 (D.wfAt (Nat.le_of_lt hil))
    have hev2 := Z.rx ((H i).set j0 (.cells cy')) (by rw [get_set, if_neg Z.ne]; exact Z.gx)
    rw [← evO_a hal] at hev2
    have hS2 : Sim ρ (((H i).set j0 (.cells cy')).on F) w := by rw [on_set, hF]; exact hS
    have hfr : Free ρ ((H i).set j0 (.cells cy')) (((H i).set j0 (.cells cy')).set i0 (.cells cx')) := fun z h1 h2 => by
      simp only [n_set] at h1 h2; omega
    refine .inl (op_ok hT hcl hd ox hev2 (fun _ => hwf) henv hE.hd hS2 hfr fun u a' w' ρ' ht hD' hg hS' hvr => ?_)
    have hρ : ρ' = ρ := funext fun z => hg.2.1 z (by simp only [n_set]; omega)
    subst hρ
    have hg2 : Grow ρ' ρ' (H i) (H (i + 1)) := ⟨fun _ _ h => h, fun _ _ => rfl, by rw [Z.hx, n_set]; exact Nat.le_refl _⟩
    refine hPB _ _ _ _ _ (hI.eff D r hk hg2) (hE.ext (fun _ _ h => h) ht hD' |>.put D hn hsz T.hx (by rw [Z.vx]; exact hvr)) ?_
    have e1 : (((H i).set j0 (.cells cy')).set i0 (.cells cx')).on F = upd ((H (i + 1)).on F) j0 (.cells cy') := by
      rw [Z.hx, on_set, on_set, on_set, hF, upd_upd_ne _ _ Z.ne]
    rw [← e1]; exact hS'
  · obtain ⟨hne, hnl⟩ := pure_noEff hpu
    have hnE : ∀ m : Nat, (effs G ops 0)[m]? ≠ some i := fun m hm => by
      obtain ⟨j, o', g1, g2, g3⟩ := effs_get ops 0 m i hm
      rw [Nat.zero_add] at g1; subst g1
      rw [ho] at g2; injection g2 with g2; subst g2
      rw [hne] at g3; cases g3
    have hnL : ¬ LayAt G ops W i := fun ⟨o', g1, g2, _⟩ => by
      rw [ho] at g1; injection g1 with g1; subst g1
      rw [hnl] at g2; cases g2
    have hev2 : evO dfr (cOp G o.op) cl (keepT (E i) (looks ops o)) ⟨.nil, 0⟩ = .ok (V i) ⟨.nil, 0⟩ := by
      rw [evO_a hal]
      generalize cOp G o.op = c at *
      cases c <;> simp only [isPureC] at hpu <;> try (cases hpu; done)
      simp only [evO] at hev ⊢
      split at hev
      · next v hv => injection hev with e1 e2; subst e1; rfl
      · cases hev
    have hon : (⟨.nil, 0⟩ : Hp).on (upd F j0 (.cells cy')) = upd F j0 (.cells cy') := on_on fun j b hb => by
      have hb : (Tr.nil : Tr Blk).get j = some b := hb
      cases j <;> cases hb
    have hee : isEffC (cOp G o.op) = false := hne
    refine .inl (op_ok hT hcl hd o hev2 (fun hc => by rw [hee] at hc; cases hc) henv hE.hd (φ := upd F j0 (.cells cy')) (by rw [hon]; exact hS) (fun z h1 h2 => by omega) fun u a' w' ρ' ht hD' hg hS' hvr => ?_)
    have hρ := grow_same hg
    subst hρ
    rw [hon] at hS'
    exact hPB _ _ _ _ _ (hI.idle D r hnE hnL) ((hE.ext (fun _ _ h => h) ht hD').put D hn hsz ho hvr) hS'
/-- The last store. -/
theorem y_step (hs : listed.size = ops.length + 1) {a : Act} {w : World} (hI : HI G ops (masks ops) (effs G ops 0) H W B φ ρ0 listed.pop k F ρ) (hE : EI P n ops E V listed.pop ρ a) (hS : Sim ρ F w)
    (hi : ops.length ∈ Region.ready .any (ops ++ [y]).toArray listed) {K : Act → World → Prop} {Q : Exit → Act → World → Prop}
    (hK : ∀ a' w', PB P G n ops E H W V B φ ρ0 j0 cy' my (listed.setIfInBounds ops.length true) a' w' → K a' w') : wpOp P (ops ++ [y]).toArray Q ops.length K a w := by
  have hys := Rdy.ofY T hs hI.closed hi
  have hxl : x < ops.length := (List.getElem?_eq_some_iff.1 T.hx).1
  have henv : EnvR ρ (keepT (E ops.length) (tmpsOf y.op.operands.toList)) a := hE.env' D hn fun t ht j oj h1 h2 => hys j (T.uses t ht j oj h1 h2)
  have hal : Alike (keepT (E ops.length) (tmpsOf y.op.operands.toList)) (E ops.length) (cOp G y.op) := cOp_a y.op fun x hx => cX_keep fun t ht => tmpsOf_mem (ht ▸ hx)
  have hlays : ∀ l, LayAt G ops W l → On listed.pop l := fun l ⟨o, h1, h2, h3⟩ => by
    rcases T.late l o h1 with hb | hlx | hpu
    · exact hys l hb
    · subst hlx
      rw [T.hx] at h1; injection h1 with h1; subst h1
      obtain ⟨m, m1, m2⟩ := lastE_to T.last
      exact absurd m1 (notEff_lay D ⟨ox, T.hx, h2, h3⟩ m)
    · rw [(pure_noEff hpu).2] at h2; cases h2
  obtain ⟨m, m1, m2⟩ := lastE_to T.last
  have hkm : k = m ∨ k = m + 1 := by
    have h1 := hI.kle
    by_cases hk : k < m
    · have hx2 := List.getElem?_eq_getElem (l := effs G ops 0) (i := k) (by omega)
      generalize (effs G ops 0)[k]'(by omega) = z at hx2
      obtain ⟨z2, o, g1, g2, g3⟩ := effs_get ops 0 k z hx2
      rw [Nat.zero_add] at g1; subst g1
      have hzx := effs_lt ops 0 k m z x hx2 m1 hk
      rcases T.late z o g2 with hb | hlx | hpu
      · have := (hI.pre k z hx2).1 (hys z hb); omega
      · omega
      · rw [(pure_noEff hpu).1] at g3; cases g3
    · omega
  obtain ⟨hh, e1, e2, e3⟩ : ∃ hh : Hp, Wf hh ∧ hh.on F = F ∧ hh.t.get j0 = some (.cells cy) := by
    rcases hkm with rfl | rfl
    · exact ⟨H x, D.wfAt (Nat.le_of_lt hxl), on_on (hI.effOn' D hxl m1 fun l _ hl => hlays l hl), Z.gy⟩
    · have hBk : B (m + 1) = H (x + 1) := D.can.bs m x m1
      exact ⟨H (x + 1), D.wfAt hxl, on_on (by rw [← hBk]; exact hI.fB), by rw [Z.hx, get_set, if_neg (Ne.symm Z.ne)]; exact Z.gy⟩
  have hev := Z.ry hh e3
  rw [← evO_a hal] at hev
  unfold wpOp
  have ho' : (ops ++ [y]).toArray[ops.length]? = some y := by simp
  have hwant : Region.wanted y (yielded (ops ++ [y]).toArray a.tmps) = true := by unfold Region.wanted; rw [T.yg]
  simp only [ho', hwant, if_true]
  refine .inl (op_ok hT hcl hd y hev (fun _ => e1) henv hE.hd (by rw [e2]; exact hS) (fun z h1 h2 => by simp only [n_set] at h1 h2; omega) fun u a' w' ρ' ht hD' hg hS' hvr => ?_)
  have hρ : ρ' = ρ := funext fun z => hg.2.1 z (by simp only [n_set]; omega)
  subst hρ
  rw [on_set, e2] at hS'
  rw [T.ydst, put_none]
  refine hK a' w' ⟨(On_set (by omega)).2 (.inl rfl), fun z hz => ?_, k, F, ρ', ?_, ?_, hS'⟩
  · rw [set_pop_last hs]; exact hys z hz
  · rw [set_pop_last hs]; exact hI
  · rw [set_pop_last hs]; exact hE.ext (fun _ _ h => h) ht hD'
/-- The whole. -/
theorem draw2_any {Q : Exit → Act → World → Prop}
    (hQ : ∀ a' w', Aft P n ρ0 φ (H 0) (E ops.length) ((H ops.length).set j0 (.cells cy')) a' w' → Q .normal a' w') : ∀ (fuel : Nat) (listed : Array Bool) (a : Act) (w : World), listed.size = ops.length + 1 → left listed ≤ fuel →
    ((¬ On listed ops.length ∧ ∃ k F ρ, HI G ops (masks ops) (effs G ops 0) H W B φ ρ0 listed.pop k F ρ ∧ EI P n ops E V listed.pop ρ a ∧ Sim ρ F w) ∨ PB P G n ops E H W V B φ ρ0 j0 cy' my listed a w) → wpAny P .any (ops ++ [y]).toArray Q fuel listed a w := by
  intro fuel
  have fin : ∀ (listed : Array Bool) (a : Act) (w : World), listed.size = ops.length + 1 → PB P G n ops E H W V B φ ρ0 j0 cy' my listed a w → (∀ i, i < ops.length → On listed.pop i) → Q .normal a w := fun listed a w hs hB hall => by
    obtain ⟨k, F, ρ, hI, hE, hS⟩ := hB.ex
    obtain ⟨e1, e2⟩ := hI.done D hall
    subst e1
    have hg2 : Grow ρ0 ρ (H 0) ((H ops.length).set j0 (.cells cy')) := ⟨e2.1, fun z hz => e2.2.1 z (by rw [n_set] at hz; exact hz), by rw [n_set]; exact e2.2.2⟩
    exact hQ a w ⟨⟨ρ, hg2, by rw [on_set]; exact hS, hE.fin D hn hall⟩, hE.size, hE.hd⟩
  have nil : ∀ (listed : Array Bool) (a : Act) (w : World), listed.size = ops.length + 1 → ((¬ On listed ops.length ∧ ∃ k F ρ, HI G ops (masks ops) (effs G ops 0) H W B φ ρ0 listed.pop k F ρ ∧ EI P n ops E V listed.pop ρ a ∧ Sim ρ F w) ∨ PB P G n ops E H W V B φ ρ0 j0 cy' my listed a w) → Region.ready .any (ops ++ [y]).toArray listed = [] → Q .normal a w := fun listed a w hs hor hr => by
    obtain ⟨h1, h2⟩ := all_listed2 D T hs hr
    rcases hor with ⟨hno, _⟩ | hB
    · exact absurd h2 hno
    · exact fin listed a w hs hB h1
  induction fuel with
  | zero =>
    intro listed a w hs hf hor
    have hr : Region.ready .any (ops ++ [y]).toArray listed = [] := by
      cases hr : Region.ready .any (ops ++ [y]).toArray listed with
      | nil => rfl
      | cons z l =>
        have hz : z ∈ Region.ready .any (ops ++ [y]).toArray listed := by rw [hr]; exact List.mem_cons_self ..
        obtain ⟨h1, _⟩ := mem_ready.1 hz
        obtain ⟨h1, h2⟩ := On_getD'.1 h1
        exact absurd (left_on (by omega) h1) h2
    exact ⟨hr, nil listed a w hs hor hr⟩
  | succ fuel ih =>
    intro listed a w hs hf hor
    refine ⟨nil listed a w hs hor, fun i hi => ?_⟩
    have hi1 : i < listed.size ∧ ¬ On listed i := On_getD'.1 (mem_ready.1 hi).1
    have hlf : left (listed.setIfInBounds i true) ≤ fuel := by have := left_set hi1.1 hi1.2; omega
    have hs2 : (listed.setIfInBounds i true).size = ops.length + 1 := by simp [hs]
    rcases hor with ⟨hno, k, F, ρ, hI, hE, hS⟩ | hB
    · by_cases hil : i < ops.length
      · have r := Rdy.of2 D hs hI.closed hil hi
        refine wpOp_more hil T.gs (draw_step hT hcl hd D hn hI hE hS r fun k' F' ρ' a' w' hI' hE' hS' => ih _ a' w' hs2 hlf (.inl ⟨fun hh => ?_, k', F', ρ', ?_, ?_, hS'⟩))
        · rcases (On_set (by omega)).1 hh with he | hh
          · omega
          · exact hno hh
        · rw [set_pop hs hil]; exact hI'
        · rw [set_pop hs hil]; exact hE'
      · have he : i = ops.length := by omega
        subst he
        exact y_step hT hcl hd D T hn Z hs hI hE hS hi fun a' w' hB' => ih _ a' w' hs2 hlf (.inr hB')
    · exact pb_step hT hcl hd D T hn Z hs hB hi fun a' w' hB' => ih _ a' w' hs2 hlf (.inr hB')
end
theorem cDraw2_run {e e' : Tr AV} {h h' : Hp} (hf : (cDraw2 G dfr n ops).run cl e h = .ok e' h') : ∃ l0 y x ox px py h1 v, splitL ops = some (l0, y) ∧ lastE (effs G l0 0) = some x ∧ l0[x]? = some ox ∧ storeX ox.op = some px ∧ storeX y.op = some py ∧
    (cDraw G dfr n l0).run cl e h = .ok e' h1 ∧ evO dfr (cOp G y.op) cl e' h1 = .ok v h' ∧ apartF ((cX px).get e') ((cX py).get e') = true := by
  unfold cDraw2 at hf
  split at hf
  · next l0 y hs =>
    split at hf
    · next x hx =>
      rw [nthL_eq] at hf
      split at hf
      · next ox hox =>
        split at hf
        · next px py hpx hpy =>
          generalize hdd : cDraw G dfr n l0 = d at hf
          generalize hgx : cX px = gx at hf
          generalize hgy : cX py = gy at hf
          obtain ⟨d⟩ := d
          obtain ⟨gx⟩ := gx
          obtain ⟨gy⟩ := gy
          simp only [] at hf
          split at hf
          · next e1 h1 hd1 =>
            split at hf
            · next v h2 hev =>
              cases ha : apartF (gx e1) (gy e1) with
              | false => rw [ha] at hf; simp at hf
              | true =>
                rw [ha] at hf
                simp only [cond_true] at hf
                injection hf with q1 q2; subst q1; subst q2
                exact ⟨l0, y, x, ox, px, py, h1, v, hs, hx, hox, hpx, hpy, by rw [hdd]; exact hd1, hev, by rw [hgx, hgy]; exact ha⟩
            · cases hf
          · cases hf
        · simp [FO.no] at hf
      · simp [FO.no] at hf
    · simp [FO.no] at hf
  · simp [FO.no] at hf
/-- **A drawn region that ends with two stores in any order.** -/
theorem cDraw2_ok (hT : TysOk P G.tys) (hcl : ClOk P cl) (hm : ClM cl) (hd : DfrG P dfr) (hP : P.follows .mixedOrders = true) (hn : n < 1000) (hp : ∃ l0 y x ox px py my, ops = l0 ++ [y] ∧ T2Ok G l0 y x ox px py my)
    {e e' : Tr AV} {h h' : Hp} (hf : (cDraw2 G dfr n ops).run cl e h = .ok e' h') (hwf : Wf h) {a : Act} {w : World} (hE : EnvR ρ e a) (hs : a.tmps.size = n) (hD : HD P a) (hS : Sim ρ (h.on φ) w) (hfr : Free ρ h h')
    {id : Nat} {Q : Exit → Act → World → Prop} (hQ : ∀ a' w', Aft P n ρ φ h e' h' a' w' → Q .normal a' w') : (Code.region id ops.toArray true).wp P Q a w := by
  obtain ⟨l0, y, x, ox, px, py, my, rfl, T⟩ := hp
  obtain ⟨l0', y', x', ox', px', py', h1, v, r1, r2, r3, r4, r5, r6, r7, r8⟩ := cDraw2_run hf
  have hsp := splitL_to r1
  obtain ⟨q1, q2⟩ := List.append_inj' hsp rfl
  subst q1
  have q2 : y = y' := by simpa using q2
  subst q2
  rw [T.last] at r2; injection r2 with r2; subst r2
  rw [T.hx] at r3; injection r3 with r3; subst r3
  rw [T.xop] at r4; injection r4 with r4; subst r4
  rw [T.yop] at r5; injection r5 with r5; subst r5
  obtain ⟨E, H, W, V, B, hC, e0, h0, e1, hh1⟩ := cDraw_can r6
  subst e0; subst h0; subst e1; subst hh1
  have D : Drw G dfr cl n l0 (masks l0) (effs G l0 0) E H W V B := ⟨hC, T.plan, T.len, hm, hwf⟩
  obtain ⟨i0, j0, cx, cx', cy, cy', Z, z1, z2, z3⟩ := two_of D T hn r7 r8
  subst z1
  have hsz : (Array.replicate (l0 ++ [y]).toArray.size false).pop = Array.replicate l0.length false := by
    apply Array.ext
    · simp
    · intro j h1 h2; simp
  refine wp_region_any hP (draw2_any hT hcl hd D T hn Z hQ _ _ a _ (by simp) ?_ (.inl ⟨fun hx => ?_, 0, (H 0).on φ, ρ, ?_, ?_, (hS.heap rfl)⟩))
  · have : left (Array.replicate (l0 ++ [y]).toArray.size false) ≤ (Array.replicate (l0 ++ [y]).toArray.size false).toList.length := List.count_le_length ..
    simpa using this
  · unfold On at hx
    rw [Array.getElem?_replicate] at hx
    split at hx <;> simp at hx
  · rw [hsz]
    have hno : ∀ x, ¬ On (Array.replicate l0.length false) x := fun x hx => by
      unfold On at hx
      rw [Array.getElem?_replicate] at hx
      split at hx <;> simp at hx
    refine ⟨by simp, fun i j h1 _ => absurd h1 (hno i), fun m x _ => ⟨fun h1 => absurd h1 (hno x), fun h1 => by omega⟩, Nat.zero_le _, fun j b hb => ?_, fun i _ h1 => absurd h1 (hno i), fun j hj _ => ?_, fun j hj hj2 _ => ?_, fun j p hj => hj, fun j _ => rfl⟩
    · rw [hC.b0] at hb; unfold Hp.on; rw [hb]
    · rw [hC.b0] at hj
      have := hwf j
      unfold Hp.on
      cases hc : (H 0).t.get j with
      | none => rfl
      | some b => rw [hc] at this; simp at this; omega
    · rw [hC.b0] at hj; exact hfr j hj (by rw [n_set]; exact hj2)
  · rw [hsz]
    refine ⟨fun j o t _ _ h3 => ?_, fun t v _ h2 => hE t v h2, hs, hD⟩
    unfold On at h3
    rw [Array.getElem?_replicate] at h3
    split at h3 <;> simp at h3
end
end Go.Proofs.YtibakihcicfeoaaGreat.Ev
