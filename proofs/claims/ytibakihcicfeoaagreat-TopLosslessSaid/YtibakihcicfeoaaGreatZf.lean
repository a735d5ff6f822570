/- The evaluator's code and its results against the model's. No condition. -/
import Derived.Test.YtibakihcicfeoaaGreatZe
import Derived.LoopN
import Derived.Laws.Sem
import Derived.Shelf.Abstract
namespace Go.Proofs.YtibakihcicfeoaaGreat.Ev

/-- What is asked of code: of each of its regions whose order is drawn. -/
def RegOk (G : Cx) (ops : List Oper) : Prop := (isT2 G ops = true → ∃ l0 y x ox px py my, ops = l0 ++ [y] ∧ T2Ok G l0 y x ox px py my) ∧
  (isT2 G ops = false → Plan G ops (masks ops) (effs G ops 0) ∧ (masks ops).length = ops.length)
def CodeOk (G : Cx) : Code → Prop
  | .region _ ops draw => draw = true → RegOk G ops.toList
  | .seq a b => CodeOk G a ∧ CodeOk G b
  | .cond _ a b => CodeOk G a ∧ CodeOk G b
  | .block _ b => CodeOk G b
  | .loop b => CodeOk G b
  | _ => True
def xq : Xt → Exit
  | .nor => .normal
  | .ret => .ret
  | .exit id => .exit id
section
variable {P : Program} {G : Cx} {dfr : Nat → Bool} {cl : Cl} {n : Nat}
theorem cDr_m (hm : ClM cl) {all : List Oper} {ms es : List Nat} : ∀ (l : List Oper) (i : Nat) (e : Tr AV) (h : Hp) (bs : List Hp) (ck : List Ck) (e' : Tr AV) (h' : Hp) (bs' : List Hp) (ck' : List Ck),
    (cDr G dfr n all ms es l i).run cl e h bs ck = .ok e' h' bs' ck' → Good h h'
  | [], i, e, h, bs, ck, e', h', bs', ck', hf => by
    simp only [cDr] at hf
    injection hf with e1 e2 e3 e4
    subst e2
    exact Good.refl _
  | o :: l, i, e, h, bs, ck, e', h', bs', ck', hf => by
    simp only [cDr] at hf
    cases hp : cPut n o.dst with
    | none => simp [hp] at hf
    | some p =>
      obtain ⟨p⟩ := p
      simp only [hp] at hf
      generalize cWant all o = wt at hf
      obtain ⟨wt⟩ := wt
      generalize lhOf ms es i = lh at hf
      obtain ⟨lo, hi⟩ := lh
      simp only [] at hf
      cases hwe : wt e with
      | none => simp [hwe] at hf
      | some b =>
        cases b with
        | true =>
          simp only [hwe] at hf
          cases hev : evO dfr (cOp G o.op) cl e h with
          | no => simp [hev] at hf
          | ok v h1 =>
            simp only [hev] at hf
            exact (evO_m hm hev).trans (cDr_m hm l (i + 1) _ _ _ _ _ _ _ _ hf)
        | false =>
          simp only [hwe] at hf
          exact cDr_m hm l (i + 1) _ _ _ _ _ _ _ _ hf
theorem cDraw_m (hm : ClM cl) {ops : List Oper} {e e' : Tr AV} {h h' : Hp} (hf : (cDraw G dfr n ops).run cl e h = .ok e' h') : Good h h' := by
  unfold cDraw at hf
  generalize hd : cDr G dfr n ops (masks ops) (effs G ops 0) ops 0 = d at hf
  obtain ⟨d⟩ := d
  simp only [] at hf
  cases hr : d cl e h [h] [] with
  | no => simp [hr] at hf
  | ok e2 h2 bs ck =>
    simp only [hr] at hf
    cases hck : allCk (revH bs []) ck with
    | false => simp [hck] at hf
    | true =>
      simp only [hck, cond_true] at hf
      injection hf with e3 e4; subst e4
      exact cDr_m hm ops 0 e h [h] [] e2 h2 bs ck (by rw [hd]; exact hr)
theorem cDrawA_m (hm : ClM cl) {ops : List Oper} {e e' : Tr AV} {h h' : Hp} (hf : (bif isT2 G ops then cDraw2 G dfr n ops else cDraw G dfr n ops).run cl e h = .ok e' h') : Good h h' := by
  cases hb : isT2 G ops with
  | true =>
    rw [hb] at hf
    obtain ⟨l0, y, x, ox, px, py, h1, v, _, _, _, _, _, r6, r7, _⟩ := cDraw2_run hf
    exact (cDraw_m hm r6).trans (evO_m hm r7)
  | false => rw [hb] at hf; exact cDraw_m hm hf
theorem reg_eq (id : Nat) (ops : Array Oper) (draw : Bool) (e : Tr AV) (h : Hp) : (cCode G dfr n (.region id ops draw)).run cl e h = (match (bif draw then (bif isT2 G ops.toList then cDraw2 G dfr n ops.toList else cDraw G dfr n ops.toList) else cOps G dfr n ops.toList ops.toList).run cl e h with
    | .ok e' h' => .ok .nor e' h'
    | .no => .no) := by
  simp only [cCode]
  generalize (bif draw then (bif isT2 G ops.toList then cDraw2 G dfr n ops.toList else cDraw G dfr n ops.toList) else cOps G dfr n ops.toList ops.toList) = f
  obtain ⟨f⟩ := f
  rfl
theorem cond_eq (x : Operand) (a b : Code) (e : Tr AV) (h : Hp) : (cCode G dfr n (.cond x a b)).run cl e h = (match (cX x).get e with
    | some (.bool t) => bif t then (cCode G dfr n a).run cl e h else (cCode G dfr n b).run cl e h
    | _ => .no) := by
  simp only [cCode]
  generalize cX x = f
  obtain ⟨f⟩ := f
  rfl
theorem loop_m {f : Tr AV → Hp → RE} (hf : ∀ e h x e' h', f e h = .ok x e' h' → Good h h') : ∀ (N : Nat) (e : Tr AV) (h : Hp) (x : Xt) (e' : Tr AV) (h' : Hp), loopR f N e h = .ok x e' h' → Good h h'
  | 0, e, h, x, e', h', hh => by simp [loopR] at hh
  | N + 1, e, h, x, e', h', hh => by
    simp only [loopR] at hh
    split at hh
    · next e1 h1 he => exact (hf _ _ _ _ _ he).trans (loop_m hf N _ _ _ _ _ hh)
    · exact hf _ _ _ _ _ hh
theorem cCode_m (hm : ClM cl) : ∀ (c : Code) (e : Tr AV) (h : Hp) (x : Xt) (e' : Tr AV) (h' : Hp), (cCode G dfr n c).run cl e h = .ok x e' h' → Good h h' := by
  intro c
  induction c with
  | skip => intro e h x e' h' hf; simp only [cCode] at hf; injection hf with e1 e2 e3; subst e3; exact Good.refl _
  | ret => intro e h x e' h' hf; simp only [cCode] at hf; injection hf with e1 e2 e3; subst e3; exact Good.refl _
  | exit id => intro e h x e' h' hf; simp only [cCode] at hf; injection hf with e1 e2 e3; subst e3; exact Good.refl _
  | region id ops draw =>
    intro e h x e' h' hf
    rw [reg_eq] at hf
    cases draw with
    | true =>
      simp only [cond_true] at hf
      split at hf
      · next e1 h1 hr => injection hf with e1 e2 e3; subst e3; exact cDrawA_m hm hr
      · cases hf
    | false =>
      simp only [cond_false] at hf
      split at hf
      · next e1 h1 hr => injection hf with e1 e2 e3; subst e3; exact cOps_m hm n _ _ _ _ _ _ hr
      · cases hf
  | seq a b iha ihb =>
    intro e h x e' h' hf
    simp only [cCode] at hf
    split at hf
    · next e1 h1 hr => exact (iha _ _ _ _ _ hr).trans (ihb _ _ _ _ _ hf)
    · exact iha _ _ _ _ _ hf
  | cond y a b iha ihb =>
    intro e h x e' h' hf
    rw [cond_eq] at hf
    split at hf
    · next t _ =>
      cases t with
      | true => exact iha _ _ _ _ _ hf
      | false => exact ihb _ _ _ _ _ hf
    · cases hf
  | block id b ih =>
    intro e h x e' h' hf
    simp only [cCode] at hf
    split at hf
    · next i e1 h1 hr =>
      have := ih _ _ _ _ _ hr
      cases hb : Nat.beq i id with
      | true => rw [hb] at hf; injection hf with e1 e2 e3; subst e3; exact this
      | false => rw [hb] at hf; injection hf with e1 e2 e3; subst e3; exact this
    · exact ih _ _ _ _ _ hf
  | loop b ih =>
    intro e h x e' h' hf
    simp only [cCode] at hf
    exact loop_m (fun e h x e' h' he => ih _ _ _ _ _ he) _ _ _ _ _ _ hf
  | _ => intro e h x e' h' hf; simp only [cCode] at hf; cases hf
theorem Aft.trans {ρ ρ1 : Pm} {φ : Nat → Option Blk} {h h1 h2 : Hp} {e : Tr AV} {a : Act} {w : World} (g : Grow ρ ρ1 h h1) (x : Aft P n ρ1 φ h1 e h2 a w) : Aft P n ρ φ h e h2 a w :=
  ⟨let ⟨ρ2, g2, s, en⟩ := x.ex; ⟨ρ2, g.trans g2, s, en⟩, x.size, x.hd⟩
/-- What holds of code that is run. -/
def Runs1 (P : Program) (n : Nat) (f : Tr AV → Hp → RE) (c : Code) : Prop := ∀ (e : Tr AV) (h : Hp) (x : Xt) (e' : Tr AV) (h' : Hp), f e h = .ok x e' h' → Wf h → ∀ (ρ : Pm) (φ : Nat → Option Blk) (a : Act) (w : World),
  EnvR ρ e a → a.tmps.size = n → HD P a → Sim ρ (h.on φ) w → Free ρ h h' → ∀ Q : Exit → Act → World → Prop, (∀ a' w', Aft P n ρ φ h e' h' a' w' → Q (xq x) a' w') → c.wp P Q a w
theorem loop_rounds {f : Tr AV → Hp → RE} {b : Code} (hm : ∀ e h x e' h', f e h = .ok x e' h' → Good h h') (hr : Runs1 P n f b) : ∀ (N : Nat) (e : Tr AV) (h : Hp) (x : Xt) (e' : Tr AV) (h' : Hp), loopR f N e h = .ok x e' h' → Wf h →
    ∀ (ρ : Pm) (φ : Nat → Option Blk) (a : Act) (w : World), EnvR ρ e a → a.tmps.size = n → HD P a → Sim ρ (h.on φ) w → Free ρ h h' → ∀ Q : Exit → Act → World → Prop, (∀ a' w', Aft P n ρ φ h e' h' a' w' → Q (xq x) a' w') → Code.rounds P b Q N a w
  | 0, e, h, x, e', h', hh, _, _, _, _, _, _, _, _, _, _, _, _ => by simp [loopR] at hh
  | N + 1, e, h, x, e', h', hh, hwf, ρ, φ, a, w, hE, hs, hD, hS, hfr, Q, hQ => by
    simp only [loopR] at hh
    rw [rounds_succ]
    split at hh
    · next e1 h1 he =>
      have hm2 := loop_m hm _ _ _ _ _ _ hh
      refine hr _ _ _ _ _ he hwf ρ φ a w hE hs hD hS (hfr.left hm2.1) _ fun a1 w1 hA => ?_
      obtain ⟨ρ1, g1, s1, en1⟩ := hA.ex
      exact loop_rounds hm hr N _ _ _ _ _ hh ((hm _ _ _ _ _ he).2 hwf) ρ1 φ a1 w1 en1 hA.size hA.hd s1 (hfr.right g1) Q fun a' w' hA' => hQ a' w' (hA'.trans g1)
    · next hne =>
      refine hr _ _ _ _ _ hh hwf ρ φ a w hE hs hD hS hfr _ fun a1 w1 hA => ?_
      have := hQ a1 w1 hA
      cases x with
      | nor => exact absurd hh (hne _ _)
      | ret => exact this
      | exit i => exact this
theorem cCode_ok (hT : TysOk P G.tys) (hcl : ClOk P cl) (hm : ClM cl) (hd : DfrG P dfr) (hP : P.follows .mixedOrders = true) (hn : n < 1000) : ∀ (c : Code), CodeOk G c → Runs1 P n (fun e h => (cCode G dfr n c).run cl e h) c := by
  intro c
  induction c with
  | skip => intro _ e h x e' h' hf _ ρ φ a w hE hs hD hS _ Q hQ; simp only [cCode] at hf; injection hf with e1 e2 e3; subst e1; subst e2; subst e3; exact wp_skip (hQ a w ⟨⟨ρ, Grow.refl _ _, hS, hE⟩, hs, hD⟩)
  | ret => intro _ e h x e' h' hf _ ρ φ a w hE hs hD hS _ Q hQ; simp only [cCode] at hf; injection hf with e1 e2 e3; subst e1; subst e2; subst e3; exact wp_ret (hQ a w ⟨⟨ρ, Grow.refl _ _, hS, hE⟩, hs, hD⟩)
  | exit id => intro _ e h x e' h' hf _ ρ φ a w hE hs hD hS _ Q hQ; simp only [cCode] at hf; injection hf with e1 e2 e3; subst e1; subst e2; subst e3; exact wp_exit (hQ a w ⟨⟨ρ, Grow.refl _ _, hS, hE⟩, hs, hD⟩)
  | region id ops draw =>
    intro hC e h x e' h' hf hwf ρ φ a w hE hs hD hS hfr Q hQ
    simp only [] at hf
    rw [reg_eq] at hf
    cases draw with
    | true =>
      obtain ⟨c1, c2⟩ := hC rfl
      cases hb : isT2 G ops.toList with
      | true =>
        rw [hb] at hf
        simp only [cond_true] at hf
        split at hf
        · next e1 h1 hr =>
          injection hf with e1 e2 e3; subst e1; subst e2; subst e3
          have := cDraw2_ok (id := id) hT hcl hm hd hP hn (c1 hb) hr hwf hE hs hD hS hfr hQ
          simpa using this
        · cases hf
      | false =>
      rw [hb] at hf
      obtain ⟨c1, c2⟩ := c2 hb
      simp only [cond_true, cond_false] at hf
      split at hf
      · next e1 h1 hr =>
        injection hf with e1 e2 e3; subst e1; subst e2; subst e3
        have := cDraw_ok (id := id) hT hcl hm hd hP hn c1 c2 hr hwf hE hs hD hS hfr hQ
        simpa using this
      · cases hf
    | false =>
      simp only [cond_false] at hf
      split at hf
      · next e1 h1 hr =>
        injection hf with e1 e2 e3; subst e1; subst e2; subst e3
        refine wp_region_list ?_
        have := cOps_ok hT hcl hm hd hn ops.toList ops.toList _ _ _ _ hr hwf ρ φ a w hE hs hD hS hfr hQ
        simpa using this
      · cases hf
  | seq a b iha ihb =>
    intro hC e h x e' h' hf hwf ρ φ ac w hE hs hD hS hfr Q hQ
    simp only [cCode] at hf
    refine wp_seq ?_
    split at hf
    · next e1 h1 hr =>
      refine iha hC.1 _ _ _ _ _ hr hwf ρ φ ac w hE hs hD hS (hfr.left (cCode_m hm _ _ _ _ _ _ hf).1) _ fun a1 w1 hA => ?_
      obtain ⟨ρ1, g1, s1, en1⟩ := hA.ex
      exact ihb hC.2 _ _ _ _ _ hf ((cCode_m hm _ _ _ _ _ _ hr).2 hwf) ρ1 φ a1 w1 en1 hA.size hA.hd s1 (hfr.right g1) Q fun a' w' hA' => hQ a' w' (hA'.trans g1)
    · next hne =>
      refine iha hC.1 _ _ _ _ _ hf hwf ρ φ ac w hE hs hD hS hfr _ fun a1 w1 hA => ?_
      have := hQ a1 w1 hA
      cases x with
      | nor => exact absurd hf (hne _ _)
      | ret => exact this
      | exit i => exact this
  | cond y a b iha ihb =>
    intro hC e h x e' h' hf hwf ρ φ ac w hE hs hD hS hfr Q hQ
    simp only [] at hf
    rw [cond_eq] at hf
    split at hf
    · next t ht =>
      have hv := cX_ok hE ht
      simp only [VR] at hv
      cases t with
      | true => exact wp_cond_true hv (iha hC.1 _ _ _ _ _ hf hwf ρ φ ac w hE hs hD hS hfr Q hQ)
      | false => exact wp_cond_false hv (ihb hC.2 _ _ _ _ _ hf hwf ρ φ ac w hE hs hD hS hfr Q hQ)
    · cases hf
  | block id b ih =>
    intro hC e h x e' h' hf hwf ρ φ ac w hE hs hD hS hfr Q hQ
    simp only [cCode] at hf
    refine wp_block ?_
    split at hf
    · next i e1 h1 hr =>
      cases hb : Nat.beq i id with
      | true =>
        rw [hb] at hf; injection hf with e1 e2 e3; subst e1; subst e2; subst e3
        refine ih hC _ _ _ _ _ hr hwf ρ φ ac w hE hs hD hS hfr _ fun a1 w1 hA => ?_
        have := hQ a1 w1 hA
        simp only [xq, Exit.inBlock, if_pos (beqT hb)]
        exact this
      | false =>
        rw [hb] at hf; injection hf with e1 e2 e3; subst e1; subst e2; subst e3
        refine ih hC _ _ _ _ _ hr hwf ρ φ ac w hE hs hD hS hfr _ fun a1 w1 hA => ?_
        have := hQ a1 w1 hA
        have hne : ¬ (i = id) := fun he => by rw [he, Nat.beq_refl] at hb; cases hb
        simp only [xq, Exit.inBlock, if_neg hne]
        exact this
    · next hne =>
      refine ih hC _ _ _ _ _ hf hwf ρ φ ac w hE hs hD hS hfr _ fun a1 w1 hA => ?_
      have := hQ a1 w1 hA
      cases x with
      | nor => exact this
      | ret => exact this
      | exit i => exact absurd hf (hne _ _ _)
  | loop b ih =>
    intro hC e h x e' h' hf hwf ρ φ ac w hE hs hD hS hfr Q hQ
    simp only [cCode] at hf
    exact wp_loop_rounds 100000 (loop_rounds (fun e h x e' h' he => cCode_m hm _ _ _ _ _ _ he) (ih hC) _ _ _ _ _ _ hf hwf ρ φ ac w hE hs hD hS hfr Q hQ)
  | _ => intro _ e h x e' h' hf; simp only [cCode] at hf; cases hf

/-! ### Results -/
theorem res_ok (hT : TysOk P G.tys) {ρ : Pm} {φ : Nat → Option Blk} {e : Tr AV} {a : Act} {h : Hp} {w : World} (hE : EnvR ρ e a) (hS : Sim ρ (h.on φ) w) (r : ResultVar) {v : AV} (hf : (cRes G r).get e h = some v) :
    ∃ u, (match r with
      | .tmp t => pure (a.tmps.getD t undef)
      | .cell x t => do loadVar t (← asAddr (a.tmps.getD x undef)) : Sem Value).run P w = .ok u w ∧ VR ρ v u := by
  cases r with
  | tmp t =>
    have hg : (cX (.tmp t)).get e = some v := by
      simp only [cRes] at hf
      generalize cX (.tmp t) = c at *
      obtain ⟨g⟩ := c
      exact hf
    have := cX_ok hE hg
    refine ⟨a.eval (.tmp t), ?_, this⟩
    simp [Act.eval]
  | cell x t =>
    simp only [cRes] at hf
    cases hti : G.tys.get t with
    | none => rw [hti] at hf; simp at hf
    | some ti =>
      rw [hti] at hf
      have hf : (match (cX (.tmp x)).get e with
          | some (.ptr i o) => (match rdAt h i o ti.size with
            | some cs => bif ti.k.isAgg then some (.agg cs) else madeOf 0 cs
            | none => none)
          | _ => none) = some v := by
        generalize cX (.tmp x) = c at *
        obtain ⟨g⟩ := c
        exact hf
      obtain ⟨inf, z, hty⟩ := hT t ti hti
      split at hf
      · next i o' hx =>
        have hv := cX_ok hE hx
        simp only [VR] at hv
        obtain ⟨p, hp, hu⟩ := hv
        have hu : a.tmps.getD x undef = .pointer (some ⟨p.b, p.o + o', none⟩) := by simpa [Act.eval] using hu
        cases hr : rdAt h i o' ti.size with
        | none => simp [hr] at hf
        | some cs =>
          simp only [hr] at hf
          unfold rdAt at hr
          split at hr
          · next bs hg =>
            obtain ⟨us, u1, u2, u3⟩ := hS.sub (on_get hg) hp hr
            cases ha : ti.k.isAgg with
            | true =>
              simp only [ha, cond_true] at hf
              injection hf with hf; subst hf
              have hl := run_loadCells_list (P := P) w ⟨p.b, p.o + o', none⟩ us u3
              rw [u1] at hl
              refine ⟨.agg us.toArray, ?_, ?_⟩
              · simp [hu, asAddr, loadVar, hty.run_agg, ha, hty.run_size, hl]
              · simp only [VR]; exact ⟨us, rfl, u2⟩
            | false =>
              simp only [ha, cond_false, madeOf] at hf
              split at hf
              · next v' =>
                injection hf with hf; subst hf
                simp only [VRs] at u2
                obtain ⟨d, r, rfl, hd, rfl⟩ := u2
                have hc := u3 0 d (by simp)
                rw [addr_add, Nat.add_zero] at hc
                refine ⟨d, ?_, hd⟩
                simp [hu, asAddr, loadVar, hty.run_agg, ha, run_load, hc]
              · cases hf
          · cases hr
      · cases hf
end
end Go.Proofs.YtibakihcicfeoaaGreat.Ev
/- The evaluator's functions against the model's. No condition. -/
namespace Go.Proofs.YtibakihcicfeoaaGreat.Ev
section
variable {P : Program} {G : Cx} {dfr : Nat → Bool} {cl : Cl} {n : Nat}
theorem ress_ok (hT : TysOk P G.tys) {ρ : Pm} {φ : Nat → Option Blk} {e : Tr AV} {a : Act} {h : Hp} {w : World} (hE : EnvR ρ e a) (hS : Sim ρ (h.on φ) w) : ∀ (l : List ResultVar) (vs : List AV), getsR e h (cResL G l) = some vs →
    ∃ us, (l.mapM fun
      | .tmp t => pure (a.tmps.getD t undef)
      | .cell x t => do loadVar t (← asAddr (a.tmps.getD x undef)) : Sem (List Value)).run P w = .ok us w ∧ VRs ρ vs us
  | [], vs, hf => by
    simp only [cResL, getsR] at hf; injection hf with hf; subst hf
    exact ⟨[], by simp, VRs.nil⟩
  | r :: l, vs, hf => by
    simp only [cResL, getsR] at hf
    cases hr : (cRes G r).get e h with
    | none => simp [hr] at hf
    | some v =>
      simp only [hr] at hf
      cases hl : getsR e h (cResL G l) with
      | none => simp [hl] at hf
      | some l' =>
        simp only [hl] at hf
        injection hf with hf; subst hf
        obtain ⟨u, u1, u2⟩ := res_ok hT hE hS r hr
        obtain ⟨us, s1, s2⟩ := ress_ok hT hE hS l l' hl
        refine ⟨u :: us, ?_, VRs.cons u2 s2⟩
        rw [List.mapM_cons]
        cases r <;> simp only [Sem.run_bind, u1, Result.andThen_ok, s1, Sem.run_pure]
theorem resV_ok (hT : TysOk P G.tys) {ρ : Pm} {φ : Nat → Option Blk} {e : Tr AV} {a : Act} {h h' : Hp} {w : World} (hE : EnvR ρ e a) (hS : Sim ρ (h.on φ) w) (F : Func) {v : AV} (hf : resV (cResL G F.results.toList) e h = .ok v h') :
    h' = h ∧ ∃ u, (results F a.tmps).run P w = .ok u w ∧ VR ρ v u := by
  unfold resV at hf
  have key : ∀ vs, getsR e h (cResL G F.results.toList) = some vs → ∃ us, (results F a.tmps).run P w = .ok (if h : us.toArray.size = 1 then us.toArray[0] else .tuple us.toArray) w ∧ VRs ρ vs us := fun vs hvs => by
    obtain ⟨us, s1, s2⟩ := ress_ok hT hE hS _ vs hvs
    refine ⟨us, ?_, s2⟩
    unfold results
    rw [Array.mapM_eq_mapM_toList]
    simp only [map_eq_pure_bind, bind_assoc, pure_bind, Sem.run_bind]
    exact congrArg (fun r : Result (List Value) => r.andThen fun (l : List Value) w' => Sem.run P (pure (if h : l.toArray.size = 1 then l.toArray[0] else Value.tuple l.toArray)) w') s1
  split at hf
  · next v' hvs =>
    injection hf with e1 e2; subst e1; subst e2
    obtain ⟨us, s1, s2⟩ := key _ hvs
    simp only [VRs] at s2
    obtain ⟨d, r, rfl, hd, rfl⟩ := s2
    exact ⟨rfl, d, by simpa using s1, hd⟩
  · next vs hne hvs =>
    injection hf with e1 e2; subst e1; subst e2
    obtain ⟨us, s1, s2⟩ := key _ hvs
    refine ⟨rfl, .tuple us.toArray, ?_, by simp only [VR]; exact ⟨us, rfl, s2⟩⟩
    have hl : ¬ (us.toArray.size = 1) := fun hh => by
      have hlen := s2.len
      simp only [List.size_toArray] at hh
      rw [hh] at hlen
      obtain ⟨y, hy⟩ := List.length_eq_one_iff.1 hlen.symm
      exact hne y hy
    rw [dif_neg hl] at s1
    exact s1
  · cases hf
theorem CallsD.mono {f : FuncId} {args : Array Value} {u : FrameMode} {w : World} {R R' : Ending → FrameMode → World → Prop} (h : CallsD P f args u w R) (hR : ∀ e u' w', R e u' w' → R' e u' w') : CallsD P f args u w R' :=
  fun c cs hc => let ⟨e, u', w', fr, r, s, k, g⟩ := h c cs hc; ⟨e, u', w', fr, hR _ _ _ r, s, k, g⟩
theorem leaves_harm {F : Func} {tmps : Array Value} {R : Ending → World → Prop} {w : World} (hr : ∃ v, (results F tmps).run P w = .ok v w ∧ R (.returned v) w) : ∀ ds : List Deferred, (∀ d ∈ ds, Harm P d) → Leaves P F tmps R ds .returning w
  | [], _ => hr
  | d :: ds, h => by
    obtain ⟨fv, cap, f, args, h1, h2, h3⟩ := h d (List.mem_cons_self ..)
    refine ⟨by simp, fv, cap, f, args, h1, h2 w, CallsD.mono (h3 w) fun e u' w' hh => ?_⟩
    obtain ⟨⟨v, rfl⟩, rfl, rfl⟩ := hh
    exact leaves_harm hr ds fun d' hd' => h d' (List.mem_cons_of_mem _ hd')
theorem argsE_get : ∀ (l : List AV) (i : Nat) (t : Tr AV), i + l.length ≤ 1000 → ∀ j, (argsE l i t).get j = if i ≤ j ∧ j < i + l.length then l[j - i]? else t.get j
  | [], i, t, _, j => by
    have : ¬ (i ≤ j ∧ j < i + ([] : List AV).length) := by rw [List.length_nil]; omega
    rw [if_neg this]; rfl
  | v :: r, i, t, h, j => by
    simp only [List.length_cons] at h ⊢
    simp only [argsE]
    rw [argsE_get r (i + 1) _ (by omega) j, cPutT_eq, Tr.get_put v 10 t i j (by omega)]
    by_cases hj : j = i
    · subst hj
      rw [if_neg (by omega), if_pos rfl, if_pos (by omega)]
      simp
    · rw [if_neg hj]
      by_cases hin : i + 1 ≤ j ∧ j < i + 1 + r.length
      · rw [if_pos hin, if_pos (by omega), show j - i = j - (i + 1) + 1 by omega]; simp
      · rw [if_neg hin, if_neg (by omega)]
/-- What is asked of a function's number. -/
structure FnOk (P : Program) (G : Cx) (g : Nat) (F : Func) (c : Code) : Prop where
  fn : P.funcs[g]? = some F
  name : (F.name == "runtime.NumGoroutine") = false
  code : CodeOk G c
def FnsOk (P : Program) (G : Cx) : Prop := ∀ g F c, G.fns.get g = some F → F.body = some c → FnOk P G g F c
/-- What is asked of an oracle. -/
def OrcOk (P : Program) (G : Cx) : Prop := ∀ g f, G.orc g = some f → ∀ args h v h', f args h = some (v, h') → Good h h' ∧ (Wf h → ∀ (ρ : Pm) (φ : Nat → Option Blk) (w : World) (us : List Value), VRs ρ args us → Sim ρ (h.on φ) w → Free ρ h h' →
  (callFunc g us.toArray).run P w = .ok (.enter g us.toArray) w ∧
  Calls P g us.toArray w fun e w' => ∃ u ρ', e = .returned u ∧ Grow ρ ρ' h h' ∧ Sim ρ' (h'.on φ) w' ∧ VR ρ' v u)
/-- A function's run, opened. -/
theorem cFn_run {g : Nat} {args : List AV} {h h' : Hp} {v : AV} (hf : (cFn G dfr g).run cl args h = .ok v h') :
    (∃ f, G.orc g = some f ∧ f args h = some (v, h')) ∨
    ∃ F c x e1 h1, G.fns.get g = some F ∧ F.body = some c ∧ F.ntmps < 1000 ∧ args.length ≤ F.ntmps ∧ (cCode G dfr F.ntmps c).run cl (argsE args 0 .nil) h = .ok x e1 h1 ∧ (x = .ret ∨ x = .nor) ∧ resV (cResL G F.results.toList) e1 h1 = .ok v h' := by
  unfold cFn at hf
  split at hf
  · next f ho =>
    refine .inl ⟨f, ho, ?_⟩
    simp only [] at hf
    split at hf
    · next v' h2 he => injection hf with e1 e2; subst e1; subst e2; exact he
    · cases hf
  · refine .inr ?_
    split at hf
    · simp at hf
    · next F hF =>
      split at hf
      · simp at hf
      · next c hc =>
        simp only [] at hf
        cases hb : Nat.blt F.ntmps 1000 with
        | false => simp [hb] at hf
        | true =>
          simp only [hb, cond_true] at hf
          generalize hcc : cCode G dfr F.ntmps c = cc at hf
          obtain ⟨f⟩ := cc
          simp only [] at hf
          cases hl : Nat.ble args.length F.ntmps with
          | false => simp [hl] at hf
          | true =>
            simp only [hl, cond_true] at hf
            split at hf
            · next e1 h1 he => exact ⟨F, c, _, e1, h1, hF, hc, bltT hb, Nat.le_of_ble_eq_true hl, by rw [hcc]; exact he, .inl rfl, hf⟩
            · next e1 h1 he => exact ⟨F, c, _, e1, h1, hF, hc, bltT hb, Nat.le_of_ble_eq_true hl, by rw [hcc]; exact he, .inr rfl, hf⟩
            · cases hf
theorem resV_h {l : List FR} {e : Tr AV} {h h' : Hp} {v : AV} (hf : resV l e h = .ok v h') : h' = h := by
  unfold resV at hf
  split at hf
  · injection hf with _ e2; exact e2.symm
  · injection hf with _ e2; exact e2.symm
  · cases hf
/-- **The evaluator's calls are the model's.** -/
theorem evF_ok (hT : TysOk P G.tys) (hF : FnsOk P G) (hO : OrcOk P G) (hd : DfrG P dfr) (hP : P.follows .mixedOrders = true) : ∀ d, ClM (evF G dfr d) ∧ ClOk P (evF G dfr d)
  | 0 => ⟨fun g args h v h' hf => by simp [evF] at hf, fun g args h v h' hf => by simp [evF] at hf⟩
  | d + 1 => by
    obtain ⟨hm, hcl⟩ := evF_ok hT hF hO hd hP d
    refine ⟨fun g args h v h' hf => ?_, fun g args h v h' hf hwf ρ φ w us hv hS hfr => ?_⟩
    · have hf : (cFn G dfr g).run (evF G dfr d) args h = .ok v h' := hf
      rcases cFn_run hf with ⟨f, h1, h2⟩ | ⟨F, c, x, e1, h1, a1, a2, a3, a4, a5, a6, a7⟩
      · exact (hO g f h1 _ _ _ _ h2).1
      · rw [resV_h a7]; exact cCode_m hm _ _ _ _ _ _ a5
    · have hf : (cFn G dfr g).run (evF G dfr d) args h = .ok v h' := hf
      rcases cFn_run hf with ⟨f, h1, h2⟩ | ⟨F, c, x, e1, h1, a1, a2, a3, a4, a5, a6, a7⟩
      · exact (hO g f h1 _ _ _ _ h2).2 hwf ρ φ w us hv hS hfr
      · have hok := hF g F c a1 a2
        have hh := resV_h a7
        subst hh
        refine ⟨Go.Proofs.enters_of hok.fn hok.name a2 _ _, calls_of_wp_defers hok.fn a2 ?_⟩
        have hlen := hv.len
        have hE : EnvR ρ (argsE args 0 .nil) { tmps := us.toArray ++ Array.replicate (F.ntmps - us.toArray.size) undef, defers := [] } := fun t y hy => by
          rw [argsE_get args 0 .nil (by omega) t] at hy
          by_cases ht : 0 ≤ t ∧ t < 0 + args.length
          · rw [if_pos ht] at hy
            obtain ⟨u, u1, u2⟩ := hv.get (by simpa using hy)
            refine ⟨u, ?_, u2⟩
            have hlt : t < us.toArray.size := by simp; omega
            show (us.toArray ++ _)[t]? = _
            rw [Array.getElem?_append_left hlt]
            simpa using u1
          · rw [if_neg ht] at hy; cases t <;> cases hy
        refine cCode_ok hT hcl hm hd hP a3 c hok.code _ _ _ _ _ a5 hwf ρ φ _ w hE (by simp; omega) (fun d hd => by cases hd) hS hfr _ fun a' w' hA => ?_
        obtain ⟨ρ', g1, s1, en1⟩ := hA.ex
        obtain ⟨_, u, r1, r2⟩ := resV_ok hT en1 s1 F a7
        have : Leaves P F a'.tmps (fun e w' => ∃ u ρ', e = .returned u ∧ Grow ρ ρ' h h' ∧ Sim ρ' (h'.on φ) w' ∧ VR ρ' v u) a'.defers .returning w' := leaves_harm ⟨u, r1, u, ρ', rfl, g1, s1, r2⟩ _ hA.hd
        rcases a6 with rfl | rfl
        · exact this
        · exact this
end
end Go.Proofs.YtibakihcicfeoaaGreat.Ev
