/- A check of the plan of a drawn region, and of a program's functions. No condition. -/
import Derived.Test.YtibakihcicfeoaaGreatZf
import Derived.Test.YtibakihcicfeoaaGreatZb
namespace Go.Proofs.YtibakihcicfeoaaGreat.Ev

def befB (ms : List Nat) (i j : Nat) : Bool := match nthL ms i with
  | some m => Nat.testBit m j
  | none => false
theorem befB_to {ms : List Nat} {i j : Nat} (h : befB ms i j = true) : Bef ms i j := by
  unfold befB at h
  rw [nthL_eq] at h
  split at h
  · next m hm => exact ⟨m, hm, h⟩
  · cases h
def maskB (ms : List Nat) : List Oper → Nat → Bool
  | [], _ => true
  | o :: r, i => (match maskE ms i o.after.toList, nthL ms i with
    | some a, some b => Nat.beq a b
    | _, _ => false) && maskB ms r (i + 1)
theorem maskB_to {ms : List Nat} : ∀ {l : List Oper} {k : Nat}, maskB ms l k = true → ∀ (i : Nat) (o : Oper), l[i]? = some o → ∃ m : Nat, ms[k + i]? = some m ∧ maskE ms (k + i) o.after.toList = some m
  | [], k, _, i, o, ho => by simp at ho
  | x :: l, k, h, i, o, ho => by
    simp only [maskB, Bool.and_eq_true] at h
    cases i with
    | zero =>
      simp at ho; subst ho
      have h1 := h.1
      rw [nthL_eq] at h1
      split at h1
      · next a b ha hb => exact ⟨b, hb, by rw [Nat.add_zero, ha, beqT h1]⟩
      · cases h1
    | succ i =>
      obtain ⟨m, h1, h2⟩ := maskB_to h.2 i o (by simpa using ho)
      exact ⟨m, by rw [← h1]; congr 1; omega, by rw [← h2]; congr 1; omega⟩
def chainB (ms : List Nat) : List Nat → Bool
  | [] => true
  | x :: r => (match r with
    | [] => true
    | y :: _ => befB ms y x) && chainB ms r
theorem chainB_to {ms : List Nat} : ∀ {l : List Nat}, chainB ms l = true → ∀ (k x y : Nat), l[k]? = some x → l[k + 1]? = some y → Bef ms y x
  | [], _, k, x, y, hx, _ => by simp at hx
  | a :: r, h, k, x, y, hx, hy => by
    simp only [chainB, Bool.and_eq_true] at h
    cases k with
    | zero =>
      simp at hx; subst hx
      cases r with
      | nil => simp at hy
      | cons b r => simp at hy; subst hy; exact befB_to h.1
    | succ k => exact chainB_to h.2 k x y (by simpa using hx) (by simpa using hy)
def laysB (G : Cx) (ms es : List Nat) : List Oper → Nat → Bool
  | [], _ => true
  | o :: r, i => (bif isLay (cOp G o.op) then es.all (fun x => bif Nat.blt i x then befB ms x i else true) else true) && laysB G ms es r (i + 1)
theorem laysB_to {G : Cx} {ms es : List Nat} : ∀ {l : List Oper} {k : Nat}, laysB G ms es l k = true → ∀ (i : Nat) (o : Oper) (x : Nat), l[i]? = some o → isLay (cOp G o.op) = true → x ∈ es → k + i < x → Bef ms x (k + i)
  | [], k, _, i, o, x, ho, _, _, _ => by simp at ho
  | a :: l, k, h, i, o, x, ho, hl, hx, hlt => by
    simp only [laysB, Bool.and_eq_true] at h
    cases i with
    | zero =>
      simp at ho; subst ho
      have h1 := h.1
      rw [hl, cond_true, List.all_eq_true] at h1
      have h2 := h1 x hx
      rw [show Nat.blt k x = true from Nat.ble_eq_true_of_le (by omega), cond_true] at h2
      exact befB_to h2
    | succ i =>
      have := laysB_to h.2 i o x (by simpa using ho) hl hx (by omega)
      rwa [show k + 1 + i = k + (i + 1) by omega] at this
def dstL : List Oper → Nat → List (Nat × Nat)
  | [], _ => []
  | o :: r, i => match o.dst with
    | some d => (d, i) :: dstL r (i + 1)
    | none => dstL r (i + 1)
theorem dstL_mem : ∀ {l : List Oper} {k i : Nat} {o : Oper} {t : Nat}, l[i]? = some o → o.dst = some t → (t, k + i) ∈ dstL l k
  | [], k, i, o, t, ho, _ => by simp at ho
  | a :: l, k, i, o, t, ho, ht => by
    simp only [dstL]
    cases i with
    | zero => simp at ho; subst ho; rw [ht]; exact List.mem_cons_self ..
    | succ i =>
      have := dstL_mem (k := k + 1) (i := i) (by simpa using ho) ht
      rw [show k + 1 + i = k + (i + 1) by omega] at this
      split
      · exact List.mem_cons_of_mem _ this
      · exact this
def dstsB : List (Nat × Nat) → Bool
  | [] => true
  | p :: r => r.all (fun q => match Nat.beq q.1 p.1 with
    | true => false
    | false => true) && dstsB r
theorem dstsB_to : ∀ {l : List (Nat × Nat)}, dstsB l = true → ∀ t i j, (t, i) ∈ l → (t, j) ∈ l → i = j
  | [], _, t, i, j, hi, _ => by cases hi
  | p :: r, h, t, i, j, hi, hj => by
    simp only [dstsB, Bool.and_eq_true, List.all_eq_true] at h
    have no : ∀ k, (p.1, k) ∈ r → False := fun k hk => by
      have := h.1 _ hk
      simp only [Nat.beq_refl] at this
      cases this
    rcases List.mem_cons.1 hi with hi | hi
    · rcases List.mem_cons.1 hj with hj | hj
      · rw [← hi] at hj; injection hj with _ hj; exact hj.symm
      · exact (no j (by rw [← hi]; exact hj)).elim
    · rcases List.mem_cons.1 hj with hj | hj
      · exact (no i (by rw [← hj]; exact hi)).elim
      · exact dstsB_to h.2 t i j hi hj
def usesB (all : List Oper) (ms : List Nat) (D : List (Nat × Nat)) : List Oper → Nat → Bool
  | [], _ => true
  | o :: r, i => (looks all o).all (fun t => D.all fun p => bif Nat.beq p.1 t then (Nat.beq i p.2 || (befB ms i p.2 || befB ms p.2 i)) else true) && usesB all ms D r (i + 1)
theorem usesB_to {all : List Oper} {ms : List Nat} {D : List (Nat × Nat)} : ∀ {l : List Oper} {k : Nat}, usesB all ms D l k = true → ∀ (i : Nat) (o : Oper) (t j : Nat), l[i]? = some o → t ∈ looks all o → (t, j) ∈ D → k + i = j ∨ Bef ms (k + i) j ∨ Bef ms j (k + i)
  | [], k, _, i, o, t, j, ho, _, _ => by simp at ho
  | a :: l, k, h, i, o, t, j, ho, ht, hj => by
    simp only [usesB, Bool.and_eq_true, List.all_eq_true] at h
    cases i with
    | zero =>
      simp at ho; subst ho
      have h1 := h.1 t ht _ hj
      simp only [Nat.beq_refl, cond_true, Bool.or_eq_true] at h1
      rcases h1 with h1 | h1 | h1
      · exact .inl (beqT h1)
      · exact .inr (.inl (befB_to h1))
      · exact .inr (.inr (befB_to h1))
    | succ i =>
      have := usesB_to h.2 i o t j (by simpa using ho) ht hj
      rwa [show k + 1 + i = k + (i + 1) by omega] at this
def planB (G : Cx) (ops : List Oper) : Bool := Nat.beq (masks ops).length ops.length && (maskB (masks ops) ops 0 && (chainB (masks ops) (effs G ops 0) && (laysB G (masks ops) (effs G ops 0) ops 0 && (dstsB (dstL ops 0) && usesB ops (masks ops) (dstL ops 0) ops 0))))
theorem planB_to {G : Cx} {ops : List Oper} (h : planB G ops = true) : Plan G ops (masks ops) (effs G ops 0) ∧ (masks ops).length = ops.length := by
  simp only [planB, Bool.and_eq_true] at h
  obtain ⟨h1, h2, h3, h4, h5, h6⟩ := h
  refine ⟨⟨fun i o ho => ?_, rfl, chainB_to h3, fun i o x ho hl hx hlt => ?_, fun i j oi oj t hi hj di dj => ?_, fun i j oi oj t hi hj ht dj => ?_⟩, beqT h1⟩
  · have := maskB_to h2 i o ho; rwa [Nat.zero_add] at this
  · have := laysB_to h4 i o x ho hl hx (by omega); rwa [Nat.zero_add] at this
  · have a := dstL_mem (k := 0) hi di
    have b := dstL_mem (k := 0) hj dj
    rw [Nat.zero_add] at a b
    exact dstsB_to h5 t i j a b
  · have b := dstL_mem (k := 0) hj dj
    rw [Nat.zero_add] at b
    have := usesB_to h6 i oi t j hi ht b
    rwa [Nat.zero_add] at this
/-! ### A region that ends with two stores in any order -/
def noDst (o : Oper) : Bool := match o.dst with
  | none => true
  | some _ => false
def noGd (o : Oper) : Bool := match o.guard with
  | none => true
  | some _ => false
def lateB (G : Cx) (my x : Nat) : List Oper → Nat → Bool
  | [], _ => true
  | o :: r, i => (Nat.testBit my i || (Nat.beq i x || isPureC (cOp G o.op))) && lateB G my x r (i + 1)
theorem lateB_to {G : Cx} {my x : Nat} : ∀ {l : List Oper} {k : Nat}, lateB G my x l k = true → ∀ (i : Nat) (o : Oper), l[i]? = some o → my.testBit (k + i) = true ∨ k + i = x ∨ isPureC (cOp G o.op) = true
  | [], k, _, i, o, ho => by simp at ho
  | a :: l, k, h, i, o, ho => by
    simp only [lateB, Bool.and_eq_true, Bool.or_eq_true] at h
    cases i with
    | zero =>
      simp at ho; subst ho
      exact h.1.imp id (Or.imp beqT id)
    | succ i =>
      have := lateB_to h.2 i o (by simpa using ho)
      rwa [show k + 1 + i = k + (i + 1) by omega] at this
def aftB (G : Cx) (x : Nat) : List Oper → Nat → Bool
  | [], _ => true
  | o :: r, i => (bif Nat.blt x i then isPureC (cOp G o.op) else true) && aftB G x r (i + 1)
theorem aftB_to {G : Cx} {x : Nat} : ∀ {l : List Oper} {k : Nat}, aftB G x l k = true → ∀ (i : Nat) (o : Oper), l[i]? = some o → x < k + i → isPureC (cOp G o.op) = true
  | [], k, _, i, o, ho, _ => by simp at ho
  | a :: l, k, h, i, o, ho, hx => by
    simp only [aftB, Bool.and_eq_true] at h
    cases i with
    | zero =>
      simp at ho; subst ho
      have h1 := h.1
      rw [show Nat.blt x k = true from Nat.ble_eq_true_of_le (by omega), cond_true] at h1
      exact h1
    | succ i => exact aftB_to h.2 i o (by simpa using ho) (by omega)
def keepB (x : Nat) (D : List (Nat × Nat)) : Operand → Bool
  | .tmp t => D.all fun p => bif Nat.beq p.1 t then Nat.ble p.2 x else true
  | _ => true
def usesY (my : Nat) (D : List (Nat × Nat)) (ts : List Nat) : Bool := ts.all fun t => D.all fun p => bif Nat.beq p.1 t then Nat.testBit my p.2 else true
def t2chk (G : Cx) (ops : List Oper) : Bool := match splitL ops with
  | none => false
  | some (l0, y) => (match lastE (effs G l0 0) with
    | none => false
    | some x => (match nthL l0 x with
      | none => false
      | some ox => (match storeX ox.op, storeX y.op, maskE (masks l0) l0.length y.after.toList with
        | some px, some _, some my => planB G l0 && (noDst ox && (noDst y && (noGd y && (l0.all noGd && (lateB G my x l0 0 && (aftB G x l0 0 && (keepB x (dstL l0 0) px && usesY my (dstL l0 0) (tmpsOf y.op.operands.toList))))))))
        | _, _, _ => false)))
theorem noDst_to {o : Oper} (h : noDst o = true) : o.dst = none := by
  unfold noDst at h
  split at h
  · assumption
  · cases h
theorem noGd_to {o : Oper} (h : noGd o = true) : o.guard = none := by
  unfold noGd at h
  split at h
  · assumption
  · cases h
theorem t2chk_to {G : Cx} {ops : List Oper} (h : t2chk G ops = true) : ∃ l0 y x ox px py my, ops = l0 ++ [y] ∧ T2Ok G l0 y x ox px py my := by
  unfold t2chk at h
  split at h
  · cases h
  · next l0 y hs =>
    split at h
    · cases h
    · next x hx =>
      rw [nthL_eq] at h
      split at h
      · cases h
      · next ox hox =>
        split at h
        · next px py my hpx hpy hmy =>
          simp only [Bool.and_eq_true] at h
          obtain ⟨h1, h2, h3, h4, h5, h6, h7, h8, h9⟩ := h
          obtain ⟨p1, p2⟩ := planB_to h1
          refine ⟨l0, y, x, ox, px, py, my, splitL_to hs, p1, p2, hx, hox, hpx, noDst_to h2, hpy, noDst_to h3, noGd_to h4, fun i o ho => ?_, hmy, fun i o ho => ?_, fun i o ho hlt => ?_, fun t ht i o ho hlt hd => ?_, fun t ht j oj hj hd => ?_⟩
          · rw [List.all_eq_true] at h5
            exact noGd_to (h5 o (List.mem_of_getElem? ho))
          · have := lateB_to h6 i o ho; rwa [Nat.zero_add] at this
          · exact aftB_to h7 i o ho (by omega)
          · subst ht
            simp only [keepB, List.all_eq_true] at h8
            have := dstL_mem (k := 0) ho hd
            rw [Nat.zero_add] at this
            have h8 := h8 _ this
            rw [Nat.beq_refl, cond_true] at h8
            have := Nat.le_of_ble_eq_true h8
            omega
          · simp only [usesY, List.all_eq_true] at h9
            have := dstL_mem (k := 0) hj hd
            rw [Nat.zero_add] at this
            have h9 := h9 t ht _ this
            rw [Nat.beq_refl, cond_true] at h9
            exact h9
        · cases h
def regB (G : Cx) (ops : List Oper) : Bool := bif isT2 G ops then t2chk G ops else planB G ops
theorem regB_to {G : Cx} {ops : List Oper} (h : regB G ops = true) : RegOk G ops := by
  unfold regB at h
  cases hb : isT2 G ops with
  | true => rw [hb, cond_true] at h; exact ⟨fun _ => t2chk_to h, fun hh => (by rw [hb] at hh; cases hh)⟩
  | false => rw [hb, cond_false] at h; exact ⟨fun hh => (by rw [hb] at hh; cases hh), fun _ => planB_to h⟩
def codeB (G : Cx) : Code → Bool
  | .region _ ops draw => bif draw then regB G ops.toList else true
  | .seq a b => codeB G a && codeB G b
  | .cond _ a b => codeB G a && codeB G b
  | .block _ b => codeB G b
  | .loop b => codeB G b
  | _ => true
theorem codeB_to {G : Cx} : ∀ {c : Code}, codeB G c = true → CodeOk G c := by
  intro c
  induction c with
  | region id ops draw => intro h hd; subst hd; exact regB_to (by simpa [codeB] using h)
  | seq a b iha ihb => intro h; simp only [codeB, Bool.and_eq_true] at h; exact ⟨iha h.1, ihb h.2⟩
  | cond x a b iha ihb => intro h; simp only [codeB, Bool.and_eq_true] at h; exact ⟨iha h.1, ihb h.2⟩
  | block id b ih => intro h; exact ih h
  | loop b ih => intro h; exact ih h
  | _ => intro _; trivial
/-- A row of the table of functions, checked. -/
structure RowOk (P : Program) (G : Cx) (p : Nat × Func) : Prop where
  fn : P.funcs[p.1]? = some p.2
  name : (p.2.name == "runtime.NumGoroutine") = false
  code : (match p.2.body with
    | some c => codeB G c
    | none => true) = true
  small : Nat.blt p.1 16000 = true
theorem ofL_get {α : Type} : ∀ {l : List (Nat × α)} {t : Tr α} {g : Nat} {x : α}, (∀ p ∈ l, Nat.blt p.1 16000 = true) → (ofL l t).get g = some x → (g, x) ∈ l ∨ t.get g = some x
  | [], t, g, x, _, h => .inr h
  | (n, y) :: l, t, g, x, hs, h => by
    simp only [ofL] at h
    rcases ofL_get (fun p hp => hs p (List.mem_cons_of_mem _ hp)) h with h | h
    · exact .inl (List.mem_cons_of_mem _ h)
    · have hn : n < 16000 := bltT (hs _ (List.mem_cons_self ..))
      rw [Tr.get_put y 14 t n g (by omega)] at h
      by_cases hg : g = n
      · rw [if_pos hg] at h; injection h with h; subst h; subst hg; exact .inl (List.mem_cons_self ..)
      · rw [if_neg hg] at h; exact .inr h
theorem fns_ok {P : Program} {G : Cx} {l : List (Nat × Func)} (hG : G.fns = ofL l .nil) (h : ∀ p ∈ l, RowOk P G p) : FnsOk P G := by
  intro g F c hg hc
  rw [hG] at hg
  rcases ofL_get (fun p hp => (h p hp).small) hg with hm | hm
  · have r := h _ hm
    have hb := r.code
    rw [hc] at hb
    exact ⟨r.fn, r.name, codeB_to hb⟩
  · cases g <;> cases hm
end Go.Proofs.YtibakihcicfeoaaGreat.Ev
