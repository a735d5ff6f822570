/- What an abstract value stands for, and what abstract memory says of the model's. No condition. -/
import Derived.Test.YtibakihcicfeoaaGreatZa
namespace Go.Proofs.YtibakihcicfeoaaGreat.Ev
open Go.RowKit

/-- Where a block lies: the model's block, the first cell, how many cells are its own. -/
structure Pl where
  b : Nat
  o : Nat
  cap : Nat
abbrev Pm : Type := Nat → Option Pl
mutual
def VR (ρ : Pm) : AV → Value → Prop
  | .int k n, v => ∃ K, kN K = k ∧ v = .int K n
  | .bool b, v => v = .bool b
  | .str s, v => ∃ t : ByteArray, v = .string t ∧ t.data.toList.map UInt8.toNat = s
  | .ptr i o, v => ∃ p, ρ i = some p ∧ v = .pointer (some ⟨p.b, p.o + o, none⟩)
  | .nilp, v => v = .pointer none
  | .sl s i o n, v => ∃ p a c, ρ i = some p ∧ v = .slice (some a) n c ∧ (n ≤ c ∧ c ≤ 9223372036854775807) ∧ (c = 0 ∨ a = ⟨p.b, p.o + o, none⟩ ∧ o + c * s ≤ p.cap)
  | .nils, v => v = .slice none 0 0
  | .fn f cap, v => ∃ ds, v = .func (.func f) #[] ⟨ds⟩ ∧ VRs ρ cap ds
  | .nilf, v => v = .nilFunc
  | .nili, v => v = .nilIface
  | .agg cs, v => ∃ ds, v = .agg ⟨ds⟩ ∧ VRs ρ cs ds
  | .tup vs, v => ∃ ds, v = .tuple ⟨ds⟩ ∧ VRs ρ vs ds
def VRs (ρ : Pm) : List AV → List Value → Prop
  | [], ds => ds = []
  | c :: cs, ds => ∃ d r, ds = d :: r ∧ VR ρ c d ∧ VRs ρ cs r
end
def Pm.le (ρ ρ' : Pm) : Prop := ∀ i p, ρ i = some p → ρ' i = some p
mutual
theorem VR.ext {ρ ρ' : Pm} (h : ρ.le ρ') : ∀ {a : AV} {v : Value}, VR ρ a v → VR ρ' a v
  | .int k n, v, H => by simpa only [VR] using H
  | .bool b, v, H => by simpa only [VR] using H
  | .str s, v, H => by simpa only [VR] using H
  | .ptr i o, v, H => by
    simp only [VR] at H ⊢
    obtain ⟨p, h1, h2⟩ := H
    exact ⟨p, h i p h1, h2⟩
  | .nilp, v, H => by simpa only [VR] using H
  | .sl s i o n, v, H => by
    simp only [VR] at H ⊢
    obtain ⟨p, a, c, h1, h2⟩ := H
    exact ⟨p, a, c, h i p h1, h2⟩
  | .nils, v, H => by simpa only [VR] using H
  | .fn f cap, v, H => by
    simp only [VR] at H ⊢
    obtain ⟨ds, h1, h2⟩ := H
    exact ⟨ds, h1, VRs.ext h h2⟩
  | .nilf, v, H => by simpa only [VR] using H
  | .nili, v, H => by simpa only [VR] using H
  | .agg cs, v, H => by
    simp only [VR] at H ⊢
    obtain ⟨ds, h1, h2⟩ := H
    exact ⟨ds, h1, VRs.ext h h2⟩
  | .tup vs, v, H => by
    simp only [VR] at H ⊢
    obtain ⟨ds, h1, h2⟩ := H
    exact ⟨ds, h1, VRs.ext h h2⟩
theorem VRs.ext {ρ ρ' : Pm} (h : ρ.le ρ') : ∀ {a : List AV} {v : List Value}, VRs ρ a v → VRs ρ' a v
  | [], v, H => by simpa only [VRs] using H
  | c :: cs, v, H => by
    simp only [VRs] at H ⊢
    obtain ⟨d, r, h1, h2, h3⟩ := H
    exact ⟨d, r, h1, VR.ext h h2, VRs.ext h h3⟩
end
theorem VRs.len {ρ : Pm} : ∀ {a : List AV} {v : List Value}, VRs ρ a v → v.length = a.length
  | [], v, H => by simp only [VRs] at H; subst H; rfl
  | c :: cs, v, H => by
    simp only [VRs] at H
    obtain ⟨d, r, rfl, _, h3⟩ := H
    simp [h3.len]
theorem VRs.get {ρ : Pm} : ∀ {a : List AV} {v : List Value}, VRs ρ a v → ∀ {j : Nat} {c : AV}, a[j]? = some c → ∃ d, v[j]? = some d ∧ VR ρ c d
  | [], v, H, j, c, h => by simp at h
  | x :: cs, v, H, j, c, h => by
    simp only [VRs] at H
    obtain ⟨d, r, rfl, h2, h3⟩ := H
    cases j with
    | zero => simp at h; subst h; exact ⟨d, by simp, h2⟩
    | succ j => simp at h; obtain ⟨d', e, hd⟩ := h3.get h; exact ⟨d', by simpa using e, hd⟩
theorem VRs.of {ρ : Pm} : ∀ {a : List AV} {v : List Value}, v.length = a.length → (∀ (j : Nat) (c : AV) (d : Value), a[j]? = some c → v[j]? = some d → VR ρ c d) → VRs ρ a v
  | [], v, h, _ => by simp only [VRs]; exact List.length_eq_zero_iff.1 h
  | c :: cs, [], h, _ => by simp at h
  | c :: cs, d :: r, h, H => by
    simp only [VRs]
    exact ⟨d, r, rfl, H 0 c d (by simp) (by simp), VRs.of (by simpa using h) fun j c' d' h1 h2 => H (j + 1) c' d' (by simpa using h1) (by simpa using h2)⟩
theorem VRs.app {ρ : Pm} : ∀ {a b : List AV} {v u : List Value}, VRs ρ a v → VRs ρ b u → VRs ρ (a ++ b) (v ++ u)
  | [], b, v, u, h, h' => by simp only [VRs] at h; subst h; exact h'
  | c :: cs, b, v, u, h, h' => by
    simp only [VRs] at h
    obtain ⟨d, r, rfl, h2, h3⟩ := h
    simp only [List.cons_append, VRs]
    exact ⟨d, r ++ u, rfl, h2, h3.app h'⟩
theorem VRs.cons {ρ : Pm} {a : AV} {l : List AV} {v : Value} {r : List Value} (h : VR ρ a v) (h' : VRs ρ l r) : VRs ρ (a :: l) (v :: r) := by
  simp only [VRs]; exact ⟨v, r, rfl, h, h'⟩
theorem VRs.nil {ρ : Pm} : VRs ρ [] [] := by simp only [VRs]
theorem VR.one {ρ : Pm} {a : AV} {v : Value} (h : VR ρ a v) (ho : one a = true) : v.oneCell' = true := by
  cases a <;> simp only [VR] at h <;> simp [Go.Proofs.YtibakihcicfeoaaGreat.Ev.one] at ho
  case int => obtain ⟨K, _, rfl⟩ := h; rfl
  case bool => subst h; rfl
  case str => obtain ⟨t, rfl, _⟩ := h; rfl
  case ptr => obtain ⟨p, _, rfl⟩ := h; rfl
  case nilp => subst h; rfl
  case sl => obtain ⟨p, a, c, _, rfl, _⟩ := h; rfl
  case nils => subst h; rfl
  case fn => obtain ⟨ds, rfl, _⟩ := h; rfl
  case nilf => subst h; rfl
  case nili => subst h; rfl

/-! ### Memory -/
def Apart (p q : Pl) : Prop := p.b = q.b → ∀ x y, x < p.cap → y < q.cap → p.o + x ≠ q.o + y
theorem Apart.symm {p q : Pl} (h : Apart p q) : Apart q p := fun e x y hx hy he => h e.symm y x hy hx he.symm
def isLive : Blk → Bool
  | .dead => false
  | .out _ => false
  | _ => true
/-- A row of cells that bears no frozen cell. -/
def Soft (c : Array Value) (fr : Nat × Nat) : Prop := fr.1 = fr.2 ∨ c.size ≤ fr.1
def BlkOk (ρ : Pm) (w : World) (i : Nat) : Blk → Prop
  | .dead => True
  | .out w0 => Below w0.heap.size w0 w
  | .cells cs => ∃ p c t fr, ρ i = some p ∧ w.heap[p.b]? = some (.cells c t fr) ∧ Soft c fr ∧ p.o + p.cap ≤ c.size ∧ cs.length ≤ p.cap ∧ cs.all one = true ∧
      ∀ j v, cs[j]? = some v → ∃ u, c[p.o + j]? = some u ∧ VR ρ v u
  | .iter l pos => ∃ p t, ρ i = some p ∧ p.o = 0 ∧ p.cap = 1 ∧ w.heap[p.b]? = some (.stringIter t pos) ∧ t.data.toList.map UInt8.toNat = l
structure Sim (ρ : Pm) (F : Nat → Option Blk) (w : World) : Prop where
  ok : ∀ i k, F i = some k → BlkOk ρ w i k
  apart : ∀ i j k l p q, i ≠ j → F i = some k → F j = some l → isLive k = true → isLive l = true → ρ i = some p → ρ j = some q → Apart p q
  out : ∀ i w0, F i = some (.out w0) → ∀ j k p, F j = some k → isLive k = true → ρ j = some p → w0.heap.size ≤ p.b
/-- What the model keeps of a world, but for its blocks. -/
def Keeps (w w' : World) : Prop := w'.os = w.os ∧ w'.tape = w.tape ∧ w'.output = w.output ∧ w.heap.size ≤ w'.heap.size
def upd {α : Type} (F : Nat → Option α) (i : Nat) (b : α) : Nat → Option α := fun j => if j = i then some b else F j
theorem upd_same {α : Type} (F : Nat → Option α) (i : Nat) (b : α) : upd F i b i = some b := by simp [upd]
theorem upd_ne {α : Type} (F : Nat → Option α) {i j : Nat} (b : α) (h : j ≠ i) : upd F i b j = F j := by simp [upd, h]

section
variable {ρ : Pm} {F : Nat → Option Blk} {w w' : World}
theorem BlkOk.ext {ρ' : Pm} (h : ρ.le ρ') {i : Nat} {k : Blk} (H : BlkOk ρ w i k) : BlkOk ρ' w i k := by
  cases k with
  | dead => trivial
  | out w0 => exact H
  | cells cs =>
    obtain ⟨p, c, t, fr, h1, h2, h3, h4, h5, h6, h7⟩ := H
    exact ⟨p, c, t, fr, h i p h1, h2, h3, h4, h5, h6, fun j v hj => let ⟨u, a, b⟩ := h7 j v hj; ⟨u, a, b.ext h⟩⟩
  | iter l pos =>
    obtain ⟨p, t, h1, h2⟩ := H
    exact ⟨p, t, h i p h1, h2⟩
/-- The block's row stays. -/
theorem BlkOk.kept {i : Nat} {k : Blk} (H : BlkOk ρ w i k) (hk : ∀ p, ρ i = some p → isLive k = true → w'.heap[p.b]? = w.heap[p.b]?) (ho : ∀ w0, k = .out w0 → Below w0.heap.size w0 w') : BlkOk ρ w' i k := by
  cases k with
  | dead => trivial
  | out w0 => exact ho w0 rfl
  | cells cs =>
    obtain ⟨p, c, t, fr, h1, h2, h3⟩ := H
    exact ⟨p, c, t, fr, h1, (hk p h1 rfl).trans h2, h3⟩
  | iter l pos =>
    obtain ⟨p, t, h1, h2, h3, h4, h5⟩ := H
    exact ⟨p, t, h1, h2, h3, (hk p h1 rfl).trans h4, h5⟩
theorem Sim.lt (H : Sim ρ F w) {i : Nat} {k : Blk} {p : Pl} (hF : F i = some k) (hl : isLive k = true) (hp : ρ i = some p) : p.b < w.heap.size := by
  have := H.ok i k hF
  cases k with
  | dead => cases hl
  | out w0 => cases hl
  | cells cs =>
    obtain ⟨p', c, t, fr, h1, h2, _⟩ := this
    rw [hp] at h1; injection h1 with h1; subst h1
    exact (Array.getElem?_eq_some_iff.1 h2).1
  | iter l pos =>
    obtain ⟨p', t, h1, _, _, h4, _⟩ := this
    rw [hp] at h1; injection h1 with h1; subst h1
    exact (Array.getElem?_eq_some_iff.1 h4).1
theorem Sim.rho (H : Sim ρ F w) {i : Nat} {k : Blk} (hF : F i = some k) (hl : isLive k = true) : ∃ p, ρ i = some p := by
  have := H.ok i k hF
  cases k with
  | dead => cases hl
  | out w0 => cases hl
  | cells cs => obtain ⟨p', c, t, fr, h1, _⟩ := this; exact ⟨p', h1⟩
  | iter l pos => obtain ⟨p', t, h1, _⟩ := this; exact ⟨p', h1⟩
/-- All blocks that were there stay. -/
theorem Sim.kept (H : Sim ρ F w) (hk : ∀ b, b < w.heap.size → w'.heap[b]? = w.heap[b]?) (ho : Keeps w w' := by exact ⟨rfl, rfl, rfl, Nat.le_refl _⟩) : Sim ρ F w' :=
  ⟨fun i k hF => (H.ok i k hF).kept (fun p hp hl => hk p.b (H.lt hF hl hp)) fun w0 he => by
    subst he
    have h0 : Below w0.heap.size w0 w := H.ok i _ hF
    exact ⟨ho.1.trans h0.os, ho.2.1.trans h0.tape, ho.2.2.1.trans h0.output, Nat.le_trans h0.size ho.2.2.2, fun k hk' => (hk k (Nat.lt_of_lt_of_le hk' h0.size)).trans (h0.block k hk')⟩, H.apart, H.out⟩
theorem Sim.heap (H : Sim ρ F w) (hk : w'.heap = w.heap) (ho : Keeps w w' := by exact ⟨rfl, rfl, rfl, Nat.le_refl _⟩) : Sim ρ F w' := H.kept (fun b _ => by rw [hk]) ho
/-- A block that nobody uses any more. -/
theorem Sim.kill (H : Sim ρ F w) (i : Nat) : Sim ρ (upd F i .dead) w :=
  ⟨fun j k hF => by
    by_cases hj : j = i
    · subst hj; rw [upd_same] at hF; injection hF with hF; subst hF; trivial
    · rw [upd_ne _ _ hj] at hF; exact H.ok j k hF,
  fun a b k l p q hab ha hb hk hl hp hq => by
    by_cases h1 : a = i
    · subst h1; rw [upd_same] at ha; injection ha with ha; subst ha; cases hk
    by_cases h2 : b = i
    · subst h2; rw [upd_same] at hb; injection hb with hb; subst hb; cases hl
    rw [upd_ne _ _ h1] at ha; rw [upd_ne _ _ h2] at hb
    exact H.apart a b k l p q hab ha hb hk hl hp hq,
  fun a w0 ha b k p hb hk hp => by
    by_cases h1 : a = i
    · subst h1; rw [upd_same] at ha; cases ha
    by_cases h2 : b = i
    · subst h2; rw [upd_same] at hb; injection hb with hb; subst hb; cases hk
    rw [upd_ne _ _ h1] at ha; rw [upd_ne _ _ h2] at hb
    exact H.out a w0 ha b k p hb hk hp⟩
theorem upd_le {n : Nat} {p : Pl} (h : ρ n = none) : ρ.le (upd ρ n p) := fun i q hi => by
  rw [upd_ne]; exact hi
  intro he; subst he; rw [h] at hi; cases hi
/-- A new block of the model, with a new number. -/
theorem Sim.fresh (H : Sim ρ F w) {n : Nat} (hn : ρ n = none) {ob : Obj} {k : Blk} {p : Pl} (hb : p.b = w.heap.size)
    (hk : BlkOk (upd ρ n p) (w.alloc ob) n k) (hlv : isLive k = true) : Sim (upd ρ n p) (upd F n k) (w.alloc ob) := by
  have hold : ∀ b, b < w.heap.size → (w.alloc ob).heap[b]? = w.heap[b]? := fun b hb => by
    show (w.heap.push ob)[b]? = _
    rw [Array.getElem?_push]; simp [Nat.ne_of_lt hb]
  have hsz : w.heap.size ≤ (w.alloc ob).heap.size := by show _ ≤ (w.heap.push ob).size; simp
  have H1 := H.kept hold ⟨rfl, rfl, rfl, hsz⟩
  refine ⟨fun j l hF => ?_, fun a b l m q r hab ha hb' hl hm hq hr => ?_, fun a w0 ha j l q hj hl hq => ?_⟩
  · by_cases hj : j = n
    · subst hj; rw [upd_same] at hF; injection hF with hF; subst hF; exact hk
    · rw [upd_ne _ _ hj] at hF; exact (H1.ok j l hF).ext (upd_le hn)
  · by_cases h1 : a = n
    · subst h1
      rw [upd_same] at hq; injection hq with hq; subst hq
      rw [upd_ne _ _ (Ne.symm hab)] at hb' hr
      have := H.lt hb' hm hr
      intro he; omega
    · rw [upd_ne _ _ h1] at ha hq
      by_cases h2 : b = n
      · subst h2
        rw [upd_same] at hr; injection hr with hr; subst hr
        have := H.lt ha hl hq
        intro he; omega
      · rw [upd_ne _ _ h2] at hb' hr
        exact H.apart a b l m q r hab ha hb' hl hm hq hr
  · by_cases h1 : a = n
    · subst h1; rw [upd_same] at ha; injection ha with ha; subst ha; cases hlv
    rw [upd_ne _ _ h1] at ha
    by_cases h2 : j = n
    · subst h2
      rw [upd_same] at hq; injection hq with hq; subst hq
      have h0 : Below w0.heap.size w0 w := H.ok a _ ha
      rw [hb]; exact h0.size
    · rw [upd_ne _ _ h2] at hj hq
      exact H.out a w0 ha j l q hj hl hq
/-- The row of one block changes, within what is this block's own. -/
theorem Sim.write (H : Sim ρ F w) {i : Nat} {k k' : Blk} {p : Pl} (hF : F i = some k) (hl : isLive k = true) (hp : ρ i = some p) {c c' : Array Value} {t : TypeId} {fr fr' : Nat × Nat}
    (hc : w.heap[p.b]? = some (.cells c t fr)) (hc' : w'.heap[p.b]? = some (.cells c' t fr')) (hs : c'.size = c.size) (hfr : Soft c fr → Soft c' fr')
    (ho : ∀ b, b ≠ p.b → w'.heap[b]? = w.heap[b]?) (hout : ∀ x, (x < p.o ∨ p.o + p.cap ≤ x) → c'[x]? = c[x]?) (hk : BlkOk ρ w' i k') (hno : ∀ w0, k' ≠ .out w0) (hks : Keeps w w') : Sim ρ (upd F i k') w' := by
  refine ⟨fun j l hFj => ?_, fun a b l m q r hab ha hb' hl' hm hq hr => ?_, fun a w0 ha j l q hj hlv hq => ?_⟩
  · by_cases hj : j = i
    · subst hj; rw [upd_same] at hFj; injection hFj with hFj; subst hFj; exact hk
    · rw [upd_ne _ _ hj] at hFj
      have hb := H.ok j l hFj
      cases l with
      | dead => trivial
      | out w0 =>
        have h0 : Below w0.heap.size w0 w := hb
        exact ⟨hks.1.trans h0.os, hks.2.1.trans h0.tape, hks.2.2.1.trans h0.output, Nat.le_trans h0.size hks.2.2.2, fun b hb' => (ho b (fun he => by
          have := H.out j w0 hFj i k p hF hl hp
          omega)).trans (h0.block b hb')⟩
      | cells cs =>
        obtain ⟨q, d, t', fr2, h1, h2, h3, h4, h5, h6, h7⟩ := hb
        by_cases he : q.b = p.b
        · rw [he, hc] at h2
          injection h2 with h2
          injection h2 with e1 e2 e3
          subst e1; subst e2; subst e3
          refine ⟨q, c', t, fr', h1, by rw [he]; exact hc', hfr h3, by omega, h5, h6, fun j' v hv => ?_⟩
          obtain ⟨u, hu, hvr⟩ := h7 j' v hv
          refine ⟨u, ?_, hvr⟩
          rw [hout]
          · exact hu
          · have hj' : j' < q.cap := Nat.lt_of_lt_of_le ((List.getElem?_eq_some_iff.1 hv).1) h5
            have ap := H.apart j i _ _ q p hj hFj hF rfl hl h1 hp he
            rcases Nat.lt_or_ge (q.o + j') p.o with h | h
            · exact .inl h
            · rcases Nat.lt_or_ge (q.o + j') (p.o + p.cap) with h' | h'
              · exact absurd (show q.o + j' = p.o + (q.o + j' - p.o) by omega) (ap j' (q.o + j' - p.o) hj' (by omega))
              · exact .inr h'
        · exact ⟨q, d, t', fr2, h1, (ho _ he).trans h2, h3, h4, h5, h6, h7⟩
      | iter s pos =>
        obtain ⟨q, t', h1, h2, h3, h4, h5⟩ := hb
        refine ⟨q, t', h1, h2, h3, ?_, h5⟩
        rw [ho]; exact h4
        intro he; rw [he, hc] at h4; cases h4
  · have key : ∀ x, isLive (match upd F i k' x with | some z => z | none => .dead) = true → x = i ∨ F x = upd F i k' x := fun x _ => by
      by_cases h : x = i
      · exact .inl h
      · exact .inr (by rw [upd_ne _ _ h])
    by_cases h1 : a = i
    · subst h1
      rw [upd_ne _ _ (Ne.symm hab)] at hb'
      exact H.apart a b k m q r hab hF hb' hl hm hq hr
    · rw [upd_ne _ _ h1] at ha
      by_cases h2 : b = i
      · subst h2
        exact H.apart a b l k q r hab ha hF hl' hl hq hr
      · rw [upd_ne _ _ h2] at hb'
        exact H.apart a b l m q r hab ha hb' hl' hm hq hr
  · by_cases h1 : a = i
    · subst h1; rw [upd_same] at ha; injection ha with ha; exact absurd ha (hno w0)
    rw [upd_ne _ _ h1] at ha
    by_cases h2 : j = i
    · subst h2
      exact H.out a w0 ha j k q hF hl hq
    · rw [upd_ne _ _ h2] at hj
      exact H.out a w0 ha j l q hj hlv hq
end
end Go.Proofs.YtibakihcicfeoaaGreat.Ev
/- The evaluator's operations against the model's: what is asked of each kind; operands; the pure operations on numbers and texts. No condition. -/
namespace Go.Proofs.YtibakihcicfeoaaGreat.Ev

/-! ### Types -/
def KOk (P : Program) (t : TypeId) : TK → Prop
  | .int K => P.underlying t = some (.int K)
  | .bool => P.underlying t = some .bool
  | .str => P.underlying t = some .string
  | .ptr => ∃ e, P.underlying t = some (.pointer e)
  | .slice e => P.underlying t = some (.slice e)
  | .arr n e => P.underlying t = some (.array n e)
  | .strct fs => ∃ Fs, P.underlying t = some (.struct Fs) ∧ Fs.toList.map (fun f => (f.type, f.offset)) = fs ∧ ∃ pls, Fs.toList.mapM (fun f => (P.info? f.type).map fun i => (f.offset, i.size)) = some pls
  | .func => ∃ a b c, P.underlying t = some (.func a b c)
  | .iface => ∃ ms, P.underlying t = some (.interface ms)
  | .other => False
structure TyOk (P : Program) (t : TypeId) (ti : TI) (inf : TypeInfo) (z : Value) : Prop where
  info : P.info? t = some inf
  size : inf.size = ti.size
  bytes : inf.bytes = ti.bytes
  zero : inf.zero = some z
  zs : ∀ ρ, VRs ρ ti.zero z.cells.toList
  len : ti.zero.length = ti.size
  ones : ti.zero.all one = true
  k : KOk P t ti.k
def TysOk (P : Program) (tys : Tr TI) : Prop := ∀ t ti, tys.get t = some ti → ∃ inf z, TyOk P t ti inf z
section
variable {P : Program} {t : TypeId} {ti : TI} {inf : TypeInfo} {z : Value}
theorem TyOk.run_size (h : TyOk P t ti inf z) (w : World) : (sizeOf t).run P w = .ok ti.size w := by
  simp [sizeOf, typeInfo, h.info, h.size]
theorem TyOk.run_zero (h : TyOk P t ti inf z) (w : World) : (zeroValue t).run P w = .ok z w := by
  simp [zeroValue, typeInfo, h.info, h.zero]
theorem TyOk.run_agg (h : TyOk P t ti inf z) (w : World) : (isAgg t).run P w = .ok ti.k.isAgg w := by
  have hk := h.k
  generalize ti.k = k at *
  cases k <;> simp only [KOk] at hk
  case strct => obtain ⟨Fs, hu, _, _⟩ := hk; simp [isAgg, run_underlying hu, TK.isAgg]
  case ptr => obtain ⟨e, hu⟩ := hk; simp [isAgg, run_underlying hu, TK.isAgg]
  case func => obtain ⟨a, b, c, hu⟩ := hk; simp [isAgg, run_underlying hu, TK.isAgg]
  case iface => obtain ⟨ms, hu⟩ := hk; simp [isAgg, run_underlying hu, TK.isAgg]
  all_goals simp [isAgg, run_underlying hk, TK.isAgg]
end

/-! ### Slots and operands -/
def EnvR (ρ : Pm) (e : Tr AV) (a : Act) : Prop := ∀ t v, e.get t = some v → ∃ u, a.tmps[t]? = some u ∧ VR ρ v u
theorem EnvR.ext {ρ ρ' : Pm} {e : Tr AV} {a : Act} (h : EnvR ρ e a) (hl : ρ.le ρ') : EnvR ρ' e a := fun t v hv =>
  let ⟨u, h1, h2⟩ := h t v hv; ⟨u, h1, h2.ext hl⟩
theorem EnvR.put {ρ : Pm} {e : Tr AV} {a : Act} {v : AV} {u : Value} {d : Nat} (h : EnvR ρ e a) (hv : VR ρ v u) (hd : d < a.tmps.size) (hd2 : d < 1000) :
    EnvR ρ ((cPutT 10 d).put e v) (a.put (some d) u) := by
  intro t x hx
  rw [cPutT_eq, Tr.get_put v 10 e d t (by omega)] at hx
  by_cases ht : t = d
  · subst ht
    rw [if_pos rfl] at hx; injection hx with hx; subst hx
    exact ⟨u, by simp [Act.put, hd], hv⟩
  · rw [if_neg ht] at hx
    obtain ⟨y, h1, h2⟩ := h t x hx
    exact ⟨y, by simp [Act.put, Array.getElem?_setIfInBounds_ne (Ne.symm ht), h1], h2⟩
theorem bltT {a b : Nat} (h : Nat.blt a b = true) : a < b := Nat.le_of_ble_eq_true h
theorem mapO_some {α β : Type} {f : α → Option β} : ∀ {l : List α} {r : List β}, mapO f l = some r → r.length = l.length ∧ ∀ (j : Nat) (x : α) (y : β), l[j]? = some x → r[j]? = some y → f x = some y
  | [], r, h => by simp [mapO] at h; subst h; simp
  | x :: l, r, h => by
    simp only [mapO] at h
    split at h
    · cases h
    · next y hy =>
      split at h
      · cases h
      · next r' hr' =>
        injection h with h; subst h
        obtain ⟨h1, h2⟩ := mapO_some hr'
        refine ⟨by simp [h1], fun j a b ha hb => ?_⟩
        cases j with
        | zero => simp at ha hb; subst ha; subst hb; exact hy
        | succ j => exact h2 j a b (by simpa using ha) (by simpa using hb)
theorem cv1_ok {ρ : Pm} {c : Value} {v : AV} (h : cv1 c = some v) : VR ρ v c := by
  unfold cv1 at h
  split at h <;> first
    | (injection h with h; subst h; simp only [VR]; first
      | done
      | exact ⟨_, rfl, rfl⟩
      | exact ⟨[], rfl, VRs.nil⟩)
    | cases h
theorem cv_ok {ρ : Pm} {c : Value} {v : AV} (h : cv c = some v) : VR ρ v c := by
  unfold cv at h
  split at h
  · next cs =>
    split at h
    · next l hl =>
      injection h with h; subst h
      simp only [VR]
      obtain ⟨h1, h2⟩ := mapO_some hl
      exact ⟨cs, rfl, VRs.of h1.symm fun j c d hc hd => cv1_ok (h2 j d c hd hc)⟩
    · cases h
  · injection h with h; subst h; simp only [VR]; exact ⟨[], rfl, VRs.nil⟩
  · exact cv1_ok h
theorem cX_ok {ρ : Pm} {e : Tr AV} {a : Act} (h : EnvR ρ e a) {x : Operand} {v : AV} (hv : (cX x).get e = some v) : VR ρ v (a.eval x) := by
  cases x with
  | tmp t =>
    simp only [cX] at hv
    by_cases ht : Nat.blt t 1000 = true
    · rw [ht] at hv
      simp only [cond_true] at hv
      have ht' : t < 1000 := bltT ht
      rw [cGet_eq 10 t e (Nat.lt_of_lt_of_le (Nat.succ_lt_succ ht') (by decide))] at hv
      obtain ⟨u, h1, h2⟩ := h t v hv
      simpa [Act.eval, h1] using h2
    · rw [Bool.eq_false_iff.2 ht] at hv
      cases hv
  | const c =>
    simp only [cX] at hv
    split at hv
    · next b hb => injection hv with hv; subst hv; exact cv_ok hb
    · cases hv
  | func f =>
    simp only [cX] at hv
    injection hv with hv; subst hv
    simp only [VR]
    exact ⟨[], rfl, VRs.nil⟩
  | global g => simp only [cX] at hv; cases hv

/-! ### What is asked of an operation -/
def PureOk (P : Program) (o : Oper) (f : Tr AV → Option AV) : Prop :=
  ∀ (ρ : Pm) (e : Tr AV) (a : Act) (w : World) (v : AV), EnvR ρ e a → f e = some v → ∃ u, (execOp a.eval o).run P w = .ok (.value u) w ∧ VR ρ v u
def ReadOk (P : Program) (o : Oper) (k : Nat) (f : Tr AV → Option (Nat × Nat × Nat)) : Prop :=
  ∀ (ρ : Pm) (F : Nat → Option Blk) (e : Tr AV) (a : Act) (w : World) (i off n : Nat) (bs cs : List AV) (v : AV), EnvR ρ e a → Sim ρ F w → f e = some (i, off, n) →
    F i = some (.cells bs) → subL bs off n = some cs → madeOf k cs = some v → ∃ u, (execOp a.eval o).run P w = .ok (.value u) w ∧ VR ρ v u
def LayOk (P : Program) (o : Oper) (s : Nat) (l : Option Nat) (f : Tr AV → Option (List AV)) : Prop :=
  ∀ (ρ : Pm) (F : Nat → Option Blk) (e : Tr AV) (a : Act) (w : World) (cs : List AV) (n : Nat), EnvR ρ e a → Sim ρ F w → f e = some cs → ρ n = none →
    ∃ u w' p, (execOp a.eval o).run P w = .ok (.value u) w' ∧ Sim (upd ρ n p) (upd F n (.cells cs)) w' ∧ VR (upd ρ n p) (newV s n l) u
/-- Memory of the evaluator, and beside it what it does not know of. -/
def Hp.on (h : Hp) (φ : Nat → Option Blk) : Nat → Option Blk := fun i => match h.t.get i with
  | some b => some b
  | none => φ i
/-- Numbers from one up to another one are free. -/
def Free (ρ : Pm) (h h' : Hp) : Prop := ∀ i, h.n ≤ i → i < h'.n → ρ i = none
/-- What has come to be known of where blocks lie. -/
def Grow (ρ ρ' : Pm) (h h' : Hp) : Prop := ρ.le ρ' ∧ (∀ i, ¬ (h.n ≤ i ∧ i < h'.n) → ρ' i = ρ i) ∧ h.n ≤ h'.n
def Runs (P : Program) (o : Oper) (a : Act) (w : World) (u : Value) (w' : World) : Prop :=
  (execOp a.eval o).run P w = .ok (.value u) w' ∨ ((execOp a.eval o).run P w = .ok .skip w' ∧ u = undef)
def EffOk (P : Program) (o : Oper) (f : Tr AV → Hp → RA) : Prop :=
  ∀ (ρ : Pm) (φ : Nat → Option Blk) (e : Tr AV) (a : Act) (w : World) (v : AV) (h h' : Hp), EnvR ρ e a → Sim ρ (h.on φ) w → f e h = .ok v h' → Free ρ h h' →
    ∃ u w' ρ', Runs P o a w u w' ∧ Grow ρ ρ' h h' ∧ Sim ρ' (h'.on φ) w' ∧ VR ρ' v u
def CallOk (P : Program) (o : Oper) (f : Tr AV → Option (Nat × List AV)) : Prop :=
  ∀ (ρ : Pm) (e : Tr AV) (a : Act) (g : Nat) (args : List AV), EnvR ρ e a → f e = some (g, args) →
    ∃ us : List Value, VRs ρ args us ∧ ∀ w, (execOp a.eval o).run P w = (callFunc g us.toArray).run P w
def DfrOk (P : Program) (o : Oper) (f : Tr AV → Option Nat) : Prop :=
  ∀ (ρ : Pm) (e : Tr AV) (a : Act) (g : Nat), EnvR ρ e a → f e = some g →
    ∃ c : Value, ∀ w, (execOp a.eval o).run P w = .ok (.defer { target := .fn (.func g) #[c], args := #[] }) w
def COk (P : Program) (o : Oper) : CO → Prop
  | .pure f => PureOk P o f
  | .read k f => ReadOk P o k f
  | .lay s l f => LayOk P o s l f
  | .eff f => EffOk P o f
  | .call f => CallOk P o f
  | .dfr f => DfrOk P o f
  | .bad => True

/-! ### One operand, two operands -/
theorem un_eq (x : Operand) (f : AV → Option AV) : un x f = .pure fun e => (match (cX x).get e with
    | some v => f v
    | none => none) := by unfold un; cases cX x; rfl
theorem bi_eq (x y : Operand) (f : AV → AV → Option AV) : bi x y f = .pure fun e => (match (cX x).get e with
    | some v => (match (cX y).get e with
      | some u => f v u
      | none => none)
    | none => none) := by unfold bi; cases cX x; cases cX y; rfl
theorem un_ok {P : Program} {o : Oper} {x : Operand} {f : AV → Option AV}
    (H : ∀ (ρ : Pm) (a : Act) (w : World) (v r : AV) (u : Value), a.eval x = u → VR ρ v u → f v = some r → ∃ u', (execOp a.eval o).run P w = .ok (.value u') w ∧ VR ρ r u') :
    COk P o (un x f) := by
  rw [un_eq]
  intro ρ e a w r hE hf
  cases hx : (cX x).get e with
  | none => simp only [hx] at hf; cases hf
  | some v =>
    simp only [hx] at hf
    exact H ρ a w v r _ rfl (cX_ok hE hx) hf
theorem bi_ok {P : Program} {o : Oper} {x y : Operand} {f : AV → AV → Option AV}
    (H : ∀ (ρ : Pm) (a : Act) (w : World) (v v' r : AV) (u u' : Value), a.eval x = u → a.eval y = u' → VR ρ v u → VR ρ v' u' → f v v' = some r →
      ∃ z, (execOp a.eval o).run P w = .ok (.value z) w ∧ VR ρ r z) : COk P o (bi x y f) := by
  rw [bi_eq]
  intro ρ e a w r hE hf
  cases hx : (cX x).get e with
  | none => simp only [hx] at hf; cases hf
  | some v =>
    cases hy : (cX y).get e with
    | none => simp only [hx, hy] at hf; cases hf
    | some v' =>
      simp only [hx, hy] at hf
      exact H ρ a w v v' r _ _ rfl rfl (cX_ok hE hx) (cX_ok hE hy) hf
theorem kN_inj {k k' : IntKind} (h : kN k = kN k') : k = k' := by cases k <;> cases k' <;> first | rfl | cases h
theorem beqT {a b : Nat} (h : Nat.beq a b = true) : a = b := Nat.eq_of_beq_eq_true h
theorem eqB_eq (a b : Bool) : eqB a b = (a == b) := by cases a <;> cases b <;> rfl
theorem eqS_eq : ∀ (l m : List Nat), eqS l m = (l == m)
  | [], [] => rfl
  | [], _ :: _ => rfl
  | _ :: _, [] => rfl
  | a :: l, b :: m => by
    simp only [eqS, List.cons_beq_cons]
    rw [eqS_eq l m]
    by_cases h : a = b
    · subst h; simp
    · have : Nat.beq a b = false := by rw [Bool.eq_false_iff]; exact fun hh => h (beqT hh)
      rw [this, beq_eq_false_iff_ne.2 h]; rfl
theorem eqS_bytes (s t : ByteArray) : eqS (s.data.toList.map UInt8.toNat) (t.data.toList.map UInt8.toNat) = (s.toList == t.toList) := by
  rw [eqS_eq, ByteArray.toList_eq, ByteArray.toList_eq]
  have inj : ∀ (l m : List UInt8), (l.map UInt8.toNat == m.map UInt8.toNat) = (l == m) := fun l => by
    induction l with
    | nil => intro m; cases m <;> rfl
    | cons a l ih =>
      intro m
      cases m with
      | nil => rfl
      | cons b m =>
        simp only [List.map_cons, List.cons_beq_cons, ih m]
        congr 1
        by_cases h : a = b
        · subst h; simp
        · have : a.toNat ≠ b.toNat := fun hh => h (UInt8.toNat_inj.1 hh)
          rw [beq_eq_false_iff_ne.2 h, beq_eq_false_iff_ne.2 this]
  exact inj _ _
theorem subZ_eq (x y : Int) : subZ x y = x - y := by
  unfold subZ
  split
  · next a b =>
    cases hb : Nat.ble b a with
    | true =>
      have := Nat.le_of_ble_eq_true hb
      simp only [cond_true]
      show ((Nat.sub a b : Nat) : Int) = (a : Int) - (b : Int)
      have : Nat.sub a b = a - b := rfl
      omega
    | false => simp
  · rfl
theorem mulZ_eq (x y : Int) : mulZ x y = x * y := by
  unfold mulZ
  split
  · rfl
  · rfl
theorem numF_inv {j : Nat} {f : Int → Int → Option AV} {v v' r : AV} (h : numF j f v v' = some r) : ∃ x y, v = .int j x ∧ v' = .int j y ∧ f x y = some r := by
  unfold numF at h
  split at h
  · next a x b y =>
    cases h1 : Nat.beq a j with
    | false => simp [h1] at h
    | true =>
      cases h2 : Nat.beq b j with
      | false => simp [h1, h2] at h
      | true =>
        simp only [h1, h2, cond_true] at h
        exact ⟨x, y, by rw [beqT h1], by rw [beqT h2], h⟩
  · cases h
theorem boolF_inv {j : Nat} {f : Int → Int → Bool} {v v' r : AV} (h : boolF j f v v' = some r) : ∃ x y, v = .int j x ∧ v' = .int j y ∧ r = .bool (f x y) := by
  unfold boolF at h
  split at h
  · next a x b y =>
    cases h1 : Nat.beq a j with
    | false => simp [h1] at h
    | true =>
      cases h2 : Nat.beq b j with
      | false => simp [h1, h2] at h
      | true =>
        simp only [h1, h2, cond_true] at h
        injection h with h
        exact ⟨x, y, by rw [beqT h1], by rw [beqT h2], h.symm⟩
  · cases h
theorem VR.int_of {ρ : Pm} {k : IntKind} {x : Int} {u : Value} (h : VR ρ (.int (kN k) x) u) : u = .int k x := by
  simp only [VR] at h
  obtain ⟨K, hK, rfl⟩ := h
  rw [kN_inj hK]
theorem VR.int_to {ρ : Pm} (k : IntKind) (x : Int) : VR ρ (.int (kN k) x) (.int k x) := by
  simp only [VR]; exact ⟨k, rfl, rfl⟩
section
variable {P : Program} {o : Oper}
theorem binI_ok (k : IntKind) (op : BinOp) (t yt : TypeId) (x y : Operand) (ho : o.op = .binOp op t x y yt) : COk P o (cBinI k op x y) := by
  have ar : ∀ (op' : BinOp) (f : Int → Int → Int) (hop : op = op') (hf : ∀ a b, f a b = a + b ∧ op' = .add ∨ f a b = a - b ∧ op' = .sub ∨ f a b = a * b ∧ op' = .mul),
      COk P o (bi x y (numF (kN k) (arI k (kN k) (limP k) (limN k) f))) := fun op' f hop hf => by
    refine bi_ok fun ρ a w v v' r u u' hu hu' hv hv' h => ?_
    obtain ⟨m, n, rfl, rfl, h2⟩ := numF_inv h
    clear h
    have h := h2
    clear h2
    rw [hv.int_of] at hu; rw [hv'.int_of] at hu'
    simp only [arI, wrapF_eq] at h
    injection h with h; subst h; subst hop
    rcases hf m n with ⟨e, rfl⟩ | ⟨e, rfl⟩ | ⟨e, rfl⟩ <;> rw [e] <;>
      exact ⟨_, by simp [execOp, ho, hu, hu', binOp, eqGuard, Op.intArith], VR.int_to k _⟩
  have cm : ∀ (op' : BinOp) (f : Int → Int → Bool) (hop : op = op') (hf : ∀ (w : World) a b, (binOp op' t (.int k a) (.int k b)).run P w = .ok (.bool (f a b)) w),
      COk P o (bi x y (boolF (kN k) f)) := fun op' f hop hf => by
    refine bi_ok fun ρ a w v v' r u u' hu hu' hv hv' h => ?_
    obtain ⟨m, n, rfl, rfl, rfl⟩ := boolF_inv h
    rw [hv.int_of] at hu; rw [hv'.int_of] at hu'
    subst hop
    refine ⟨.bool (f m n), ?_, by simp only [VR]⟩
    have hg : eqGuard op t x y (.int k m) (.int k n) = pure () := by cases op <;> rfl
    simp only [execOp, ho, hu, hu', hg, Sem.run_bind, Sem.run_pure, Result.andThen_ok, hf]
  unfold cBinI
  simp only []
  split
  · exact ar _ _ rfl fun a b => .inl ⟨addZ_eq a b, rfl⟩
  · exact ar _ _ rfl fun a b => .inr (.inl ⟨subZ_eq a b, rfl⟩)
  · exact ar _ _ rfl fun a b => .inr (.inr ⟨mulZ_eq a b, rfl⟩)
  · exact cm _ _ rfl fun w a b => by simp only [binOp, Op.intCmp, ltI, leI_eq, ne_eq, not_true_eq_false, if_false, Sem.run_pure]; rw [show decide (a < b) = !decide (b ≤ a) by by_cases h : b ≤ a <;> simp [h] <;> omega]
  · exact cm _ _ rfl fun w a b => by simp [binOp, Op.intCmp, leI_eq]
  · exact cm _ _ rfl fun w a b => by simp only [binOp, Op.intCmp, gtI, leI_eq, ne_eq, not_true_eq_false, if_false, Sem.run_pure]; rw [show decide (a > b) = !decide (a ≤ b) by by_cases h : a ≤ b <;> simp [h] <;> omega]
  · exact cm _ _ rfl fun w a b => by simp [binOp, Op.intCmp, geI, leI_eq]
  · exact cm _ _ rfl fun w a b => by simp [binOp, Op.intCmp, eqI_eq]
  · exact cm _ _ rfl fun w a b => by simp [binOp, Op.intCmp, neI, eqI_eq, bne]
  · refine bi_ok fun ρ a w v v' r u u' hu hu' hv hv' h => ?_
    obtain ⟨m, n, rfl, rfl, h2⟩ := numF_inv h
    clear h
    have h := h2
    clear h2
    rw [VR.int_of (k := .u64) hv] at hu; rw [VR.int_of (k := .u64) hv'] at hu'
    unfold andI at h
    split at h
    · next m n =>
      cases hb : Nat.blt m 18446744073709551616 && Nat.blt n 18446744073709551616 with
      | false => simp [hb] at h
      | true =>
        simp only [hb, cond_true] at h
        injection h with h; subst h
        simp only [Bool.and_eq_true] at hb
        replace hb := And.intro (bltT hb.1) (bltT hb.2)
        refine ⟨.int .u64 (Nat.land m n : Nat), ?_, VR.int_to .u64 _⟩
        have e1 : ∀ z : Nat, (BitVec.ofInt 64 (Int.ofNat z)).toNat = z % 18446744073709551616 := fun z => by simp
        have hlt : m &&& n < 18446744073709551616 := Nat.lt_of_le_of_lt Nat.and_le_left hb.1
        have hw : ∀ z : Nat, z < 18446744073709551616 → IntKind.u64.wrap (z : Int) = z := fun z hz => by rw [IntKind.wrap_u64]; omega
        have hland : (m.land n) = m &&& n := rfl
        simp only [execOp, ho, hu, hu', eqGuard_at_int, Sem.run_bind, Sem.run_pure, Result.andThen_ok, binOp_and, Op.intBits]
        have hb2 : (BitVec.ofInt 64 (Int.ofNat m) &&& BitVec.ofInt 64 (Int.ofNat n)).toNat = m &&& n := by
          rw [BitVec.toNat_and, e1, e1, Nat.mod_eq_of_lt hb.1, Nat.mod_eq_of_lt hb.2]
        show Result.ok (Next.value (Value.int .u64 (IntKind.u64.wrap ((BitVec.ofInt 64 (Int.ofNat m) &&& BitVec.ofInt 64 (Int.ofNat n)).toNat : Nat)))) w = _
        rw [hb2, hw _ hlt, hland]
    · cases h
  · refine bi_ok fun ρ a w v v' r u u' hu hu' hv hv' h => ?_
    unfold shrF at h
    split at h
    · next m j n =>
      cases hb : Nat.blt n 64 with
      | false => simp [hb] at h
      | true =>
        simp only [hb, cond_true] at h
        injection h with h; subst h
        have hn : n < 64 := bltT hb
        rw [VR.int_of (k := .u64) hv] at hu
        simp only [VR] at hv'
        obtain ⟨K, hK, rfl⟩ := hv'
        refine ⟨.int .u64 (Nat.div m (Nat.pow 2 n) : Nat), ?_, VR.int_to .u64 _⟩
        have hpos : ¬ ((Int.ofNat n) < 0) := by simp
        have hmin : min (Int.ofNat n).toNat 64 = n := by simp; omega
        have hdiv : Int.fdiv (Int.ofNat m) (2 ^ n) = ((m / 2 ^ n : Nat) : Int) := by
          have h0 : (0 : Int) ≤ 2 ^ n := by exact_mod_cast Nat.zero_le (2 ^ n)
          rw [Int.fdiv_eq_ediv_of_nonneg _ h0]
          simp
        simp only [execOp, ho, hu, hu', eqGuard_at_int, Sem.run_bind, Sem.run_pure, Result.andThen_ok, binOp, Op.shift, IntKind.bits]
        rw [if_neg hpos, hmin, hdiv]
        rfl
    · cases h
  · trivial
end
end Go.Proofs.YtibakihcicfeoaaGreat.Ev
/- The evaluator's pure operations against the model's: texts, comparisons, structs, slices, places. No condition. -/
namespace Go.Proofs.YtibakihcicfeoaaGreat.Ev
section
variable {P : Program} {o : Oper} {G : Cx}

theorem cat_ok (t yt : TypeId) (x y : Operand) (ho : o.op = .binOp .add t x y yt) : COk P o (bi x y catF) := by
  refine bi_ok fun ρ a w v v' r u u' hu hu' hv hv' h => ?_
  unfold catF at h
  split at h
  · next s1 s2 =>
    cases hb : Nat.blt (s1.length + s2.length) bigN with
    | false => simp [hb] at h
    | true =>
      simp only [hb, cond_true] at h
      injection h with h; subst h
      have hlt := bltT hb
      simp only [VR] at hv hv'
      obtain ⟨b1, rfl, e1⟩ := hv
      obtain ⟨b2, rfl, e2⟩ := hv'
      have l1 : b1.size = s1.length := by rw [← e1]; simp
      have l2 : b2.size = s2.length := by rw [← e2]; simp
      have hmax : ¬ (((b1.size + b2.size : Nat) : Int) > IntKind.i64.max) := by
        rw [show IntKind.i64.max = 9223372036854775807 from rfl, l1, l2]
        unfold bigN at hlt
        omega
      refine ⟨.string (b1 ++ b2), ?_, ?_⟩
      · simp only [execOp, ho, hu, hu', eqGuard_add, Sem.run_bind, Sem.run_pure, Result.andThen_ok, binOp_string_add, Op.stringOp]
        rw [if_neg hmax]
        rfl
      · simp only [VR]
        exact ⟨b1 ++ b2, rfl, by rw [← e1, ← e2]; simp⟩
  · cases h
/-- What a comparison of two values of a type answers. -/
theorem equal_run {t : TypeId} {d : TypeDesc} {u u' : Value} {b : Bool} {w : World} (hu : P.underlying t = some d)
    (h : ∀ n, (Op.equalIn (n + 1) t u u').run P w = .ok b w) : (Op.equal t u u').run P w = .ok b w := h 9999
theorem eqF_run {k : TK} {t : TypeId} (hk : KOk P t k) {x y : Operand} {ρ : Pm} {v v' : AV} {u u' : Value} {b : Bool} {op : BinOp} (hop : op = .eql ∨ op = .neq) (hv : VR ρ v u) (hv' : VR ρ v' u')
    (h : eqF (isCst x || isCst y) k v v' = some b) (w : World) (hif : k = .iface → op = .eql) :
    (eqGuard op t x y u u').run P w = .ok () w ∧ (binOp op t u u').run P w = .ok (.bool (if op = .eql then b else !b)) w := by
  unfold eqF at h
  split at h
  · next s1 s2 =>
    injection h with h; subst h
    simp only [VR] at hv hv'
    obtain ⟨b1, rfl, e1⟩ := hv
    obtain ⟨b2, rfl, e2⟩ := hv'
    refine ⟨by rw [eqGuard_at_string]; rfl, ?_⟩
    rw [← e1, ← e2, eqS_bytes]
    rcases hop with rfl | rfl
    · rw [binOp_string_eql]; rfl
    · rw [binOp_string_neq]; rfl
  · split at h
    · injection h with h; subst h
      simp only [VR] at hv hv'
      obtain ⟨p, _, rfl⟩ := hv
      subst hv'
      simp only [KOk] at hk
      obtain ⟨el, hu⟩ := hk
      have hc : ∀ ad, (Op.equal t (.pointer (some ad)) (.pointer none)).run P w = .ok false w := fun ad => equal_run hu fun n => by simp [Op.equalIn, run_underlying hu]
      refine ⟨by rw [eqGuard_at_pointer]; rfl, ?_⟩
      rcases hop with rfl | rfl <;> simp [binOp, hc]
    · cases h
  · split at h
    · injection h with h; subst h
      simp only [VR] at hv hv'
      subst hv; subst hv'
      simp only [KOk] at hk
      obtain ⟨el, hu⟩ := hk
      have hc : (Op.equal t (.pointer none) (.pointer none)).run P w = .ok true w := equal_run hu fun n => by simp [Op.equalIn, run_underlying hu]
      refine ⟨by rw [eqGuard_at_pointer]; rfl, ?_⟩
      rcases hop with rfl | rfl <;> simp [binOp, hc]
    · cases h
  · split at h
    · next el =>
      injection h with h; subst h
      simp only [VR] at hv hv'
      obtain ⟨p, ad, c, _, rfl, _⟩ := hv
      subst hv'
      have hu : P.underlying t = some (.slice el) := hk
      have hc : ∀ n, (Op.equal t (.slice (some ad) n c) (.slice none 0 0)).run P w = .ok false w := fun n => equal_run hu fun n => by simp [Op.equalIn, run_underlying hu]
      refine ⟨by rw [eqGuard_at_slice]; rfl, ?_⟩
      rcases hop with rfl | rfl <;> simp [binOp, hc]
    · cases h
  · split at h
    · next el =>
      injection h with h; subst h
      simp only [VR] at hv hv'
      subst hv; subst hv'
      have hu : P.underlying t = some (.slice el) := hk
      have hc : (Op.equal t (.slice none 0 0) (.slice none 0 0)).run P w = .ok true w := equal_run hu fun n => by simp [Op.equalIn, run_underlying hu]
      refine ⟨by rw [eqGuard_at_slice]; rfl, ?_⟩
      rcases hop with rfl | rfl <;> simp [binOp, hc]
    · cases h
  · split at h
    · injection h with h; subst h
      simp only [VR] at hv hv'
      obtain ⟨ds, rfl, _⟩ := hv
      subst hv'
      simp only [KOk] at hk
      obtain ⟨e1, e2, e3, hu⟩ := hk
      have hc : ∀ g, (Op.equal t (.func (.func g) #[] ⟨ds⟩) .nilFunc).run P w = .ok false w := fun g => equal_run hu fun n => by simp [Op.equalIn, run_underlying hu]
      refine ⟨by rw [eqGuard_at_func]; rfl, ?_⟩
      rcases hop with rfl | rfl <;> simp [binOp, hc]
    · cases h
  · split at h
    · injection h with h; subst h
      simp only [VR] at hv hv'
      subst hv; subst hv'
      simp only [KOk] at hk
      obtain ⟨e1, e2, e3, hu⟩ := hk
      have hc : (Op.equal t .nilFunc .nilFunc).run P w = .ok true w := equal_run hu fun n => by simp [Op.equalIn, run_underlying hu]
      refine ⟨by rw [eqGuard_at_nilFunc]; rfl, ?_⟩
      rcases hop with rfl | rfl <;> simp [binOp, hc]
    · cases h
  · split at h
    · next b1 b2 _ =>
      injection h with h; subst h
      simp only [VR] at hv hv'
      subst hv; subst hv'
      have hu : P.underlying t = some .bool := hk
      refine ⟨by rw [eqGuard_at_bool]; rfl, ?_⟩
      rw [eqB_eq]
      rcases hop with rfl | rfl
      · rw [run_eql_bool w t b1 b2 hu]; rfl
      · rw [run_neq_bool w t b1 b2 hu]; rfl
    · cases h
  · split at h
    · cases hcs : isCst x || isCst y with
      | false => simp [hcs] at h
      | true =>
        simp only [hcs, cond_true] at h
        injection h with h; subst h
        have := hif rfl
        subst this
        simp only [VR] at hv hv'
        subst hv; subst hv'
        simp only [KOk] at hk
        obtain ⟨ms, hu⟩ := hk
        have hc : (Op.equal t .nilIface .nilIface).run P w = .ok true w := equal_run hu fun n => by simp [Op.equalIn, run_underlying hu]
        refine ⟨?_, by simp [binOp, hc]⟩
        cases x with
        | const c => rw [eqGuard_nil_constL]; rfl
        | _ =>
          cases y with
          | const c => rw [eqGuard_nil_constR]; rfl
          | _ => simp [isCst] at hcs
    · cases h
  · cases h
theorem cBin_ok (hT : TysOk P G.tys) (op : BinOp) (t yt : TypeId) (x y : Operand) (ho : o.op = .binOp op t x y yt) : COk P o (cBin G op t x y) := by
  unfold cBin
  split
  · trivial
  · next ti hti =>
    obtain ⟨inf, z, hty⟩ := hT t ti hti
    have hk := hty.k
    split
    · exact binI_ok _ _ _ _ _ _ ho
    · next k hni =>
      have eql : op = .eql → COk P o (bi x y (eqlF (isCst x || isCst y) ti.k)) := fun hop => by
        subst hop
        refine bi_ok fun ρ a w v v' r u u' hu hu' hv hv' h => ?_
        unfold eqlF at h
        split at h
        · next b hb =>
          injection h with h; subst h
          obtain ⟨h1, h2⟩ := eqF_run hk (.inl rfl) hv hv' hb w (fun _ => rfl)
          refine ⟨.bool b, ?_, by simp only [VR]⟩
          simp only [execOp, ho, hu, hu', Sem.run_bind, h1, h2, Result.andThen_ok, Sem.run_pure, if_true]
        · cases h
      have neq : op = .neq → ti.k ≠ .iface → COk P o (bi x y (neqF (isCst x || isCst y) ti.k)) := fun hop hni => by
        subst hop
        refine bi_ok fun ρ a w v v' r u u' hu hu' hv hv' h => ?_
        unfold neqF at h
        split at h
        · next b hb =>
          injection h with h; subst h
          obtain ⟨h1, h2⟩ := eqF_run hk (.inr rfl) hv hv' hb w (fun hh => absurd hh hni)
          refine ⟨.bool (!b), ?_, by simp only [VR]⟩
          simp only [execOp, ho, hu, hu', Sem.run_bind, h1, h2, Result.andThen_ok, Sem.run_pure]
          rfl
        · cases h
      split
      · exact cat_ok t yt x y ho
      · exact eql rfl
      · split
        · trivial
        · next hne => exact neq rfl (fun hh => hne hh)
      · trivial
end
end Go.Proofs.YtibakihcicfeoaaGreat.Ev
/- The evaluator's other pure operations against the model's: structs, slices, places, lengths. No condition. -/
namespace Go.Proofs.YtibakihcicfeoaaGreat.Ev
section
variable {P : Program} {o : Oper} {G : Cx}

theorem all_one {l : List AV} (h : l.all one = true) {j : Nat} {c : AV} (hj : l[j]? = some c) : one c = true :=
  List.all_eq_true.1 h c (List.mem_of_getElem? hj)
/-- The cells of a value. -/
theorem asCells_ok {ρ : Pm} {n : Nat} {v : AV} {u : Value} {cs : List AV} (h : asCells n v = some cs) (hv : VR ρ v u) : VRs ρ cs u.cells.toList ∧ u.cells.size = n ∧ cs.length = n ∧ cs.all one = true := by
  unfold asCells at h
  split at h
  · next l =>
    cases hb : Nat.beq l.length n && l.all one with
    | false => simp [hb] at h
    | true =>
      simp only [hb, cond_true] at h
      injection h with h; subst h
      simp only [Bool.and_eq_true] at hb
      simp only [VR] at hv
      obtain ⟨ds, rfl, hv⟩ := hv
      have hl := hv.len
      have hn := beqT hb.1
      exact ⟨hv, by show ds.length = n; omega, hn, hb.2⟩
  · cases h
  · next hna hnt =>
    cases hb : Nat.beq n 1 with
    | false => simp [hb] at h
    | true =>
      simp only [hb, cond_true] at h
      injection h with h; subst h
      have h1 := beqT hb
      subst h1
      have ho : one v = true := by cases v <;> first | rfl | (exact absurd rfl (hna _)) | (exact absurd rfl (hnt _))
      have hc : u.cells = #[u] := by
        have := hv.one ho
        cases u <;> first | rfl | (simp [Value.oneCell'] at this)
      rw [hc]
      exact ⟨VRs.cons hv VRs.nil, rfl, rfl, by simp [ho]⟩
/-- A part written into a struct's cells. -/
theorem fold_get (off : Nat) : ∀ (vs : List Value) (k : Nat) (cs : Array Value), off + k + vs.length ≤ cs.size →
    (((vs.zipIdx k).foldl (fun cs (c, j) => cs.setIfInBounds (off + j) c) cs).size = cs.size ∧
    ∀ j, ((vs.zipIdx k).foldl (fun cs (c, j) => cs.setIfInBounds (off + j) c) cs)[j]? = if off + k ≤ j ∧ j < off + k + vs.length then vs[j - (off + k)]? else cs[j]?)
  | [], k, cs, _ => by
    refine ⟨rfl, fun j => ?_⟩
    rw [if_neg (by simp)]; rfl
  | v :: vs, k, cs, h => by
    simp only [List.length_cons] at h
    simp only [List.zipIdx_cons, List.foldl_cons]
    obtain ⟨h1, h2⟩ := fold_get off vs (k + 1) (cs.setIfInBounds (off + k) v) (by rw [Array.size_setIfInBounds]; omega)
    refine ⟨by rw [h1]; simp, fun j => ?_⟩
    rw [h2 j]
    by_cases hj : j = off + k
    · subst hj
      have hlt : off + k < cs.size := by omega
      rw [if_neg (by omega), if_pos (by simp only [List.length_cons]; omega), Nat.sub_self]
      simp [hlt]
    · by_cases hc : off + (k + 1) ≤ j ∧ j < off + (k + 1) + vs.length
      · rw [if_pos hc, if_pos (by simp only [List.length_cons]; omega), show j - (off + k) = (j - (off + (k + 1))) + 1 by omega]
        simp
      · rw [if_neg hc, if_neg (by simp only [List.length_cons]; omega)]
        simp [Ne.symm hj]
theorem fill_ok {ρ : Pm} {e : Tr AV} {a : Act} (hE : EnvR ρ e a) (pl : Nat → Option (Nat × Nat)) : ∀ (parts : List (Nat × Operand)) (l : List (Nat × Nat × FX)) (cs r : List AV) (arr : Array Value),
    cParts pl parts = some l → fillD e l cs = some r → VRs ρ cs arr.toList → cs.all one = true →
    ∃ arr', Instr.fill pl arr (parts.map fun (i, x) => (i, a.eval x)) = some arr' ∧ VRs ρ r arr'.toList ∧ r.all one = true ∧ r.length = cs.length
  | [], l, cs, r, arr, hl, hf, hv, ho => by
    simp only [cParts] at hl
    injection hl with hl; subst hl
    simp only [fillD] at hf
    injection hf with hf; subst hf
    exact ⟨arr, rfl, hv, ho, rfl⟩
  | (i, x) :: parts, l, cs, r, arr, hl, hf, hv, ho => by
    simp only [cParts] at hl
    cases hp : pl i with
    | none => simp [hp] at hl
    | some on =>
      obtain ⟨off, n⟩ := on
      simp only [hp] at hl
      cases hr : cParts pl parts with
      | none => simp [hr] at hl
      | some l' =>
        simp only [hr] at hl
        injection hl with hl; subst hl
        simp only [fillD] at hf
        cases hx : (cX x).get e with
        | none => simp [hx] at hf
        | some v =>
          simp only [hx] at hf
          cases hc : asCells n v with
          | none => simp [hc] at hf
          | some vs =>
            simp only [hc] at hf
            cases hw : wrL cs off vs with
            | none => simp [hw] at hf
            | some cs' =>
              simp only [hw] at hf
              obtain ⟨a1, a2, a3, a4⟩ := asCells_ok hc (cX_ok hE hx)
              obtain ⟨w1, w2, w3⟩ := wrL_some hw
              have hsz : arr.size = cs.length := by have := hv.len; simpa using this
              have hvl : (a.eval x).cells.toList.length = vs.length := a1.len
              have hvs : (a.eval x).cells.size = vs.length := by simpa using hvl
              obtain ⟨f1, f2⟩ := fold_get off (a.eval x).cells.toList 0 arr (by simp; omega)
              have key : VRs ρ cs' (((a.eval x).cells.toList.zipIdx 0).foldl (fun cs (c, j) => cs.setIfInBounds (off + j) c) arr).toList := by
                refine VRs.of (by rw [Array.length_toList, f1, w2, hsz]) fun j c d hcj hdj => ?_
                have hd' : (((a.eval x).cells.toList.zipIdx 0).foldl (fun cs (c, j) => cs.setIfInBounds (off + j) c) arr)[j]? = some d := by simpa using hdj
                rw [f2 j] at hd'
                rw [w3 j] at hcj
                simp only [Nat.add_zero] at hd'
                by_cases hcond : off ≤ j ∧ j < off + vs.length
                · rw [if_pos hcond] at hcj
                  rw [if_pos (by rw [hvl]; exact hcond)] at hd'
                  obtain ⟨d', e1, e2⟩ := a1.get hcj
                  rw [e1] at hd'; injection hd' with hd'; subst hd'
                  exact e2
                · rw [if_neg hcond] at hcj
                  rw [if_neg (by rw [hvl]; exact hcond)] at hd'
                  obtain ⟨d', e1, e2⟩ := hv.get hcj
                  rw [show arr.toList[j]? = arr[j]? by simp] at e1
                  rw [e1] at hd'; injection hd' with hd'; subst hd'
                  exact e2
              have ho' : cs'.all one = true := by
                rw [List.all_eq_true]
                intro y hy
                obtain ⟨j, hj⟩ := List.getElem?_of_mem hy
                rw [w3 j] at hj
                split at hj
                · exact all_one a4 hj
                · exact all_one ho hj
              obtain ⟨arr', g1, g2, g3, g4⟩ := fill_ok hE pl parts l' cs' r _ hr hf key ho'
              refine ⟨arr', ?_, g2, g3, by rw [g4, w2]⟩
              simp only [List.map_cons, Instr.fill, hp]
              rw [if_neg]
              · rw [← Array.foldl_toList, Array.toList_zipIdx]
                exact g1
              · simp only [Bool.or_eq_true, bne_iff_ne, ne_eq, decide_eq_true_eq, Bool.not_eq_true', not_or, a2]
                exact ⟨by simp, by omega⟩
theorem fill_more {pl pl' : Nat → Option (Nat × Nat)} (hp : ∀ i v, pl i = some v → pl' i = some v) : ∀ (ps : List (Nat × Value)) (arr cells : Array Value),
    Instr.fill pl arr ps = some cells → Instr.fill pl' arr ps = some cells
  | [], arr, cells, h => h
  | (i, v) :: ps, arr, cells, h => by
    simp only [Instr.fill] at h ⊢
    cases hi : pl i with
    | none => simp [hi] at h
    | some on =>
      obtain ⟨off, n⟩ := on
      simp only [hi] at h
      simp only [hp i _ hi]
      split at h
      · cases h
      · next hc => rw [if_neg hc]; exact fill_more hp ps _ _ h
theorem mapM_get {α β : Type} {f : α → Option β} : ∀ {l : List α} {r : List β}, l.mapM f = some r → ∀ i : Nat, r[i]? = (l[i]?).bind f
  | [], r, h, i => by simp at h; subst h; simp
  | x :: l, r, h, i => by
    simp only [List.mapM_cons, Option.bind_eq_bind, Option.pure_def] at h
    cases hx : f x with
    | none => simp [hx] at h
    | some y =>
      cases hr : l.mapM f with
      | none => simp [hx, hr] at h
      | some r' =>
        simp [hx, hr] at h
        subst h
        cases i with
        | zero => simp [hx]
        | succ i => simpa using mapM_get hr i
theorem build_ok (hT : TysOk P G.tys) (t : TypeId) (parts : Array (Nat × Operand)) (ho : o.op = .build t parts) : COk P o (cBuild G t parts.toList) := by
  unfold cBuild
  split
  · trivial
  · next ti hti =>
    obtain ⟨inf, z, hty⟩ := hT t ti hti
    have hk := hty.k
    have fin : ∀ (pl : Nat → Option (Nat × Nat)) (l : List (Nat × Nat × FX)), cParts pl parts.toList = some l →
        (∀ cells ps, Instr.fill pl z.cells ps = some cells → P.built t ps = some cells) → PureOk P o fun e => aggO (fillD e l ti.zero) := by
      intro pl l hl hb ρ e a w v hE hf
      cases hfd : fillD e l ti.zero with
      | none => simp [hfd, aggO] at hf
      | some r =>
        simp only [hfd, aggO] at hf
        injection hf with hf; subst hf
        obtain ⟨arr', g1, g2, g3, g4⟩ := fill_ok hE pl parts.toList l ti.zero r z.cells hl hfd (hty.zs ρ) hty.ones
        refine ⟨.agg arr', ?_, ?_⟩
        · have hbt : P.built t (parts.map fun (i, x) => (i, a.eval x)).toList = some arr' := by
            rw [Array.toList_map]; exact hb _ _ g1
          simp only [execOp, ho, Sem.run_bind, run_build w t _ arr' hbt, Result.andThen_ok, Sem.run_pure]
        · simp only [VR]; exact ⟨arr'.toList, rfl, g2⟩
    split
    · next fs hkk =>
      split
      · next l hl =>
        refine fin _ l hl fun cells ps h => ?_
        rw [hkk] at hk
        obtain ⟨Fs, hu, hFs, pls, hpls⟩ := hk
        unfold Program.built
        simp only [hty.info, hu, hty.zero, hpls]
        refine fill_more (fun i v hv => ?_) _ _ _ h
        unfold placeS at hv
        rw [nthL_eq] at hv
        split at hv
        · cases hv
        · next ft off hft =>
          split at hv
          · cases hv
          · next tf htf =>
            injection hv with hv; subst hv
            obtain ⟨inf2, z2, hty2⟩ := hT ft tf htf
            have := mapM_get hpls i
            rw [← hFs, List.getElem?_map] at hft
            cases hfi : Fs.toList[i]? with
            | none => rw [hfi] at hft; cases hft
            | some fld =>
              rw [hfi] at hft this
              simp only [Option.map_some, Option.some.injEq, Prod.mk.injEq] at hft
              obtain ⟨e1, e2⟩ := hft
              simp only [Option.bind_some, e1, e2, hty2.info, Option.map_some, hty2.size] at this
              simpa using this
      · trivial
    · next n el hkk =>
      split
      · trivial
      · next te hte =>
        obtain ⟨inf2, z2, hty2⟩ := hT el te hte
        split
        · next l hl =>
          refine fin _ l hl fun cells ps h => ?_
          have hu : P.underlying t = some (.array n el) := by rw [hkk] at hk; exact hk
          unfold Program.built
          simp only [hty.info, hu, hty.zero, hty2.info, hty2.size]
          exact h
        · trivial
    · trivial
end
end Go.Proofs.YtibakihcicfeoaaGreat.Ev
/- The evaluator's remaining pure operations against the model's. No condition. -/
namespace Go.Proofs.YtibakihcicfeoaaGreat.Ev
section
variable {P : Program} {o : Oper} {G : Cx}

theorem addr_add (b off i : Nat) : (⟨b, off, none⟩ : Addr).add i = ⟨b, off + i, none⟩ := by
  unfold Addr.add
  by_cases hi : i = 0 <;> simp [hi]
theorem move_ok (x : Operand) (ho : o.op = .move x) : COk P o (un x some) :=
  un_ok fun ρ a w v r u hu hv h => by
    injection h with h; subst h
    exact ⟨u, by simp only [execOp, ho, hu]; rfl, hv⟩
theorem assign_ok (x : Operand) (ho : o.op = .assign x) : COk P o (un x some) :=
  un_ok fun ρ a w v r u hu hv h => by
    injection h with h; subst h
    exact ⟨u, by simp only [execOp, ho, hu]; rfl, hv⟩
theorem nilF_ok (x : Operand) (ho : o.op = .nilCheck x) : COk P o (un x nilF) :=
  un_ok fun ρ a w v r u hu hv h => by
    unfold nilF at h
    split at h
    · injection h with h; subst h
      refine ⟨u, ?_, hv⟩
      simp only [VR] at hv
      obtain ⟨p, _, rfl⟩ := hv
      simp only [execOp, ho, hu]
      rfl
    · cases h
theorem notF_ok (x : Operand) (t : TypeId) (ho : o.op = .unOp .not t x) : COk P o (un x notF) :=
  un_ok fun ρ a w v r u hu hv h => by
    unfold notF at h
    split at h
    · next b =>
      injection h with h; subst h
      simp only [VR] at hv
      subst hv
      exact ⟨.bool (!b), by simp only [execOp, ho, hu, Op.unary]; rfl, by simp only [VR]⟩
    · cases h
theorem pick_ok (c x y : Operand) (ho : o.op = .pick c x y) : COk P o (cOp G (.pick c x y)) := by
  have e : cOp G (.pick c x y) = .pure fun e => (match (cX c).get e with
      | some (.bool t) => bif t then (cX x).get e else (cX y).get e
      | _ => none) := by
    simp only [cOp]
    generalize cX c = c', cX x = x', cX y = y'
    cases c'; cases x'; cases y'; rfl
  rw [e]
  intro ρ e a w v hE h
  cases hc : (cX c).get e with
  | none => simp [hc] at h
  | some b =>
    cases b with
    | bool t =>
      simp only [hc] at h
      have hb := cX_ok hE hc
      simp only [VR] at hb
      cases t with
      | true => exact ⟨a.eval x, by simp only [execOp, ho, hb]; rfl, cX_ok hE h⟩
      | false => exact ⟨a.eval y, by simp only [execOp, ho, hb]; rfl, cX_ok hE h⟩
    | _ => simp [hc] at h
theorem getsF_ok {ρ : Pm} {e : Tr AV} {a : Act} (hE : EnvR ρ e a) : ∀ (xs : List Operand) (l : List AV), getsF e (cX1 xs) = some l → VRs ρ l (xs.map a.eval)
  | [], l, h => by simp [cX1, getsF] at h; subst h; exact VRs.nil
  | x :: xs, l, h => by
    simp only [cX1, getsF] at h
    cases hx : (cX x).get e with
    | none => simp [hx] at h
    | some v =>
      simp only [hx] at h
      cases hr : getsF e (cX1 xs) with
      | none => simp [hr] at h
      | some r =>
        simp only [hr] at h
        injection h with h; subst h
        exact VRs.cons (cX_ok hE hx) (getsF_ok hE xs r hr)
theorem makeFunc_ok (f : FuncId) (cap : List Operand) (ho : o.op = .makeFunc (.func f) ⟨[]⟩ ⟨cap⟩) : COk P o (cOp G (.makeFunc (.func f) ⟨[]⟩ ⟨cap⟩)) := by
  intro ρ e a w v hE h
  cases hr : getsF e (cX1 cap) with
  | none => simp [hr] at h
  | some r =>
    simp only [hr] at h
    injection h with h; subst h
    refine ⟨.func (.func f) #[] ⟨cap.map a.eval⟩, ?_, ?_⟩
    · simp only [execOp, ho, Instr.makeFunc]
      simp
    · simp only [VR]; exact ⟨_, rfl, getsF_ok hE cap r hr⟩
theorem encode_small (m : Nat) (h : m < 128) : (Utf8.encode (Int.ofNat m)).data.toList.map UInt8.toNat = [m] := by
  unfold Utf8.encode
  have hv : Utf8.valid (Int.ofNat m) = true := by simp [Utf8.valid]; omega
  simp only [hv, if_true]
  rw [if_pos (by show (Int.ofNat m).toNat < 128; exact h)]
  simp
  omega
theorem conv_ok (hT : TysOk P G.tys) (s d : TypeId) (x : Operand) (ho : o.op = .convert s d x) (ts td : TI) (hs : G.tys.get s = some ts) (hd : G.tys.get d = some td) (K : IntKind) (hk : ts.k = .int K) :
    (∀ k, td.k = .int k → COk P o (un x (toIntF k (kN k) (limP k) (limN k)))) ∧ (td.k = .str → COk P o (un x toStrF)) := by
  obtain ⟨inf, z, hty⟩ := hT s ts hs
  obtain ⟨inf2, z2, hty2⟩ := hT d td hd
  have h1 : P.underlying s = some (.int K) := by have := hty.k; rw [hk] at this; exact this
  refine ⟨fun k hkd => ?_, fun hkd => ?_⟩
  · have h2 : P.underlying d = some (.int k) := by have := hty2.k; rw [hkd] at this; exact this
    refine un_ok fun ρ a w v r u hu hv h => ?_
    unfold toIntF at h
    split at h
    · next j n =>
      rw [wrapF_eq] at h
      injection h with h; subst h
      simp only [VR] at hv
      obtain ⟨K', _, rfl⟩ := hv
      refine ⟨.int k (k.wrap n), ?_, VR.int_to k _⟩
      simp only [execOp, ho, hu, convert, Sem.run_bind, run_underlying h1, run_underlying h2, Result.andThen_ok, Conv.intToInt, Sem.run_pure]
    · cases h
  · have h2 : P.underlying d = some .string := by have := hty2.k; rw [hkd] at this; exact this
    refine un_ok fun ρ a w v r u hu hv h => ?_
    unfold toStrF at h
    split at h
    · next j m =>
      cases hb : Nat.blt m 128 with
      | false => simp [hb] at h
      | true =>
        simp only [hb, cond_true] at h
        injection h with h; subst h
        simp only [VR] at hv
        obtain ⟨K', _, rfl⟩ := hv
        refine ⟨.string (Utf8.encode (Int.ofNat m)), ?_, ?_⟩
        · simp only [execOp, ho, hu, convert, Sem.run_bind, run_underlying h1, run_underlying h2, Result.andThen_ok, Conv.intToString, Sem.run_pure]
        · simp only [VR]; exact ⟨_, rfl, encode_small m (bltT hb)⟩
    · cases h
/-- A part of a struct's cells. -/
theorem partV_ok {ρ : Pm} {t : TypeId} {ti : TI} {inf : TypeInfo} {z : Value} (hty : TyOk P t ti inf z) {cs : List AV} {ds : List Value} {off : Nat} {r : AV} (hv : VRs ρ cs ds)
    (h : partV ti.k.isAgg ti.size cs off = some r) (w : World) : ∃ u, (part t ⟨ds⟩ off).run P w = .ok u w ∧ VR ρ r u := by
  unfold partV at h
  cases ha : ti.k.isAgg with
  | true =>
    simp only [ha, cond_true] at h
    unfold aggO at h
    split at h
    · next r' hr =>
      injection h with h; subst h
      obtain ⟨s1, s2⟩ := subL_some hr
      refine ⟨.agg ((⟨ds⟩ : Array Value).extract off (off + ti.size)), ?_, ?_⟩
      · simp only [part, Sem.run_bind, hty.run_agg, ha, Result.andThen_ok, hty.run_size, if_true, Sem.run_pure]
      · simp only [VR]
        refine ⟨(⟨ds⟩ : Array Value).extract off (off + ti.size) |>.toList, rfl, VRs.of ?_ fun j c d hc hd => ?_⟩
        · have hl := hv.len
          rcases Nat.eq_zero_or_pos ti.size with h0 | h0
          · simp [s1, h0]
          · have := (s2 (ti.size - 1) (by omega)).2
            simp [s1]; omega
        · have hj : j < ti.size := by rw [← s1]; exact (List.getElem?_eq_some_iff.1 hc).1
          obtain ⟨e1, e2⟩ := s2 j hj
          rw [e1] at hc
          obtain ⟨d', f1, f2⟩ := hv.get hc
          have hl := hv.len
          have : ((⟨ds⟩ : Array Value).extract off (off + ti.size)).toList[j]? = ds[off + j]? := by
            simp [List.getElem?_take, List.getElem?_drop, hj]
          rw [this, f1] at hd; injection hd with hd; subst hd
          exact f2
    · cases h
  | false =>
    simp only [ha, cond_false, nthL_eq] at h
    obtain ⟨d, e1, e2⟩ := hv.get h
    refine ⟨d, ?_, e2⟩
    have : (⟨ds⟩ : Array Value)[off]? = some d := by simpa using e1
    simp only [part, Sem.run_bind, hty.run_agg, ha, Result.andThen_ok, Bool.false_eq_true, if_false, this, Sem.run_pure]
theorem fieldAddr_ok (hT : TysOk P G.tys) (t : TypeId) (x : Operand) (f : Nat) (ho : o.op = .fieldAddr t x f) : COk P o (cOp G (.fieldAddr t x f)) := by
  simp only [cOp]
  split
  · next ti hti =>
    obtain ⟨inf, z, hty⟩ := hT t ti hti
    have hk := hty.k
    split
    · next fs hkk =>
      rw [hkk] at hk
      obtain ⟨Fs, hu, hFs, _⟩ := hk
      split
      · next ft off hft =>
        split
        · next tf htf =>
          obtain ⟨inf2, z2, hty2⟩ := hT ft tf htf
          cases hz : Nat.beq tf.size 0 with
          | true => trivial
          | false =>
            have hz' : tf.size ≠ 0 := fun h => by rw [h] at hz; cases hz
            simp only [cond_false]
            refine un_ok fun ρ a w v r u hux hv h => ?_
            unfold addrF at h
            split at h
            · next i of =>
              injection h with h; subst h
              simp only [VR] at hv
              obtain ⟨p, hp, rfl⟩ := hv
              rw [nthL_eq, ← hFs, List.getElem?_map] at hft
              cases hfi : Fs.toList[f]? with
              | none => rw [hfi] at hft; cases hft
              | some fld =>
                rw [hfi] at hft
                simp only [Option.map_some, Option.some.injEq, Prod.mk.injEq] at hft
                obtain ⟨e1, e2⟩ := hft
                have hfi' : Fs[f]? = some fld := by simpa using hfi
                refine ⟨.pointer (some ⟨p.b, p.o + of + off, none⟩), ?_, ?_⟩
                · simp only [execOp, ho, hux, Instr.fieldAt, Sem.run_bind, run_underlying hu, Result.andThen_ok, hfi', Instr.sureAddr, Sem.run_pure, fieldPlace, e1, hty2.run_size]
                  rw [if_neg hz']
                  simp only [Sem.run_pure, Result.andThen_ok, e2, addr_add]
                · simp only [VR]; exact ⟨p, hp, by rw [Nat.add_assoc]⟩
            · cases h
        · trivial
      · trivial
    · trivial
  · trivial
theorem field_ok (hT : TysOk P G.tys) (t : TypeId) (x : Operand) (f : Nat) (ho : o.op = .field t x f) : COk P o (cOp G (.field t x f)) := by
  simp only [cOp]
  split
  · next ti hti =>
    obtain ⟨inf, z, hty⟩ := hT t ti hti
    have hk := hty.k
    split
    · next fs hkk =>
      rw [hkk] at hk
      obtain ⟨Fs, hu, hFs, _⟩ := hk
      split
      · next ft off hft =>
        split
        · next tf htf =>
          obtain ⟨inf2, z2, hty2⟩ := hT ft tf htf
          refine un_ok fun ρ a w v r u hux hv h => ?_
          unfold fieldF at h
          split at h
          · next cs =>
            simp only [VR] at hv
            obtain ⟨ds, rfl, hvs⟩ := hv
            rw [nthL_eq, ← hFs, List.getElem?_map] at hft
            cases hfi : Fs.toList[f]? with
            | none => rw [hfi] at hft; cases hft
            | some fld =>
              rw [hfi] at hft
              simp only [Option.map_some, Option.some.injEq, Prod.mk.injEq] at hft
              obtain ⟨e1, e2⟩ := hft
              have hfi' : Fs[f]? = some fld := by simpa using hfi
              obtain ⟨u, h1, h2⟩ := partV_ok hty2 hvs h w
              refine ⟨u, ?_, h2⟩
              simp only [execOp, ho, hux, Instr.field, Sem.run_bind, run_underlying hu, Result.andThen_ok, hfi', asAgg, Sem.run_pure, e1, e2, h1]
          · cases h
        · trivial
      · trivial
    · trivial
  · trivial
theorem extF_ok (x : Operand) (i : Nat) (ho : o.op = .extract x i) : COk P o (un x (extF i)) :=
  un_ok fun ρ a w v r u hu hv h => by
    unfold extF at h
    split at h
    · rw [nthL_eq] at h
      simp only [VR] at hv
      obtain ⟨ds, rfl, hvs⟩ := hv
      obtain ⟨d, e1, e2⟩ := hvs.get h
      have : (⟨ds⟩ : Array Value)[i]? = some d := by simpa using e1
      exact ⟨d, by simp only [execOp, ho, hu, Instr.extract, this, Sem.run_bind, Sem.run_pure, Result.andThen_ok], e2⟩
    · cases h
end
end Go.Proofs.YtibakihcicfeoaaGreat.Ev
/- The evaluator's pure operations against the model's: slices, indexes, lengths. No condition. -/
namespace Go.Proofs.YtibakihcicfeoaaGreat.Ev
section
variable {P : Program} {o : Oper} {G : Cx}

theorem bound_ok {ρ : Pm} {e : Tr AV} {a : Act} (hE : EnvR ρ e a) {x : Option Operand} {d l : Nat} (h : cBound x e d = some l) :
    (x = none ∧ l = d) ∨ ∃ y K, x = some y ∧ a.eval y = .int K (l : Int) := by
  cases x with
  | none => simp only [cBound] at h; injection h with h; exact .inl ⟨rfl, h.symm⟩
  | some y =>
    have e1 : cBound (some y) e d = (match (cX y).get e with
      | some v => natV v
      | none => none) := by
      simp only [cBound]
      generalize cX y = c
      cases c; rfl
    rw [e1] at h
    cases hy : (cX y).get e with
    | none => simp [hy] at h
    | some v =>
      simp only [hy] at h
      unfold natV at h
      split at h
      · next k n =>
        injection h with h; subst h
        have := cX_ok hE hy
        simp only [VR] at this
        obtain ⟨K, _, hK⟩ := this
        exact .inr ⟨y, K, rfl, hK⟩
      · cases h
theorem bounds_run {e : Tr AV} {a : Act} {ρ : Pm} (hE : EnvR ρ e a) {lo hi : Option Operand} {n cap l m : Nat} {b : Bool} (hl : cBound lo e 0 = some l) (hm : cBound hi e n = some m)
    (h1 : l ≤ m) (h2 : m ≤ n) (h3 : n ≤ cap) (w : World) : (Instr.sliceBounds b n cap (lo.map a.eval) (hi.map a.eval) none).run P w = .ok (l, m, cap) w := by
  have sb : ∀ (K : IntKind) (i y : Nat) (code : BoundsCode), i ≤ y → (Instr.sliceBound (.int K (i : Int)) y code).run P w = .ok i w := fun K i y code hi => by
    simp only [Instr.sliceBound, asIntOf, Sem.run_bind, Sem.run_pure, Result.andThen_ok]
    rw [if_pos ⟨Int.natCast_nonneg i, Int.ofNat_le.2 hi⟩]
    simp
  rcases bound_ok hE hl with ⟨rfl, rfl⟩ | ⟨y, K, rfl, hy⟩ <;> rcases bound_ok hE hm with ⟨rfl, rfl⟩ | ⟨y', K', rfl, hy'⟩
  · simp [Instr.sliceBounds]
  · simp [Instr.sliceBounds, hy', sb K' m cap _ (by omega)]
  · simp [Instr.sliceBounds, hy, sb K l _ _ h1]
  · simp [Instr.sliceBounds, hy, hy', sb K' m cap _ (by omega), sb K l m _ h1]
theorem slice_ok (hT : TysOk P G.tys) (t : TypeId) (x : Operand) (lo hi mx : Option Operand) (ho : o.op = .slice t x lo hi mx) : COk P o (cSlice G t x lo hi mx) := by
  unfold cSlice
  split
  · trivial
  · have key : ∀ (F : (Nat → Option Nat) → (Nat → Option Nat) → AV → Option AV),
        (∀ ρ e a w v r u, EnvR ρ e a → a.eval x = u → VR ρ v u → F (cBound lo e) (cBound hi e) v = some r → ∃ u', (execOp a.eval o).run P w = .ok (.value u') w ∧ VR ρ r u') →
        PureOk P o fun e => (match (cX x).get e with
          | some v => F (cBound lo e) (cBound hi e) v
          | none => none) := fun F H ρ e a w r hE hf => by
      cases hx : (cX x).get e with
      | none => simp only [hx] at hf; cases hf
      | some v => simp only [hx] at hf; exact H ρ e a w v r _ hE rfl (cX_ok hE hx) hf
    cases hti : G.tys.get t with
    | none => trivial
    | some ti =>
      obtain ⟨inf, z, hty⟩ := hT t ti hti
      have hk := hty.k
      have hcx : ∃ g, cX x = ⟨g⟩ := ⟨_, rfl⟩
      obtain ⟨g, hg⟩ := hcx
      rw [hg] at key
      simp only [hg]
      split
      · next hkk =>
        have hu : P.underlying t = some .string := by rw [hkk] at hk; exact hk
        refine key sliStr fun ρ e a w v r u hE hux hv h => ?_
        unfold sliStr at h
        split at h
        · next s =>
          split at h
          · next l m hl hm =>
            unfold sliS at h
            cases hb : Nat.ble l m && Nat.ble m s.length with
            | false => simp [hb] at h
            | true =>
              simp only [hb, cond_true] at h
              simp only [Bool.and_eq_true] at hb
              have h1 := Nat.le_of_ble_eq_true hb.1
              have h2 := Nat.le_of_ble_eq_true hb.2
              split at h
              · next r' hr =>
                injection h with h; subst h
                simp only [VR] at hv
                obtain ⟨b, rfl, hbs⟩ := hv
                have hsz : b.size = s.length := by rw [← hbs]; simp
                obtain ⟨s1, s2⟩ := subL_some hr
                have hbd := bounds_run (P := P) (b := false) (cap := s.length) hE hl hm h1 h2 (Nat.le_refl _) w
                refine ⟨.string (b.extract l m), ?_, ?_⟩
                · simp only [execOp, ho, hux, Instr.sliceAt, Sem.run_bind, run_underlying hu, Result.andThen_ok, Instr.slice, Option.map_none, Option.isSome_none, Bool.false_eq_true, if_false, hsz, hbd, Sem.run_pure]
                · simp only [VR]
                  refine ⟨_, rfl, ?_⟩
                  apply List.ext_getElem?
                  intro j
                  have hd : (b.extract l m).data.toList = (b.data.toList.drop l).take (m - l) := by
                    rw [ByteArray.data_extract]; simp
                  rw [List.getElem?_map, hd]
                  by_cases hj : j < m - l
                  · obtain ⟨e1, e2⟩ := s2 j hj
                    rw [e1, ← hbs, List.getElem?_map]
                    simp [List.getElem?_take, List.getElem?_drop, hj]
                  · have hnone : r'[j]? = none := List.getElem?_eq_none (by rw [s1]; omega)
                    rw [hnone]
                    simp [List.getElem?_take, hj]
              · cases h
          · cases h
        · cases h
      · next el hkk =>
        have hu : P.underlying t = some (.slice el) := by rw [hkk] at hk; exact hk
        split
        · next te hte =>
          obtain ⟨inf2, z2, hty2⟩ := hT el te hte
          refine key (sliL te.size) fun ρ e a w v r u hE hux hv h => ?_
          unfold sliL at h
          split at h
          · next s i of n =>
            split at h
            · next l m hl hm =>
              cases hb : Nat.beq s te.size && (Nat.ble l m && Nat.ble m n) with
              | false => simp [hb] at h
              | true =>
                simp only [hb, cond_true] at h
                injection h with h; subst h
                simp only [Bool.and_eq_true] at hb
                have h1 := Nat.le_of_ble_eq_true hb.2.1
                have h2 := Nat.le_of_ble_eq_true hb.2.2
                simp only [VR] at hv
                obtain ⟨p, ad, c, hp, rfl, hnc, hc⟩ := hv
                have hbd := bounds_run (P := P) (b := true) (cap := c) hE hl hm h1 h2 hnc.1 w
                refine ⟨.slice (if c = l then some ad else some (ad.add (l * te.size))) (m - l) (c - l), ?_, ?_⟩
                · simp only [execOp, ho, hux, Instr.sliceAt, Sem.run_bind, run_underlying hu, Result.andThen_ok, Instr.slice, Option.map_none, hbd, hty2.run_size, Option.map_some, Sem.run_pure]
                · simp only [VR]
                  obtain ⟨hbs, _⟩ := hb
                  have hs := beqT hbs
                  subst hs
                  by_cases hcl : c = l
                  · rw [if_pos hcl]
                    exact ⟨p, ad, c - l, hp, rfl, by omega, .inl (by omega)⟩
                  · rw [if_neg hcl]
                    rcases hc with h0 | ⟨rfl, hcap⟩
                    · omega
                    · refine ⟨p, _, c - l, hp, rfl, by omega, .inr ⟨by rw [addr_add, Nat.add_assoc], ?_⟩⟩
                      have : c * te.size = l * te.size + (c - l) * te.size := by rw [← Nat.add_mul]; congr 1; omega
                      omega
            · cases h
          · split at h
            · next hl hm =>
              injection h with h; subst h
              simp only [VR] at hv
              subst hv
              have hbd := bounds_run (P := P) (b := true) (cap := 0) hE hl hm (Nat.le_refl _) (Nat.le_refl _) (Nat.le_refl _) w
              refine ⟨.slice none 0 0, ?_, by simp only [VR]⟩
              simp only [execOp, ho, hux, Instr.sliceAt, Sem.run_bind, run_underlying hu, Result.andThen_ok, Instr.slice, Option.map_none, hbd, hty2.run_size, Sem.run_pure]
              rfl
            · cases h
          · cases h
        · trivial
      · trivial
theorem natI {k : Nat} : (0 : Int) ≤ Int.ofNat k := Int.natCast_nonneg k
theorem indexAddr_ok (hT : TysOk P G.tys) (t : TypeId) (x y : Operand) (ho : o.op = .indexAddr t x y) : COk P o (cOp G (.indexAddr t x y)) := by
  simp only [cOp]
  split
  · next ti hti =>
    obtain ⟨inf, z, hty⟩ := hT t ti hti
    have hk := hty.k
    split
    · next el hkk =>
      have hu : P.underlying t = some (.slice el) := by rw [hkk] at hk; exact hk
      split
      · next te hte =>
        obtain ⟨inf2, z2, hty2⟩ := hT el te hte
        refine bi_ok fun ρ a w v v' r u u' hux huy hv hv' h => ?_
        unfold ixSl at h
        split at h
        · next s i of n j k =>
          cases hb : Nat.blt k n with
          | false => simp [hb] at h
          | true =>
            simp only [hb, cond_true] at h
            injection h with h; subst h
            have hkn := bltT hb
            simp only [VR] at hv hv'
            obtain ⟨p, ad, c, hp, rfl, hnc, hc⟩ := hv
            obtain ⟨K, _, rfl⟩ := hv'
            rcases hc with h0 | ⟨rfl, hcap⟩
            · omega
            · refine ⟨.pointer (some ⟨p.b, p.o + of + k * te.size, none⟩), ?_, ?_⟩
              · have hin : (0 : Int) ≤ Int.ofNat k ∧ Int.ofNat k < (n : Int) := ⟨natI, Int.ofNat_lt.2 hkn⟩
                simp only [execOp, ho, hux, huy, Instr.indexAt, asIntOf, Sem.run_bind, run_underlying hu, Result.andThen_ok, Sem.run_pure, if_pos hin, hty2.run_size]
                simp [addr_add]
              · simp only [VR]; exact ⟨p, hp, by rw [Nat.add_assoc]⟩
        · cases h
      · trivial
    · next n el hkk =>
      have hu : P.underlying t = some (.array n el) := by rw [hkk] at hk; exact hk
      split
      · next te hte =>
        obtain ⟨inf2, z2, hty2⟩ := hT el te hte
        refine bi_ok fun ρ a w v v' r u u' hux huy hv hv' h => ?_
        unfold ixAr at h
        split at h
        · next i of j k =>
          cases hb : Nat.blt k n with
          | false => simp [hb] at h
          | true =>
            simp only [hb, cond_true] at h
            injection h with h; subst h
            have hkn := bltT hb
            simp only [VR] at hv hv'
            obtain ⟨p, hp, rfl⟩ := hv
            obtain ⟨K, _, rfl⟩ := hv'
            refine ⟨.pointer (some ⟨p.b, p.o + of + k * te.size, none⟩), ?_, ?_⟩
            · have hin : (0 : Int) ≤ Int.ofNat k ∧ Int.ofNat k < (n : Int) := ⟨natI, Int.ofNat_lt.2 hkn⟩
              simp only [execOp, ho, hux, huy, Instr.indexAt, asIntOf, Instr.sureAddr, Sem.run_bind, run_underlying hu, Result.andThen_ok, Sem.run_pure, if_pos hin, hty2.run_size]
              simp [addr_add]
            · simp only [VR]; exact ⟨p, hp, by rw [Nat.add_assoc]⟩
        · cases h
      · trivial
    · trivial
  · trivial
theorem index_ok (hT : TysOk P G.tys) (t : TypeId) (x y : Operand) (ho : o.op = .index t x y) : COk P o (cOp G (.index t x y)) := by
  simp only [cOp]
  split
  · next ti hti =>
    obtain ⟨inf, z, hty⟩ := hT t ti hti
    have hk := hty.k
    split
    · next hkk =>
      have hu : P.underlying t = some .string := by rw [hkk] at hk; exact hk
      refine bi_ok fun ρ a w v v' r u u' hux huy hv hv' h => ?_
      unfold ixSt at h
      split at h
      · next s j k =>
        rw [nthL_eq] at h
        split at h
        · next b hb =>
          injection h with h; subst h
          simp only [VR] at hv hv'
          obtain ⟨bs, rfl, hbs⟩ := hv
          obtain ⟨K, _, rfl⟩ := hv'
          rw [← hbs, List.getElem?_map] at hb
          cases hq : bs.data.toList[k]? with
          | none => rw [hq] at hb; cases hb
          | some q =>
            rw [hq] at hb
            injection hb with hb
            have hlt : k < bs.size := by
              have := (List.getElem?_eq_some_iff.1 hq).1
              simpa using this
            have hq2 : bs[k]? = some q := by
              rw [ByteArray.getElem?_lt' bs k hlt]
              have := (List.getElem?_eq_some_iff.1 hq).2
              rw [← this]
              rfl
            refine ⟨.int .u8 q.toNat, ?_, ?_⟩
            · have hz : (Int.ofNat k).toNat = k := rfl
              simp only [execOp, ho, hux, huy, Instr.index, asIntOf, Sem.run_bind, run_underlying hu, Result.andThen_ok, Sem.run_pure, if_pos natI, hz, hq2]
            · subst hb; exact VR.int_to .u8 _
        · cases h
      · cases h
    · next n el hkk =>
      have hu : P.underlying t = some (.array n el) := by rw [hkk] at hk; exact hk
      split
      · next te hte =>
        obtain ⟨inf2, z2, hty2⟩ := hT el te hte
        refine bi_ok fun ρ a w v v' r u u' hux huy hv hv' h => ?_
        unfold ixAg at h
        split at h
        · next cs j k =>
          cases hb : Nat.blt k n with
          | false => simp [hb] at h
          | true =>
            simp only [hb, cond_true] at h
            have hkn := bltT hb
            simp only [VR] at hv hv'
            obtain ⟨ds, rfl, hvs⟩ := hv
            obtain ⟨K, _, rfl⟩ := hv'
            obtain ⟨u, h1, h2⟩ := partV_ok hty2 hvs h w
            refine ⟨u, ?_, h2⟩
            have hin : (0 : Int) ≤ Int.ofNat k ∧ Int.ofNat k < (n : Int) := ⟨natI, Int.ofNat_lt.2 hkn⟩
            have hz : (Int.ofNat k).toNat = k := rfl
            simp only [execOp, ho, hux, huy, Instr.index, asIntOf, Sem.run_bind, run_underlying hu, Result.andThen_ok, Sem.run_pure, if_pos hin, hty2.run_size, hz, h1]
        · cases h
      · trivial
    · trivial
  · trivial
theorem pureBuiltin_ok (hT : TysOk P G.tys) (c : Call) (b : Builtin) (hc : c.callee = .builtin b) (ho : o.op = .call c) (x : Operand) (t : TypeId) (ha : c.args = #[x]) (hat : c.argTypes = #[t]) (ti : TI) (hti : G.tys.get t = some ti) :
    (b = .len → (∃ el, ti.k = .slice el) → COk P o (un x lenS)) ∧ (b = .len → ti.k = .str → COk P o (un x lenT)) ∧ (b = .cap → (∃ el, ti.k = .slice el) → COk P o (un x capS)) := by
  obtain ⟨inf, z, hty⟩ := hT t ti hti
  have hk := hty.k
  refine ⟨fun hb ⟨el, hkk⟩ => ?_, fun hb hkk => ?_, fun hb ⟨el, hkk⟩ => ?_⟩
  · have hu : P.underlying t = some (.slice el) := by rw [hkk] at hk; exact hk
    subst hb
    refine un_ok fun ρ a w v r u hux hv h => ?_
    unfold lenS at h
    split at h
    · next s i of n =>
      injection h with h; subst h
      simp only [VR] at hv
      obtain ⟨p, ad, c', hp, rfl, hnc, hcc⟩ := hv
      refine ⟨.int .i64 n, ?_, VR.int_to .i64 _⟩
      simp [execOp, ho, resolve, hc, ha, hat, invoke, builtin, Builtin.len_, hux, run_underlying hu, goInt]
    · injection h with h; subst h
      simp only [VR] at hv
      subst hv
      refine ⟨.int .i64 0, ?_, VR.int_to .i64 _⟩
      simp [execOp, ho, resolve, hc, ha, hat, invoke, builtin, Builtin.len_, hux, run_underlying hu, goInt]
    · cases h
  · have hu : P.underlying t = some .string := by rw [hkk] at hk; exact hk
    subst hb
    refine un_ok fun ρ a w v r u hux hv h => ?_
    unfold lenT at h
    split at h
    · next s =>
      injection h with h; subst h
      simp only [VR] at hv
      obtain ⟨bs, rfl, hbs⟩ := hv
      have hsz : bs.size = s.length := by rw [← hbs]; simp
      refine ⟨.int .i64 bs.size, ?_, ?_⟩
      · simp [execOp, ho, resolve, hc, ha, hat, invoke, builtin, Builtin.len_, hux, run_underlying hu, goInt]
      · rw [hsz]; exact VR.int_to .i64 _
    · cases h
  · have hu : P.underlying t = some (.slice el) := by rw [hkk] at hk; exact hk
    subst hb
    refine un_ok fun ρ a w v r u hux hv h => ?_
    unfold capS at h
    split at h
    · injection h with h; subst h
      simp only [VR] at hv
      subst hv
      refine ⟨.int .i64 0, ?_, VR.int_to .i64 _⟩
      simp [execOp, ho, resolve, hc, ha, hat, invoke, builtin, Builtin.cap_, hux, run_underlying hu, goInt]
    · cases h
theorem minmax_ok (c : Call) (b : Builtin) (hc : c.callee = .builtin b) (ho : o.op = .call c) (x y : Operand) (ha : c.args = #[x, y]) :
    (b = .min → COk P o (bi x y minF)) ∧ (b = .max → COk P o (bi x y maxF)) := by
  refine ⟨fun hb => ?_, fun hb => ?_⟩
  · subst hb
    refine bi_ok fun ρ a w v v' r u u' hux huy hv hv' h => ?_
    unfold minF at h
    split at h
    · next k m j n =>
      rw [leI_eq] at h
      injection h with h; subst h
      simp only [VR] at hv hv'
      obtain ⟨K, hK, rfl⟩ := hv
      obtain ⟨K', _, rfl⟩ := hv'
      refine ⟨.int K (if n < m then n else m), ?_, ?_⟩
      · simp only [execOp, ho, resolve, hc, ha, invoke, builtin, Sem.run_bind, Sem.run_pure, Result.andThen_ok, List.map_toArray, List.map_cons, List.map_nil, hux, huy, run_min_int2]
      · simp only [VR]
        refine ⟨K, hK, ?_⟩
        by_cases hmn : m ≤ n
        · simp [hmn, Int.not_lt.2 hmn]
        · simp [hmn, Int.not_le.1 hmn]
    · cases h
  · subst hb
    refine bi_ok fun ρ a w v v' r u u' hux huy hv hv' h => ?_
    unfold maxF at h
    split at h
    · next k m j n =>
      rw [leI_eq] at h
      injection h with h; subst h
      simp only [VR] at hv hv'
      obtain ⟨K, hK, rfl⟩ := hv
      obtain ⟨K', _, rfl⟩ := hv'
      refine ⟨.int K (if n > m then n else m), ?_, ?_⟩
      · simp only [execOp, ho, resolve, hc, ha, invoke, builtin, Sem.run_bind, Sem.run_pure, Result.andThen_ok, List.map_toArray, List.map_cons, List.map_nil, hux, huy, run_max_int2]
      · simp only [VR]
        refine ⟨K, hK, ?_⟩
        by_cases hmn : n ≤ m
        · simp [hmn, Int.not_lt.2 hmn]
        · simp [hmn, Int.not_le.1 hmn]
    · cases h
end
end Go.Proofs.YtibakihcicfeoaaGreat.Ev
/- The evaluator's operations on memory against the model's: reads, new blocks, writes. No condition. -/
namespace Go.Proofs.YtibakihcicfeoaaGreat.Ev
section
variable {P : Program} {o : Oper} {G : Cx}

/-! ### Reads -/
theorem Sim.sub {ρ : Pm} {F : Nat → Option Blk} {w : World} (H : Sim ρ F w) {i off n : Nat} {bs cs : List AV} {p : Pl} (hF : F i = some (.cells bs)) (hp : ρ i = some p) (hs : subL bs off n = some cs) :
    ∃ us : List Value, us.length = n ∧ VRs ρ cs us ∧ ∀ (j : Nat) (u : Value), us[j]? = some u → w.cell? ((⟨p.b, p.o + off, none⟩ : Addr).add j) = some u := by
  obtain ⟨p', c, t, fr, h1, h2, h3, h4, h5, h6, h7⟩ := H.ok i _ hF
  rw [hp] at h1; injection h1 with h1; subst h1
  obtain ⟨s1, s2⟩ := subL_some hs
  have hsz : 0 < n → off + n ≤ bs.length := fun hn => by have := (s2 (n - 1) (by omega)).2; omega
  have hg : ∀ j : Nat, j < n → ((c.toList.drop (p.o + off)).take n)[j]? = c[p.o + off + j]? := fun j hj => by
    simp [List.getElem?_take, List.getElem?_drop, hj]
  have hlen : ((c.toList.drop (p.o + off)).take n).length = n := by
    rw [List.length_take, List.length_drop, Array.length_toList]
    rcases Nat.eq_zero_or_pos n with h0 | h0
    · omega
    · have := hsz h0; omega
  refine ⟨(c.toList.drop (p.o + off)).take n, hlen, VRs.of (by rw [hlen, s1]) fun j a d ha hd => ?_, fun j u hu => ?_⟩
  · have hj : j < n := by rw [← s1]; exact (List.getElem?_eq_some_iff.1 ha).1
    obtain ⟨e1, e2⟩ := s2 j hj
    rw [e1] at ha
    obtain ⟨u, f1, f2⟩ := h7 _ _ ha
    rw [hg j hj, Nat.add_assoc, f1] at hd
    injection hd with hd; subst hd; exact f2
  · have hj : j < n := by rw [← hlen]; exact (List.getElem?_eq_some_iff.1 hu).1
    rw [hg j hj] at hu
    rw [addr_add]
    simp [World.cell?, h2, hu]
theorem Sim.ones {ρ : Pm} {F : Nat → Option Blk} {w : World} (H : Sim ρ F w) {i : Nat} {bs : List AV} (hF : F i = some (.cells bs)) : bs.all one = true := by
  obtain ⟨p', c, t, fr, h1, h2, h3, h4, h5, h6, h7⟩ := H.ok i _ hF
  exact h6
theorem subL_one {bs cs : List AV} {off n : Nat} (hs : subL bs off n = some cs) (h : bs.all one = true) : cs.all one = true := by
  rw [List.all_eq_true]
  intro x hx
  obtain ⟨j, hj⟩ := List.getElem?_of_mem hx
  obtain ⟨s1, s2⟩ := subL_some hs
  have hlt : j < n := by rw [← s1]; exact (List.getElem?_eq_some_iff.1 hj).1
  rw [(s2 j hlt).1] at hj
  exact all_one h hj
theorem rd_eq (k : Nat) (x : Operand) (f : AV → Option (Nat × Nat × Nat)) : rd k x f = .read k fun e => (match (cX x).get e with
    | some v => f v
    | none => none) := by unfold rd; generalize cX x = c; cases c; rfl
theorem load1_ok (hT : TysOk P G.tys) (t : TypeId) (x : Operand) (ho : o.op = .load t x) (ti : TI) (hti : G.tys.get t = some ti) (ha : ti.k.isAgg = false) : COk P o (rd 0 x (ptrN 1)) := by
  obtain ⟨inf, z, hty⟩ := hT t ti hti
  rw [rd_eq]
  intro ρ F e a w i off n bs cs v hE hS hf hF hs hm
  cases hx : (cX x).get e with
  | none => simp [hx] at hf
  | some y =>
    simp only [hx] at hf
    unfold ptrN at hf
    split at hf
    · next i' o' =>
      injection hf with hf
      injection hf with e1 hf
      injection hf with e2 e3
      subst e1; subst e2; subst e3
      have hv := cX_ok hE hx
      simp only [VR] at hv
      obtain ⟨p, hp, hu⟩ := hv
      obtain ⟨us, u1, u2, u3⟩ := hS.sub hF hp hs
      simp only [madeOf] at hm
      split at hm
      · next v' =>
        injection hm with hm; subst hm
        simp only [VRs] at u2
        obtain ⟨d, r, rfl, hd, rfl⟩ := u2
        have hc := u3 0 d (by simp)
        rw [addr_add, Nat.add_zero] at hc
        refine ⟨d, ?_, hd⟩
        simp only [execOp, ho, hu, Instr.loadAt, Instr.sureAddr, loadVar, Sem.run_bind, Sem.run_pure, Result.andThen_ok, hty.run_agg, ha, Bool.false_eq_true, if_false, run_load, hc]
      · cases hm
    · cases hf
theorem loadN_ok (hT : TysOk P G.tys) (t : TypeId) (x : Operand) (ho : o.op = .load t x) (ti : TI) (hti : G.tys.get t = some ti) (ha : ti.k.isAgg = true) : COk P o (rd 1 x (ptrN ti.size)) := by
  obtain ⟨inf, z, hty⟩ := hT t ti hti
  rw [rd_eq]
  intro ρ F e a w i off n bs cs v hE hS hf hF hs hm
  cases hx : (cX x).get e with
  | none => simp [hx] at hf
  | some y =>
    simp only [hx] at hf
    unfold ptrN at hf
    split at hf
    · next i' o' =>
      injection hf with hf
      injection hf with e1 hf
      injection hf with e2 e3
      subst e1; subst e2; subst e3
      have hv := cX_ok hE hx
      simp only [VR] at hv
      obtain ⟨p, hp, hu⟩ := hv
      obtain ⟨us, u1, u2, u3⟩ := hS.sub hF hp hs
      simp only [madeOf] at hm
      injection hm with hm; subst hm
      have hl := run_loadCells_list (P := P) w ⟨p.b, p.o + o', none⟩ us u3
      rw [u1] at hl
      refine ⟨.agg us.toArray, ?_, ?_⟩
      · simp only [execOp, ho, hu, Instr.loadAt, Instr.sureAddr, loadVar, Sem.run_bind, Sem.run_pure, Result.andThen_ok, hty.run_agg, ha, if_true, hty.run_size, hl]
      · simp only [VR]; exact ⟨us, rfl, u2⟩
    · cases hf
theorem bytesV_ok {ρ : Pm} : ∀ {cs : List AV} {l : List Nat} {us : List Value}, bytesV cs = some l → VRs ρ cs us → us = (l.map fun (b : Nat) => Value.int .u8 (b : Int)) ∧ ∀ b ∈ l, b < 256
  | [], l, us, h, hv => by
    simp only [bytesV] at h; injection h with h; subst h
    simp only [VRs] at hv; subst hv
    simp
  | c :: cs, l, us, h, hv => by
    unfold bytesV at h
    split at h
    · cases ‹c :: cs = []›
    · next b r heq =>
      injection heq with e1 e2; subst e1; subst e2
      split at h
      · next l' hl' =>
        cases hb : Nat.blt b 256 with
        | false => simp [hb] at h
        | true =>
          simp only [hb, cond_true] at h
          injection h with h; subst h
          simp only [VRs] at hv
          obtain ⟨d, r', rfl, hd, hr⟩ := hv
          obtain ⟨i1, i2⟩ := bytesV_ok hl' hr
          rw [VR.int_of (k := .u8) hd, i1]
          refine ⟨rfl, fun x hx => ?_⟩
          rcases List.mem_cons.1 hx with rfl | hx
          · exact bltT hb
          · exact i2 x hx
      · cases h
    · cases h
theorem foldl_push : ∀ (l : List Nat) (b : ByteArray), (∀ x ∈ l, x < 256) →
    (((l.map fun (x : Nat) => (x : Int)).foldl (fun r n => r.push (UInt8.ofNat n.toNat)) b).data.toList.map UInt8.toNat) = b.data.toList.map UInt8.toNat ++ l
  | [], b, _ => by simp
  | x :: l, b, h => by
    simp only [List.map_cons, List.foldl_cons]
    rw [foldl_push l _ fun y hy => h y (List.mem_cons_of_mem _ hy)]
    have hx := h x (List.mem_cons_self ..)
    simp [ByteArray.push, UInt8.toNat_ofNat', Nat.mod_eq_of_lt hx]
theorem b2s_ok (hT : TysOk P G.tys) (s d : TypeId) (x : Operand) (ho : o.op = .convert s d x) (ts td te : TI) (hs : G.tys.get s = some ts) (hd : G.tys.get d = some td) (el : Nat)
    (hk : ts.k = .slice el) (hkd : td.k = .str) (he : G.tys.get el = some te) (hke : te.k = .int .u8) : COk P o (rd 2 x slN) := by
  obtain ⟨inf, z, hty⟩ := hT s ts hs
  obtain ⟨inf2, z2, hty2⟩ := hT d td hd
  obtain ⟨inf3, z3, hty3⟩ := hT el te he
  have h1 : P.underlying s = some (.slice el) := by have := hty.k; rw [hk] at this; exact this
  have h2 : P.underlying d = some .string := by have := hty2.k; rw [hkd] at this; exact this
  have h3 : P.underlying el = some (.int .u8) := by have := hty3.k; rw [hke] at this; exact this
  rw [rd_eq]
  intro ρ F e a w i off n bs cs v hE hS hf hF hsub hm
  cases hx : (cX x).get e with
  | none => simp [hx] at hf
  | some y =>
    simp only [hx] at hf
    unfold slN at hf
    split at hf
    · next s' i' o' n' =>
      injection hf with hf
      injection hf with e1 hf
      injection hf with e2 e3
      subst e1; subst e2; subst e3
      have hv := cX_ok hE hx
      simp only [VR] at hv
      obtain ⟨p, ad, c, hp, hu, hnc, hc⟩ := hv
      obtain ⟨us, u1, u2, u3⟩ := hS.sub hF hp hsub
      simp only [madeOf] at hm
      split at hm
      · next l hl =>
        injection hm with hm; subst hm
        obtain ⟨b1, b2⟩ := bytesV_ok hl u2
        have hld : (loadCells ad n').run P w = .ok ((l.map fun (x : Nat) => (x : Int)).map (Value.int .u8)).toArray w := by
          have e : us = (l.map fun (x : Nat) => (x : Int)).map (Value.int .u8) := by rw [b1, List.map_map]; rfl
          rw [← e]
          rcases hc with h0 | ⟨rfl, _⟩
          · have hn0 : n' = 0 := by omega
            subst hn0
            have : us = [] := List.length_eq_zero_iff.1 u1
            subst this
            rfl
          · have := run_loadCells_list (P := P) w ⟨p.b, p.o + o', none⟩ us u3
            rwa [u1] at this
        have hb := run_bytesToString (P := P) w ad n' c _ hld
        refine ⟨.string ((l.map fun (x : Nat) => (x : Int)).foldl (fun r n => r.push (UInt8.ofNat n.toNat)) ByteArray.empty), ?_, ?_⟩
        · simp only [execOp, ho, hu, convert, Sem.run_bind, run_underlying h1, run_underlying h2, run_underlying h3, Result.andThen_ok, hb, Sem.run_pure]
        · simp only [VR]
          refine ⟨_, rfl, ?_⟩
          rw [foldl_push l _ b2]
          simp
      · cases hm
    · cases hf
end
end Go.Proofs.YtibakihcicfeoaaGreat.Ev
/- The evaluator's operations on memory against the model's: new blocks, writes. No condition. -/
namespace Go.Proofs.YtibakihcicfeoaaGreat.Ev
section
variable {P : Program} {o : Oper} {G : Cx}

theorem on_set (h : Hp) (φ : Nat → Option Blk) (i : Nat) (b : Blk) : (h.set i b).on φ = upd (h.on φ) i b := by
  cases h with
  | mk t n =>
    funext j
    show (match (Tr.put (i + 1) t i b).get j with | some b => some b | none => φ j) = _
    rw [Tr.get_put b (i + 1) t i j Nat.lt_two_pow_self]
    by_cases hj : j = i
    · subst hj; simp [upd]
    · rw [if_neg hj, upd_ne _ _ hj]; rfl
theorem on_new (h : Hp) (φ : Nat → Option Blk) (b : Blk) : (h.new b).on φ = upd (h.on φ) h.n b := by
  cases h with
  | mk t n =>
    funext j
    show (match (Tr.put (n + 1) t n b).get j with | some b => some b | none => φ j) = _
    rw [Tr.get_put b (n + 1) t n j Nat.lt_two_pow_self]
    by_cases hj : j = n
    · subst hj; simp [upd, Hp.n]
    · rw [if_neg hj, upd_ne _ _ (by simpa [Hp.n] using hj)]; rfl
theorem on_get {h : Hp} {φ : Nat → Option Blk} {i : Nat} {b : Blk} (hb : h.t.get i = some b) : h.on φ i = some b := by
  simp [Hp.on, hb]
theorem n_set (h : Hp) (i : Nat) (b : Blk) : (h.set i b).n = h.n := by cases h; rfl
theorem n_new (h : Hp) (b : Blk) : (h.new b).n = h.n + 1 := by cases h; rfl
/-- A new row of cells of the model stands for a new block. -/
theorem Sim.row {ρ : Pm} {F : Nat → Option Blk} {w : World} (H : Sim ρ F w) {n : Nat} (hn : ρ n = none) (c : Array Value) (t : TypeId) (cap : Nat) (cs : List AV) (hcap : cap ≤ c.size) (hcs : cs.length ≤ cap) (ho : cs.all one = true)
    (hv : ∀ (j : Nat) (v : AV), cs[j]? = some v → ∃ u, c[j]? = some u ∧ VR ρ v u) : Sim (upd ρ n ⟨w.heap.size, 0, cap⟩) (upd F n (.cells cs)) (w.alloc (.cells c t)) := by
  refine H.fresh hn rfl ?_ rfl
  refine ⟨⟨w.heap.size, 0, cap⟩, c, t, (0, 0), upd_same _ _ _, ?_, .inl rfl, by simpa using hcap, hcs, ho, fun j v hj => ?_⟩
  · show (w.heap.push _)[w.heap.size]? = _
    simp
  · obtain ⟨u, h1, h2⟩ := hv j v hj
    exact ⟨u, by simpa using h1, h2.ext (upd_le hn)⟩
theorem VRs.cells {ρ : Pm} {cs : List AV} {c : Array Value} (h : VRs ρ cs c.toList) : ∀ (j : Nat) (v : AV), cs[j]? = some v → ∃ u, c[j]? = some u ∧ VR ρ v u := fun j v hj => by
  obtain ⟨d, h1, h2⟩ := h.get hj
  exact ⟨d, by simpa using h1, h2⟩
theorem alloc_ok (hT : TysOk P G.tys) (t : TypeId) (ho : o.op = .alloc t) : COk P o (cOp G (.alloc t)) := by
  simp only [cOp]
  split
  · next ti hti =>
    obtain ⟨inf, z, hty⟩ := hT t ti hti
    intro ρ F e a w cs n hE hS hf hn
    injection hf with hf; subst hf
    have hz := hty.zs ρ
    have hl : z.cells.size = ti.size := by have := hz.len; simpa [hty.len] using this
    refine ⟨.pointer (some ⟨w.heap.size, 0, none⟩), w.alloc (.cells z.cells t), ⟨w.heap.size, 0, ti.size⟩, ?_, ?_, ?_⟩
    · simp only [execOp, ho, Instr.alloc, Sem.run_bind, hty.run_zero, Result.andThen_ok, newVar, newRow, run_newObj, Sem.run_pure]
      rfl
    · exact hS.row hn _ t _ _ (by omega) (by rw [hty.len]; exact Nat.le_refl _) hty.ones hz.cells
    · simp only [newV, VR]; exact ⟨_, upd_same _ _ _, by simp⟩
  · trivial
theorem box_ok (hT : TysOk P G.tys) (t : TypeId) (x : Operand) (ho : o.op = .box t x) : COk P o (cOp G (.box t x)) := by
  have e : cOp G (.box t x) = (match G.tys.get t with
    | some ti => .lay ti.size none fun e => (match (cX x).get e with
      | some v => asCells ti.size v
      | none => none)
    | none => .bad) := by
    simp only [cOp]
    generalize cX x = c
    cases c
    cases G.tys.get t <;> rfl
  rw [e]
  split
  · next ti hti =>
    obtain ⟨inf, z, hty⟩ := hT t ti hti
    intro ρ F e a w cs n hE hS hf hn
    cases hx : (cX x).get e with
    | none => simp [hx] at hf
    | some v =>
      simp only [hx] at hf
      obtain ⟨a1, a2, a3, a4⟩ := asCells_ok hf (cX_ok hE hx)
      refine ⟨.pointer (some ⟨w.heap.size, 0, none⟩), w.alloc (.cells (a.eval x).cells t), ⟨w.heap.size, 0, ti.size⟩, ?_, ?_, ?_⟩
      · simp only [execOp, ho, Instr.box, Sem.run_bind, Result.andThen_ok, newVar, newRow, run_newObj, Sem.run_pure]
        rfl
      · exact hS.row hn _ t _ _ (by omega) (by omega) a4 a1.cells
      · simp only [newV, VR]; exact ⟨_, upd_same _ _ _, by simp⟩
  · trivial
theorem repL_len (z : List AV) : ∀ n, (repL z n).length = n * z.length
  | 0 => by simp [repL]
  | n + 1 => by simp only [repL, List.length_append, repL_len z n, Nat.add_mul]; omega
theorem repL_get (z : List AV) (hz : 0 < z.length) : ∀ (n j : Nat), j < n * z.length → (repL z n)[j]? = z[j % z.length]?
  | 0, j, h => by simp at h
  | n + 1, j, h => by
    simp only [repL]
    by_cases hj : j < z.length
    · rw [List.getElem?_append_left hj, Nat.mod_eq_of_lt hj]
    · rw [List.getElem?_append_right (by omega), repL_get z hz n (j - z.length) (by rw [Nat.add_mul] at h; omega)]
      congr 1
      have : j = (j - z.length) + z.length := by omega
      conv => rhs; rw [this, Nat.add_mod_right]
theorem repL_one (z : List AV) (hz : z.all one = true) : ∀ n, (repL z n).all one = true
  | 0 => rfl
  | n + 1 => by simp only [repL, List.all_append, hz, repL_one z hz n]; rfl
theorem rep_vrs {ρ : Pm} {z : List AV} {zv : Array Value} (h : VRs ρ z zv.toList) (n m : Nat) (hz : 0 < z.length) (hm : n * z.length = m) :
    VRs ρ (repL z n) ((Array.range m).map (fun i => zv[i % zv.size]!)).toList := by
  have hl : zv.size = z.length := by have := h.len; simpa using this
  refine VRs.of (by simp [repL_len, hm]) fun j c d hc hd => ?_
  have hj : j < m := by have := (List.getElem?_eq_some_iff.1 hc).1; rw [repL_len, hm] at this; exact this
  rw [repL_get z hz n j (by omega)] at hc
  have hlt : j % z.length < z.length := Nat.mod_lt _ hz
  obtain ⟨d', e1, e2⟩ := h.get hc
  have e3 : ((Array.range m).map (fun i => zv[i % zv.size]!)).toList[j]? = some (zv[j % zv.size]!) := by
    simp [hj]
  rw [e3] at hd; injection hd with hd; subst hd
  have e4 : zv[j % z.length]? = some d' := by simpa using e1
  have e5 : zv[j % zv.size]! = d' := by rw [hl, getElem!_def, e4]
  rw [e5]; exact e2
theorem buildSlice_ok (hT : TysOk P G.tys) (t : TypeId) (n : Nat) (parts : Array (Nat × Operand)) (ho : o.op = .buildSlice t n parts) : COk P o (cOp G (.buildSlice t n parts)) := by
  simp only [cOp]
  split
  · next ti hti =>
    obtain ⟨inf, z, hty⟩ := hT t ti hti
    have hk := hty.k
    split
    · next el hkk =>
      have hu : P.underlying t = some (.slice el) := by rw [hkk] at hk; exact hk
      split
      · next te hte =>
        obtain ⟨inf2, z2, hty2⟩ := hT el te hte
        cases hb : Nat.blt (n * te.size) 65536 && Nat.blt 0 te.size with
        | false => trivial
        | true =>
          simp only [Bool.and_eq_true] at hb
          have hb1 := bltT hb.1
          have hb2 := bltT hb.2
          simp only [cond_true]
          split
          · next l hl =>
            intro ρ F e a w cs nn hE hS hf hn
            have hz := hty2.zs ρ
            have hzl : z2.cells.size = te.size := by have := hz.len; simpa [hty2.len] using this
            have harr := rep_vrs hz n (n * te.size) (by rw [hty2.len]; exact hb2) (by rw [hty2.len])
            obtain ⟨arr', g1, g2, g3, g4⟩ := fill_ok hE (placeA te.size) parts.toList l _ cs _ hl hf harr (repL_one _ hty2.ones n)
            have hcl : cs.length = n * te.size := by rw [g4, repL_len, hty2.len]
            have hal : arr'.size = n * te.size := by have := g2.len; simpa [hcl] using this
            refine ⟨.slice (some ⟨w.heap.size, 0, none⟩) n n, w.alloc (.cells arr' el), ⟨w.heap.size, 0, n * te.size⟩, ?_, ?_, ?_⟩
            · have hnot : ¬ (n * te.size > 2 ^ 24) := by omega
              have hpl : (fun i => some (i * te.size, te.size)) = placeA te.size := rfl
              have hfill : Instr.fill (placeA te.size) ((Array.range (n * te.size)).map (fun i => z2.cells[i % z2.cells.size]!)) (parts.map fun (i, x) => (i, a.eval x)).toList = some arr' := by
                rw [Array.toList_map]; exact g1
              simp only [execOp, ho, Instr.buildSlice, Sem.run_bind, run_underlying hu, Result.andThen_ok, hty2.run_size]
              rw [if_neg hnot]
              by_cases h0 : n * te.size = 0
              · rw [if_pos h0]
                have hr0 : (Array.range (n * te.size)).map (fun i => (#[] : Array Value)[i % (#[] : Array Value).size]!) = (Array.range (n * te.size)).map (fun i => z2.cells[i % z2.cells.size]!) := by
                  rw [h0]; simp
                simp only [Sem.run_pure, Result.andThen_ok, hr0, hpl, hfill, newRow, Sem.run_bind, run_newObj]
                rfl
              · rw [if_neg h0]
                simp only [Sem.run_bind, hty2.run_zero, Sem.run_pure, Result.andThen_ok, hpl, hfill, newRow, run_newObj]
                rfl
            · exact hS.row hn arr' el _ _ (by omega) (by omega) g3 g2.cells
            · simp only [newV, VR]
              exact ⟨_, _, n, upd_same _ _ _, rfl, ⟨Nat.le_refl _, by have := Nat.le_mul_of_pos_right n hb2; omega⟩, .inr ⟨by simp, by simp⟩⟩
          · trivial
      · trivial
    · trivial
  · trivial

/-! ### Writes -/
theorem soft_cell {w : World} {g x : Nat} {c : Array Value} {t : TypeId} {fr : Nat × Nat} (hg : w.heap[g]? = some (.cells c t fr)) (hs : Soft c fr) (hx : x < c.size) : w.frozen? ⟨g, x, none⟩ = false := by
  obtain ⟨lo, hi⟩ := fr
  simp only [World.frozen?, hg]
  rcases hs with h | h <;> simp only at h <;> simp <;> omega
theorem run_storeSoft (g of : Nat) (t : TypeId) (fr : Nat × Nat) : ∀ (vs : List Value) (i : Nat) (c : Array Value) (w : World), w.heap[g]? = some (.cells c t fr) → Soft c fr → of + i + vs.length ≤ c.size → (∀ v ∈ vs, v.oneCell' = true) →
    ∃ c', (storeCells ⟨g, of, none⟩ vs i).run P w = .ok () (w.setRow g c') ∧ c'.size = c.size ∧ ∀ j : Nat, c'[j]? = if of + i ≤ j ∧ j < of + i + vs.length then vs[j - (of + i)]? else c[j]?
  | [], i, c, w, hg, hs, _, _ => by
    refine ⟨c, by rw [setRow_self w g c t fr hg]; rfl, rfl, fun j => ?_⟩
    rw [if_neg (by simp)]
  | v :: vs, i, c, w, hg, hs, hl, h1 => by
    simp only [List.length_cons] at hl
    have hx : of + i < c.size := by omega
    have hcell : w.cell? ⟨g, of + i, none⟩ = some c[of + i] := by simp [World.cell?, hg, hx]
    have hst : (store ((⟨g, of, none⟩ : Addr).add i) v).run P w = .ok () (w.setRow g (c.setIfInBounds (of + i) v)) := by
      rw [addr_add, run_store P w _ v _ (h1 v (by simp)), hcell]
      simp [soft_cell hg hs hx, setCell_eq_setRow w g (of + i) c t fr v hg]
    obtain ⟨c', i1, i2, i3⟩ := run_storeSoft g of t fr vs (i + 1) (c.setIfInBounds (of + i) v) (w.setRow g (c.setIfInBounds (of + i) v)) (setRow_heap w g c _ t _ hg)
      (by unfold Soft at *; simpa using hs) (by simp; omega) (fun x hx => h1 x (by simp [hx]))
    refine ⟨c', ?_, by simpa using i2, fun j => ?_⟩
    · simp only [storeCells, Sem.run_bind, hst, Result.andThen_ok, i1, setRow_setRow]
    · rw [i3 j]
      by_cases hj : j = of + i
      · subst hj
        rw [if_neg (by omega), if_pos (by simp only [List.length_cons]; omega), Nat.sub_self]
        simp [hx]
      · by_cases hc : of + (i + 1) ≤ j ∧ j < of + (i + 1) + vs.length
        · rw [if_pos hc, if_pos (by simp only [List.length_cons]; omega), show j - (of + i) = (j - (of + (i + 1))) + 1 by omega]
          simp
        · rw [if_neg hc, if_neg (by simp only [List.length_cons]; omega)]
          simp [Ne.symm hj]
theorem vrs_one {ρ : Pm} {vs : List AV} {us : List Value} (hv : VRs ρ vs us) (h : vs.all one = true) : ∀ u ∈ us, u.oneCell' = true := fun u hu => by
  obtain ⟨j, hj⟩ := List.getElem?_of_mem hu
  have hlt : j < vs.length := by rw [← hv.len]; exact (List.getElem?_eq_some_iff.1 hj).1
  obtain ⟨d, e1, e2⟩ := hv.get (List.getElem?_eq_getElem hlt)
  rw [hj] at e1; injection e1 with e1; subst e1
  exact e2.one (all_one h (List.getElem?_eq_getElem hlt))
theorem setRow_keeps (w : World) (b : Nat) (c : Array Value) : Keeps w (w.setRow b c) := ⟨rfl, rfl, rfl, by simp [World.setRow]⟩
theorem freeze_keeps (w : World) (a : Addr) (n : Nat) : Keeps w (w.freeze a n) := by
  unfold World.freeze
  split
  · exact ⟨rfl, rfl, rfl, Nat.le_refl _⟩
  · exact ⟨rfl, rfl, rfl, by simp⟩
theorem cells_no (cs : List AV) (w0 : World) : Blk.cells cs ≠ .out w0 := fun h => by cases h
/-- Cells written within a block. -/
theorem Sim.wr {ρ : Pm} {F : Nat → Option Blk} {w : World} (H : Sim ρ F w) {i off : Nat} {cs cs' vs : List AV} {p : Pl} {us : List Value} (hF : F i = some (.cells cs)) (hp : ρ i = some p)
    (hw : wrL cs off vs = some cs') (hv : VRs ρ vs us) (hvo : vs.all one = true) :
    ∃ w', (storeCells ⟨p.b, p.o + off, none⟩ us).run P w = .ok () w' ∧ Sim ρ (upd F i (.cells cs')) w' := by
  have h1 := vrs_one hv hvo
  obtain ⟨p', c, t, fr, e1, h2, h3, h4, h5, h6, h7⟩ := H.ok i _ hF
  rw [hp] at e1; injection e1 with e1; subst e1
  obtain ⟨w1, w2, w3⟩ := wrL_some hw
  have hone : cs'.all one = true := by
    rw [List.all_eq_true]
    intro y hy
    obtain ⟨j, hj⟩ := List.getElem?_of_mem hy
    rw [w3 j] at hj
    split at hj
    · exact all_one hvo hj
    · exact all_one h6 hj
  have hul := hv.len
  obtain ⟨c', s1, s2, s3⟩ := run_storeSoft (P := P) p.b (p.o + off) t fr us 0 c w h2 h3 (by omega) h1
  refine ⟨w.setRow p.b c', s1, ?_⟩
  refine H.write hF rfl hp h2 (setRow_heap w p.b c c' t fr h2) s2 (fun hs => by unfold Soft at *; omega) (fun b hb => setRow_other w p.b b c' hb) (fun x hx => ?_) ?_ (cells_no _) (setRow_keeps _ _ _)
  · rw [s3 x, if_neg (by omega)]
  · refine ⟨p, c', t, fr, hp, setRow_heap w p.b c c' t fr h2, by unfold Soft at *; omega, by omega, by omega, hone, fun j v hj => ?_⟩
    rw [w3 j] at hj
    by_cases hc : off ≤ j ∧ j < off + vs.length
    · rw [if_pos hc] at hj
      obtain ⟨u, f1, f2⟩ := hv.get hj
      refine ⟨u, ?_, f2⟩
      rw [s3, if_pos (by omega), ← f1]
      congr 1; omega
    · rw [if_neg hc] at hj
      obtain ⟨u, f1, f2⟩ := h7 j v hj
      refine ⟨u, ?_, f2⟩
      rw [s3, if_neg (by omega)]; exact f1
theorem Grow.refl (ρ : Pm) (h : Hp) : Grow ρ ρ h h := ⟨fun _ _ h => h, fun _ _ => rfl, Nat.le_refl _⟩
theorem ef2_eq (x y : Operand) (f : AV → AV → Hp → RA) : ef2 x y f = .eff fun e h => (match (cX x).get e with
    | some v => (match (cX y).get e with
      | some u => f v u h
      | none => .no)
    | none => .no) := by unfold ef2; cases cX x; cases cX y; rfl
theorem ef1_eq (x : Operand) (f : AV → Hp → RA) : ef1 x f = .eff fun e h => (match (cX x).get e with
    | some v => f v h
    | none => .no) := by unfold ef1; cases cX x; rfl
theorem ef1_ok {x : Operand} {f : AV → Hp → RA}
    (H : ∀ (ρ : Pm) (φ : Nat → Option Blk) (a : Act) (w : World) (v r : AV) (u : Value) (h h' : Hp), a.eval x = u → VR ρ v u → Sim ρ (h.on φ) w → f v h = .ok r h' → Free ρ h h' →
      ∃ u' w' ρ', Runs P o a w u' w' ∧ Grow ρ ρ' h h' ∧ Sim ρ' (h'.on φ) w' ∧ VR ρ' r u') : COk P o (ef1 x f) := by
  rw [ef1_eq]
  intro ρ φ e a w r h h' hE hS hf hfr
  cases hx : (cX x).get e with
  | none => simp only [hx] at hf; cases hf
  | some v =>
    simp only [hx] at hf
    exact H ρ φ a w v r _ h h' rfl (cX_ok hE hx) hS hf hfr
theorem ef2_ok {x y : Operand} {f : AV → AV → Hp → RA}
    (H : ∀ (ρ : Pm) (φ : Nat → Option Blk) (a : Act) (w : World) (v v' r : AV) (u u' : Value) (h h' : Hp), a.eval x = u → a.eval y = u' → VR ρ v u → VR ρ v' u' → Sim ρ (h.on φ) w → f v v' h = .ok r h' → Free ρ h h' →
      ∃ z w' ρ', Runs P o a w z w' ∧ Grow ρ ρ' h h' ∧ Sim ρ' (h'.on φ) w' ∧ VR ρ' r z) : COk P o (ef2 x y f) := by
  rw [ef2_eq]
  intro ρ φ e a w r h h' hE hS hf hfr
  cases hx : (cX x).get e with
  | none => simp only [hx] at hf; cases hf
  | some v =>
    cases hy : (cX y).get e with
    | none => simp only [hx, hy] at hf; cases hf
    | some v' =>
      simp only [hx, hy] at hf
      exact H ρ φ a w v v' r _ _ h h' rfl rfl (cX_ok hE hx) (cX_ok hE hy) hS hf hfr
theorem store_ok (hT : TysOk P G.tys) (t : TypeId) (x y : Operand) (ho : o.op = .store t x y) (ti : TI) (hti : G.tys.get t = some ti) : COk P o (ef2 x y (storeF ti.size)) := by
  obtain ⟨inf, z, hty⟩ := hT t ti hti
  refine ef2_ok fun ρ φ a w v v' r u u' h h' hux huy hv hv' hS hf hfr => ?_
  unfold storeF at hf
  split at hf
  · next i off =>
    cases hc : asCells ti.size v' with
    | none => simp [hc] at hf
    | some vs =>
      simp only [hc] at hf
      cases hg : h.t.get i with
      | none => simp [hg] at hf
      | some b =>
        cases b with
        | cells cs =>
          simp only [hg] at hf
          cases hw : wrL cs off vs with
          | none => simp [hw] at hf
          | some cs' =>
            simp only [hw] at hf
            injection hf with e1 e2; subst e1; subst e2
            simp only [VR] at hv
            obtain ⟨p, hp, rfl⟩ := hv
            obtain ⟨a1, a2, a3, a4⟩ := asCells_ok hc hv'
            obtain ⟨w', s1, s2⟩ := hS.wr (P := P) (on_get hg) hp hw a1 a4
            refine ⟨undef, w', ρ, .inr ⟨?_, rfl⟩, ⟨fun _ _ h => h, fun _ _ => rfl, by rw [n_set]; exact Nat.le_refl _⟩, by rw [on_set]; exact s2, by simp only [VR]; exact ⟨[], rfl, VRs.nil⟩⟩
            have hnot : ¬ (u'.cells.size ≠ ti.size) := by omega
            simp only [execOp, ho, hux, huy, Instr.storeAt, Instr.sureAddr, Sem.run_bind, Sem.run_pure, Result.andThen_ok, storeVar, hty.run_size]
            rw [if_neg hnot]
            simp only [s1, Result.andThen_ok, Sem.run_pure]
        | iter _ _ => simp [hg] at hf
        | dead => simp [hg] at hf
        | out _ => simp [hg] at hf
  · cases hf
end
end Go.Proofs.YtibakihcicfeoaaGreat.Ev
