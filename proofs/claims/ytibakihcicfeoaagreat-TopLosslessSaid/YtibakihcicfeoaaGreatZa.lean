/- A small evaluator for the model's code over abstract values (blocks are abstract numbers, capacities are unknown): the definitions. No condition. -/
import Derived.WalkKit
import Derived.WalkSpells
import Derived.WalkLawsBesides
import Derived.Orders
import Derived.Laws.AppendOwn
import Derived.Laws.CopyRow
import Derived.Laws.RangeString
import Derived.Laws.BytesString
namespace Go.Proofs.YtibakihcicfeoaaGreat.Ev

/-- A tree of what stands at numbers. -/
inductive Tr (α : Type) where
  | nil
  | node (l : Tr α) (v : Option α) (r : Tr α)
def Tr.get {α : Type} : Tr α → Nat → Option α
  | .nil, _ => none
  | .node l v r, n => match n with
    | 0 => v
    | m + 1 => bif Nat.beq (Nat.mod m 2) 0 then l.get (Nat.div m 2) else r.get (Nat.div m 2)
def Tr.put {α : Type} : Nat → Tr α → Nat → α → Tr α
  | 0, t, _, _ => t
  | f + 1, t, n, x => match t with
    | .nil => (match n with
      | 0 => .node .nil (some x) .nil
      | m + 1 => bif Nat.beq (Nat.mod m 2) 0 then .node (Tr.put f .nil (Nat.div m 2) x) none .nil else .node .nil none (Tr.put f .nil (Nat.div m 2) x))
    | .node l v r => (match n with
      | 0 => .node l (some x) r
      | m + 1 => bif Nat.beq (Nat.mod m 2) 0 then .node (Tr.put f l (Nat.div m 2) x) v r else .node l v (Tr.put f r (Nat.div m 2) x))
theorem Tr.get_put {α : Type} (x : α) : ∀ (f : Nat) (t : Tr α) (n m : Nat), n + 1 < 2 ^ f → (Tr.put f t n x).get m = if m = n then some x else t.get m
  | 0, t, n, m, h => by simp at h
  | f + 1, t, n, m, h => by
    have hp : 2 ^ (f + 1) = 2 * 2 ^ f := by rw [Nat.pow_succ]; omega
    have ev : ∀ k : Nat, Nat.beq (Nat.mod k 2) 0 = decide (k % 2 = 0) := fun k => by
      show Nat.beq (k % 2) 0 = _
      by_cases hk : k % 2 = 0
      · simp [hk]
      · have : k % 2 = 1 := by omega
        rw [this]
        rfl
    have dv : ∀ k : Nat, Nat.div k 2 = k / 2 := fun _ => rfl
    cases n with
    | zero =>
      cases t with
      | nil => cases m with
        | zero => simp [Tr.put, Tr.get]
        | succ m => simp [Tr.put, Tr.get, ev]
      | node l v r => cases m with
        | zero => simp [Tr.put, Tr.get]
        | succ m => simp [Tr.put, Tr.get, ev]
    | succ n =>
      have hb : n / 2 + 1 < 2 ^ f := by omega
      have ih := fun t k => Tr.get_put x f t (n / 2) k hb
      cases t with
      | nil =>
        cases m with
        | zero => by_cases hn : n % 2 = 0 <;> simp [Tr.put, Tr.get, ev, hn]
        | succ m =>
          by_cases hn : n % 2 = 0 <;> by_cases hm : m % 2 = 0
          · simp only [Tr.put, Tr.get, ev, hn, hm, dv, decide_true, cond_true, ih]
            by_cases he : m / 2 = n / 2
            · rw [if_pos he, if_pos (by omega)]
            · rw [if_neg he, if_neg (by omega)]
          · simp only [Tr.put, Tr.get, ev, hn, hm, dv, decide_true, decide_false, cond_true, cond_false]
            rw [if_neg (by omega)]
          · simp only [Tr.put, Tr.get, ev, hn, hm, dv, decide_true, decide_false, cond_true, cond_false]
            rw [if_neg (by omega)]
          · simp only [Tr.put, Tr.get, ev, hn, hm, dv, decide_false, cond_false, ih]
            by_cases he : m / 2 = n / 2
            · rw [if_pos he, if_pos (by omega)]
            · rw [if_neg he, if_neg (by omega)]
      | node l v r =>
        cases m with
        | zero => by_cases hn : n % 2 = 0 <;> simp [Tr.put, Tr.get, ev, hn]
        | succ m =>
          by_cases hn : n % 2 = 0 <;> by_cases hm : m % 2 = 0
          · simp only [Tr.put, Tr.get, ev, hn, hm, dv, decide_true, cond_true, ih]
            by_cases he : m / 2 = n / 2
            · rw [if_pos he, if_pos (by omega)]
            · rw [if_neg he, if_neg (by omega)]
          · simp only [Tr.put, Tr.get, ev, hn, hm, dv, decide_true, decide_false, cond_true, cond_false]
            rw [if_neg (by omega)]
          · simp only [Tr.put, Tr.get, ev, hn, hm, dv, decide_true, decide_false, cond_true, cond_false]
            rw [if_neg (by omega)]
          · simp only [Tr.put, Tr.get, ev, hn, hm, dv, decide_false, cond_false, ih]
            by_cases he : m / 2 = n / 2
            · rw [if_pos he, if_pos (by omega)]
            · rw [if_neg he, if_neg (by omega)]

/-! ### Lists -/
def nthL {α : Type} : List α → Nat → Option α
  | [], _ => none
  | x :: _, 0 => some x
  | _ :: l, n + 1 => nthL l n
theorem nthL_eq {α : Type} : ∀ (l : List α) (n : Nat), nthL l n = l[n]?
  | [], n => by simp [nthL]
  | x :: l, 0 => by simp [nthL]
  | x :: l, n + 1 => by simp [nthL, nthL_eq l n]
def takeL {α : Type} : List α → Nat → Option (List α)
  | _, 0 => some []
  | [], _ + 1 => none
  | x :: l, n + 1 => match takeL l n with
    | some r => some (x :: r)
    | none => none
def subL {α : Type} : List α → Nat → Nat → Option (List α)
  | l, 0, n => takeL l n
  | [], _ + 1, _ => none
  | _ :: l, o + 1, n => subL l o n
theorem takeL_some {α : Type} : ∀ {l : List α} {n : Nat} {r : List α}, takeL l n = some r → r.length = n ∧ ∀ j, j < n → r[j]? = l[j]? ∧ j < l.length
  | l, 0, r, h => by
    have : r = [] := by cases l <;> simp [takeL] at h <;> exact h
    subst this
    exact ⟨rfl, fun j hj => absurd hj (by omega)⟩
  | [], n + 1, r, h => by simp [takeL] at h
  | x :: l, n + 1, r, h => by
    simp only [takeL] at h
    split at h
    · next r' hr' =>
      injection h with h
      subst h
      obtain ⟨h1, h2⟩ := takeL_some hr'
      refine ⟨by simp [h1], fun j hj => ?_⟩
      cases j with
      | zero => simp
      | succ j =>
        obtain ⟨a, b⟩ := h2 j (by omega)
        exact ⟨by simpa using a, by simp; omega⟩
    · cases h
theorem subL_some {α : Type} : ∀ {l : List α} {o n : Nat} {r : List α}, subL l o n = some r → r.length = n ∧ ∀ j, j < n → r[j]? = l[o + j]? ∧ o + j < l.length
  | l, 0, n, r, h => by
    have h' : takeL l n = some r := by cases l <;> simpa [subL] using h
    have := takeL_some h'
    simpa using this
  | [], o + 1, n, r, h => by simp [subL] at h
  | x :: l, o + 1, n, r, h => by
    simp only [subL] at h
    obtain ⟨h1, h2⟩ := subL_some h
    refine ⟨h1, fun j hj => ?_⟩
    obtain ⟨a, b⟩ := h2 j hj
    rw [show o + 1 + j = (o + j) + 1 by omega]
    exact ⟨by simpa using a, by simp; omega⟩
def wrL0 {α : Type} : List α → List α → Option (List α)
  | l, [] => some l
  | [], _ :: _ => none
  | _ :: l, v :: vs => match wrL0 l vs with
    | some r => some (v :: r)
    | none => none
def wrL {α : Type} : List α → Nat → List α → Option (List α)
  | l, 0, vs => wrL0 l vs
  | [], _ + 1, _ => none
  | x :: l, o + 1, vs => match wrL l o vs with
    | some r => some (x :: r)
    | none => none
theorem wrL0_some {α : Type} : ∀ {l vs r : List α}, wrL0 l vs = some r → vs.length ≤ l.length ∧ r.length = l.length ∧ ∀ j, r[j]? = if j < vs.length then vs[j]? else l[j]?
  | l, [], r, h => by
    have : l = r := by cases l <;> simpa [wrL0] using h
    subst this
    simp
  | [], _ :: _, r, h => by simp [wrL0] at h
  | x :: l, v :: vs, r, h => by
    simp only [wrL0] at h
    split at h
    · next r' hr' =>
      injection h with h
      subst h
      obtain ⟨h1, h2, h3⟩ := wrL0_some hr'
      refine ⟨by simp; omega, by simp [h2], fun j => ?_⟩
      cases j with
      | zero => simp
      | succ j => simpa using h3 j
    · cases h
theorem wrL_some {α : Type} : ∀ {l : List α} {o : Nat} {vs r : List α}, wrL l o vs = some r → o + vs.length ≤ l.length ∧ r.length = l.length ∧ ∀ j, r[j]? = if o ≤ j ∧ j < o + vs.length then vs[j - o]? else l[j]?
  | l, 0, vs, r, h => by
    have h' : wrL0 l vs = some r := by cases l <;> simpa [wrL] using h
    obtain ⟨h1, h2, h3⟩ := wrL0_some h'
    refine ⟨by omega, h2, fun j => ?_⟩
    rw [h3 j]
    simp
  | [], o + 1, vs, r, h => by simp [wrL] at h
  | x :: l, o + 1, vs, r, h => by
    simp only [wrL] at h
    split at h
    · next r' hr' =>
      injection h with h
      subst h
      obtain ⟨h1, h2, h3⟩ := wrL_some hr'
      refine ⟨by simp; omega, by simp [h2], fun j => ?_⟩
      cases j with
      | zero => simp
      | succ j =>
        have := h3 j
        simp only [List.getElem?_cons_succ, this, Nat.add_le_add_iff_right, Nat.succ_sub_succ_eq_sub]
        by_cases hc : o ≤ j ∧ j < o + vs.length
        · rw [if_pos hc, if_pos (by omega)]
        · rw [if_neg hc, if_neg (by omega)]
    · cases h
def mapO {α β : Type} (f : α → Option β) : List α → Option (List β)
  | [] => some []
  | x :: l => match f x with
    | none => none
    | some y => match mapO f l with
      | none => none
      | some r => some (y :: r)

/-! ### Values -/
/-- A value: an address is a block's number and a place in it; a slice has cells an element, but no capacity. -/
inductive AV where
  | int (k : Nat) (n : Int)
  | bool (b : Bool)
  | str (s : List Nat)
  | ptr (i o : Nat)
  | nilp
  | sl (s i o n : Nat)
  | nils
  | fn (f : Nat) (cap : List AV)
  | nilf
  | nili
  | agg (cs : List AV)
  | tup (vs : List AV)
/-- A block: cells, an iterator over a string's bytes, one that nobody may use any more; or a world of the model, of which all is kept. -/
inductive Blk where
  | cells (cs : List AV)
  | iter (s : List Nat) (pos : Nat)
  | dead
  | out (w0 : World)
/-- Memory: blocks, and the next one's number. -/
inductive Hp where
  | mk (t : Tr Blk) (n : Nat)
def Hp.t : Hp → Tr Blk
  | .mk t _ => t
def Hp.n : Hp → Nat
  | .mk _ n => n
/-- What gets a slot, made ready. -/
structure FX where
  get : Tr AV → Option AV
def cGet : Nat → Nat → FX
  | 0, _ => ⟨fun _ => none⟩
  | _ + 1, 0 => ⟨fun t => (match t with
    | .nil => none
    | .node _ v _ => v)⟩
  | f + 1, m + 1 => (match cGet f (Nat.div m 2) with
    | ⟨g⟩ => bif Nat.beq (Nat.mod m 2) 0 then ⟨fun t => (match t with
        | .nil => none
        | .node l _ _ => g l)⟩ else ⟨fun t => (match t with
        | .nil => none
        | .node _ _ r => g r)⟩)
theorem cGet_eq : ∀ (f n : Nat) (t : Tr AV), n + 1 < 2 ^ f → (cGet f n).get t = t.get n
  | 0, n, t, h => by simp at h
  | f + 1, 0, t, _ => by cases t <;> rfl
  | f + 1, m + 1, t, h => by
    have hp : 2 ^ (f + 1) = 2 * 2 ^ f := by rw [Nat.pow_succ]; omega
    have hd : Nat.div m 2 = m / 2 := rfl
    have ih := fun t => cGet_eq f (Nat.div m 2) t (by rw [hd]; omega)
    show FX.get (match cGet f (Nat.div m 2) with
      | ⟨g⟩ => bif Nat.beq (Nat.mod m 2) 0 then _ else _) t = _
    generalize cGet f (Nat.div m 2) = c at *
    obtain ⟨g⟩ := c
    cases hb : Nat.beq (Nat.mod m 2) 0 <;> cases t <;> simp [Tr.get, hb] <;> exact ih _
/-- What fills a slot, made ready. -/
structure FP where
  put : Tr AV → AV → Tr AV
def cPutT : Nat → Nat → FP
  | 0, _ => ⟨fun t _ => t⟩
  | _ + 1, 0 => ⟨fun t x => (match t with
    | .nil => .node .nil (some x) .nil
    | .node l _ r => .node l (some x) r)⟩
  | f + 1, m + 1 => (match cPutT f (Nat.div m 2) with
    | ⟨g⟩ => bif Nat.beq (Nat.mod m 2) 0 then ⟨fun t x => (match t with
        | .nil => .node (g .nil x) none .nil
        | .node l v r => .node (g l x) v r)⟩ else ⟨fun t x => (match t with
        | .nil => .node .nil none (g .nil x)
        | .node l v r => .node l v (g r x))⟩)
theorem cPutT_eq : ∀ (f n : Nat) (t : Tr AV) (x : AV), (cPutT f n).put t x = Tr.put f t n x
  | 0, n, t, x => rfl
  | f + 1, 0, t, x => by cases t <;> rfl
  | f + 1, m + 1, t, x => by
    have ih := fun t => cPutT_eq f (Nat.div m 2) t x
    show FP.put (match cPutT f (Nat.div m 2) with
      | ⟨g⟩ => bif Nat.beq (Nat.mod m 2) 0 then _ else _) t x = _
    generalize cPutT f (Nat.div m 2) = c at *
    obtain ⟨g⟩ := c
    cases hb : Nat.beq (Nat.mod m 2) 0 <;> cases t <;> simp [Tr.put, hb] <;> exact ih _
def bigN : Nat := 1000000000
def Hp.set : Hp → Nat → Blk → Hp
  | .mk t n, i, b => .mk (Tr.put (i + 1) t i b) n
def Hp.new : Hp → Blk → Hp
  | .mk t n, b => .mk (Tr.put (n + 1) t n b) (n + 1)

/-! ### Constants and types -/
def kN : IntKind → Nat
  | .i8 => 0
  | .i16 => 1
  | .i32 => 2
  | .i64 => 3
  | .u8 => 4
  | .u16 => 5
  | .u32 => 6
  | .u64 => 7
def cv1 : Value → Option AV
  | .int k n => some (.int (kN k) n)
  | .bool b => some (.bool b)
  | .string s => some (.str (s.data.toList.map UInt8.toNat))
  | .pointer none => some .nilp
  | .slice none 0 0 => some .nils
  | .nilFunc => some .nilf
  | .nilIface => some .nili
  | .func (.func f) ⟨[]⟩ ⟨[]⟩ => some (.fn f [])
  | _ => none
def cv : Value → Option AV
  | .agg ⟨cs⟩ => (match mapO cv1 cs with
    | some l => some (.agg l)
    | none => none)
  | .tuple ⟨[]⟩ => some (.tup [])
  | v => cv1 v
inductive TK where
  | int (k : IntKind)
  | bool
  | str
  | ptr
  | slice (e : Nat)
  | arr (n e : Nat)
  | strct (fs : List (Nat × Nat))
  | func
  | iface
  | other
structure TI where
  k : TK
  size : Nat
  bytes : Nat
  zero : List AV
def TK.isAgg : TK → Bool
  | .strct _ => true
  | .arr _ _ => true
  | _ => false
/-- What the evaluator goes by: functions and types by their numbers; contracts that stand for functions. -/
structure Cx where
  fns : Tr Func
  tys : Tr TI
  orc : Nat → Option (List AV → Hp → Option (AV × Hp))

/-! ### Numbers -/
def limP : IntKind → Nat
  | .i8 => 128
  | .i16 => 32768
  | .i32 => 2147483648
  | .i64 => 9223372036854775808
  | .u8 => 256
  | .u16 => 65536
  | .u32 => 4294967296
  | .u64 => 18446744073709551616
def limN : IntKind → Nat
  | .i32 => 2147483648
  | .i64 => 9223372036854775808
  | _ => 0
/-- A number as one of a kind ('lp', 'ln': the kind's limits). -/
def wrapF (k : IntKind) (lp ln : Nat) (n : Int) : Int := match n with
  | .ofNat m => bif Nat.blt m lp then .ofNat m else k.wrap (.ofNat m)
  | .negSucc m => bif Nat.blt m ln then .negSucc m else k.wrap (.negSucc m)
theorem wrapF_eq (k : IntKind) (n : Int) : wrapF k (limP k) (limN k) n = k.wrap n := by
  have key : ∀ (m : Nat) (L : Nat), Nat.blt m L = true → m < L := fun m L h => by
    simpa [Nat.blt, Nat.succ_le_iff] using h
  cases n with
  | ofNat m =>
    show (bif Nat.blt m (limP k) then Int.ofNat m else k.wrap (Int.ofNat m)) = k.wrap (Int.ofNat m)
    cases hb : Nat.blt m (limP k) with
    | false => rfl
    | true =>
      have := key _ _ hb
      symm
      show k.wrap (m : Int) = (m : Int)
      cases k <;> simp [limP] at this <;> simp [IntKind.wrap, IntKind.bits, IntKind.signed] <;> omega
  | negSucc m =>
    show (bif Nat.blt m (limN k) then Int.negSucc m else k.wrap (Int.negSucc m)) = k.wrap (Int.negSucc m)
    cases hb : Nat.blt m (limN k) with
    | false => rfl
    | true =>
      have := key _ _ hb
      symm
      show k.wrap (Int.negSucc m) = Int.negSucc m
      rw [Int.negSucc_eq]
      cases k <;> first
        | exact absurd this (Nat.not_lt_zero _)
        | (have h2 : m < 9223372036854775808 := this; rw [IntKind.wrap_i64]; omega)
        | (have h2 : m < 2147483648 := this; rw [IntKind.wrap_i32]; omega)
def leI : Int → Int → Bool
  | .ofNat a, .ofNat b => Nat.ble a b
  | .ofNat _, .negSucc _ => false
  | .negSucc _, .ofNat _ => true
  | .negSucc a, .negSucc b => Nat.ble b a
def addZ : Int → Int → Int
  | .ofNat a, .ofNat b => .ofNat (Nat.add a b)
  | x, y => x + y
theorem addZ_eq (x y : Int) : addZ x y = x + y := by
  cases x <;> cases y <;> rfl
theorem leI_eq (x y : Int) : leI x y = decide (x ≤ y) := by
  have e : ∀ a b : Nat, Nat.ble a b = decide (a ≤ b) := fun a b => by
    by_cases h : a ≤ b
    · rw [Nat.ble_eq_true_of_le h]; simp [h]
    · rw [Bool.eq_false_iff.2 (fun hh => h (Nat.le_of_ble_eq_true hh))]; simp [h]
  cases x with
  | ofNat a => cases y with
    | ofNat b => simp [leI, e]
    | negSucc b =>
      simp [leI]
      omega
  | negSucc a => cases y with
    | ofNat b =>
      simp [leI]
      omega
    | negSucc b =>
      simp only [leI, e]
      rw [decide_eq_decide]
      omega
def eqI (x y : Int) : Bool := leI x y && leI y x
theorem eqI_eq (x y : Int) : eqI x y = (x == y) := by
  simp only [eqI, leI_eq]
  by_cases h : x = y
  · subst h; simp
  · rw [beq_eq_false_iff_ne.2 h, Bool.and_eq_false_iff]
    simp only [decide_eq_false_iff_not]
    omega
end Go.Proofs.YtibakihcicfeoaaGreat.Ev
/- The evaluator: operations. Each is made ready once (by its text and the types), then run. No condition. -/
namespace Go.Proofs.YtibakihcicfeoaaGreat.Ev

/-- An operand, made ready. -/
def cX : Operand → FX
  | .tmp t => bif Nat.blt t 1000 then cGet 10 t else ⟨fun _ => none⟩
  | .const v => (match cv v with
    | some a => ⟨fun _ => some a⟩
    | none => ⟨fun _ => none⟩)
  | .func f => ⟨fun _ => some (.fn f [])⟩
  | .global _ => ⟨fun _ => none⟩
def isCst : Operand → Bool
  | .const _ => true
  | _ => false
def eqS : List Nat → List Nat → Bool
  | [], [] => true
  | a :: l, b :: m => bif Nat.beq a b then eqS l m else false
  | _, _ => false
def eqB : Bool → Bool → Bool
  | true, b => b
  | false, b => !b
inductive RA where
  | no
  | ok (v : AV) (h : Hp)
/-- An operation, made ready: pure; one that reads (what becomes of it: 0 one cell, 1 a struct, 2 a string); one that lays a block (cells an element, a slice's length); one that writes; a call; a deferred call. -/
inductive CO where
  | pure (p : Tr AV → Option AV)
  | read (k : Nat) (p : Tr AV → Option (Nat × Nat × Nat))
  | lay (s : Nat) (l : Option Nat) (p : Tr AV → Option (List AV))
  | eff (p : Tr AV → Hp → RA)
  | call (p : Tr AV → Option (Nat × List AV))
  | dfr (p : Tr AV → Option Nat)
  | bad
def un (x : Operand) (f : AV → Option AV) : CO := match cX x with
  | ⟨g⟩ => .pure fun e => (match g e with
    | some v => f v
    | none => none)
def bi (x y : Operand) (f : AV → AV → Option AV) : CO := match cX x, cX y with
  | ⟨g⟩, ⟨g'⟩ => .pure fun e => (match g e with
    | some v => (match g' e with
      | some u => f v u
      | none => none)
    | none => none)

/-! ### Two operands -/
def subZ : Int → Int → Int
  | .ofNat a, .ofNat b => bif Nat.ble b a then .ofNat (Nat.sub a b) else (a : Int) - b
  | x, y => x - y
def mulZ : Int → Int → Int
  | .ofNat a, .ofNat b => .ofNat (Nat.mul a b)
  | x, y => x * y
def numF (j : Nat) (f : Int → Int → Option AV) : AV → AV → Option AV
  | .int a x, .int b y => bif Nat.beq a j then (bif Nat.beq b j then f x y else none) else none
  | _, _ => none
def boolF (j : Nat) (f : Int → Int → Bool) : AV → AV → Option AV
  | .int a x, .int b y => bif Nat.beq a j then (bif Nat.beq b j then some (.bool (f x y)) else none) else none
  | _, _ => none
def arI (k : IntKind) (j lp ln : Nat) (f : Int → Int → Int) (x y : Int) : Option AV := some (.int j (wrapF k lp ln (f x y)))
def andI : Int → Int → Option AV
  | .ofNat a, .ofNat b => bif Nat.blt a 18446744073709551616 && Nat.blt b 18446744073709551616 then some (.int 7 (.ofNat (Nat.land a b))) else none
  | _, _ => none
def neI (x y : Int) : Bool := !eqI x y
def ltI (x y : Int) : Bool := !leI y x
def gtI (x y : Int) : Bool := !leI x y
def geI (x y : Int) : Bool := leI y x
def shrF : AV → AV → Option AV
  | .int 7 (.ofNat a), .int _ (.ofNat b) => bif Nat.blt b 64 then some (.int 7 (.ofNat (Nat.div a (Nat.pow 2 b)))) else none
  | _, _ => none
def catF : AV → AV → Option AV
  | .str s, .str t => bif Nat.blt (s.length + t.length) bigN then some (.str (s ++ t)) else none
  | _, _ => none
/-- Are two values of a type the same? -/
def eqF (cst : Bool) (k : TK) : AV → AV → Option Bool
  | .str s, .str t => some (eqS s t)
  | .ptr _ _, .nilp => (match k with | .ptr => some false | _ => none)
  | .nilp, .nilp => (match k with | .ptr => some true | _ => none)
  | .sl _ _ _ _, .nils => (match k with | .slice _ => some false | _ => none)
  | .nils, .nils => (match k with | .slice _ => some true | _ => none)
  | .fn _ _, .nilf => (match k with | .func => some false | _ => none)
  | .nilf, .nilf => (match k with | .func => some true | _ => none)
  | .bool a, .bool b => (match k with | .bool => some (eqB a b) | _ => none)
  | .nili, .nili => (match k with | .iface => (bif cst then some true else none) | _ => none)
  | _, _ => none
def eqlF (cst : Bool) (k : TK) (a b : AV) : Option AV := match eqF cst k a b with
  | some r => some (.bool r)
  | none => none
def neqF (cst : Bool) (k : TK) (a b : AV) : Option AV := match eqF cst k a b with
  | some r => some (.bool (!r))
  | none => none
def cBinI (k : IntKind) (op : BinOp) (x y : Operand) : CO := match kN k, limP k, limN k with
  | j, lp, ln => (match op with
    | .add => bi x y (numF j (arI k j lp ln addZ))
    | .sub => bi x y (numF j (arI k j lp ln subZ))
    | .mul => bi x y (numF j (arI k j lp ln mulZ))
    | .lss => bi x y (boolF j ltI)
    | .leq => bi x y (boolF j leI)
    | .gtr => bi x y (boolF j gtI)
    | .geq => bi x y (boolF j geI)
    | .eql => bi x y (boolF j eqI)
    | .neq => bi x y (boolF j neI)
    | .and => bi x y (numF 7 andI)
    | .shr => bi x y shrF
    | _ => .bad)
def cBin (G : Cx) (op : BinOp) (t : TypeId) (x y : Operand) : CO := match G.tys.get t with
  | none => .bad
  | some ti => (match ti.k with
    | .int k => cBinI k op x y
    | k => (match op with
      | .add => bi x y catF
      | .eql => bi x y (eqlF (isCst x || isCst y) k)
      | .neq => (match k with
        | .iface => .bad
        | k => bi x y (neqF (isCst x || isCst y) k))
      | _ => .bad))

/-! ### Other pure ones -/
def one : AV → Bool
  | .agg _ => false
  | .tup _ => false
  | _ => true
/-- A value as the cells of a variable of so many cells. -/
def asCells (n : Nat) (v : AV) : Option (List AV) := match v with
  | .agg cs => bif Nat.beq cs.length n && cs.all one then some cs else none
  | .tup _ => none
  | v => bif Nat.beq n 1 then some [v] else none
def fillD (e : Tr AV) : List (Nat × Nat × FX) → List AV → Option (List AV)
  | [], cs => some cs
  | (off, n, x) :: r, cs => match x.get e with
    | none => none
    | some v => match asCells n v with
      | none => none
      | some vs => match wrL cs off vs with
        | none => none
        | some cs' => fillD e r cs'
def cParts (pl : Nat → Option (Nat × Nat)) : List (Nat × Operand) → Option (List (Nat × Nat × FX))
  | [] => some []
  | (i, x) :: r => match pl i with
    | none => none
    | some (off, n) => match cParts pl r with
      | none => none
      | some l => some ((off, n, cX x) :: l)
def repL (z : List AV) : Nat → List AV
  | 0 => []
  | n + 1 => z ++ repL z n
def placeS (G : Cx) (fs : List (Nat × Nat)) (i : Nat) : Option (Nat × Nat) := match nthL fs i with
  | none => none
  | some (t, off) => match G.tys.get t with
    | none => none
    | some ti => some (off, ti.size)
def placeA (n : Nat) (i : Nat) : Option (Nat × Nat) := some (i * n, n)
def aggO (o : Option (List AV)) : Option AV := match o with
  | some cs => some (.agg cs)
  | none => none
def cBuild (G : Cx) (t : TypeId) (parts : List (Nat × Operand)) : CO := match G.tys.get t with
  | none => .bad
  | some ti => (match ti.k with
    | .strct fs => (match cParts (placeS G fs) parts with
      | some l => .pure fun e => aggO (fillD e l ti.zero)
      | none => .bad)
    | .arr _ el => (match G.tys.get el with
      | none => .bad
      | some te => (match cParts (placeA te.size) parts with
        | some l => .pure fun e => aggO (fillD e l ti.zero)
        | none => .bad))
    | _ => .bad)
def natV : AV → Option Nat
  | .int _ (.ofNat n) => some n
  | _ => none
/-- A bound, if it is said. -/
def cBound : Option Operand → Tr AV → Nat → Option Nat
  | none => fun _ d => some d
  | some x => (match cX x with
    | ⟨g⟩ => fun e _ => (match g e with
      | some v => natV v
      | none => none))
def sliS (s : List Nat) (l m : Nat) : Option AV := bif Nat.ble l m && Nat.ble m s.length then (match subL s l (m - l) with
  | some r => some (.str r)
  | none => none) else none
def sliStr (lo hi : Nat → Option Nat) : AV → Option AV
  | .str s => (match lo 0, hi s.length with
    | some l, some m => sliS s l m
    | _, _ => none)
  | _ => none
def sliL (sz : Nat) (lo hi : Nat → Option Nat) : AV → Option AV
  | .sl s i o n => (match lo 0, hi n with
    | some l, some m => bif Nat.beq s sz && (Nat.ble l m && Nat.ble m n) then some (.sl s i (o + l * sz) (m - l)) else none
    | _, _ => none)
  | .nils => (match lo 0, hi 0 with
    | some 0, some 0 => some .nils
    | _, _ => none)
  | _ => none
structure FB where
  get : Tr AV → Nat → Option Nat
def cSlice (G : Cx) (t : TypeId) (x : Operand) (lo hi mx : Option Operand) : CO := match mx with
  | some _ => .bad
  | none => (match G.tys.get t, cX x, (⟨cBound lo⟩ : FB), (⟨cBound hi⟩ : FB) with
    | some ti, ⟨g⟩, ⟨l⟩, ⟨m⟩ => (match ti.k with
      | .str => .pure fun e => (match g e with
        | some v => sliStr (l e) (m e) v
        | none => none)
      | .slice el => (match G.tys.get el with
        | some te => .pure fun e => (match g e with
          | some v => sliL te.size (l e) (m e) v
          | none => none)
        | none => .bad)
      | _ => .bad)
    | none, _, _, _ => .bad)
def partV (agg : Bool) (n : Nat) (cs : List AV) (off : Nat) : Option AV := bif agg then aggO (subL cs off n) else nthL cs off
def addrF (off : Nat) : AV → Option AV
  | .ptr i o => some (.ptr i (o + off))
  | _ => none
def fieldF (agg : Bool) (n off : Nat) : AV → Option AV
  | .agg cs => partV agg n cs off
  | _ => none
def ixSl (sz : Nat) : AV → AV → Option AV
  | .sl _ i o n, .int _ (.ofNat k) => bif Nat.blt k n then some (.ptr i (o + k * sz)) else none
  | _, _ => none
def ixAr (n sz : Nat) : AV → AV → Option AV
  | .ptr i o, .int _ (.ofNat k) => bif Nat.blt k n then some (.ptr i (o + k * sz)) else none
  | _, _ => none
def ixSt : AV → AV → Option AV
  | .str s, .int _ (.ofNat k) => (match nthL s k with
    | some b => some (.int 4 (.ofNat b))
    | none => none)
  | _, _ => none
def ixAg (n sz : Nat) (agg : Bool) : AV → AV → Option AV
  | .agg cs, .int _ (.ofNat k) => bif Nat.blt k n then partV agg sz cs (k * sz) else none
  | _, _ => none
def extF (i : Nat) : AV → Option AV
  | .tup vs => nthL vs i
  | _ => none
def notF : AV → Option AV
  | .bool b => some (.bool (!b))
  | _ => none
def nilF : AV → Option AV
  | .ptr i o => some (.ptr i o)
  | _ => none
def toIntF (k : IntKind) (j lp ln : Nat) : AV → Option AV
  | .int _ n => some (.int j (wrapF k lp ln n))
  | _ => none
def toStrF : AV → Option AV
  | .int _ (.ofNat m) => bif Nat.blt m 128 then some (.str [m]) else none
  | _ => none
def lenS : AV → Option AV
  | .sl _ _ _ n => some (.int 3 (.ofNat n))
  | .nils => some (.int 3 (.ofNat 0))
  | _ => none
def lenT : AV → Option AV
  | .str s => some (.int 3 (.ofNat s.length))
  | _ => none
def capS : AV → Option AV
  | .nils => some (.int 3 (.ofNat 0))
  | _ => none
def minF : AV → AV → Option AV
  | .int k a, .int _ b => some (.int k (bif leI a b then a else b))
  | _, _ => none
def maxF : AV → AV → Option AV
  | .int k a, .int _ b => some (.int k (bif leI b a then a else b))
  | _, _ => none

/-! ### Memory -/
/-- The cells that an operation reads: a block, a place, how many. -/
def rdAt (h : Hp) (i o n : Nat) : Option (List AV) := match h.t.get i with
  | some (.cells cs) => subL cs o n
  | _ => none
def bytesV : List AV → Option (List Nat)
  | [] => some []
  | .int 4 (.ofNat b) :: r => (match bytesV r with
    | some l => bif Nat.blt b 256 then some (b :: l) else none
    | none => none)
  | _ => none
def madeOf (k : Nat) (cs : List AV) : Option AV := match k with
  | 0 => (match cs with
    | [v] => some v
    | _ => none)
  | 1 => some (.agg cs)
  | _ => (match bytesV cs with
    | some l => some (.str l)
    | none => none)
def ptrN (n : Nat) : AV → Option (Nat × Nat × Nat)
  | .ptr i o => some (i, o, n)
  | _ => none
def slN : AV → Option (Nat × Nat × Nat)
  | .sl _ i o n => some (i, o, n)
  | _ => none
def rd (k : Nat) (x : Operand) (f : AV → Option (Nat × Nat × Nat)) : CO := match cX x with
  | ⟨g⟩ => .read k fun e => (match g e with
    | some v => f v
    | none => none)
def newV (s i : Nat) : Option Nat → AV
  | none => .ptr i 0
  | some n => .sl s i 0 n
def lenV : AV → Option Nat
  | .sl _ _ _ n => some n
  | .nils => some 0
  | .str s => some s.length
  | _ => none
def byteV (b : Nat) : AV := .int 4 (.ofNat b)
def isByte (b : Nat) : Bool := Nat.blt b 256
def firstV (h : Hp) (sz : Nat) : AV → Option (List AV)
  | .sl _ i o n => (match n with
    | 0 => some []
    | _ => rdAt h i o (n * sz))
  | .nils => some []
  | _ => none
/-- An append of so many elements. -/
def appV (h : Hp) (sz : Nat) (s : AV) (news : List AV) (n : Nat) : RA := match n with
  | 0 => (match s with
    | .nils => .ok .nils h
    | .sl a i o m => .ok (.sl a i o m) h
    | _ => .no)
  | _ => match s with
    | .nils => .ok (.sl sz h.n 0 n) (h.new (.cells news))
    | .sl s' i o m => (match h.t.get i with
      | some (.cells cs) => (match subL cs o (m * sz) with
        | some olds => bif Nat.beq s' sz && Nat.blt (m + n) 65536 then .ok (.sl sz h.n 0 (m + n)) ((h.set i .dead).new (.cells (olds ++ news))) else .no
        | none => .no)
      | _ => .no)
    | _ => .no
def ef1 (x : Operand) (f : AV → Hp → RA) : CO := match cX x with
  | ⟨g⟩ => .eff fun e h => (match g e with
    | some v => f v h
    | none => .no)
def ef2 (x y : Operand) (f : AV → AV → Hp → RA) : CO := match cX x, cX y with
  | ⟨g⟩, ⟨g'⟩ => .eff fun e h => (match g e with
    | some v => (match g' e with
      | some u => f v u h
      | none => .no)
    | none => .no)
def storeF (n : Nat) (x v : AV) (h : Hp) : RA := match x with
  | .ptr i off => (match asCells n v with
    | some vs => (match h.t.get i with
      | some (.cells cs) => (match wrL cs off vs with
        | some cs' => .ok (.tup []) (h.set i (.cells cs'))
        | none => .no)
      | _ => .no)
    | none => .no)
  | _ => .no
def s2bF (v : AV) (h : Hp) : RA := match v with
  | .str l => bif Nat.blt l.length 65536 && l.all isByte then .ok (.sl 1 h.n 0 l.length) (h.new (.cells (l.map byteV))) else .no
  | _ => .no
def markF (v : AV) (h : Hp) : RA := match v with
  | .sl s i o n => (match h.t.get i with
    | some (.cells _) => (match n with
      | 0 => .no
      | _ => .ok (.sl s i o n) h)
    | _ => .no)
  | _ => .no
def mkslF (sz : Nat) (z : List AV) (l c : AV) (h : Hp) : RA := match natV l, natV c with
  | some ln, some cn => bif Nat.ble ln cn && Nat.blt (cn * sz) 65536 && Nat.blt cn 65536 then .ok (.sl sz h.n 0 ln) (h.new (.cells (repL z cn))) else .no
  | _, _ => .no
def rangeF (v : AV) (h : Hp) : RA := match v with
  | .str s => .ok (.ptr h.n 0) (h.new (.iter s 0))
  | _ => .no
def nextF (v : AV) (h : Hp) : RA := match v with
  | .ptr i 0 => (match h.t.get i with
    | some (.iter s p) => (match nthL s p with
      | none => .ok (.tup [.bool false]) h
      | some b => bif Nat.blt b 128 then .ok (.tup [.bool true, .int 3 (.ofNat p), .int 2 (.ofNat b)]) (h.set i (.iter s (p + 1))) else .no)
    | _ => .no)
  | _ => .no
def appMk (sz : Nat) (z : List AV) (s v : AV) (h : Hp) : RA := match v with
  | .int _ (.ofNat n) => bif Nat.blt n 65536 then appV h sz s (repL z n) n else .no
  | _ => .no
def appSl (sz : Nat) (s v : AV) (h : Hp) : RA := match lenV v with
  | some n => bif Nat.blt n 65536 then (match firstV h sz v with
    | some news => appV h sz s news n
    | none => .no) else .no
  | none => .no
def appSt (s v : AV) (h : Hp) : RA := match v with
  | .str l => bif Nat.blt l.length 65536 && l.all isByte then appV h 1 s (l.map byteV) l.length else .no
  | _ => .no
def copyF (sz : Nat) (d s : AV) (h : Hp) : RA := match d, s with
  | .sl _ i o m, .sl s j p n => (match firstV h sz (.sl s j p (bif Nat.ble n m then n else m)), h.t.get i with
    | some vs, some (.cells cs) => bif Nat.blt 0 m then (match wrL cs o vs with
      | some cs' => .ok (.int 3 (.ofNat (bif Nat.ble n m then n else m))) (h.set i (.cells cs'))
      | none => .no) else .ok (.int 3 (.ofNat 0)) h
    | _, _ => .no)
  | _, _ => .no
def cX1 : List Operand → List FX
  | [] => []
  | x :: r => cX x :: cX1 r
def getsF (e : Tr AV) : List FX → Option (List AV)
  | [] => some []
  | x :: r => match x.get e with
    | none => none
    | some v => match getsF e r with
      | none => none
      | some l => some (v :: l)
def appL : List AV → List AV → List AV
  | [], m => m
  | a :: l, m => a :: appL l m
structure FL where
  l : List FX
def cCall (f : Operand) (args : List Operand) : CO := match cX f, (⟨cX1 args⟩ : FL) with
  | ⟨g⟩, ⟨xs⟩ => .call fun e => (match g e with
    | some (.fn i cap) => (match getsF e xs with
      | some l => some (i, appL l cap)
      | none => none)
    | _ => none)
def cDefer (f : Operand) (args : List Operand) : CO := match cX f, args with
  | ⟨g⟩, [] => .dfr fun e => (match g e with
    | some (.fn i [_]) => some i
    | _ => none)
  | _, _ => .bad
def cBuiltin (G : Cx) (b : Builtin) (args : List Operand) (ts : List TypeId) : CO := match b, args, ts with
  | .len, [x], [t] => (match G.tys.get t with
    | some ti => (match ti.k with
      | .slice _ => un x lenS
      | .str => un x lenT
      | _ => .bad)
    | none => .bad)
  | .cap, [x], [t] => (match G.tys.get t with
    | some ti => (match ti.k with
      | .slice _ => un x capS
      | _ => .bad)
    | none => .bad)
  | .min, [x, y], _ => bi x y minF
  | .max, [x, y], _ => bi x y maxF
  | .append, [x, y], [t, u] => (match G.tys.get t, G.tys.get u with
    | some ti, some tu => (match ti.k with
      | .slice el => (match G.tys.get el with
        | some te => bif Nat.blt 0 te.size && Nat.blt te.bytes 65536 then
            (match tu.k with
            | .int _ => ef2 x y (appMk te.size te.zero)
            | .slice _ => ef2 x y (appSl te.size)
            | .str => (match te.k with
              | .int .u8 => bif Nat.beq te.size 1 then ef2 x y appSt else .bad
              | _ => .bad)
            | _ => .bad)
          else .bad
        | none => .bad)
      | _ => .bad)
    | _, _ => .bad)
  | .copy, [x, y], [t, u] => (match G.tys.get t, G.tys.get u with
    | some ti, some tu => (match ti.k, tu.k with
      | .slice el, .slice _ => (match G.tys.get el with
        | some te => bif Nat.blt 0 te.size then ef2 x y (copyF te.size) else .bad
        | none => .bad)
      | _, _ => .bad)
    | _, _ => .bad)
  | _, _, _ => .bad
def cConv (G : Cx) (s d : TypeId) (x : Operand) : CO := match G.tys.get s, G.tys.get d with
  | some ts, some td => (match ts.k, td.k with
    | .int _, .int k => (match kN k, limP k, limN k with
      | j, lp, ln => un x (toIntF k j lp ln))
    | .int _, .str => un x toStrF
    | .slice el, .str => (match G.tys.get el with
      | some te => (match te.k with
        | .int .u8 => rd 2 x slN
        | _ => .bad)
      | none => .bad)
    | .str, .slice el => (match G.tys.get el with
      | some te => (match te.k with
        | .int .u8 => bif Nat.beq te.size 1 then ef1 x s2bF else .bad
        | _ => .bad)
      | none => .bad)
    | .slice el, .slice _ => (match G.tys.get el with
      | some te => (match te.k with
        | .int .u8 => bif Nat.beq s d then ef1 x markF else .bad
        | _ => .bad)
      | none => .bad)
    | _, _ => .bad)
  | _, _ => .bad
/-- An operation, made ready. -/
def cOp (G : Cx) (o : Op) : CO := match o with
  | .move x => un x some
  | .assign x => un x some
  | .pick c x y => (match cX c, cX x, cX y with
    | ⟨g⟩, ⟨a⟩, ⟨b⟩ => .pure fun e => (match g e with
      | some (.bool t) => bif t then a e else b e
      | _ => none))
  | .build t parts => cBuild G t parts.toList
  | .nilCheck x => un x nilF
  | .binOp op t x y _ => cBin G op t x y
  | .unOp .not _ x => un x notF
  | .convert s d x => cConv G s d x
  | .makeFunc (.func f) ⟨[]⟩ ⟨cap⟩ => (match (⟨cX1 cap⟩ : FL) with
    | ⟨xs⟩ => .pure fun e => (match getsF e xs with
      | some l => some (.fn f l)
      | none => none))
  | .slice t x lo hi mx => cSlice G t x lo hi mx
  | .fieldAddr t x f => (match G.tys.get t with
    | some ti => (match ti.k with
      | .strct fs => (match nthL fs f with
        | some (ft, off) => (match G.tys.get ft with
          | some tf => bif Nat.beq tf.size 0 then .bad else un x (addrF off)
          | none => .bad)
        | none => .bad)
      | _ => .bad)
    | none => .bad)
  | .field t x f => (match G.tys.get t with
    | some ti => (match ti.k with
      | .strct fs => (match nthL fs f with
        | some (ft, off) => (match G.tys.get ft with
          | some tf => un x (fieldF tf.k.isAgg tf.size off)
          | none => .bad)
        | none => .bad)
      | _ => .bad)
    | none => .bad)
  | .indexAddr t x i => (match G.tys.get t with
    | some ti => (match ti.k with
      | .slice el => (match G.tys.get el with
        | some te => bi x i (ixSl te.size)
        | none => .bad)
      | .arr n el => (match G.tys.get el with
        | some te => bi x i (ixAr n te.size)
        | none => .bad)
      | _ => .bad)
    | none => .bad)
  | .index t x i => (match G.tys.get t with
    | some ti => (match ti.k with
      | .str => bi x i ixSt
      | .arr n el => (match G.tys.get el with
        | some te => bi x i (ixAg n te.size te.k.isAgg)
        | none => .bad)
      | _ => .bad)
    | none => .bad)
  | .extract x i => un x (extF i)
  | .load t x => (match G.tys.get t with
    | some ti => bif ti.k.isAgg then rd 1 x (ptrN ti.size) else rd 0 x (ptrN 1)
    | none => .bad)
  | .alloc t => (match G.tys.get t with
    | some ti => .lay ti.size none fun _ => some ti.zero
    | none => .bad)
  | .box t x => (match G.tys.get t, cX x with
    | some ti, ⟨g⟩ => .lay ti.size none fun e => (match g e with
      | some v => asCells ti.size v
      | none => none)
    | none, _ => .bad)
  | .buildSlice t n parts => (match G.tys.get t with
    | some ti => (match ti.k with
      | .slice el => (match G.tys.get el with
        | some te => bif Nat.blt (n * te.size) 65536 && Nat.blt 0 te.size then
            (match cParts (placeA te.size) parts.toList with
            | some l => .lay te.size (some n) fun e => fillD e l (repL te.zero n)
            | none => .bad)
          else .bad
        | none => .bad)
      | _ => .bad)
    | none => .bad)
  | .store t x y => (match G.tys.get t with
    | some ti => ef2 x y (storeF ti.size)
    | none => .bad)
  | .makeSlice t l c => (match G.tys.get t with
    | some ti => (match ti.k with
      | .slice el => (match G.tys.get el with
        | some te => bif Nat.blt 0 te.size && Nat.blt te.bytes 65536 then ef2 l c (mkslF te.size te.zero) else .bad
        | none => .bad)
      | _ => .bad)
    | none => .bad)
  | .range t x => (match G.tys.get t with
    | some ti => (match ti.k with
      | .str => ef1 x rangeF
      | _ => .bad)
    | none => .bad)
  | .next x true => ef1 x nextF
  | .call c => (match c.callee with
    | .value f => cCall f c.args.toList
    | .builtin b => cBuiltin G b c.args.toList c.argTypes.toList
    | _ => .bad)
  | .defer c => (match c.callee with
    | .value f => cDefer f c.args.toList
    | _ => .bad)
  | _ => .bad
abbrev Cl : Type := Nat → List AV → Hp → RA
/-- An operation that is ready, run. -/
def evO (dfr : Nat → Bool) (c : CO) (cl : Cl) (e : Tr AV) (h : Hp) : RA := match c with
  | .pure p => (match p e with
    | some v => .ok v h
    | none => .no)
  | .read k p => (match p e with
    | some (i, off, n) => (match rdAt h i off n with
      | some cs => (match madeOf k cs with
        | some v => .ok v h
        | none => .no)
      | none => .no)
    | none => .no)
  | .lay s l p => (match p e with
    | some cs => .ok (newV s h.n l) (h.new (.cells cs))
    | none => .no)
  | .eff p => p e h
  | .call p => (match p e with
    | some (g, args) => cl g args h
    | none => .no)
  | .dfr p => (match p e with
    | some g => bif dfr g then .ok (.tup []) h else .no
    | none => .no)
  | .bad => .no
end Go.Proofs.YtibakihcicfeoaaGreat.Ev
/- The evaluator: regions, code, calls. No condition. -/
namespace Go.Proofs.YtibakihcicfeoaaGreat.Ev

inductive RO where
  | no
  | ok (e : Tr AV) (h : Hp)
structure FO where
  run : Cl → Tr AV → Hp → RO
/-- Where an operation's value goes (of so many slots). -/
def cPut (n : Nat) : Option Tmp → Option FP
  | none => some ⟨fun e _ => e⟩
  | some d => bif Nat.blt d n then some (cPutT 10 d) else none
/-- Is an operation to be carried out? -/
structure FW where
  want : Tr AV → Option Bool
def wantB (b : Bool) : Option AV → Option Bool
  | some (.bool c) => some (eqB c b)
  | some (.tup _) => some false
  | _ => none
def cWant (all : List Oper) (o : Oper) : FW := match o.guard with
  | none => ⟨fun _ => some true⟩
  | some (j, b) => (match nthL all j with
    | some oj => (match oj.dst with
      | some d => (match cX (.tmp d) with
        | ⟨g⟩ => ⟨fun e => wantB b (g e)⟩)
      | none => ⟨fun _ => none⟩)
    | none => ⟨fun _ => none⟩)
def FO.no : FO := ⟨fun _ _ _ => .no⟩
/-- One operation, then the rest. -/
def stepC (dfr : Nat → Bool) (c : CO) (p : Tr AV → AV → Tr AV) (k : FO) : FO := match c with
  | .pure f => ⟨fun cl e h => (match f e with
    | some v => k.run cl (p e v) h
    | none => .no)⟩
  | .read j f => ⟨fun cl e h => (match f e with
    | some (i, off, n) => (match rdAt h i off n with
      | some cs => (match madeOf j cs with
        | some v => k.run cl (p e v) h
        | none => .no)
      | none => .no)
    | none => .no)⟩
  | .lay s l f => ⟨fun cl e h => (match f e with
    | some cs => k.run cl (p e (newV s h.n l)) (h.new (.cells cs))
    | none => .no)⟩
  | .eff f => ⟨fun cl e h => (match f e h with
    | .ok v h' => k.run cl (p e v) h'
    | .no => .no)⟩
  | .call f => ⟨fun cl e h => (match f e with
    | some (g, args) => (match cl g args h with
      | .ok v h' => k.run cl (p e v) h'
      | .no => .no)
    | none => .no)⟩
  | .dfr f => ⟨fun cl e h => (match f e with
    | some g => bif dfr g then k.run cl (p e (.tup [])) h else .no
    | none => .no)⟩
  | .bad => .no
def guardC (wt : Tr AV → Option Bool) (p : Tr AV → AV → Tr AV) (s k : FO) : FO := ⟨fun cl e h => (match wt e with
    | some true => s.run cl e h
    | some false => k.run cl (p e (.tup [])) h
    | none => .no)⟩
/-- The operations of a region in the order of the text. -/
def cOps (G : Cx) (dfr : Nat → Bool) (n : Nat) (all : List Oper) : List Oper → FO
  | [] => ⟨fun _ e h => .ok e h⟩
  | o :: r => (match cPut n o.dst with
    | none => .no
    | some ⟨p⟩ => (match o.guard with
      | none => stepC dfr (cOp G o.op) p (cOps G dfr n all r)
      | some _ => (match cWant all o with
        | ⟨wt⟩ => guardC wt p (stepC dfr (cOp G o.op) p (cOps G dfr n all r)) (cOps G dfr n all r))))

/-! ### A region whose order is drawn -/
def bindsF : Ground → Bool
  | .textOnly _ => false
  | .gcOnly _ => false
  | _ => true
/-- Which operations are known to come ahead of one (bits of a number), by the masks of those ahead in the text. -/
def maskE (ms : List Nat) (i : Nat) : List Edge → Option Nat
  | [] => some 0
  | e :: r => match maskE ms i r with
    | none => none
    | some m => bif bindsF e.ground then (bif Nat.blt e.on i then (match nthL ms e.on with
        | some p => some (Nat.lor (Nat.lor m p) (Nat.shiftLeft 1 e.on))
        | none => none) else none) else some m
def masksGo : List Oper → Nat → List Nat → List Nat
  | [], _, ms => ms
  | o :: r, i, ms => match maskE ms i o.after.toList with
    | none => []
    | some m => masksGo r (i + 1) (ms ++ [m])
def masks (ops : List Oper) : List Nat := masksGo ops 0 []
def isEffC : CO → Bool
  | .eff _ => true
  | .call _ => true
  | .dfr _ => true
  | .bad => true
  | _ => false
def isEff (G : Cx) (o : Oper) : Bool := isEffC (cOp G o.op)
def effs (G : Cx) : List Oper → Nat → List Nat
  | [], _ => []
  | o :: r, i => bif isEff G o then i :: effs G r (i + 1) else effs G r (i + 1)
/-- How many effects are surely behind / may at most be behind, when the operation i comes up. -/
def loOf (m : Nat) : List Nat → Nat → Nat
  | [], _ => 0
  | e :: r, k => Nat.max (bif Nat.testBit m e then k + 1 else 0) (loOf m r (k + 1))
def hiOf (ms : List Nat) (i : Nat) : List Nat → Nat → Nat
  | [], k => k
  | e :: r, k => (match nthL ms e with
    | some m => bif Nat.testBit m i then k else hiOf ms i r (k + 1)
    | none => k)
/-- What is to hold of a read: what was read, with each count of effects from lo up to hi. -/
inductive Ck where
  | mk (i o n : Nat) (cs : List AV) (lo hi : Nat)
inductive RD where
  | no
  | ok (e : Tr AV) (h : Hp) (bs : List Hp) (ck : List Ck)
structure FD where
  run : Cl → Tr AV → Hp → List Hp → List Ck → RD
def ckOf (c : CO) (lo hi : Nat) (e : Tr AV) (h : Hp) (ck : List Ck) : List Ck := match c with
  | .read _ p => (match p e with
    | some (i, o, n) => (match rdAt h i o n with
      | some cs => .mk i o n cs lo hi :: ck
      | none => ck)
    | none => ck)
  | _ => ck
def pushB (c : CO) (h : Hp) (bs : List Hp) : List Hp := bif isEffC c then h :: bs else bs
structure LH where
  lo : Nat
  hi : Nat
def lhOf (ms es : List Nat) (i : Nat) : LH := match nthL ms i with
  | some m => ⟨loOf m es 0, hiOf ms i es 0⟩
  | none => ⟨0, es.length⟩
def cDr (G : Cx) (dfr : Nat → Bool) (n : Nat) (all : List Oper) (ms es : List Nat) : List Oper → Nat → FD
  | [], _ => ⟨fun _ e h bs ck => .ok e h bs ck⟩
  | o :: r, i => (match cPut n o.dst with
    | none => ⟨fun _ _ _ _ _ => .no⟩
    | some ⟨p⟩ => (match cOp G o.op, cWant all o, lhOf ms es i with
      | c, ⟨wt⟩, ⟨lo, hi⟩ => ⟨fun cl e h bs ck => (match wt e with
        | some true => (match evO dfr c cl e h with
          | .ok v h' => (cDr G dfr n all ms es r (i + 1)).run cl (p e v) h' (pushB c h' bs) (ckOf c lo hi e h ck)
          | .no => .no)
        | some false => (cDr G dfr n all ms es r (i + 1)).run cl (p e (.tup [])) h (pushB c h bs) ck
        | none => .no)⟩))
def eqAV : AV → AV → Bool
  | .int k x, .int j y => Nat.beq k j && eqI x y
  | .bool a, .bool b => eqB a b
  | .str s, .str t => eqS s t
  | .ptr i o, .ptr j p => Nat.beq i j && Nat.beq o p
  | .nilp, .nilp => true
  | .sl s i o n, .sl r j p m => Nat.beq s r && (Nat.beq i j && (Nat.beq o p && Nat.beq n m))
  | .nils, .nils => true
  | .fn f [], .fn g [] => Nat.beq f g
  | .nilf, .nilf => true
  | .nili, .nili => true
  | _, _ => false
def eqAVs : List AV → List AV → Bool
  | [], [] => true
  | a :: l, b :: m => eqAV a b && eqAVs l m
  | _, _ => false
def ckAt (i o n : Nat) (cs : List AV) (lo hi : Nat) : List Hp → Nat → Bool
  | [], _ => true
  | h :: r, k => (bif Nat.ble lo k && Nat.ble k hi then (match rdAt h i o n with
      | some l => eqAVs l cs
      | none => false) else true) && ckAt i o n cs lo hi r (k + 1)
def ckOk (bs : List Hp) : Ck → Bool
  | .mk i o n cs lo hi => ckAt i o n cs lo hi bs 0
def allCk (bs : List Hp) : List Ck → Bool
  | [] => true
  | c :: r => bif ckOk bs c then allCk bs r else false
def revH : List Hp → List Hp → List Hp
  | [], l => l
  | h :: r, l => revH r (h :: l)
def cDraw (G : Cx) (dfr : Nat → Bool) (n : Nat) (ops : List Oper) : FO := match cDr G dfr n ops (masks ops) (effs G ops 0) ops 0 with
  | ⟨d⟩ => ⟨fun cl e h => (match d cl e h [h] [] with
    | .no => .no
    | .ok e' h' bs ck => bif allCk (revH bs []) ck then .ok e' h' else .no)⟩

/-! ### A drawn region that ends with two stores in any order -/
def splitL : List Oper → Option (List Oper × Oper)
  | [] => none
  | o :: r => (match splitL r with
    | none => some ([], o)
    | some (l, y) => some (o :: l, y))
def lastE : List Nat → Option Nat
  | [] => none
  | x :: r => (match lastE r with
    | none => some x
    | some y => some y)
def storeX : Op → Option Operand
  | .store _ x _ => some x
  | _ => none
def isT2 (G : Cx) (ops : List Oper) : Bool := match splitL ops with
  | some (ops0, y) => (match storeX y.op, lastE (effs G ops0 0) with
    | some _, some x => (match nthL (masks ops) ops0.length with
      | some m => (match Nat.testBit m x with
        | true => false
        | false => true)
      | none => false)
    | _, _ => false)
  | none => false
def apartF : Option AV → Option AV → Bool
  | some (.ptr i _), some (.ptr j _) => (match Nat.beq i j with
    | true => false
    | false => true)
  | _, _ => false
def cDraw2 (G : Cx) (dfr : Nat → Bool) (n : Nat) (ops : List Oper) : FO := match splitL ops with
  | some (ops0, y) => (match lastE (effs G ops0 0) with
    | some x => (match nthL ops0 x with
      | some ox => (match storeX ox.op, storeX y.op with
        | some px, some py => (match cDraw G dfr n ops0, cX px, cX py with
          | ⟨d⟩, ⟨gx⟩, ⟨gy⟩ => ⟨fun cl e h => (match d cl e h with
            | .ok e' h' => (match evO dfr (cOp G y.op) cl e' h' with
              | .ok _ h2 => bif apartF (gx e') (gy e') then .ok e' h2 else .no
              | .no => .no)
            | .no => .no)⟩)
        | _, _ => .no)
      | none => .no)
    | none => .no)
  | none => .no

/-! ### Code -/
inductive Xt where
  | nor
  | ret
  | exit (id : Nat)
inductive RE where
  | no
  | ok (x : Xt) (e : Tr AV) (h : Hp)
structure FC where
  run : Cl → Tr AV → Hp → RE
def loopR (f : Tr AV → Hp → RE) : Nat → Tr AV → Hp → RE
  | 0, _, _ => .no
  | n + 1, e, h => (match f e h with
    | .ok .nor e' h' => loopR f n e' h'
    | r => r)
def cCode (G : Cx) (dfr : Nat → Bool) (n : Nat) : Code → FC
  | .skip => ⟨fun _ e h => .ok .nor e h⟩
  | .ret => ⟨fun _ e h => .ok .ret e h⟩
  | .exit id => ⟨fun _ e h => .ok (.exit id) e h⟩
  | .region _ ops draw => (match (bif draw then (bif isT2 G ops.toList then cDraw2 G dfr n ops.toList else cDraw G dfr n ops.toList) else cOps G dfr n ops.toList ops.toList) with
    | ⟨f⟩ => ⟨fun cl e h => (match f cl e h with
      | .ok e' h' => .ok .nor e' h'
      | .no => .no)⟩)
  | .seq a b => ⟨fun cl e h => (match (cCode G dfr n a).run cl e h with
    | .ok .nor e' h' => (cCode G dfr n b).run cl e' h'
    | r => r)⟩
  | .cond x a b => (match cX x with
    | ⟨g⟩ => ⟨fun cl e h => (match g e with
      | some (.bool t) => bif t then (cCode G dfr n a).run cl e h else (cCode G dfr n b).run cl e h
      | _ => .no)⟩)
  | .block id b => ⟨fun cl e h => (match (cCode G dfr n b).run cl e h with
    | .ok (.exit i) e' h' => bif Nat.beq i id then .ok .nor e' h' else .ok (.exit i) e' h'
    | r => r)⟩
  | .loop b => ⟨fun cl e h => loopR (fun e h => (cCode G dfr n b).run cl e h) 100000 e h⟩
  | _ => ⟨fun _ _ _ => .no⟩
def argsE : List AV → Nat → Tr AV → Tr AV
  | [], _, t => t
  | v :: r, i, t => argsE r (i + 1) ((cPutT 10 i).put t v)
structure FR where
  get : Tr AV → Hp → Option AV
def cRes (G : Cx) : ResultVar → FR
  | .tmp t => (match cX (.tmp t) with
    | ⟨g⟩ => ⟨fun e _ => g e⟩)
  | .cell a t => (match G.tys.get t, cX (.tmp a) with
    | some ti, ⟨g⟩ => ⟨fun e h => (match g e with
      | some (.ptr i o) => (match rdAt h i o ti.size with
        | some cs => bif ti.k.isAgg then some (.agg cs) else madeOf 0 cs
        | none => none)
      | _ => none)⟩
    | none, _ => ⟨fun _ _ => none⟩)
def cResL (G : Cx) : List ResultVar → List FR
  | [] => []
  | r :: l => cRes G r :: cResL G l
def getsR (e : Tr AV) (h : Hp) : List FR → Option (List AV)
  | [] => some []
  | x :: r => match x.get e h with
    | none => none
    | some v => match getsR e h r with
      | none => none
      | some l => some (v :: l)
def resV (l : List FR) (e : Tr AV) (h : Hp) : RA := match getsR e h l with
  | some [v] => .ok v h
  | some vs => .ok (.tup vs) h
  | none => .no
/-- A function, made ready. -/
structure FF where
  run : Cl → List AV → Hp → RA
def cFn (G : Cx) (dfr : Nat → Bool) (g : Nat) : FF := match G.orc g with
  | some f => ⟨fun _ args h => (match f args h with
    | some (v, h') => .ok v h'
    | none => .no)⟩
  | none => (match G.fns.get g with
    | none => ⟨fun _ _ _ => .no⟩
    | some F => (match F.body with
      | none => ⟨fun _ _ _ => .no⟩
      | some c => (match F.ntmps with
        | n => bif Nat.blt n 1000 then (match cCode G dfr n c, cResL G F.results.toList with
          | ⟨f⟩, rs => ⟨fun cl args h => bif Nat.ble args.length n then (match f cl (argsE args 0 .nil) h with
            | .ok .ret e h' => resV rs e h'
            | .ok .nor e h' => resV rs e h'
            | _ => .no) else .no⟩) else ⟨fun _ _ _ => .no⟩)))
/-- A call, with so many calls within one another. -/
def evF (G : Cx) (dfr : Nat → Bool) : Nat → Cl
  | 0, _, _, _ => .no
  | d + 1, g, args, h => (cFn G dfr g).run (evF G dfr d) args h
end Go.Proofs.YtibakihcicfeoaaGreat.Ev
