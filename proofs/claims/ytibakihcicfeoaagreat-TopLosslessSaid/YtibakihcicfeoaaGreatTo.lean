/- The walk of lex.Tokens. No condition. -/
import Derived.Test.YtibakihcicfeoaaGreatTn
import Derived.Maps.AppendAt
namespace Go.Proofs.YtibakihcicfeoaaGreat
open Go.RowKit

abbrev Tk := Int × Nat × Bool
/-- Where tokens that lie one behind the other end. -/
def endOf : Nat → List Tk → Nat
  | at_, [] => at_
  | _, t :: ts => endOf t.2.1 ts
/-- Tokens of runes, one behind the other. -/
def Val (l : List Int) : Nat → List Tk → Prop
  | _, [] => True
  | at_, t :: ts => at_ < t.2.1 ∧ t.2.1 ≤ l.length ∧ (∀ u, nxL l at_ = some u → t = u) ∧ Val l t.2.1 ts
def tkV (at_ : Nat) (t : Tk) : List Value := [.int .i64 t.1, .int .i64 (at_ : Nat), .int .i64 (t.2.1 : Nat), .bool t.2.2]
def trow : Nat → List Tk → List Value
  | _, [] => []
  | at_, t :: ts => tkV at_ t ++ trow t.2.1 ts
theorem endOf_snoc : ∀ (ts : List Tk) (at_ : Nat) (t : Tk), endOf at_ (ts ++ [t]) = t.2.1
  | [], _, _ => rfl
  | s :: ts, _, t => endOf_snoc ts s.2.1 t
theorem trow_snoc : ∀ (ts : List Tk) (at_ : Nat) (t : Tk), trow at_ (ts ++ [t]) = trow at_ ts ++ tkV (endOf at_ ts) t
  | [], at_, t => by simp [trow, endOf]
  | s :: ts, at_, t => by
    show tkV at_ s ++ trow s.2.1 (ts ++ [t]) = _
    rw [trow_snoc ts s.2.1 t, ← List.append_assoc]
    rfl
theorem trow_len : ∀ (ts : List Tk) (at_ : Nat), (trow at_ ts).length = ts.length * 4
  | [], _ => rfl
  | s :: ts, at_ => by
    show (tkV at_ s ++ trow s.2.1 ts).length = _
    rw [List.length_append, trow_len ts, List.length_cons, show (tkV at_ s).length = 4 from rfl]
    omega
theorem Val.snoc {l : List Int} : ∀ {ts : List Tk} {at_ : Nat} {t : Tk}, Val l at_ ts → endOf at_ ts < t.2.1 → t.2.1 ≤ l.length → (∀ u, nxL l (endOf at_ ts) = some u → t = u) → Val l at_ (ts ++ [t])
  | [], _, _, _, h1, h2, h3 => ⟨h1, h2, h3, trivial⟩
  | _ :: _, _, _, hv, h1, h2, h3 => ⟨hv.1, hv.2.1, hv.2.2.1, Val.snoc hv.2.2.2 h1 h2 h3⟩
theorem Val.len {l : List Int} : ∀ {ts : List Tk} {at_ : Nat}, Val l at_ ts → at_ + ts.length ≤ endOf at_ ts ∧ (at_ ≤ l.length → endOf at_ ts ≤ l.length)
  | [], _, _ => ⟨by simp [endOf], fun h => h⟩
  | s :: ts, at_, hv => by
    have := Val.len hv.2.2.2
    have h1 := hv.1
    exact ⟨by rw [List.length_cons]; show _ ≤ endOf s.2.1 ts; omega, fun _ => this.2 hv.2.1⟩
theorem st84 : ST Tryz.prog 84 87 4 32 := ST.mk' (z := .agg #[.int .i64 0, .int .i64 0, .int .i64 0, .bool false]) Tryz.underlying84 (by kernel_rfl) rfl (by decide)
/-- As wpList_pushG, and where the new slice lies. -/
theorem wpList_pushA {P : Program} {ops : Array Oper} {rest : List Oper} {o : Oper} {a : Act} {Q : Exit → Act → World → Prop} {t e : TypeId} {sz bytes : Nat} (T : ST P t e sz bytes) (hgd : o.guard = none) (s x : Operand)
    (ho : o.op = .call { callee := .builtin .append, args := #[s, x], argTypes := #[t, t] })
    {B : Nat} {W0 : World} (v : Value) {n : Nat} {xs : List Value} (hs : a.eval s = v) (hown : W0.ownsRow B e sz v n xs)
    (cs : List Value) (g : Nat) (hx : a.eval x = .slice (some ⟨g, 0, none⟩) 1 1) (hg : g = W0.heap.size) (hl : cs.length = sz) (h1 : ∀ u ∈ cs, u.oneCell' = true)
    (hn : n + 1 ≤ 1048576) (hby : bytes ≤ 1048576) (hB : B ≤ W0.heap.size)
    (h : ∀ v' w', w'.ownsRow B e sz v' (n + 1) (xs ++ cs) → W0.grownBy w' v.ownBlock → (v'.ownBlock = v.ownBlock ∨ ∃ g', v'.ownBlock = some g' ∧ W0.heap.size ≤ g') → wpList P ops Q rest (a.put o.dst v') w') :
    wpList P ops Q (o :: rest) a (W0.alloc (.cells cs.toArray e)) := by
  obtain ⟨i, z, hi, hz0, hz1, hz2, hz3⟩ := T.ex
  refine wpList_append_own_at _ hgd s x t ho B e i z sz bytes T.ht hi hz0 hz1 hz2 hz3 T.pos v n xs hs (hown.alloc _) ⟨g, 0, none⟩ 1 1 cs hx (by omega) (cells_at W0 g cs e hg) h1 (by unfold maxLen; omega) ?_ (by simp; omega) ?_
  · have : (n + 1) * bytes ≤ 1048576 * 1048576 := Nat.mul_le_mul hn hby
    omega
  · intro v' w' ho' hgr _ hat
    refine h v' w' ho' ((World.grownBy_alloc W0 _ _).trans hgr) (hat.imp id fun e => ⟨_, e, by simp⟩)
def slen : Value → Nat
  | .slice _ n _ => n
  | _ => 0
theorem tkV_one (at_ : Nat) (t : Tk) : ∀ u ∈ tkV at_ t, u.oneCell' = true := by
  intro u hu
  simp only [tkV, List.mem_cons, List.not_mem_nil, or_false] at hu
  rcases hu with rfl | rfl | rfl | rfl <;> rfl
/-- The tokens. -/
def ToksSaid (l : List Int) (w : World) (e : Ending) (w' : World) : Prop := ∃ A c ts, e = .returned (.slice A ts.length c) ∧ w'.ownsRow w.heap.size 87 4 (.slice A ts.length c) ts.length (trow 0 ts) ∧ Val l 0 ts ∧ endOf 0 ts = l.length ∧ Below w.heap.size w w'
theorem nextAny {w : World} (A : Option Addr) (n c : Nat) (l : List Int) (at_ : Nat) (h : Rd w w.heap.size 1 A n c (ints .i32 l)) (hn : n ≤ 65536) :
    Calls Tryz.prog 53 #[.slice A n c, .int .i64 (at_ : Nat)] w fun e w' => ∃ (k : Int) (a te : Nat) (wh ok : Bool), e = .returned (.tuple #[.agg (tk k (a : Nat) (te : Nat) wh), .bool ok]) ∧ (ok = true → a = at_ ∧ at_ < te ∧ te ≤ n ∧ (∀ u, nxL l at_ = some u → (k, te, wh) = u)) ∧ (ok = false → n ≤ at_) ∧ Below w.heap.size w w' := by
  by_cases hat : at_ < n
  · refine (next53 A n c l at_ h hn hat).mono ?_
    rintro e w' ⟨⟨k, te, wh⟩, rfl, g1, g2, g3, b⟩
    exact ⟨k, at_, te, wh, true, rfl, fun _ => ⟨rfl, g1, g2, g3⟩, (fun h => by cases h), b⟩
  · refine (next53_out A n c at_ (by omega)).mono ?_
    rintro e w' ⟨rfl, b⟩
    exact ⟨0, 0, 0, false, false, rfl, (fun h => by cases h), (fun _ => by omega), b⟩
set_option maxRecDepth 100000 in
set_option maxHeartbeats 8000000 in
theorem tokens32 {w : World} (A : Option Addr) (n c : Nat) (l : List Int) (h : Rd w w.heap.size 1 A n c (ints .i32 l)) (hn : n ≤ 65536) :
    Calls Tryz.prog 32 #[.slice A n c] w (ToksSaid l w) := by
  have HL := Lib.hid h.int_len
  have CN := Lib.hid (fun (W : World) (hW : Below w.heap.size w W) (k : Nat) => nextAny A n c l k (h.on hW) hn)
  have C0 := CN.out w (Below.refl _ _) 0
  unfold ToksSaid
  clear h
  go_enter Tryz.func32, Tryz.ntmps32
  go_wp2_with (first
    | (go_at_call 53; refine C0.mono ?_; rintro e w1 ⟨k0, a0, te0, wh0, ok0, rfl, s0, s1, b1⟩; have hR := tok_new w1; have S0 := Lib.hid s0; have S1 := Lib.hid s1; have B1 := Lib.hid b1; clear C0 s0 s1 b1)
    | (refine tok_put rfl _ _ rfl w1.heap.size k0 (a0 : Nat) (te0 : Nat) wh0 rfl rfl hR ?_; intro w2 hR2 hg2; have b2 := B1.out.trans ((Below.put ((Below.refl w1.heap.size w1).alloc (Nat.le_refl _) _) (Nat.le_refl _) hg2 (by simp)).mono B1.out.size); have HB2 := Lib.hid b2; have HR2 := Lib.hid hR2; clear hR hR2 hg2 b2))
  go_loopw [3, 4, 5] (fun out p b wr => ∃ (ts : List Tk) (g : Nat) (k : Int) (a te : Nat) (wh ok : Bool), p = .pointer (some ⟨g, 0, none⟩) ∧ b = .bool ok ∧ Hid (wr.ownsRow w.heap.size 87 4 out ts.length (trow 0 ts)) ∧ Hid (Val l 0 ts) ∧ Hid (ok = true → a = endOf 0 ts ∧ endOf 0 ts < te ∧ te ≤ n ∧ (∀ u, nxL l (endOf 0 ts) = some u → (k, te, wh) = u)) ∧ Hid (ok = false → n ≤ endOf 0 ts) ∧ Hid (wr.heap[g]? = some (.cells (tk k (a : Nat) (te : Nat) wh) 87 (0, 0))) ∧ Hid (some g ≠ out.ownBlock ∧ w.heap.size ≤ g) ∧ Below w.heap.size w wr)
    (fun out _ _ _ => n - slen out)
  case atStart => exact ⟨[], w1.heap.size, k0, a0, te0, wh0, ok0, rfl, rfl, Lib.hid (World.ownsRow_nil _ _ _ _), Lib.hid trivial, S0, S1, HR2, Lib.hid ⟨by simp [Value.ownBlock], B1.out.size⟩, HB2.out⟩
  case round =>
    obtain ⟨ts, g, k, a, te, wh, ok, rfl, rfl, HO, HV, H1, H2, HG, HF, hb⟩ := hrel
    obtain ⟨A5, c5, rfl, -⟩ := own_form HO.out
    have hsz := hb.size
    cases ok with
    | false =>
      have HE := Lib.hid (show endOf 0 ts = l.length by
        have h1 := H2.out rfl
        have h2 := HV.out.len.2 (Nat.zero_le _)
        have h3 := HL.out
        omega)
      go_wp2_with fail
      go_ret
      exact ⟨A5, c5, ts, rfl, HO.out, HV.out, HE.out, hb⟩
    | true =>
      obtain ⟨rfl, q1, q2, q3⟩ := H1.out rfl
      have hlen := HV.out.len.1
      have hV2 := Lib.hid (HV.out.snoc q1 (by rw [HL.out]; exact q2) q3)
      have z0 := (cells4 HG.out).1
      have z1 := (cells4 HG.out).2.1
      have z2 := (cells4 HG.out).2.2.1
      have z3 := (cells4 HG.out).2.2.2
      have HTR := Lib.hid (trow_snoc ts 0 (k, te, wh))
      have HEN := Lib.hid (endOf_snoc ts 0 (k, te, wh))
      have htl : ts.length + 1 ≤ n := by omega
      generalize endOf 0 ts = at_ at *
      clear q3 H1 H2
      go_wp2_with (first
        | (at_builtin; go_loud (refine wpList_pushA st84 rfl _ _ rfl _ rfl HO.out (tkV at_ (k, te, wh)) _ rfl rfl rfl (tkV_one _ _) (by omega) (by omega) hsz ?_); intro v5 w5 ho5 hg5 hat5; obtain ⟨A9, c9, rfl, -⟩ := own_form ho5; rw [← HTR.out] at ho5; have HO5 := Lib.hid ho5; have hgw := (Array.getElem?_eq_some_iff.1 HG.out).1; have HG5 := Lib.hid ((hg5.block g hgw HF.out.1).trans HG.out); have hF5 : some g ≠ (Value.slice A9 (ts.length + 1) c9).ownBlock := (by intro e; rcases hat5 with h | ⟨g', h, h'⟩; exact HF.out.1 (e.trans h); rw [h] at e; injection e with e; omega); have hb5 := hb.grown hg5 hsz (fun k hk => (HO.out.lt k hk).1); have hs5 := hb5.size; have z0 := (cells4 HG5.out).1; have z1 := (cells4 HG5.out).2.1; have z2 := (cells4 HG5.out).2.2.1; have z3 := (cells4 HG5.out).2.2.2; clear ho5 hg5 hat5 hF5 HG HO)
        | (go_at_call 53; go_loud (refine (CN.out _ (hb5.alloc hs5 _) te).mono ?_; rintro e w6 ⟨k6, a6, te6, wh6, ok6, rfl, s6, s7, b6⟩; have hR := kept_at b6 (heap_alloc_new w5 _); have S6 := Lib.hid s6; have S7 := Lib.hid s7; have HO6 := Lib.hid (own_below HO5.out (((Below.refl w5.heap.size w5).alloc (Nat.le_refl _) _).trans (b6.mono (by simp)))); have B6 := Lib.hid ((hb5.alloc hs5 _).trans (b6.mono (by simp; omega))); have hne : (Value.slice A9 (ts.length + 1) c9).ownBlock ≠ some w5.heap.size := (by intro e; have := (HO5.out.lt _ e).2; omega); have HNE := Lib.hid hne; clear s6 s7 b6 z0 z1 z2 z3 HG5 HO5 hne))
        | (refine tok_put rfl _ _ rfl w5.heap.size k6 (a6 : Nat) (te6 : Nat) wh6 rfl rfl hR ?_; intro w7 hR7 hg7; have HG7 := Lib.hid hR7; have HO7 := Lib.hid (HO6.out.kept hg7 (Or.inr HNE.out)); have B7 := Lib.hid (Below.put B6.out hs5 hg7 B6.out.size); clear hR hR7 hg7))
      go_roundw
      case rel =>
        refine ⟨ts ++ [(k, te, wh)], w5.heap.size, k6, a6, te6, wh6, ok6, rfl, rfl, by simpa using HO7, hV2, ?_, ?_, HG7, Lib.hid ⟨fun e => HNE.out e.symm, hs5⟩, B7.out⟩
        · rw [HEN.out]; exact S6
        · rw [HEN.out]; exact S7
      case measure => show n - (ts.length + 1) < n - ts.length; omega
end Go.Proofs.YtibakihcicfeoaaGreat
/- The walk of tag.value. No condition. -/
namespace Go.Proofs.YtibakihcicfeoaaGreat
open Go.RowKit

/-- How many runes a value has that begins a row. -/
def vaL (l : List Int) : Nat := if gz l 0 = 34 ∨ gz l 0 = 39 then (if (qtL l 0).2 = true then (qtL l 0).1 else 0) else 0
theorem vaL_le (l : List Int) (h : 0 < l.length) : vaL l ≤ l.length := by
  have := qtL_le l 0 h
  unfold vaL
  split
  · split <;> omega
  · omega
set_option maxRecDepth 100000 in
set_option maxHeartbeats 2000000 in
theorem value217 {w : World} (A : Option Addr) (n c : Nat) (l : List Int) (h : Rd w w.heap.size 1 A n c (ints .i32 l)) (hn : n ≤ 65536) (hat : 0 < n) :
    Calls Tryz.prog 217 #[.slice A n c] w fun e w' => e = .returned (.int .i64 (vaL l : Nat)) ∧ Below w.heap.size w w' := by
  have HL := Lib.hid h.int_len
  obtain ⟨b, off, rfl, hbb, hc⟩ := h.int_form (by omega)
  have HC := Lib.hid hc
  have x0 : w.cell? ⟨b, off, none⟩ = some (.int .i32 (gz l 0)) := hc 0 hat
  obtain ⟨z0, hz0⟩ : ∃ z0, gz l 0 = z0 := ⟨_, rfl⟩
  have HZ0 := Lib.hid hz0
  rw [hz0] at x0
  clear h hc hz0
  by_cases hq : z0 = 34 ∨ z0 = 39
  · have HV := Lib.hid (show vaL l = if (qtL l 0).2 = true then (qtL l 0).1 else 0 by unfold vaL; rw [HZ0.out, if_pos hq])
    rcases hq with e | e
    all_goals
      subst e
      go_enter Tryz.func217, Tryz.ntmps217
      go_wp2_with fail
      go_loopw [3] (fun i wr => ∃ k : Nat, 1 + k ≤ n ∧ i = .int .i64 ((1 + k : Nat) : Int) ∧ Hid (∀ j, j < k → (gz l (0 + 1 + j) != gz l 0) = true) ∧ ∃ q, wr = w.drewN q)
        (fun i _ => n - (intOf i).toNat)
      case atStart => exact ⟨0, by omega, rfl, Lib.hid (fun j hj => absurd hj (by omega)), 0, rfl⟩
      case round =>
        obtain ⟨k, hk, rfl, HA, q, rfl⟩ := hrel
        obtain ⟨m, hm⟩ : ∃ m, 1 + k = m := ⟨_, rfl⟩
        have HM := Lib.hid hm
        rw [hm] at hk
        by_cases hlt : m < n
        · have x1 := HC.out m hlt
          obtain ⟨z, hz⟩ : ∃ z, gz l m = z := ⟨_, rfl⟩
          have HZ := Lib.hid hz
          rw [hz] at x1
          rw [hm]
          have u1 : IntKind.i64.wrap ((m : Int) + 1) = (m : Int) + 1 := IntWalk.i64_in _ (by omega)
          by_cases hzz : z = gz l 0
          · have HE := Lib.hid (show vaL l = m + 1 by
              have hr := runL_at (p := fun r => r != gz l 0) (l := l) (f := 0 + 1) (k := k) (by rw [HL.out]; omega) HA.out (.inr (by rw [show 0 + 1 + k = m by omega, HZ.out, hzz]; simp))
              rw [HV.out]
              unfold qtL
              rw [hr, HL.out, show 0 + 1 + k = m by omega, if_pos hlt]
              rfl)
            rw [HZ0.out] at hzz
            subst hzz
            clear hz hm
            go_wp2_with fail
            go_quiet (fail)
            go_wp2_with fail
            go_ret
            exact ⟨by rw [HE.out]; simp, Below.drewN_ (Below.refl _ _) _⟩
          · have HN := Lib.hid hzz
            rw [HZ0.out] at hzz
            have t1 : (z == _) = false := beq_eq_false_iff_ne.2 hzz
            clear hz hm
            go_wp2_with fail
            go_quiet (fail)
            go_wp2_with fail
            go_roundw
            case rel => exact ⟨k + 1, by rw [← Nat.add_assoc, HM.out]; omega, by rw [← Nat.add_assoc, HM.out]; go_num, Lib.hid (fun j hj => by
              rcases Nat.lt_or_eq_of_le (Nat.le_of_lt_succ hj) with h | rfl
              · exact HA.out j h
              · rw [show 0 + 1 + j = m by have := HM.out; omega, HZ.out]; simpa using HN.out), _, rfl⟩
            case measure => simp [intOf]; omega
        · obtain rfl : m = n := by omega
          have HE := Lib.hid (show vaL l = 0 by
            have hr := runL_at (p := fun r => r != gz l 0) (l := l) (f := 0 + 1) (k := k) (by rw [HL.out]; omega) HA.out (.inl (by rw [HL.out]; omega))
            rw [HV.out]
            unfold qtL
            rw [hr, HL.out, if_neg (show ¬ 0 + 1 + k < m by omega)]
            simp)
          rw [hm]
          clear hm
          go_wp2_with fail
          go_ret
          exact ⟨by rw [HE.out]; rfl, Below.drewN_ (Below.refl _ _) _⟩
  · have HV := Lib.hid (show vaL l = 0 by unfold vaL; rw [HZ0.out, if_neg hq])
    have t1 : (z0 != 34) = true := by simp; omega
    have t2 : (z0 != 39) = true := by simp; omega
    clear hq
    go_enter Tryz.func217, Tryz.ntmps217
    go_wp2_with fail
    go_ret
    exact ⟨by rw [HV.out]; rfl, Below.refl _ _⟩
end Go.Proofs.YtibakihcicfeoaaGreat
/- The walk of tag.piece. No condition. -/
namespace Go.Proofs.YtibakihcicfeoaaGreat
open Go.RowKit

/-- The part at the beginning of runes, and its length, by what was found. -/
def piV (l : List Int) (first : Bool) (r k v : Nat) : Int × Nat :=
  if (first && stL l 0 [60, 47]) = true then (1, 2) else
  if (first && gz l 0 == 60) = true then (1, 1) else
  if 0 < r then (3, r) else
  if 0 < k then (2, k) else
  if gz l 0 = 61 then (4, 1) else
  if 0 < v then (5, v) else
  if (l.length = 2 ∧ stL l 0 [47, 62] = true) ∨ (l.length = 1 ∧ gz l 0 = 62) then (6, l.length) else (7, 1)
def piL (l : List Int) (first : Bool) : Int × Nat := piV l first (runL spP l 0) (leadL l 0) (vaL l)
theorem stL_len {l : List Int} {s : List Int} (h : stL l 0 s = true) : s.length ≤ l.length := by
  unfold stL at h
  simp at h
  omega
theorem piL_le (l : List Int) (first : Bool) (h : 0 < l.length) : 0 < (piL l first).2 ∧ (piL l first).2 ≤ l.length := by
  have h1 := runL_le spP l 0
  have h2 := leadL_le l 0
  have h3 := vaL_le l h
  unfold piL piV
  split
  · next hs =>
    have := stL_len (l := l) (s := [60, 47]) (by simp at hs; exact hs.2)
    exact ⟨by decide, this⟩
  all_goals (repeat' split) <;> simp only <;> omega
set_option maxRecDepth 100000 in
set_option maxHeartbeats 8000000 in
theorem piece161 {w : World} (A : Option Addr) (n c : Nat) (l : List Int) (first : Bool) (h : Rd w w.heap.size 1 A n c (ints .i32 l)) (hn : n ≤ 65536) (hat : 0 < n) :
    Calls Tryz.prog 161 #[.slice A n c, .bool first] w fun e w' => e = .returned (.tuple #[.int .i64 (piL l first).1, .int .i64 ((piL l first).2 : Nat)]) ∧ Below w.heap.size w w' := by
  have hl := h.int_len
  have HR := Lib.hid h
  obtain ⟨b, off, rfl, hbb, hc⟩ := h.int_form (by omega)
  have x0 : w.cell? ⟨b, off, none⟩ = some (.int .i32 (gz l 0)) := hc 0 hat
  have HX := Lib.hid (fun (W : World) (hW : Below w.heap.size w W) => (hW.cell (p := ⟨b, off, none⟩) hbb).trans x0)
  have C103 := Lib.hid (fun (W : World) (hW : Below w.heap.size w W) => run103 216 spP enters216 (fun r W => space216 r W) _ n c l 0 (HR.out.on hW) (by omega) hn)
  have C156 := Lib.hid (fun (W : World) (hW : Below w.heap.size w W) => lead156 _ n c l 0 (HR.out.on hW) hn (by omega))
  have C217 := Lib.hid (fun (W : World) (hW : Below w.heap.size w W) => value217 _ n c l (HR.out.on hW) hn hat)
  have S1 := Lib.hid (fun (W : World) (hW : Below w.heap.size w W) => starts152 _ n c l 0 ⟨#[60, 47]⟩ (HR.out.on hW) hn (by omega) (by decide) (by decide))
  have S2 := Lib.hid (fun (W : World) (hW : Below w.heap.size w W) => starts152 _ n c l 0 ⟨#[47, 62]⟩ (HR.out.on hW) hn (by omega) (by decide) (by decide))
  have HP := Lib.hid (show piL l first = piV l first (runL spP l 0) (leadL l 0) (vaL l) from rfl)
  generalize runL spP l 0 = r at *
  generalize leadL l 0 = k at *
  generalize vaL l = v at *
  generalize hp : piL l first = p at *
  clear hp h hc x0
  unfold piV at HP
  change Hid (∀ W, Below w.heap.size w W → Calls Tryz.prog 152 #[.slice (some ⟨b, off, none⟩) n c, .int .i64 ((0 : Nat) : Int), .string ⟨#[60, 47]⟩] W fun e w' => e = .returned (.bool (stL l 0 [60, 47])) ∧ Below W.heap.size W w') at S1
  change Hid (∀ W, Below w.heap.size w W → Calls Tryz.prog 152 #[.slice (some ⟨b, off, none⟩) n c, .int .i64 ((0 : Nat) : Int), .string ⟨#[47, 62]⟩] W fun e w' => e = .returned (.bool (stL l 0 [47, 62])) ∧ Below W.heap.size W w') at S2
  rw [hl] at HP
  generalize stL l 0 [60, 47] = s1 at *
  generalize stL l 0 [47, 62] = s2 at *
  generalize gz l 0 = z at *
  have B := Lib.hid (Below.refl w.heap.size w)
  cases first with
  | true =>
    cases s1 with
    | true =>
      have HE := Lib.hid (show p = (1, 2) by rw [HP.out]; simp)
      clear HP
      go_enter Tryz.func161, Tryz.ntmps161
      go_wp2_with (first
        | (go_at_call 103; refine (C103.out _ B.out).mono ?_; rintro e w1 ⟨rfl, b1⟩; have B := Lib.hid (B.out.trans (b1.mono B.out.size)); have x0 := HX.out _ B.out; clear b1)
        | (go_at_call 156; refine (C156.out _ B.out).mono ?_; rintro e w1 ⟨rfl, b1⟩; have B := Lib.hid (B.out.trans (b1.mono B.out.size)); have x0 := HX.out _ B.out; clear b1)
        | (go_at_call 217; refine (C217.out _ B.out).mono ?_; rintro e w1 ⟨rfl, b1⟩; have B := Lib.hid (B.out.trans (b1.mono B.out.size)); have x0 := HX.out _ B.out; clear b1)
        | (go_at_call 152; (first | (refine (S1.out _ B.out).mono ?_; clear S1) | refine (S2.out _ B.out).mono ?_); rintro e w1 ⟨rfl, b1⟩; have B := Lib.hid (B.out.trans (b1.mono B.out.size)); have x0 := HX.out _ B.out; clear b1))
      go_ret2
      exact ⟨by rw [HE.out]; rfl, B.out⟩
    | false =>
      by_cases h60 : z = 60
      · subst h60
        have HE := Lib.hid (show p = (1, 1) by rw [HP.out]; simp)
        clear HP
        go_enter Tryz.func161, Tryz.ntmps161
        go_wp2_with (first
          | (go_at_call 103; refine (C103.out _ B.out).mono ?_; rintro e w1 ⟨rfl, b1⟩; have B := Lib.hid (B.out.trans (b1.mono B.out.size)); have x0 := HX.out _ B.out; clear b1)
          | (go_at_call 156; refine (C156.out _ B.out).mono ?_; rintro e w1 ⟨rfl, b1⟩; have B := Lib.hid (B.out.trans (b1.mono B.out.size)); have x0 := HX.out _ B.out; clear b1)
          | (go_at_call 217; refine (C217.out _ B.out).mono ?_; rintro e w1 ⟨rfl, b1⟩; have B := Lib.hid (B.out.trans (b1.mono B.out.size)); have x0 := HX.out _ B.out; clear b1)
          | (go_at_call 152; (first | (refine (S1.out _ B.out).mono ?_; clear S1) | refine (S2.out _ B.out).mono ?_); rintro e w1 ⟨rfl, b1⟩; have B := Lib.hid (B.out.trans (b1.mono B.out.size)); have x0 := HX.out _ B.out; clear b1))
        go_ret2
        exact ⟨by rw [HE.out]; rfl, B.out⟩
      · have t60 : (z == 60) = false := by simpa using h60
        by_cases hr : 0 < r
        · have q1 : decide (0 < r) = true := by simpa using hr
          have HE := Lib.hid (show p = (3, r) by rw [HP.out]; simp [t60, hr])
          clear HP
          go_enter Tryz.func161, Tryz.ntmps161
          go_wp2_with (first
            | (go_at_call 103; refine (C103.out _ B.out).mono ?_; rintro e w1 ⟨rfl, b1⟩; have B := Lib.hid (B.out.trans (b1.mono B.out.size)); have x0 := HX.out _ B.out; clear b1)
            | (go_at_call 156; refine (C156.out _ B.out).mono ?_; rintro e w1 ⟨rfl, b1⟩; have B := Lib.hid (B.out.trans (b1.mono B.out.size)); have x0 := HX.out _ B.out; clear b1)
            | (go_at_call 217; refine (C217.out _ B.out).mono ?_; rintro e w1 ⟨rfl, b1⟩; have B := Lib.hid (B.out.trans (b1.mono B.out.size)); have x0 := HX.out _ B.out; clear b1)
            | (go_at_call 152; (first | (refine (S1.out _ B.out).mono ?_; clear S1) | refine (S2.out _ B.out).mono ?_); rintro e w1 ⟨rfl, b1⟩; have B := Lib.hid (B.out.trans (b1.mono B.out.size)); have x0 := HX.out _ B.out; clear b1))
          go_ret2
          exact ⟨by rw [HE.out]; rfl, B.out⟩
        · obtain rfl : r = 0 := by omega
          by_cases hk : 0 < k
          · have q1 : decide (0 < k) = true := by simpa using hk
            have HE := Lib.hid (show p = (2, k) by rw [HP.out]; simp [t60, hk])
            clear HP
            go_enter Tryz.func161, Tryz.ntmps161
            go_wp2_with (first
              | (go_at_call 103; refine (C103.out _ B.out).mono ?_; rintro e w1 ⟨rfl, b1⟩; have B := Lib.hid (B.out.trans (b1.mono B.out.size)); have x0 := HX.out _ B.out; clear b1)
              | (go_at_call 156; refine (C156.out _ B.out).mono ?_; rintro e w1 ⟨rfl, b1⟩; have B := Lib.hid (B.out.trans (b1.mono B.out.size)); have x0 := HX.out _ B.out; clear b1)
              | (go_at_call 217; refine (C217.out _ B.out).mono ?_; rintro e w1 ⟨rfl, b1⟩; have B := Lib.hid (B.out.trans (b1.mono B.out.size)); have x0 := HX.out _ B.out; clear b1)
              | (go_at_call 152; (first | (refine (S1.out _ B.out).mono ?_; clear S1) | refine (S2.out _ B.out).mono ?_); rintro e w1 ⟨rfl, b1⟩; have B := Lib.hid (B.out.trans (b1.mono B.out.size)); have x0 := HX.out _ B.out; clear b1))
            go_ret2
            exact ⟨by rw [HE.out]; rfl, B.out⟩
          · obtain rfl : k = 0 := by omega
            by_cases hz : z = 61
            · subst hz
              have HE := Lib.hid (show p = (4, 1) by rw [HP.out]; simp)
              clear HP
              go_enter Tryz.func161, Tryz.ntmps161
              go_wp2_with (first
                | (go_at_call 103; refine (C103.out _ B.out).mono ?_; rintro e w1 ⟨rfl, b1⟩; have B := Lib.hid (B.out.trans (b1.mono B.out.size)); have x0 := HX.out _ B.out; clear b1)
                | (go_at_call 156; refine (C156.out _ B.out).mono ?_; rintro e w1 ⟨rfl, b1⟩; have B := Lib.hid (B.out.trans (b1.mono B.out.size)); have x0 := HX.out _ B.out; clear b1)
                | (go_at_call 217; refine (C217.out _ B.out).mono ?_; rintro e w1 ⟨rfl, b1⟩; have B := Lib.hid (B.out.trans (b1.mono B.out.size)); have x0 := HX.out _ B.out; clear b1)
                | (go_at_call 152; (first | (refine (S1.out _ B.out).mono ?_; clear S1) | refine (S2.out _ B.out).mono ?_); rintro e w1 ⟨rfl, b1⟩; have B := Lib.hid (B.out.trans (b1.mono B.out.size)); have x0 := HX.out _ B.out; clear b1))
              go_ret2
              exact ⟨by rw [HE.out]; rfl, B.out⟩
            · have t61 : (z == 61) = false := by simpa using hz
              by_cases hv : 0 < v
              · have q1 : decide (0 < v) = true := by simpa using hv
                have HE := Lib.hid (show p = (5, v) by rw [HP.out]; simp [t60, hz, hv])
                clear HP
                go_enter Tryz.func161, Tryz.ntmps161
                go_wp2_with (first
                  | (go_at_call 103; refine (C103.out _ B.out).mono ?_; rintro e w1 ⟨rfl, b1⟩; have B := Lib.hid (B.out.trans (b1.mono B.out.size)); have x0 := HX.out _ B.out; clear b1)
                  | (go_at_call 156; refine (C156.out _ B.out).mono ?_; rintro e w1 ⟨rfl, b1⟩; have B := Lib.hid (B.out.trans (b1.mono B.out.size)); have x0 := HX.out _ B.out; clear b1)
                  | (go_at_call 217; refine (C217.out _ B.out).mono ?_; rintro e w1 ⟨rfl, b1⟩; have B := Lib.hid (B.out.trans (b1.mono B.out.size)); have x0 := HX.out _ B.out; clear b1)
                  | (go_at_call 152; (first | (refine (S1.out _ B.out).mono ?_; clear S1) | refine (S2.out _ B.out).mono ?_); rintro e w1 ⟨rfl, b1⟩; have B := Lib.hid (B.out.trans (b1.mono B.out.size)); have x0 := HX.out _ B.out; clear b1))
                go_ret2
                exact ⟨by rw [HE.out]; rfl, B.out⟩
              · obtain rfl : v = 0 := by omega
                by_cases h2 : n = 2
                · subst h2
                  cases s2 with
                  | true =>
                    have HE := Lib.hid (show p = (6, 2) by rw [HP.out]; simp [t60, hz])
                    clear HP
                    go_enter Tryz.func161, Tryz.ntmps161
                    go_wp2_with (first
                      | (go_at_call 103; refine (C103.out _ B.out).mono ?_; rintro e w1 ⟨rfl, b1⟩; have B := Lib.hid (B.out.trans (b1.mono B.out.size)); have x0 := HX.out _ B.out; clear b1)
                      | (go_at_call 156; refine (C156.out _ B.out).mono ?_; rintro e w1 ⟨rfl, b1⟩; have B := Lib.hid (B.out.trans (b1.mono B.out.size)); have x0 := HX.out _ B.out; clear b1)
                      | (go_at_call 217; refine (C217.out _ B.out).mono ?_; rintro e w1 ⟨rfl, b1⟩; have B := Lib.hid (B.out.trans (b1.mono B.out.size)); have x0 := HX.out _ B.out; clear b1)
                      | (go_at_call 152; (first | (refine (S1.out _ B.out).mono ?_; clear S1) | refine (S2.out _ B.out).mono ?_); rintro e w1 ⟨rfl, b1⟩; have B := Lib.hid (B.out.trans (b1.mono B.out.size)); have x0 := HX.out _ B.out; clear b1))
                    go_ret2
                    exact ⟨by rw [HE.out]; rfl, B.out⟩
                  | false =>
                    have HE := Lib.hid (show p = (7, 1) by rw [HP.out]; simp [t60, hz])
                    clear HP
                    go_enter Tryz.func161, Tryz.ntmps161
                    go_wp2_with (first
                      | (go_at_call 103; refine (C103.out _ B.out).mono ?_; rintro e w1 ⟨rfl, b1⟩; have B := Lib.hid (B.out.trans (b1.mono B.out.size)); have x0 := HX.out _ B.out; clear b1)
                      | (go_at_call 156; refine (C156.out _ B.out).mono ?_; rintro e w1 ⟨rfl, b1⟩; have B := Lib.hid (B.out.trans (b1.mono B.out.size)); have x0 := HX.out _ B.out; clear b1)
                      | (go_at_call 217; refine (C217.out _ B.out).mono ?_; rintro e w1 ⟨rfl, b1⟩; have B := Lib.hid (B.out.trans (b1.mono B.out.size)); have x0 := HX.out _ B.out; clear b1)
                      | (go_at_call 152; (first | (refine (S1.out _ B.out).mono ?_; clear S1) | refine (S2.out _ B.out).mono ?_); rintro e w1 ⟨rfl, b1⟩; have B := Lib.hid (B.out.trans (b1.mono B.out.size)); have x0 := HX.out _ B.out; clear b1))
                    go_ret2
                    exact ⟨by rw [HE.out]; rfl, B.out⟩
                · have t2 : (n == 2) = false := by simpa using h2
                  have t2' : ((n : Int) == 2) = false := by simp; omega
                  by_cases h1 : n = 1
                  · subst h1
                    by_cases h62 : z = 62
                    · subst h62
                      have HE := Lib.hid (show p = (6, 1) by rw [HP.out]; simp)
                      clear HP
                      go_enter Tryz.func161, Tryz.ntmps161
                      go_wp2_with (first
                        | (go_at_call 103; refine (C103.out _ B.out).mono ?_; rintro e w1 ⟨rfl, b1⟩; have B := Lib.hid (B.out.trans (b1.mono B.out.size)); have x0 := HX.out _ B.out; clear b1)
                        | (go_at_call 156; refine (C156.out _ B.out).mono ?_; rintro e w1 ⟨rfl, b1⟩; have B := Lib.hid (B.out.trans (b1.mono B.out.size)); have x0 := HX.out _ B.out; clear b1)
                        | (go_at_call 217; refine (C217.out _ B.out).mono ?_; rintro e w1 ⟨rfl, b1⟩; have B := Lib.hid (B.out.trans (b1.mono B.out.size)); have x0 := HX.out _ B.out; clear b1)
                        | (go_at_call 152; (first | (refine (S1.out _ B.out).mono ?_; clear S1) | refine (S2.out _ B.out).mono ?_); rintro e w1 ⟨rfl, b1⟩; have B := Lib.hid (B.out.trans (b1.mono B.out.size)); have x0 := HX.out _ B.out; clear b1))
                      go_ret2
                      exact ⟨by rw [HE.out]; rfl, B.out⟩
                    · have t62 : (z == 62) = false := by simpa using h62
                      have HE := Lib.hid (show p = (7, 1) by rw [HP.out]; simp [t60, hz, h62])
                      clear HP
                      go_enter Tryz.func161, Tryz.ntmps161
                      go_wp2_with (first
                        | (go_at_call 103; refine (C103.out _ B.out).mono ?_; rintro e w1 ⟨rfl, b1⟩; have B := Lib.hid (B.out.trans (b1.mono B.out.size)); have x0 := HX.out _ B.out; clear b1)
                        | (go_at_call 156; refine (C156.out _ B.out).mono ?_; rintro e w1 ⟨rfl, b1⟩; have B := Lib.hid (B.out.trans (b1.mono B.out.size)); have x0 := HX.out _ B.out; clear b1)
                        | (go_at_call 217; refine (C217.out _ B.out).mono ?_; rintro e w1 ⟨rfl, b1⟩; have B := Lib.hid (B.out.trans (b1.mono B.out.size)); have x0 := HX.out _ B.out; clear b1)
                        | (go_at_call 152; (first | (refine (S1.out _ B.out).mono ?_; clear S1) | refine (S2.out _ B.out).mono ?_); rintro e w1 ⟨rfl, b1⟩; have B := Lib.hid (B.out.trans (b1.mono B.out.size)); have x0 := HX.out _ B.out; clear b1))
                      go_ret2
                      exact ⟨by rw [HE.out]; rfl, B.out⟩
                  · have t1 : (n == 1) = false := by simpa using h1
                    have t1' : ((n : Int) == 1) = false := by simp; omega
                    have HE := Lib.hid (show p = (7, 1) by rw [HP.out]; simp [t60, hz, h1, h2])
                    clear HP
                    go_enter Tryz.func161, Tryz.ntmps161
                    go_wp2_with (first
                      | (go_at_call 103; refine (C103.out _ B.out).mono ?_; rintro e w1 ⟨rfl, b1⟩; have B := Lib.hid (B.out.trans (b1.mono B.out.size)); have x0 := HX.out _ B.out; clear b1)
                      | (go_at_call 156; refine (C156.out _ B.out).mono ?_; rintro e w1 ⟨rfl, b1⟩; have B := Lib.hid (B.out.trans (b1.mono B.out.size)); have x0 := HX.out _ B.out; clear b1)
                      | (go_at_call 217; refine (C217.out _ B.out).mono ?_; rintro e w1 ⟨rfl, b1⟩; have B := Lib.hid (B.out.trans (b1.mono B.out.size)); have x0 := HX.out _ B.out; clear b1)
                      | (go_at_call 152; (first | (refine (S1.out _ B.out).mono ?_; clear S1) | refine (S2.out _ B.out).mono ?_); rintro e w1 ⟨rfl, b1⟩; have B := Lib.hid (B.out.trans (b1.mono B.out.size)); have x0 := HX.out _ B.out; clear b1))
                    go_ret2
                    exact ⟨by rw [HE.out]; rfl, B.out⟩
  | false =>
    clear S1
    by_cases hr : 0 < r
    · have q1 : decide (0 < r) = true := by simpa using hr
      have HE := Lib.hid (show p = (3, r) by rw [HP.out]; simp [hr])
      clear HP
      go_enter Tryz.func161, Tryz.ntmps161
      go_wp2_with (first
        | (go_at_call 103; refine (C103.out _ B.out).mono ?_; rintro e w1 ⟨rfl, b1⟩; have B := Lib.hid (B.out.trans (b1.mono B.out.size)); have x0 := HX.out _ B.out; clear b1)
        | (go_at_call 156; refine (C156.out _ B.out).mono ?_; rintro e w1 ⟨rfl, b1⟩; have B := Lib.hid (B.out.trans (b1.mono B.out.size)); have x0 := HX.out _ B.out; clear b1)
        | (go_at_call 217; refine (C217.out _ B.out).mono ?_; rintro e w1 ⟨rfl, b1⟩; have B := Lib.hid (B.out.trans (b1.mono B.out.size)); have x0 := HX.out _ B.out; clear b1)
        | (go_at_call 152; refine (S2.out _ B.out).mono ?_; rintro e w1 ⟨rfl, b1⟩; have B := Lib.hid (B.out.trans (b1.mono B.out.size)); have x0 := HX.out _ B.out; clear b1))
      go_ret2
      exact ⟨by rw [HE.out]; rfl, B.out⟩
    · obtain rfl : r = 0 := by omega
      by_cases hk : 0 < k
      · have q1 : decide (0 < k) = true := by simpa using hk
        have HE := Lib.hid (show p = (2, k) by rw [HP.out]; simp [hk])
        clear HP
        go_enter Tryz.func161, Tryz.ntmps161
        go_wp2_with (first
          | (go_at_call 103; refine (C103.out _ B.out).mono ?_; rintro e w1 ⟨rfl, b1⟩; have B := Lib.hid (B.out.trans (b1.mono B.out.size)); have x0 := HX.out _ B.out; clear b1)
          | (go_at_call 156; refine (C156.out _ B.out).mono ?_; rintro e w1 ⟨rfl, b1⟩; have B := Lib.hid (B.out.trans (b1.mono B.out.size)); have x0 := HX.out _ B.out; clear b1)
          | (go_at_call 217; refine (C217.out _ B.out).mono ?_; rintro e w1 ⟨rfl, b1⟩; have B := Lib.hid (B.out.trans (b1.mono B.out.size)); have x0 := HX.out _ B.out; clear b1)
          | (go_at_call 152; refine (S2.out _ B.out).mono ?_; rintro e w1 ⟨rfl, b1⟩; have B := Lib.hid (B.out.trans (b1.mono B.out.size)); have x0 := HX.out _ B.out; clear b1))
        go_ret2
        exact ⟨by rw [HE.out]; rfl, B.out⟩
      · obtain rfl : k = 0 := by omega
        by_cases hz : z = 61
        · subst hz
          have HE := Lib.hid (show p = (4, 1) by rw [HP.out]; simp)
          clear HP
          go_enter Tryz.func161, Tryz.ntmps161
          go_wp2_with (first
            | (go_at_call 103; refine (C103.out _ B.out).mono ?_; rintro e w1 ⟨rfl, b1⟩; have B := Lib.hid (B.out.trans (b1.mono B.out.size)); have x0 := HX.out _ B.out; clear b1)
            | (go_at_call 156; refine (C156.out _ B.out).mono ?_; rintro e w1 ⟨rfl, b1⟩; have B := Lib.hid (B.out.trans (b1.mono B.out.size)); have x0 := HX.out _ B.out; clear b1)
            | (go_at_call 217; refine (C217.out _ B.out).mono ?_; rintro e w1 ⟨rfl, b1⟩; have B := Lib.hid (B.out.trans (b1.mono B.out.size)); have x0 := HX.out _ B.out; clear b1)
            | (go_at_call 152; refine (S2.out _ B.out).mono ?_; rintro e w1 ⟨rfl, b1⟩; have B := Lib.hid (B.out.trans (b1.mono B.out.size)); have x0 := HX.out _ B.out; clear b1))
          go_ret2
          exact ⟨by rw [HE.out]; rfl, B.out⟩
        · have t61 : (z == 61) = false := by simpa using hz
          by_cases hv : 0 < v
          · have q1 : decide (0 < v) = true := by simpa using hv
            have HE := Lib.hid (show p = (5, v) by rw [HP.out]; simp [hz, hv])
            clear HP
            go_enter Tryz.func161, Tryz.ntmps161
            go_wp2_with (first
              | (go_at_call 103; refine (C103.out _ B.out).mono ?_; rintro e w1 ⟨rfl, b1⟩; have B := Lib.hid (B.out.trans (b1.mono B.out.size)); have x0 := HX.out _ B.out; clear b1)
              | (go_at_call 156; refine (C156.out _ B.out).mono ?_; rintro e w1 ⟨rfl, b1⟩; have B := Lib.hid (B.out.trans (b1.mono B.out.size)); have x0 := HX.out _ B.out; clear b1)
              | (go_at_call 217; refine (C217.out _ B.out).mono ?_; rintro e w1 ⟨rfl, b1⟩; have B := Lib.hid (B.out.trans (b1.mono B.out.size)); have x0 := HX.out _ B.out; clear b1)
              | (go_at_call 152; refine (S2.out _ B.out).mono ?_; rintro e w1 ⟨rfl, b1⟩; have B := Lib.hid (B.out.trans (b1.mono B.out.size)); have x0 := HX.out _ B.out; clear b1))
            go_ret2
            exact ⟨by rw [HE.out]; rfl, B.out⟩
          · obtain rfl : v = 0 := by omega
            by_cases h2 : n = 2
            · subst h2
              cases s2 with
              | true =>
                have HE := Lib.hid (show p = (6, 2) by rw [HP.out]; simp [hz])
                clear HP
                go_enter Tryz.func161, Tryz.ntmps161
                go_wp2_with (first
                  | (go_at_call 103; refine (C103.out _ B.out).mono ?_; rintro e w1 ⟨rfl, b1⟩; have B := Lib.hid (B.out.trans (b1.mono B.out.size)); have x0 := HX.out _ B.out; clear b1)
                  | (go_at_call 156; refine (C156.out _ B.out).mono ?_; rintro e w1 ⟨rfl, b1⟩; have B := Lib.hid (B.out.trans (b1.mono B.out.size)); have x0 := HX.out _ B.out; clear b1)
                  | (go_at_call 217; refine (C217.out _ B.out).mono ?_; rintro e w1 ⟨rfl, b1⟩; have B := Lib.hid (B.out.trans (b1.mono B.out.size)); have x0 := HX.out _ B.out; clear b1)
                  | (go_at_call 152; refine (S2.out _ B.out).mono ?_; rintro e w1 ⟨rfl, b1⟩; have B := Lib.hid (B.out.trans (b1.mono B.out.size)); have x0 := HX.out _ B.out; clear b1))
                go_ret2
                exact ⟨by rw [HE.out]; rfl, B.out⟩
              | false =>
                have HE := Lib.hid (show p = (7, 1) by rw [HP.out]; simp [hz])
                clear HP
                go_enter Tryz.func161, Tryz.ntmps161
                go_wp2_with (first
                  | (go_at_call 103; refine (C103.out _ B.out).mono ?_; rintro e w1 ⟨rfl, b1⟩; have B := Lib.hid (B.out.trans (b1.mono B.out.size)); have x0 := HX.out _ B.out; clear b1)
                  | (go_at_call 156; refine (C156.out _ B.out).mono ?_; rintro e w1 ⟨rfl, b1⟩; have B := Lib.hid (B.out.trans (b1.mono B.out.size)); have x0 := HX.out _ B.out; clear b1)
                  | (go_at_call 217; refine (C217.out _ B.out).mono ?_; rintro e w1 ⟨rfl, b1⟩; have B := Lib.hid (B.out.trans (b1.mono B.out.size)); have x0 := HX.out _ B.out; clear b1)
                  | (go_at_call 152; refine (S2.out _ B.out).mono ?_; rintro e w1 ⟨rfl, b1⟩; have B := Lib.hid (B.out.trans (b1.mono B.out.size)); have x0 := HX.out _ B.out; clear b1))
                go_ret2
                exact ⟨by rw [HE.out]; rfl, B.out⟩
            · have t2 : (n == 2) = false := by simpa using h2
              have t2' : ((n : Int) == 2) = false := by simp; omega
              by_cases h1 : n = 1
              · subst h1
                by_cases h62 : z = 62
                · subst h62
                  have HE := Lib.hid (show p = (6, 1) by rw [HP.out]; simp)
                  clear HP
                  go_enter Tryz.func161, Tryz.ntmps161
                  go_wp2_with (first
                    | (go_at_call 103; refine (C103.out _ B.out).mono ?_; rintro e w1 ⟨rfl, b1⟩; have B := Lib.hid (B.out.trans (b1.mono B.out.size)); have x0 := HX.out _ B.out; clear b1)
                    | (go_at_call 156; refine (C156.out _ B.out).mono ?_; rintro e w1 ⟨rfl, b1⟩; have B := Lib.hid (B.out.trans (b1.mono B.out.size)); have x0 := HX.out _ B.out; clear b1)
                    | (go_at_call 217; refine (C217.out _ B.out).mono ?_; rintro e w1 ⟨rfl, b1⟩; have B := Lib.hid (B.out.trans (b1.mono B.out.size)); have x0 := HX.out _ B.out; clear b1)
                    | (go_at_call 152; refine (S2.out _ B.out).mono ?_; rintro e w1 ⟨rfl, b1⟩; have B := Lib.hid (B.out.trans (b1.mono B.out.size)); have x0 := HX.out _ B.out; clear b1))
                  go_ret2
                  exact ⟨by rw [HE.out]; rfl, B.out⟩
                · have t62 : (z == 62) = false := by simpa using h62
                  have HE := Lib.hid (show p = (7, 1) by rw [HP.out]; simp [hz, h62])
                  clear HP
                  go_enter Tryz.func161, Tryz.ntmps161
                  go_wp2_with (first
                    | (go_at_call 103; refine (C103.out _ B.out).mono ?_; rintro e w1 ⟨rfl, b1⟩; have B := Lib.hid (B.out.trans (b1.mono B.out.size)); have x0 := HX.out _ B.out; clear b1)
                    | (go_at_call 156; refine (C156.out _ B.out).mono ?_; rintro e w1 ⟨rfl, b1⟩; have B := Lib.hid (B.out.trans (b1.mono B.out.size)); have x0 := HX.out _ B.out; clear b1)
                    | (go_at_call 217; refine (C217.out _ B.out).mono ?_; rintro e w1 ⟨rfl, b1⟩; have B := Lib.hid (B.out.trans (b1.mono B.out.size)); have x0 := HX.out _ B.out; clear b1)
                    | (go_at_call 152; refine (S2.out _ B.out).mono ?_; rintro e w1 ⟨rfl, b1⟩; have B := Lib.hid (B.out.trans (b1.mono B.out.size)); have x0 := HX.out _ B.out; clear b1))
                  go_ret2
                  exact ⟨by rw [HE.out]; rfl, B.out⟩
              · have t1 : (n == 1) = false := by simpa using h1
                have t1' : ((n : Int) == 1) = false := by simp; omega
                have HE := Lib.hid (show p = (7, 1) by rw [HP.out]; simp [hz, h1, h2])
                clear HP
                go_enter Tryz.func161, Tryz.ntmps161
                go_wp2_with (first
                  | (go_at_call 103; refine (C103.out _ B.out).mono ?_; rintro e w1 ⟨rfl, b1⟩; have B := Lib.hid (B.out.trans (b1.mono B.out.size)); have x0 := HX.out _ B.out; clear b1)
                  | (go_at_call 156; refine (C156.out _ B.out).mono ?_; rintro e w1 ⟨rfl, b1⟩; have B := Lib.hid (B.out.trans (b1.mono B.out.size)); have x0 := HX.out _ B.out; clear b1)
                  | (go_at_call 217; refine (C217.out _ B.out).mono ?_; rintro e w1 ⟨rfl, b1⟩; have B := Lib.hid (B.out.trans (b1.mono B.out.size)); have x0 := HX.out _ B.out; clear b1)
                  | (go_at_call 152; refine (S2.out _ B.out).mono ?_; rintro e w1 ⟨rfl, b1⟩; have B := Lib.hid (B.out.trans (b1.mono B.out.size)); have x0 := HX.out _ B.out; clear b1))
                go_ret2
                exact ⟨by rw [HE.out]; rfl, B.out⟩
end Go.Proofs.YtibakihcicfeoaaGreat
/- The walk of tag.Parts. No condition. -/
namespace Go.Proofs.YtibakihcicfeoaaGreat
open Go.RowKit

/-- A part: its kind, where it begins and ends. -/
abbrev Pt := Int × Nat × Nat
def ptV (t : Pt) : List Value := [.int .i64 t.1, .int .i64 (t.2.1 : Nat), .int .i64 (t.2.2 : Nat)]
def prow (ts : List Pt) : List Value := ts.flatMap ptV
theorem prow_len : ∀ (ts : List Pt), (prow ts).length = ts.length * 3
  | [] => rfl
  | t :: ts => by
    show (ptV t ++ prow ts).length = _
    rw [List.length_append, prow_len ts, List.length_cons, show (ptV t).length = 3 from rfl]
    omega
theorem prow_snoc (ts : List Pt) (t : Pt) : prow (ts ++ [t]) = prow ts ++ ptV t := by
  simp [prow, List.flatMap_append]
theorem st193 : ST Tryz.prog 193 127 3 24 := ST.mk' (z := .agg #[.int .i64 0, .int .i64 0, .int .i64 0]) Tryz.underlying193 (by kernel_rfl) rfl (by decide)
theorem ptV_one (t : Pt) : ∀ u ∈ ptV t, u.oneCell' = true := by
  intro u hu
  simp only [ptV, List.mem_cons, List.not_mem_nil, or_false] at hu
  rcases hu with rfl | rfl | rfl <;> rfl
/-- Parts within a range. -/
def PtsIn (fr te : Nat) (ts : List Pt) : Prop := ∀ t ∈ ts, fr ≤ t.2.1 ∧ t.2.1 < t.2.2 ∧ t.2.2 ≤ te
theorem PtsIn.snoc {fr te : Nat} {ts : List Pt} {t : Pt} (h : PtsIn fr te ts) (ht : fr ≤ t.2.1 ∧ t.2.1 < t.2.2 ∧ t.2.2 ≤ te) : PtsIn fr te (ts ++ [t]) := fun s hs => by
  rcases List.mem_append.1 hs with hs | hs
  · exact h s hs
  · rw [List.mem_singleton] at hs; subst hs; exact ht
def PartsSaid (fr te : Nat) (w : World) (e : Ending) (w' : World) : Prop := ∃ A c ts, e = .returned (.slice A ts.length c) ∧ w'.ownsRow w.heap.size 127 3 (.slice A ts.length c) ts.length (prow ts) ∧ PtsIn fr te ts ∧ ts.length ≤ te - fr ∧ Below w.heap.size w w'
theorem Rd.cutK {w : World} {B n c lo hi : Nat} {A : Option Addr} {k : IntKind} {zs : List Int} (h : Rd w B 1 A n c (ints k zs)) (h1 : lo ≤ hi) (h2 : hi ≤ n) :
    (c = lo → Rd w B 1 A (hi - lo) 0 (ints k ((zs.drop lo).take (hi - lo)))) ∧ (¬ c = lo → Rd w B 1 (A.map (·.add lo)) (hi - lo) (c - lo) (ints k ((zs.drop lo).take (hi - lo)))) := by
  have hc := h.cap
  have := h.cut (l := lo) (k := hi) (m := c) h1 h2 (Nat.le_refl _) (by omega)
  rw [Nat.mul_one, Nat.mul_one, ← List.map_drop, ← List.map_take] at this
  refine ⟨fun e => ?_, fun e => ?_⟩
  · rw [if_pos e, show c - lo = 0 by omega] at this
    exact this
  · rw [if_neg e] at this
    exact this
theorem pieceAny {W : World} (A : Option Addr) (m c : Nat) (l : List Int) (first : Bool) (h : Rd W W.heap.size 1 A m c (ints .i32 l)) (hm : m ≤ 65536) (h0 : 0 < m) :
    Calls Tryz.prog 161 #[.slice A m c, .bool first] W fun e w' => ∃ (k : Int) (len : Nat), e = .returned (.tuple #[.int .i64 k, .int .i64 (len : Nat)]) ∧ 0 < len ∧ len ≤ m ∧ Below W.heap.size W w' := by
  have hl := h.int_len
  refine (piece161 A m c l first h hm h0).mono ?_
  rintro e w' ⟨rfl, hb⟩
  have := piL_le l first (by omega)
  exact ⟨_, _, rfl, this.1, by omega, hb⟩
set_option maxRecDepth 100000 in
set_option maxHeartbeats 8000000 in
theorem parts105 {w : World} (A : Option Addr) (n c : Nat) (l : List Int) (fr te : Nat) (h : Rd w w.heap.size 1 A n c (ints .i32 l)) (hn : n ≤ 65536) (h1 : fr ≤ te) (h2 : te ≤ n) :
    Calls Tryz.prog 105 #[.slice A n c, .int .i64 (fr : Nat), .int .i64 (te : Nat)] w (PartsSaid fr te w) := by
  have t0 : decide ((fr : Int) < 0) = false := by simp
  have t1 : decide (te < fr) = false := by simp; omega
  have t2 : decide (n < te) = false := by simp; omega
  have hcap := h.cap
  have H := Lib.hid h
  unfold PartsSaid
  clear h
  go_enter Tryz.func105, Tryz.ntmps105
  go_wp2_with fail
  go_loopw [7, 8] (fun out p wr => ∃ (ts : List Pt) (at_ : Nat), p = .int .i64 (at_ : Nat) ∧ fr ≤ at_ ∧ at_ ≤ te ∧ Hid (wr.ownsRow w.heap.size 127 3 out ts.length (prow ts)) ∧ Hid (PtsIn fr te ts) ∧ ts.length + fr ≤ at_ ∧ Below w.heap.size w wr)
    (fun _ p _ => te - (intOf p).toNat)
  case atStart => exact ⟨[], fr, rfl, Nat.le_refl _, h1, Lib.hid (World.ownsRow_nil _ _ _ _), Lib.hid (fun t ht => by cases ht), by simp, Below.refl _ _⟩
  case round =>
    obtain ⟨ts, at_, rfl, g1, g2, HO, HB, g3, hb⟩ := hrel
    obtain ⟨A5, c5, rfl, -⟩ := own_form HO.out
    have hsz := hb.size
    by_cases hlt : at_ < te
    · have CP := Lib.hid (fun (A' : Option Addr) (c' : Nat) (first : Bool) (hR : Rd wr wr.heap.size 1 A' (te - at_) c' (ints .i32 ((l.drop at_).take (te - at_)))) => pieceAny A' (te - at_) c' _ first hR (by omega) (by omega))
      have HR := Lib.hid ((H.out.on hb).cutK (lo := at_) (hi := te) g2 h2)
      go_wp2_with fail
      all_goals
        refine (CP.out _ _ _ (HR.out.2 (by omega))).mono ?_
        rintro e w1 ⟨k, len, rfl, k1, k2, b1⟩
        have HB2 := Lib.hid (HB.out.snoc (t := (k, at_, at_ + len)) ⟨g1, by simp only; omega, by simp only; omega⟩)
        have HTR := Lib.hid (prow_snoc ts (k, at_, at_ + len))
        have hb1 := hb.trans (b1.mono hsz)
        have hs1 := hb1.size
        have HO1 := Lib.hid (own_below HO.out b1)
        have u1 : IntKind.i64.wrap ((at_ : Int) + (len : Int)) = (at_ : Int) + (len : Int) := IntWalk.i64_in _ (by omega)
        clear b1
        go_wp2_with (at_builtin; go_loud (refine wpList_pushA st193 rfl _ _ rfl _ rfl HO1.out [.int .i64 k, .int .i64 (at_ : Nat), .int .i64 ((at_ : Int) + (len : Int))] _ rfl rfl rfl (by intro u hu; simp at hu; rcases hu with rfl | rfl | rfl <;> rfl) (by omega) (by omega) hs1 ?_); intro v5 w5 ho5 hg5 hat5; obtain ⟨A9, c9, rfl, -⟩ := own_form ho5; have hb5 := hb1.grown hg5 hs1 (fun k hk => (HO1.out.lt k hk).1); have HO5 := Lib.hid ho5; clear ho5 hg5 hat5)
        go_roundw
        case rel => exact ⟨ts ++ [(k, at_, at_ + len)], at_ + len, by go_num, by omega, by omega, Lib.hid (own_as HO5.out (by simp) (by rw [HTR.out]; simp [ptV])), HB2, by simp; omega, hb5⟩
        case measure => simp [intOf]; omega
    · go_wp2_with fail
      go_ret
      exact ⟨A5, c5, ts, rfl, HO.out, HB.out, by omega, hb⟩
end Go.Proofs.YtibakihcicfeoaaGreat
