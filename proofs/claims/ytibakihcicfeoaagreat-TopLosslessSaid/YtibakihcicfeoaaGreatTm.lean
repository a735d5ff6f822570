/- The walks of lex.Starts, Find, upTo. No condition. -/
import Derived.Test.YtibakihcicfeoaaGreatTl
namespace Go.Proofs.YtibakihcicfeoaaGreat
open Go.RowKit

/-- Does a row begin so, at a place? -/
def stL (l : List Int) (f : Nat) (s : List Int) : Bool := decide (f + s.length ≤ l.length) && ((l.drop f).take s.length == s)
theorem strT_get (s : ByteArray) (k : Nat) (hk : k < s.size) : (s.data.toList.map fun b => (b.toNat : Int))[k]? = some ((s[k]).toNat : Int) := by
  rw [List.getElem?_map, List.getElem?_eq_getElem (by simpa using hk)]
  rfl
theorem strT_len (s : ByteArray) : (s.data.toList.map fun b => (b.toNat : Int)).length = s.size := by simp
theorem stL_no {l : List Int} {f : Nat} {s : ByteArray} (k : Nat) (hk : k < s.size) (h : ¬ gz l (f + k) = ((s[k]).toNat : Int)) : stL l f (s.data.toList.map fun b => (b.toNat : Int)) = false := by
  unfold stL
  rw [strT_len]
  by_cases hl : f + s.size ≤ l.length
  · rw [decide_eq_true hl, Bool.true_and]
    refine beq_eq_false_iff_ne.2 fun e => h ?_
    have h1 : ((l.drop f).take s.size)[k]? = (s.data.toList.map fun b => (b.toNat : Int))[k]? := by rw [e]
    rw [strT_get s k hk, List.getElem?_take, if_pos hk, List.getElem?_drop, List.getElem?_eq_getElem (by omega)] at h1
    rw [gz_eq (by omega)]
    injection h1
  · rw [decide_eq_false hl]; rfl
theorem stL_yes {l : List Int} {f : Nat} {s : ByteArray} (hl : f + s.size ≤ l.length) (h : ∀ j (hj : j < s.size), gz l (f + j) = ((s[j]).toNat : Int)) : stL l f (s.data.toList.map fun b => (b.toNat : Int)) = true := by
  unfold stL
  rw [strT_len, decide_eq_true hl, Bool.true_and]
  refine beq_iff_eq.2 (List.ext_getElem? fun k => ?_)
  by_cases hk : k < s.size
  · rw [strT_get s k hk, List.getElem?_take, if_pos hk, List.getElem?_drop, List.getElem?_eq_getElem (by omega), ← h k hk, gz_eq (by omega)]
  · rw [List.getElem?_eq_none (by rw [List.length_take]; omega), List.getElem?_eq_none (by rw [strT_len]; omega)]
theorem stL_out {l : List Int} {f : Nat} {s : ByteArray} (hl : ¬ f + s.size ≤ l.length) : stL l f (s.data.toList.map fun b => (b.toNat : Int)) = false := by
  unfold stL
  rw [strT_len, decide_eq_false hl]; rfl
set_option maxRecDepth 100000 in
set_option maxHeartbeats 1000000 in
theorem starts152 {w : World} (A : Option Addr) (n c : Nat) (l : List Int) (f : Nat) (s : ByteArray) (h : Rd w w.heap.size 1 A n c (ints .i32 l)) (hn : n ≤ 65536) (hf : f ≤ n) (hs : s.size ≤ 64) (ha : ∀ (i : Nat) (hi : i < s.size), (s[i]).toNat < 128) :
    Calls Tryz.prog 152 #[.slice A n c, .int .i64 (f : Nat), .string s] w fun e w' => e = .returned (.bool (stL l f (s.data.toList.map fun b => (b.toNat : Int)))) ∧ Below w.heap.size w w' := by
  have HL := Lib.hid h.int_len
  have t2 : decide ((f : Int) < 0) = false := by simp
  have t3 : decide (n < f) = false := by simp; omega
  by_cases hsz : n < f + s.size
  · have t4 : decide (n - f < s.size) = true := by simp; omega
    have t5 : decide (((n : Int) - (f : Int)) < (s.size : Int)) = true := by simp; omega
    have HE := Lib.hid (stL_out (l := l) (f := f) (s := s) (by rw [HL.out]; omega))
    clear h hsz
    go_enter Tryz.func152, Tryz.ntmps152
    go_wp2_with fail
    go_ret
    exact ⟨by rw [HE.out]; rfl, Below.refl _ _⟩
  · have t5 : decide (((n : Int) - (f : Int)) < (s.size : Int)) = false := by simp; omega
    by_cases hn0 : 0 < n
    · obtain ⟨b, off, rfl, hbb, hc⟩ := h.int_form hn0
      have HC := Lib.hid hc
      clear h hc
      go_enter Tryz.func152, Tryz.ntmps152
      go_wp2_with fail
      go_loopw [27] (fun i wr => ∃ k : Nat, k ≤ s.size ∧ i = .int .i64 k ∧ Hid (∀ j (hj : j < s.size), j < k → gz l (f + j) = ((s[j]).toNat : Int)) ∧ ∃ q, wr = w.drewN q)
        (fun i _ => s.size - (intOf i).toNat)
      case atStart => exact ⟨0, Nat.zero_le _, rfl, Lib.hid (fun j _ hj => absurd hj (by omega)), 0, rfl⟩
      case round =>
        obtain ⟨k, hk, rfl, HA, q, rfl⟩ := hrel
        by_cases hlt : k < s.size
        · have x0 := HC.out (f + k) (by omega)
          have hb := ha k hlt
          obtain ⟨z, hz⟩ : ∃ z, gz l (f + k) = z := ⟨_, rfl⟩
          have HZ := Lib.hid hz
          rw [hz] at x0
          clear hz
          have u1 : IntKind.i64.wrap ((f : Int) + (k : Int)) = (f : Int) + (k : Int) := IntWalk.i64_in _ (by omega)
          have u2 : (f : Int) + (k : Int) < (n : Int) := by omega
          have u3 : ((f : Int) + (k : Int)).toNat = f + k := by omega
          have u8 : 0 ≤ (f : Int) + (k : Int) := by omega
          have u9 : f + k < n := by omega
          obtain ⟨bb, hbb2⟩ : ∃ bb, (s[k]).toNat = bb := ⟨_, rfl⟩
          rw [hbb2] at hb
          have HBB := Lib.hid hbb2
          have u4 : decide (128 ≤ bb) = false := by simp; omega
          have u5 : decide ((128 : Int) ≤ (bb : Int)) = false := by simp; omega
          by_cases hzz : z = (bb : Int)
          · subst hzz
            go_wp2_with fail
            go_quiet (fail)
            go_wp2_with fail
            go_roundw
            case rel => exact ⟨k + 1, by omega, by go_num, Lib.hid (fun j hj hjk => by
              rcases Nat.lt_or_eq_of_le (Nat.le_of_lt_succ hjk) with h | rfl
              · exact HA.out j hj h
              · rw [HZ.out, HBB.out]), _, rfl⟩
            case measure => simp [intOf]; omega
          · have u6 : (z == (bb : Int)) = false := by simpa using hzz
            have u7 : (z != (bb : Int)) = true := by simpa using hzz
            have HE := Lib.hid (show stL l f (s.data.toList.map fun b => (b.toNat : Int)) = false from stL_no k hlt (by rw [HZ.out, HBB.out]; exact hzz))
            go_wp2_with fail
            go_quiet (fail)
            go_wp2_with fail
            go_ret
            exact ⟨by rw [HE.out]; rfl, Below.drewN_ (Below.drewN_ (Below.refl _ _) _) _⟩
        · obtain rfl : k = s.size := by omega
          have HE := Lib.hid (show stL l f (s.data.toList.map fun b => (b.toNat : Int)) = true from stL_yes (by rw [HL.out]; omega) (fun j hj => HA.out j hj hj))
          go_wp2_with fail
          go_ret
          exact ⟨by rw [HE.out]; rfl, Below.drewN_ (Below.refl _ _) _⟩
    · obtain rfl : n = 0 := by omega
      obtain rfl : f = 0 := by omega
      have hs0 : s.size = 0 := by omega
      have HE := Lib.hid (show stL l 0 (s.data.toList.map fun b => (b.toNat : Int)) = true from stL_yes (by omega) (fun j hj => absurd hj (by omega)))
      have HS := Lib.hid hs0
      clear h hs0
      go_enter Tryz.func152, Tryz.ntmps152
      go_wp2_with fail
      go_loopw [27] (fun i wr => i = .int .i64 0 ∧ wr = w) (fun _ _ => 0)
      case atStart => exact ⟨rfl, rfl⟩
      case round =>
        obtain ⟨rfl, rfl⟩ := hrel
        have t8 : decide (0 < s.size) = false := by rw [HS.out]; rfl
        go_wp2_with fail
        go_ret
        exact ⟨by rw [HE.out]; rfl, Below.refl _ _⟩
end Go.Proofs.YtibakihcicfeoaaGreat
/- The walks of lex.Find, upTo, angle, start, end. No condition. -/
namespace Go.Proofs.YtibakihcicfeoaaGreat
open Go.RowKit

def FindSaid (f t sz : Nat) (w : World) (e : Ending) (w' : World) : Prop := ∃ (k : Nat) (ok : Bool), e = .returned (.tuple #[.int .i64 k, .bool ok]) ∧ (ok = true → f ≤ k ∧ k + sz ≤ t) ∧ Below w.heap.size w w'
def Asc (s : ByteArray) : Prop := s.size ≤ 64 ∧ ∀ (i : Nat) (hi : i < s.size), (s[i]).toNat < 128
set_option maxRecDepth 100000 in
set_option maxHeartbeats 1000000 in
theorem find207 {w : World} (A : Option Addr) (n c : Nat) (l : List Int) (f t : Nat) (s : ByteArray) (h : Rd w w.heap.size 1 A n c (ints .i32 l)) (hn : n ≤ 65536) (hf : f ≤ n) (ht : t ≤ n) (hs : Asc s) :
    Calls Tryz.prog 207 #[.slice A n c, .int .i64 (f : Nat), .int .i64 (t : Nat), .string s] w (FindSaid f t s.size w) := by
  have t1 : decide ((f : Int) < 0) = false := by simp
  have t2 : decide ((t : Int) < 0) = false := by simp
  have t3 : decide (n < f) = false := by simp; omega
  have t4 : decide (n < t) = false := by simp; omega
  have HR := Lib.hid h
  have HS := Lib.hid hs.2
  have hsz := hs.1
  clear h hs
  go_enter Tryz.func207, Tryz.ntmps207
  go_wp2_with fail
  go_loopw [10] (fun i wr => ∃ k : Nat, f ≤ k ∧ k ≤ n + 1 ∧ i = .int .i64 k ∧ Below w.heap.size w wr)
    (fun i _ => n + 1 - (intOf i).toNat)
  case atStart => exact ⟨f, Nat.le_refl _, by omega, rfl, Below.refl _ _⟩
  case round =>
    obtain ⟨k, hfk, hk, rfl, hb⟩ := hrel
    by_cases hlt : k + s.size ≤ t
    · have t5 : decide ((k : Int) ≤ (t : Int) - (s.size : Int)) = true := by simp; omega
      have C152 := starts152 A n c l k s (HR.out.on hb) hn (by omega) hsz HS.out
      cases hst : stL l k (s.data.toList.map fun b => (b.toNat : Int)) with
      | true =>
        rw [hst] at C152
        clear hst
        go_wp2_with (go_at_call 152; refine C152.mono ?_; rintro e w1 ⟨rfl, b1⟩; have B1 := Lib.hid (hb.trans (b1.mono hb.size)); clear b1 C152)
        go_ret2
        exact ⟨k, true, rfl, fun _ => ⟨hfk, hlt⟩, B1.out⟩
      | false =>
        rw [hst] at C152
        clear hst
        go_wp2_with (go_at_call 152; refine C152.mono ?_; rintro e w1 ⟨rfl, b1⟩; have B1 := Lib.hid (hb.trans (b1.mono hb.size)); clear b1 C152)
        go_roundw
        case rel => exact ⟨k + 1, by omega, by omega, by go_num, B1.out⟩
        case measure => simp [intOf]; omega
    · have t5 : decide ((k : Int) ≤ (t : Int) - (s.size : Int)) = false := by simp; omega
      go_wp2_with fail
      go_ret2
      exact ⟨0, false, rfl, (fun h => by cases h), hb⟩
/-- A token that begins at a place. -/
def TokSaid (n at_ : Nat) (w : World) (e : Ending) (w' : World) : Prop := ∃ (k : Int) (te : Nat) (wh : Bool), e = .returned (.agg #[.int .i64 k, .int .i64 (at_ : Nat), .int .i64 (te : Nat), .bool wh]) ∧ at_ < te ∧ te ≤ n ∧ Below w.heap.size w w'
abbrev tk (k at_ te : Int) (wh : Bool) : Array Value := #[.int .i64 k, .int .i64 at_, .int .i64 te, .bool wh]
theorem tok_put {ops : Array Oper} {rest : List Oper} {o : Oper} {a : Act} {w : World} {Q : Exit → Act → World → Prop} (hgd : o.guard = none) (x y : Operand) (ho : o.op = .store 87 x y)
    (g : Nat) (k at_ te : Int) (wh : Bool) (hx : a.eval x = .pointer (some ⟨g, 0, none⟩)) (hy : a.eval y = .agg (tk k at_ te wh))
    {k' at' te' : Int} {wh' : Bool} (hg : w.heap[g]? = some (.cells (tk k' at' te' wh') 87 (0, 0)))
    (h : ∀ w', w'.heap[g]? = some (.cells (tk k at_ te wh) 87 (0, 0)) → w.grownBy w' (some g) → wpList Tryz.prog ops Q rest (a.put o.dst undef) w') : wpList Tryz.prog ops Q (o :: rest) a w :=
  wpList_put hgd 87 x y ho g (tk k at_ te wh) hx hy 87 (tk k' at' te' wh') hg (by kernel_rfl) rfl (by simp [Value.oneCell']) h
set_option maxRecDepth 100000 in
set_option maxHeartbeats 1000000 in
theorem upTo153 {w : World} (A : Option Addr) (n c : Nat) (l : List Int) (kind : Int) (at_ skip : Nat) (s : ByteArray) (h : Rd w w.heap.size 1 A n c (ints .i32 l)) (hn : n ≤ 65536) (hf : at_ < n) (hk : 0 < skip) (hk2 : skip ≤ 64) (hs : Asc s) :
    Calls Tryz.prog 153 #[.slice A n c, .int .i64 kind, .int .i64 (at_ : Nat), .int .i64 (skip : Nat), .string s] w (TokSaid n at_ w) := by
  have hal := (Below.refl w.heap.size w).alloc (Nat.le_refl _) (.cells (tk 0 0 0 false) 87)
  have HAL := Lib.hid hal
  have HR := Lib.hid (h.on hal)
  have HX := Lib.hid (heap_alloc_new w (.cells (tk 0 0 0 false) 87))
  have hsz := hs.1
  have HS := Lib.hid hs
  clear h hal hs
  by_cases hmin : at_ + skip ≤ n
  · have C207 := Lib.hid (find207 A n c l (at_ + skip) n s HR.out hn hmin (Nat.le_refl _) HS.out)
    rw [Int.natCast_add] at C207
    unfold FindSaid at C207
    have u1 : IntKind.i64.wrap ((at_ : Int) + (skip : Int)) = (at_ : Int) + (skip : Int) := IntWalk.i64_in _ (by omega)
    go_enter Tryz.func153, Tryz.ntmps153
    go_wp2_with fail
    refine C207.out.mono ?_
    rintro e w1 ⟨k, ok, rfl, hok, b1⟩
    have hR := kept_at b1 HX.out
    have B1 := Lib.hid (HAL.out.trans (b1.mono HAL.out.size))
    clear b1
    cases ok with
    | false =>
      clear hok
      go_wp2_with (refine tok_put rfl _ _ rfl w.heap.size kind (at_ : Nat) (n : Nat) false rfl rfl hR ?_; intro w3 hR3 hg3)
      exact bodyPost_ret (v := .agg (tk kind (at_ : Nat) (n : Nat) false)) (results_cell_row rfl _ _ w.heap.size 87 _ (0, 0) _ rfl hR3 Tryz.underlying87 rfl (by kernel_rfl)) rfl ⟨kind, n, false, rfl, hf, Nat.le_refl _, Below.put B1.out (Nat.le_refl _) hg3 B1.out.size⟩
    | true =>
      obtain ⟨h1, h2⟩ := hok rfl
      have u2 : IntKind.i64.wrap ((k : Int) + (s.size : Int)) = (k : Int) + (s.size : Int) := IntWalk.i64_in _ (by omega)
      clear hok
      go_wp2_with (refine tok_put rfl _ _ rfl w.heap.size kind (at_ : Nat) ((k : Int) + (s.size : Int)) true rfl rfl hR ?_; intro w3 hR3 hg3)
      exact bodyPost_ret (v := .agg (tk kind (at_ : Nat) ((k : Int) + (s.size : Int)) true)) (results_cell_row rfl _ _ w.heap.size 87 _ (0, 0) _ rfl hR3 Tryz.underlying87 rfl (by kernel_rfl)) rfl ⟨kind, k + s.size, true, by rw [Int.natCast_add], by omega, h2, Below.put B1.out (Nat.le_refl _) hg3 B1.out.size⟩
  · have C207 := Lib.hid (find207 A n c l n n s HR.out hn (Nat.le_refl _) (Nat.le_refl _) HS.out)
    unfold FindSaid at C207
    have t1 : n < at_ + skip := by omega
    have u1 : IntKind.i64.wrap ((at_ : Int) + (skip : Int)) = (at_ : Int) + (skip : Int) := IntWalk.i64_in _ (by omega)
    go_enter Tryz.func153, Tryz.ntmps153
    go_wp2_with fail
    refine C207.out.mono ?_
    rintro e w1 ⟨k, ok, rfl, hok, b1⟩
    have hR := kept_at b1 HX.out
    have B1 := Lib.hid (HAL.out.trans (b1.mono HAL.out.size))
    clear b1
    cases ok with
    | false =>
      clear hok
      go_wp2_with (refine tok_put rfl _ _ rfl w.heap.size kind (at_ : Nat) (n : Nat) false rfl rfl hR ?_; intro w3 hR3 hg3)
      exact bodyPost_ret (v := .agg (tk kind (at_ : Nat) (n : Nat) false)) (results_cell_row rfl _ _ w.heap.size 87 _ (0, 0) _ rfl hR3 Tryz.underlying87 rfl (by kernel_rfl)) rfl ⟨kind, n, false, rfl, hf, Nat.le_refl _, Below.put B1.out (Nat.le_refl _) hg3 B1.out.size⟩
    | true =>
      obtain ⟨h1, h2⟩ := hok rfl
      have u2 : IntKind.i64.wrap ((k : Int) + (s.size : Int)) = (k : Int) + (s.size : Int) := IntWalk.i64_in _ (by omega)
      clear hok
      go_wp2_with (refine tok_put rfl _ _ rfl w.heap.size kind (at_ : Nat) ((k : Int) + (s.size : Int)) true rfl rfl hR ?_; intro w3 hR3 hg3)
      exact bodyPost_ret (v := .agg (tk kind (at_ : Nat) ((k : Int) + (s.size : Int)) true)) (results_cell_row rfl _ _ w.heap.size 87 _ (0, 0) _ rfl hR3 Tryz.underlying87 rfl (by kernel_rfl)) rfl ⟨kind, k + s.size, true, by rw [Int.natCast_add], by omega, h2, Below.put B1.out (Nat.le_refl _) hg3 B1.out.size⟩
end Go.Proofs.YtibakihcicfeoaaGreat
/- The walks of lex.angle, start, end. No condition. -/
namespace Go.Proofs.YtibakihcicfeoaaGreat
open Go.RowKit

/-- The first > in no quotes, or what stops ahead of a <. -/
def angL (l : List Int) (st : Bool) : Nat → Nat → Nat × Bool
  | 0, _ => (l.length, false)
  | d + 1, at_ => if at_ < l.length then
      if quP (gz l at_) = true then angL l st d (qtL l at_).1
      else if gz l at_ = 62 then (at_, true)
      else if gz l at_ = 60 ∧ st = true then (at_, false)
      else angL l st d (at_ + 1)
    else (l.length, false)
theorem angL_le (l : List Int) (st : Bool) : ∀ (d at_ : Nat), at_ ≤ l.length → at_ ≤ (angL l st d at_).1 ∧ (angL l st d at_).1 ≤ l.length ∧ ((angL l st d at_).2 = true → (angL l st d at_).1 < l.length)
  | 0, at_, h => ⟨h, Nat.le_refl _, fun h => by cases h⟩
  | d + 1, at_, h => by
    simp only [angL]
    split
    · rename_i hlt
      split
      · have h1 := qtL_le l at_ hlt
        have := angL_le l st d (qtL l at_).1 h1.2
        exact ⟨by omega, this.2⟩
      · split
        · exact ⟨Nat.le_refl _, h, fun _ => hlt⟩
        · split
          · exact ⟨Nat.le_refl _, h, fun h => by cases h⟩
          · have := angL_le l st d (at_ + 1) hlt
            exact ⟨by omega, this.2⟩
    · exact ⟨h, Nat.le_refl _, fun h => by cases h⟩
def PairSaid (v : Nat × Bool) (w : World) (e : Ending) (w' : World) : Prop := e = .returned (.tuple #[.int .i64 (v.1 : Nat), .bool v.2]) ∧ Below w.heap.size w w'
set_option maxRecDepth 100000 in
set_option maxHeartbeats 2000000 in
theorem angle213 {w : World} (A : Option Addr) (n c : Nat) (l : List Int) (at0 : Nat) (st : Bool) (h : Rd w w.heap.size 1 A n c (ints .i32 l)) (hn : n ≤ 65536) (hat : at0 ≤ n) :
    Calls Tryz.prog 213 #[.slice A n c, .int .i64 (at0 : Nat), .bool st] w (PairSaid (angL l st (n + 1) at0) w) := by
  have HL := Lib.hid h.int_len
  have HR := Lib.hid h
  obtain ⟨V, hV⟩ : ∃ V, angL l st (n + 1) at0 = V := ⟨_, rfl⟩
  rw [hV]
  have HV := Lib.hid hV
  clear hV h
  unfold PairSaid
  go_enter Tryz.func213, Tryz.ntmps213
  go_wp2_with fail
  go_loopw [1] (fun i wr => ∃ (k d : Nat), k ≤ n ∧ i = .int .i64 k ∧ n - k < d ∧ Hid (angL l st d k = V) ∧ Below w.heap.size w wr)
    (fun i _ => n - (intOf i).toNat)
  case atStart => exact ⟨at0, n + 1, hat, rfl, by omega, HV, Below.refl _ _⟩
  case round =>
    obtain ⟨k, d, hk, rfl, hd, HD, hb⟩ := hrel
    obtain ⟨d, rfl⟩ : ∃ d', d = d' + 1 := ⟨d - 1, by omega⟩
    by_cases hlt : k < n
    · obtain ⟨b, off, rfl, hbb, hc⟩ := HR.out.int_form (by omega)
      have x0 := (hb.cell (p := ⟨b, off + k, none⟩) hbb).trans (hc k hlt)
      have CQ := quote208 (gz l k) wr
      have C209 := quoted209 (some ⟨b, off, none⟩) n c l k (HR.out.on hb) hn hlt
      have hq := qtL_le l k (by rw [HL.out]; exact hlt)
      rw [HL.out] at hq
      have HD1 := Lib.hid (show (if quP (gz l k) = true then angL l st d (qtL l k).1 else if gz l k = 62 then (k, true) else if gz l k = 60 ∧ st = true then (k, false) else angL l st d (k + 1)) = V by
        have := HD.out
        simp only [angL] at this
        rwa [if_pos (by rw [HL.out]; exact hlt)] at this)
      obtain ⟨z, hz⟩ : ∃ z, gz l k = z := ⟨_, rfl⟩
      rw [hz] at x0 CQ HD1
      clear hz hc
      cases hqu : quP z with
      | true =>
        rw [hqu] at CQ HD1
        have HD2 := Lib.hid (show angL l st d (qtL l k).1 = V by have := HD1.out; rwa [if_pos rfl] at this)
        clear hqu HD1
        generalize (qtL l k).1 = q1 at *
        generalize (qtL l k).2 = q2 at *
        go_wp2_with (first
          | (go_at_call 208; refine CQ.mono ?_; rintro e w1 ⟨rfl, rfl⟩; clear CQ)
          | (go_at_call 209; refine C209.mono ?_; rintro e w1 ⟨rfl, b1⟩; have B1 := Lib.hid (hb.trans (b1.mono hb.size)); clear b1 C209))
        go_roundw
        case rel => exact ⟨q1, d, hq.2, rfl, by omega, HD2, B1.out⟩
        case measure => simp [intOf]; omega
      | false =>
        rw [hqu] at CQ HD1
        clear hqu C209 hq
        by_cases h62 : z = 62
        · subst h62
          have HD2 := Lib.hid (show (k, true) = V by have := HD1.out; rwa [if_neg (by simp), if_pos rfl] at this)
          go_wp2_with (go_at_call 208; refine CQ.mono ?_; rintro e w1 ⟨rfl, rfl⟩; clear CQ)
          go_ret2
          exact ⟨by rw [← HD2.out]; rfl, hb⟩
        · have t62 : (z == 62) = false := by simpa using h62
          by_cases h60 : z = 60
          · subst h60
            cases st with
            | true =>
              have HD2 := Lib.hid (show (k, false) = V by have := HD1.out; rwa [if_neg (by simp), if_neg (by decide), if_pos ⟨rfl, rfl⟩] at this)
              go_wp2_with (go_at_call 208; refine CQ.mono ?_; rintro e w1 ⟨rfl, rfl⟩; clear CQ)
              go_ret2
              exact ⟨by rw [← HD2.out]; rfl, hb⟩
            | false =>
              have HD2 := Lib.hid (show angL l false d (k + 1) = V by have := HD1.out; rwa [if_neg (by simp), if_neg (by decide), if_neg (by simp)] at this)
              go_wp2_with (go_at_call 208; refine CQ.mono ?_; rintro e w1 ⟨rfl, rfl⟩; clear CQ)
              go_roundw
              case rel => exact ⟨k + 1, d, by omega, by go_num, by omega, HD2, hb⟩
              case measure => simp [intOf]; omega
          · have t60 : (z == 60) = false := by simpa using h60
            have HD2 := Lib.hid (show angL l st d (k + 1) = V by have := HD1.out; rwa [if_neg (by simp), if_neg h62, if_neg (fun e => h60 e.1)] at this)
            go_wp2_with (go_at_call 208; refine CQ.mono ?_; rintro e w1 ⟨rfl, rfl⟩; clear CQ)
            go_roundw
            case rel => exact ⟨k + 1, d, by omega, by go_num, by omega, HD2, hb⟩
            case measure => simp [intOf]; omega
    · obtain rfl : k = n := by omega
      have HD2 := Lib.hid (show (k, false) = V by
        have := HD.out
        simp only [angL] at this
        rwa [if_neg (by rw [HL.out]; omega), HL.out] at this)
      go_wp2_with fail
      go_ret2
      exact ⟨by rw [← HD2.out]; rfl, hb⟩
end Go.Proofs.YtibakihcicfeoaaGreat
/- The walks of lex.start, end. No condition. -/
namespace Go.Proofs.YtibakihcicfeoaaGreat
open Go.RowKit

/-- This token. -/
def TokIs (t : Int × Nat × Bool) (at_ : Nat) (w : World) (e : Ending) (w' : World) : Prop := e = .returned (.agg (tk t.1 (at_ : Nat) (t.2.1 : Nat) t.2.2)) ∧ Below w.heap.size w w'
def startT (l : List Int) (at_ : Nat) : Int × Nat × Bool :=
  if (angL l true (l.length + 1) (at_ + 1)).2 = false then (8, (angL l true (l.length + 1) (at_ + 1)).1, false)
  else if gz l ((angL l true (l.length + 1) (at_ + 1)).1 - 1) = 47 then (9, (angL l true (l.length + 1) (at_ + 1)).1 + 1, true)
  else (8, (angL l true (l.length + 1) (at_ + 1)).1 + 1, true)
theorem startT_le (l : List Int) (at_ : Nat) (h : at_ < l.length) : at_ < (startT l at_).2.1 ∧ (startT l at_).2.1 ≤ l.length := by
  obtain ⟨h1, h2, h3⟩ := angL_le l true (l.length + 1) (at_ + 1) h
  unfold startT
  split
  · simp only; omega
  · rename_i hb
    have := h3 (by simpa using hb)
    split <;> simp only <;> omega
theorem tok_new (w : World) : (w.alloc (.cells (tk 0 0 0 false) 87)).heap[w.heap.size]? = some (.cells (tk 0 0 0 false) 87 (0, 0)) := heap_alloc_new w _
set_option maxRecDepth 100000 in
set_option maxHeartbeats 1000000 in
theorem start157 {w : World} (A : Option Addr) (n c : Nat) (l : List Int) (at_ : Nat) (h : Rd w w.heap.size 1 A n c (ints .i32 l)) (hn : n ≤ 65536) (hat : at_ < n) :
    Calls Tryz.prog 157 #[.slice A n c, .int .i64 (at_ : Nat)] w (TokIs (startT l at_) at_ w) := by
  have hl := h.int_len
  have hal := (Below.refl w.heap.size w).alloc (Nat.le_refl _) (.cells (tk 0 0 0 false) 87)
  have C213 := Lib.hid (angle213 A n c l (at_ + 1) true (h.on hal) hn hat)
  obtain ⟨h1, h2, h3⟩ := angL_le l true (n + 1) (at_ + 1) (by omega)
  have HT : Hid (startT l at_ = _) := Lib.hid (by unfold startT; rw [hl])
  generalize hv : angL l true (n + 1) (at_ + 1) = v at *
  obtain ⟨k, ok⟩ := v
  simp only at h1 h2 h3
  obtain ⟨b, off, rfl, hbb, hc⟩ := h.int_form (by omega)
  have HC := Lib.hid hc
  have hx : (k - 1 < n) := by omega
  obtain ⟨z, hz⟩ : ∃ z, gz l (k - 1) = z := ⟨_, rfl⟩
  have x0 := (hal.cell (p := ⟨b, off + (k - 1), none⟩) hbb).trans (hc (k - 1) hx)
  have HAL := Lib.hid hal
  have HX := Lib.hid (tok_new w)
  rw [hz] at x0
  have HZ := Lib.hid hz
  have u1 : IntKind.i64.wrap ((at_ : Int) + 1) = (at_ : Int) + 1 := IntWalk.i64_in _ (by omega)
  have u2 : IntKind.i64.wrap ((k : Int) - 1) = ((k - 1 : Nat) : Int) := by rw [show ((k : Int) - 1) = ((k - 1 : Nat) : Int) by omega]; exact IntWalk.i64_in _ (by omega)
  have u3 : IntKind.i64.wrap ((k : Int) + 1) = (k : Int) + 1 := IntWalk.i64_in _ (by omega)
  have u4 : ((k - 1 : Nat) : Int) < (n : Int) := by omega
  clear h hc hal hv hl hz
  unfold PairSaid at C213
  unfold TokIs
  rw [HT.out]
  simp only at *
  go_enter Tryz.func157, Tryz.ntmps157
  go_wp2_with fail
  rw [show ((at_ : Int) + 1) = ((at_ + 1 : Nat) : Int) by omega]
  refine C213.out.mono ?_
  rintro e w1 ⟨rfl, b1⟩
  have hR := kept_at b1 HX.out
  have x1 := (b1.cell (World.block_lt_of_cell? _ _ x0)).trans x0
  have B1 := Lib.hid (HAL.out.trans (b1.mono HAL.out.size))
  clear b1 x0
  cases ok with
  | false =>
    go_wp2_with (refine tok_put rfl _ _ rfl w.heap.size 8 (at_ : Nat) (k : Nat) false rfl rfl hR ?_; intro w3 hR3 hg3)
    exact bodyPost_ret (v := .agg (tk 8 (at_ : Nat) (k : Nat) false)) (results_cell_row rfl _ _ w.heap.size 87 _ (0, 0) _ rfl hR3 Tryz.underlying87 rfl (by kernel_rfl)) rfl ⟨by simp, Below.put B1.out (Nat.le_refl _) hg3 B1.out.size⟩
  | true =>
    by_cases h47 : z = 47
    · subst h47
      go_wp2_with (refine tok_put rfl _ _ rfl w.heap.size 9 (at_ : Nat) ((k : Int) + 1) true rfl rfl hR ?_; intro w3 hR3 hg3)
      exact bodyPost_ret (v := .agg (tk 9 (at_ : Nat) ((k : Int) + 1) true)) (results_cell_row rfl _ _ w.heap.size 87 _ (0, 0) _ rfl hR3 Tryz.underlying87 rfl (by kernel_rfl)) rfl ⟨by simp, Below.put B1.out (Nat.le_refl _) hg3 B1.out.size⟩
    · have t47 : (z == 47) = false := by simpa using h47
      have HNZ := Lib.hid (show ¬ gz l (k - 1) = 47 by rw [HZ.out]; exact h47)
      go_wp2_with (refine tok_put rfl _ _ rfl w.heap.size 8 (at_ : Nat) ((k : Int) + 1) true rfl rfl hR ?_; intro w3 hR3 hg3)
      exact bodyPost_ret (v := .agg (tk 8 (at_ : Nat) ((k : Int) + 1) true)) (results_cell_row rfl _ _ w.heap.size 87 _ (0, 0) _ rfl hR3 Tryz.underlying87 rfl (by kernel_rfl)) rfl ⟨by simp, Below.put B1.out (Nat.le_refl _) hg3 B1.out.size⟩
end Go.Proofs.YtibakihcicfeoaaGreat
/- The walks of lex.end, ended, ref. No condition. -/
namespace Go.Proofs.YtibakihcicfeoaaGreat
open Go.RowKit

def stops (r : Int) : Bool := r != 62 && r != 60
def endT (l : List Int) (at_ : Nat) : Int × Nat × Bool :=
  if at_ + 2 + runL stops l (at_ + 2) < l.length then
    (if gz l (at_ + 2 + runL stops l (at_ + 2)) = 62 then (10, at_ + 2 + runL stops l (at_ + 2) + 1, true) else (10, at_ + 2 + runL stops l (at_ + 2), false))
  else (10, l.length, false)
theorem endT_le (l : List Int) (at_ : Nat) (h : at_ < l.length) : at_ < (endT l at_).2.1 ∧ (endT l at_).2.1 ≤ l.length := by
  unfold endT
  split
  · split <;> simp only <;> omega
  · simp only; omega
set_option maxRecDepth 100000 in
set_option maxHeartbeats 2000000 in
theorem end155 {w : World} (A : Option Addr) (n c : Nat) (l : List Int) (at_ : Nat) (h : Rd w w.heap.size 1 A n c (ints .i32 l)) (hn : n ≤ 65536) (hat : at_ + 2 ≤ n) :
    Calls Tryz.prog 155 #[.slice A n c, .int .i64 (at_ : Nat)] w (TokIs (endT l at_) at_ w) := by
  have HL := Lib.hid h.int_len
  have hal := (Below.refl w.heap.size w).alloc (Nat.le_refl _) (.cells (tk 0 0 0 false) 87)
  have HX := Lib.hid (tok_new w)
  have HAL := Lib.hid hal
  obtain ⟨b, off, rfl, hbb, hc⟩ := h.int_form (by omega)
  have HC := Lib.hid (fun (j : Nat) (hj : j < n) => (hal.cell (p := ⟨b, off + j, none⟩) hbb).trans (hc j hj))
  have u1 : IntKind.i64.wrap ((at_ : Int) + 2) = (at_ : Int) + 2 := IntWalk.i64_in _ (by omega)
  clear h hc hal
  unfold TokIs
  go_enter Tryz.func155, Tryz.ntmps155
  go_wp2_with fail
  have hX := HX.out
  have hB := HAL.out
  replace HC := HC
  obtain ⟨w1, hw1⟩ : ∃ w1, w.alloc (.cells (tk 0 0 0 false) 87) = w1 := ⟨_, rfl⟩
  have hw2 : w.alloc (.cells #[.int .i64 0, .int .i64 0, .int .i64 0, .bool false] 87) = w1 := hw1
  rw [hw1] at hX hB HC
  rw [hw2]
  have HX1 := Lib.hid hX
  have HB1 := Lib.hid hB
  clear hX hB hw1 hw2 HX HAL
  go_loopw [5] (fun i wr => ∃ k : Nat, at_ + 2 + k ≤ n ∧ i = .int .i64 ((at_ + 2 + k : Nat) : Int) ∧ Hid (∀ j, j < k → stops (gz l (at_ + 2 + j)) = true) ∧ wr = w1)
    (fun i _ => n - (intOf i).toNat)
  case atStart => exact ⟨0, by omega, by rw [Int.natCast_add]; rfl, Lib.hid (fun j hj => absurd hj (by omega)), rfl⟩
  case round =>
    obtain ⟨k, hk, rfl, HA, rfl⟩ := hrel
    obtain ⟨m, hm⟩ : ∃ m, at_ + 2 + k = m := ⟨_, rfl⟩
    have HM := Lib.hid hm
    rw [hm] at hk
    have hX1 := HX1.out
    by_cases hlt : m < n
    · have x1 := HC.out m hlt
      obtain ⟨z, hz⟩ : ∃ z, gz l m = z := ⟨_, rfl⟩
      have HZ := Lib.hid hz
      rw [hz] at x1
      rw [hm]
      clear hz hm
      by_cases h62 : z = 62
      · subst h62
        have HE := Lib.hid (show endT l at_ = (10, m + 1, true) by
          have hr := runL_at (p := stops) (l := l) (f := at_ + 2) (k := k) (by rw [HL.out, HM.out]; omega) HA.out (.inr (by rw [HM.out, HZ.out]; rfl))
          unfold endT
          rw [hr, HM.out, HL.out, if_pos hlt, if_pos HZ.out])
        go_wp2_with (refine tok_put rfl _ _ rfl w.heap.size 10 (at_ : Nat) ((m : Int) + 1) true rfl rfl hX1 ?_; intro w3 hR3 hg3)
        exact bodyPost_ret (v := .agg (tk 10 (at_ : Nat) ((m : Int) + 1) true)) (results_cell_row rfl _ _ w.heap.size 87 _ (0, 0) _ rfl hR3 Tryz.underlying87 rfl (by kernel_rfl)) rfl ⟨by rw [HE.out]; simp, Below.put HB1.out (Nat.le_refl _) hg3 HB1.out.size⟩
      · have t62 : (z == 62) = false := by simpa using h62
        by_cases h60 : z = 60
        · subst h60
          have HE := Lib.hid (show endT l at_ = (10, m, false) by
            have hr := runL_at (p := stops) (l := l) (f := at_ + 2) (k := k) (by rw [HL.out, HM.out]; omega) HA.out (.inr (by rw [HM.out, HZ.out]; rfl))
            unfold endT
            rw [hr, HM.out, HL.out, if_pos hlt, if_neg (by rw [HZ.out]; decide)])
          go_wp2_with (refine tok_put rfl _ _ rfl w.heap.size 10 (at_ : Nat) (m : Nat) false rfl rfl hX1 ?_; intro w3 hR3 hg3)
          exact bodyPost_ret (v := .agg (tk 10 (at_ : Nat) (m : Nat) false)) (results_cell_row rfl _ _ w.heap.size 87 _ (0, 0) _ rfl hR3 Tryz.underlying87 rfl (by kernel_rfl)) rfl ⟨by rw [HE.out], Below.put HB1.out (Nat.le_refl _) hg3 HB1.out.size⟩
        · have t60 : (z == 60) = false := by simpa using h60
          have HZS := Lib.hid (show stops z = true by unfold stops; simp [h62, h60])
          go_wp2_with fail
          go_roundw
          case rel => exact ⟨k + 1, by rw [← Nat.add_assoc, HM.out]; omega, by rw [← Nat.add_assoc, HM.out]; go_num, Lib.hid (fun j hj => by
            rcases Nat.lt_or_eq_of_le (Nat.le_of_lt_succ hj) with h | rfl
            · exact HA.out j h
            · rw [HM.out, HZ.out]; exact HZS.out), trivial⟩
          case measure => simp [intOf]; omega
    · obtain rfl : m = n := by omega
      have HE := Lib.hid (show endT l at_ = (10, m, false) by
        have hr := runL_at (p := stops) (l := l) (f := at_ + 2) (k := k) (by rw [HL.out, HM.out]; omega) HA.out (.inl (by rw [HL.out, HM.out]))
        unfold endT
        rw [hr, HM.out, HL.out, if_neg (by omega)])
      rw [hm]
      clear hm
      go_wp2_with (refine tok_put rfl _ _ rfl w.heap.size 10 (at_ : Nat) (m : Nat) false rfl rfl hX1 ?_; intro w3 hR3 hg3)
      exact bodyPost_ret (v := .agg (tk 10 (at_ : Nat) (m : Nat) false)) (results_cell_row rfl _ _ w.heap.size 87 _ (0, 0) _ rfl hR3 Tryz.underlying87 rfl (by kernel_rfl)) rfl ⟨by rw [HE.out], Below.put HB1.out (Nat.le_refl _) hg3 HB1.out.size⟩
def EndedSaid (n at_ m : Nat) (w : World) (e : Ending) (w' : World) : Prop := ∃ b : Bool, e = .returned (.bool b) ∧ (b = true → 0 < m ∧ at_ + m < n) ∧ w = w'
set_option maxRecDepth 100000 in
set_option maxHeartbeats 1000000 in
theorem ended160 {w : World} (A : Option Addr) (n c : Nat) (l : List Int) (at_ m : Nat) (h : Rd w w.heap.size 1 A n c (ints .i32 l)) (hn : n ≤ 65536) (h1 : at_ ≤ 100000) (h2 : m ≤ 100000) :
    Calls Tryz.prog 160 #[.slice A n c, .int .i64 (at_ : Nat), .int .i64 (m : Nat)] w (EndedSaid n at_ m w) := by
  have u1 : IntKind.i64.wrap ((at_ : Int) + (m : Int)) = (at_ : Int) + (m : Int) := IntWalk.i64_in _ (by omega)
  by_cases hm : 0 < m
  · by_cases hlt : at_ + m < n
    · obtain ⟨b, off, rfl, hbb, hc⟩ := h.int_form (by omega)
      have x0 := hc (at_ + m) hlt
      have u2 : (at_ : Int) + (m : Int) < (n : Int) := by omega
      have u3 : ((at_ : Int) + (m : Int)).toNat = at_ + m := by omega
      have u4 : 0 ≤ (at_ : Int) + (m : Int) := by omega
      generalize gz l (at_ + m) = z at x0
      clear h hc
      go_enter Tryz.func160, Tryz.ntmps160
      go_wp2_with fail
      go_ret
      exact ⟨z == 59, rfl, fun _ => ⟨hm, hlt⟩, rfl⟩
    · have t1 : decide ((at_ : Int) + (m : Int) < (n : Int)) = false := by simp; omega
      have t2 : decide (at_ + m < n) = false := by simp; omega
      clear h
      go_enter Tryz.func160, Tryz.ntmps160
      go_wp2_with fail
      go_ret
      exact ⟨false, rfl, (fun h => by cases h), rfl⟩
  · have t1 : decide (0 < m) = false := by simp; omega
    clear h
    go_enter Tryz.func160, Tryz.ntmps160
    go_wp2_with fail
    go_ret
    exact ⟨false, rfl, (fun h => by cases h), rfl⟩
end Go.Proofs.YtibakihcicfeoaaGreat
