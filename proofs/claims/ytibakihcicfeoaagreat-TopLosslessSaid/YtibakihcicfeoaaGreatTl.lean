/- The walks of package class: in, Char, NameStart, NameChar, Space, Digit, Hex. No condition. -/
import Derived.Test.YtibakihcicfeoaaGreatTg2
import Derived.Test.YtibakihcicfeoaaGreatTk
import Derived.Shelf.Abstract
namespace Go.Proofs.YtibakihcicfeoaaGreat
open Go.RowKit

theorem below_put {w w' : World} {o : Obj} (hg : (w.alloc o).grownBy w' (some w.heap.size)) : Below w.heap.size w w' := Below.put ((Below.refl w.heap.size w).alloc (Nat.le_refl _) o) (Nat.le_refl _) hg (by simp)
theorem kept_at {w w' : World} {g : Nat} {ob : Obj} (hb : Below w.heap.size w w') (h : w.heap[g]? = some ob) : w'.heap[g]? = some ob := (hb.block g (Array.getElem?_eq_some_iff.1 h).1).trans h
theorem cells2 {W : World} {b : Nat} {x y : Value} {t : TypeId} (h : W.heap[b]? = some (.cells #[x, y] t (0, 0))) : W.cell? ⟨b, 0, none⟩ = some x ∧ W.cell? ⟨b, 1, none⟩ = some y := ⟨cell_of_row W b 0 _ _ _ h, cell_of_row W b 1 _ _ _ h⟩
/-- Is a rune in one of spans? -/
def inS (r : Int) (l : List (Int × Int)) : Bool := l.any fun s => decide (s.1 ≤ r) && decide (r ≤ s.2)
def spanV (s : Int × Int) : List Value := [.int .i32 s.1, .int .i32 s.2]
def spansV (l : List (Int × Int)) : List Value := l.flatMap spanV
theorem spansV_len : ∀ l : List (Int × Int), (spansV l).length = l.length * 2
  | [] => rfl
  | s :: l => by
    have := spansV_len l
    simp only [spansV, List.flatMap_cons, List.length_append, List.length_cons] at this ⊢
    rw [this, show (spanV s).length = 2 from rfl]
    omega
theorem spansV_get : ∀ (l : List (Int × Int)) (i : Nat) (s : Int × Int), l[i]? = some s → (spansV l)[i * 2]? = some (.int .i32 s.1) ∧ (spansV l)[i * 2 + 1]? = some (.int .i32 s.2)
  | [], i, s, h => by simp at h
  | y :: l, 0, s, h => by
    simp at h
    subst h
    exact ⟨rfl, rfl⟩
  | y :: l, i + 1, s, h => by
    simp at h
    have := spansV_get l i s h
    have key : ∀ j, (spansV (y :: l))[(i + 1) * 2 + j]? = (spansV l)[i * 2 + j]? := fun j => by
      simp only [spansV, List.flatMap_cons]
      rw [List.getElem?_append_right (by show 2 ≤ _; omega)]
      congr 1
      show (i + 1) * 2 + j - 2 = _
      omega
    exact ⟨(key 0).trans this.1, (key 1).trans this.2⟩
set_option maxRecDepth 100000 in
set_option maxHeartbeats 2000000 in
theorem in218 {w : World} (r : Int) (A : Option Addr) (n c : Nat) (l : List (Int × Int)) (h : Rd w w.heap.size 2 A n c (spansV l)) (hn : n ≤ 64) :
    Calls Tryz.prog 218 #[.int .i32 r, .slice A n c] w fun e w' => e = .returned (.bool (inS r l)) ∧ Below w.heap.size w w' := by
  have hll : l.length = n := by have := h.len; rw [spansV_len] at this; omega
  have HLL := Lib.hid hll
  have HR := Lib.hid h
  clear h hll
  go_enter Tryz.func218, Tryz.ntmps218
  go_wp2_with fail
  go_loopw [9] (fun i wr => ∃ k : Nat, k ≤ n ∧ i = .int .i64 k ∧ Hid (inS r (l.take k) = false) ∧ Below w.heap.size w wr)
    (fun i _ => n - (intOf i).toNat)
  case atStart => exact ⟨0, Nat.zero_le _, rfl, Lib.hid rfl, Below.refl _ _⟩
  case round =>
    obtain ⟨k, hk, rfl, HI, hb⟩ := hrel
    by_cases hlt : k < n
    · obtain ⟨s, hs⟩ : ∃ s, l[k]? = some s := ⟨_, List.getElem?_eq_getElem (by rw [HLL.out]; exact hlt)⟩
      obtain ⟨lo, hi⟩ := s
      obtain ⟨b, off, rfl, hbb, hc⟩ := HR.out.at_ (by omega)
      obtain ⟨g0, g1⟩ := spansV_get l k _ hs
      have x0 := (hb.cell (p := ⟨b, off + k * 2, none⟩) hbb).trans (hc _ _ g0)
      have x1 := (hb.cell (p := ⟨b, off + (k * 2 + 1), none⟩) hbb).trans (hc _ _ g1)
      have HNX := Lib.hid (show inS r (l.take (k + 1)) = (inS r (l.take k) || (decide (lo ≤ r) && decide (r ≤ hi))) by
        rw [List.take_succ_eq_append_getElem (by rw [HLL.out]; exact hlt)]
        have he : l[k]'(by rw [HLL.out]; exact hlt) = (lo, hi) := by
          have := List.getElem?_eq_getElem (l := l) (i := k) (by rw [HLL.out]; exact hlt)
          rw [hs] at this; injection this with this; exact this.symm
        rw [he]; simp [inS])
      have HALL := Lib.hid (show decide (lo ≤ r) = true → decide (r ≤ hi) = true → inS r l = true from fun h1 h2 => by
        unfold inS
        rw [List.any_eq_true]
        exact ⟨(lo, hi), List.mem_of_getElem? hs, by show (decide (lo ≤ r) && decide (r ≤ hi)) = true; rw [h1, h2]; rfl⟩)
      have hR := heap_alloc_new wr (.cells #[.int .i32 0, .int .i32 0] 319)
      rw [← Nat.add_assoc] at x1
      clear hs hc g0 g1
      by_cases h1 : lo ≤ r
      · by_cases h2 : r ≤ hi
        · go_wp2_with (refine wpList_put rfl 319 _ _ rfl wr.heap.size #[.int .i32 lo, .int .i32 hi] rfl rfl 319 #[.int .i32 0, .int .i32 0] hR (by kernel_rfl) rfl (by simp [Value.oneCell']) ?_; intro w3 hR3 hg3; have B3 := Lib.hid (hb.trans ((below_put hg3).mono hb.size)); have d0 := (cells2 hR3).1; have d1 := (cells2 hR3).2; clear hR hR3 hg3 x0 x1)
          go_ret
          exact ⟨by rw [HALL.out (by simpa using h1) (by simpa using h2)]; rfl, B3.out⟩
        · have t1 : decide (r ≤ hi) = false := decide_eq_false h2
          go_wp2_with (refine wpList_put rfl 319 _ _ rfl wr.heap.size #[.int .i32 lo, .int .i32 hi] rfl rfl 319 #[.int .i32 0, .int .i32 0] hR (by kernel_rfl) rfl (by simp [Value.oneCell']) ?_; intro w3 hR3 hg3; have B3 := Lib.hid (hb.trans ((below_put hg3).mono hb.size)); have d0 := (cells2 hR3).1; have d1 := (cells2 hR3).2; clear hR hR3 hg3 x0 x1)
          go_roundw
          case rel => exact ⟨k + 1, by omega, by go_num, Lib.hid (by rw [HNX.out, HI.out, t1]; simp), B3.out⟩
          case measure => simp [intOf]; omega
      · have t1 : decide (lo ≤ r) = false := decide_eq_false h1
        go_wp2_with (refine wpList_put rfl 319 _ _ rfl wr.heap.size #[.int .i32 lo, .int .i32 hi] rfl rfl 319 #[.int .i32 0, .int .i32 0] hR (by kernel_rfl) rfl (by simp [Value.oneCell']) ?_; intro w3 hR3 hg3; have B3 := Lib.hid (hb.trans ((below_put hg3).mono hb.size)); have d0 := (cells2 hR3).1; have d1 := (cells2 hR3).2; clear hR hR3 hg3 x0 x1)
        go_roundw
        case rel => exact ⟨k + 1, by omega, by go_num, Lib.hid (by rw [HNX.out, HI.out, t1]; simp), B3.out⟩
        case measure => simp [intOf]; omega
    · obtain rfl : k = n := by omega
      have HI2 := Lib.hid (show inS r l = false by have := HI.out; rwa [List.take_of_length_le (by rw [HLL.out]; exact Nat.le_refl _)] at this)
      go_wp2_with fail
      go_ret
      exact ⟨by rw [HI2.out]; rfl, hb⟩
end Go.Proofs.YtibakihcicfeoaaGreat
/- The walks of package class's predicates, and of name's and lex's small ones. No condition. -/
namespace Go.Proofs.YtibakihcicfeoaaGreat
open Go.RowKit

def nameSpans : List (Int × Int) := [(97, 122), (65, 90), (58, 58), (95, 95), (192, 214), (216, 246), (248, 767), (880, 893), (895, 8191), (8204, 8205), (8304, 8591), (11264, 12271), (12289, 55295), (63744, 64975), (65008, 65533), (65536, 983039)]
def moreSpans : List (Int × Int) := [(48, 57), (45, 46), (183, 183), (768, 879), (8255, 8256)]
def charSpans : List (Int × Int) := [(32, 55295), (9, 10), (13, 13), (57344, 65533), (65536, 1114111)]
def nsP (r : Int) : Bool := inS r nameSpans
def ncP (r : Int) : Bool := inS r nameSpans || inS r moreSpans
def chP (r : Int) : Bool := inS r charSpans
def spP (r : Int) : Bool := r == 32 || r == 9 || r == 10 || r == 13
def plP (r : Int) : Bool := r != 60 && r != 38 && r != -1
def quP (r : Int) : Bool := r == 34 || r == 39
def dgP (r : Int) : Bool := decide (48 ≤ r) && decide (r ≤ 57)
theorem lit_below {w W' : World} {o : Obj} (hb : Below (w.alloc o).heap.size (w.alloc o) W') : Below w.heap.size w W' := ((Below.refl w.heap.size w).alloc (Nat.le_refl _) o).trans (hb.mono (by simp))
set_option maxRecDepth 100000 in
theorem nameStart211 (r : Int) (w : World) : Calls Tryz.prog 211 #[.int .i32 r] w fun e w' => e = .returned (.bool (nsP r)) ∧ Below w.heap.size w w' := by
  have C := Lib.hid (in218 r (some ⟨w.heap.size, 0, none⟩) 16 16 nameSpans (Rd.lit w (spansV nameSpans) 319 16 2 rfl (by omega)) (by omega))
  go_enter Tryz.func211, Tryz.ntmps211
  go_wp2_with (go_at_call 218; refine C.out.mono ?_; rintro e w1 ⟨rfl, b1⟩; have B1 := Lib.hid (lit_below b1); clear b1)
  go_ret
  exact ⟨rfl, B1.out⟩
set_option maxRecDepth 100000 in
theorem char163 (r : Int) (w : World) : Calls Tryz.prog 163 #[.int .i32 r] w fun e w' => e = .returned (.bool (chP r)) ∧ Below w.heap.size w w' := by
  have C := Lib.hid (in218 r (some ⟨w.heap.size, 0, none⟩) 5 5 charSpans (Rd.lit w (spansV charSpans) 319 5 2 rfl (by omega)) (by omega))
  go_enter Tryz.func163, Tryz.ntmps163
  go_wp2_with (go_at_call 218; refine C.out.mono ?_; rintro e w1 ⟨rfl, b1⟩; have B1 := Lib.hid (lit_below b1); clear b1)
  go_ret
  exact ⟨rfl, B1.out⟩
set_option maxRecDepth 100000 in
theorem nameChar212 (r : Int) (w : World) : Calls Tryz.prog 212 #[.int .i32 r] w fun e w' => e = .returned (.bool (ncP r)) ∧ Below w.heap.size w w' := by
  have C0 := nameStart211 r w
  have C := Lib.hid (fun W : World => in218 r (some ⟨W.heap.size, 0, none⟩) 5 5 moreSpans (Rd.lit W (spansV moreSpans) 319 5 2 rfl (by omega)) (by omega))
  cases h : nsP r with
  | true =>
    rw [h] at C0
    have HE := Lib.hid (show ncP r = true by unfold nsP at h; unfold ncP; rw [h]; rfl)
    clear h
    go_enter Tryz.func212, Tryz.ntmps212
    go_wp2_with (go_at_call 211; refine C0.mono ?_; rintro e w1 ⟨rfl, b1⟩; have B1 := Lib.hid b1; clear b1)
    go_ret
    exact ⟨by rw [HE.out]; rfl, B1.out⟩
  | false =>
    rw [h] at C0
    have HE := Lib.hid (show ncP r = inS r moreSpans by unfold nsP at h; unfold ncP; rw [h]; rfl)
    clear h
    go_enter Tryz.func212, Tryz.ntmps212
    go_wp2_with (first
      | (go_at_call 211; refine C0.mono ?_; rintro e w1 ⟨rfl, b1⟩; have B1 := Lib.hid b1; clear b1)
      | (go_at_call 218; refine (C.out _).mono ?_; rintro e w2 ⟨rfl, b2⟩; have B2 := Lib.hid (B1.out.trans ((lit_below b2).mono B1.out.size)); clear b2))
    go_ret
    exact ⟨by rw [HE.out]; rfl, B2.out⟩
set_option maxRecDepth 100000 in
theorem space216 (r : Int) (w : World) : Calls Tryz.prog 216 #[.int .i32 r] w fun e w' => e = .returned (.bool (spP r)) ∧ Below w.heap.size w w' := by
  by_cases h1 : r = 32
  · subst h1
    go_enter Tryz.func216, Tryz.ntmps216
    go_wp2_with fail
    go_ret
    exact ⟨rfl, Below.refl _ _⟩
  by_cases h2 : r = 9
  · subst h2
    go_enter Tryz.func216, Tryz.ntmps216
    go_wp2_with fail
    go_ret
    exact ⟨rfl, Below.refl _ _⟩
  by_cases h3 : r = 10
  · subst h3
    go_enter Tryz.func216, Tryz.ntmps216
    go_wp2_with fail
    go_ret
    exact ⟨rfl, Below.refl _ _⟩
  have t1 : (r == 32) = false := by simpa using h1
  have t2 : (r == 9) = false := by simpa using h2
  have t3 : (r == 10) = false := by simpa using h3
  have HE := Lib.hid (show spP r = (r == 13) by unfold spP; rw [t1, t2, t3]; rfl)
  clear h1 h2 h3
  go_enter Tryz.func216, Tryz.ntmps216
  go_wp2_with fail
  go_ret
  exact ⟨by rw [HE.out]; rfl, Below.refl _ _⟩
set_option maxRecDepth 100000 in
theorem plain104 (r : Int) (w : World) : Calls Tryz.prog 104 #[.int .i32 r] w fun e w' => e = .returned (.bool (plP r)) ∧ Below w.heap.size w w' := by
  by_cases h1 : r = 60
  · subst h1
    go_enter Tryz.func104, Tryz.ntmps104
    go_wp2_with fail
    go_ret
    exact ⟨rfl, Below.refl _ _⟩
  by_cases h2 : r = 38
  · subst h2
    go_enter Tryz.func104, Tryz.ntmps104
    go_wp2_with fail
    go_ret
    exact ⟨rfl, Below.refl _ _⟩
  have t1 : (r != 60) = true := by simpa using h1
  have t2 : (r != 38) = true := by simpa using h2
  have HE := Lib.hid (show plP r = (r != -1) by unfold plP; rw [t1, t2]; rfl)
  clear h1 h2
  go_enter Tryz.func104, Tryz.ntmps104
  go_wp2_with fail
  go_ret
  exact ⟨by rw [HE.out]; rfl, Below.refl _ _⟩
set_option maxRecDepth 100000 in
theorem quote208 (r : Int) (w : World) : Calls Tryz.prog 208 #[.int .i32 r] w fun e w' => e = .returned (.bool (quP r)) ∧ w = w' := by
  by_cases h1 : r = 34
  · subst h1
    go_enter Tryz.func208, Tryz.ntmps208
    go_wp2_with fail
    go_ret
    exact ⟨rfl, rfl⟩
  have t1 : (r == 34) = false := by simpa using h1
  have HE := Lib.hid (show quP r = (r == 39) by unfold quP; rw [t1]; rfl)
  clear h1
  go_enter Tryz.func208, Tryz.ntmps208
  go_wp2_with fail
  go_ret
  exact ⟨by rw [HE.out]; rfl, rfl⟩
end Go.Proofs.YtibakihcicfeoaaGreat
/- The walks of class.Run, Digit, Hex, of lex's digit and hex, and of name.Lead. No condition. -/
namespace Go.Proofs.YtibakihcicfeoaaGreat
open Go.RowKit

def hxP (r : Int) : Bool := (decide (97 ≤ r) && decide (r ≤ 102)) || (decide (65 ≤ r) && decide (r ≤ 70)) || dgP r
def BoolSaid (b : Bool) (w : World) (e : Ending) (w' : World) : Prop := ∃ v : Value, e = .returned (.tuple #[v, .bool b]) ∧ w = w'
set_option maxRecDepth 100000 in
theorem digit214 (r : Int) (w : World) : Calls Tryz.prog 214 #[.int .i32 r] w (BoolSaid (dgP r) w) := by
  by_cases h1 : r < 48
  · have HE := Lib.hid (show dgP r = false by unfold dgP; rw [decide_eq_false (by omega)]; rfl)
    go_enter Tryz.func214, Tryz.ntmps214
    go_wp2_with fail
    go_ret2
    exact ⟨_, by rw [HE.out]; rfl, rfl⟩
  · by_cases h2 : 57 < r
    · have HE := Lib.hid (show dgP r = false by unfold dgP; rw [decide_eq_false (show ¬ r ≤ 57 by omega), Bool.and_false])
      have t1 : decide (r < 48) = false := decide_eq_false h1
      go_enter Tryz.func214, Tryz.ntmps214
      go_wp2_with fail
      go_ret2
      exact ⟨_, by rw [HE.out]; rfl, rfl⟩
    · have HE := Lib.hid (show dgP r = true by unfold dgP; rw [decide_eq_true (show 48 ≤ r by omega), decide_eq_true (show r ≤ 57 by omega)]; rfl)
      have t1 : decide (r < 48) = false := decide_eq_false h1
      have t2 : decide (57 < r) = false := decide_eq_false h2
      go_enter Tryz.func214, Tryz.ntmps214
      go_wp2_with fail
      go_ret2
      exact ⟨_, by rw [HE.out]; rfl, rfl⟩
set_option maxRecDepth 100000 in
theorem digit158 (r : Int) (w : World) : Calls Tryz.prog 158 #[.int .i32 r] w fun e w' => e = .returned (.bool (dgP r)) ∧ Below w.heap.size w w' := by
  have C := digit214 r w
  unfold BoolSaid at C
  generalize dgP r = b at *
  go_enter Tryz.func158, Tryz.ntmps158
  go_wp2_with (go_at_call 214; refine C.mono ?_; rintro e w1 ⟨v, rfl, rfl⟩; clear C)
  go_ret
  exact ⟨rfl, Below.refl _ _⟩
set_option maxRecDepth 100000 in
theorem hex215 (r : Int) (w : World) : Calls Tryz.prog 215 #[.int .i32 r] w (BoolSaid (hxP r) w) := by
  have C := digit214 r w
  unfold BoolSaid at C
  by_cases h1 : 97 ≤ r ∧ r ≤ 102
  · have HE := Lib.hid (show hxP r = true by unfold hxP; rw [decide_eq_true h1.1, decide_eq_true h1.2]; rfl)
    have t1 := h1.1
    have t2 := h1.2
    go_enter Tryz.func215, Tryz.ntmps215
    go_wp2_with fail
    go_ret2
    exact ⟨_, by rw [HE.out]; rfl, rfl⟩
  · have h97 : (decide (97 ≤ r) && decide (r ≤ 102)) = false := by
      by_cases ha : 97 ≤ r
      · rw [decide_eq_false (show ¬ r ≤ 102 by omega), Bool.and_false]
      · rw [decide_eq_false ha, Bool.false_and]
    have hc1 : (decide (97 ≤ r) = false) ∨ (97 ≤ r ∧ decide (r ≤ 102) = false) := by
      by_cases ha : 97 ≤ r
      · exact .inr ⟨ha, decide_eq_false (by omega)⟩
      · exact .inl (decide_eq_false ha)
    by_cases h2 : 65 ≤ r ∧ r ≤ 70
    · have HE := Lib.hid (show hxP r = true by unfold hxP; rw [h97, decide_eq_true h2.1, decide_eq_true h2.2]; rfl)
      have t3 := h2.1
      have t4 := h2.2
      have t1 : decide (97 ≤ r) = false := decide_eq_false (by omega)
      clear hc1 h97 h1
      go_enter Tryz.func215, Tryz.ntmps215
      go_wp2_with fail
      go_ret2
      exact ⟨_, by rw [HE.out]; rfl, rfl⟩
    · have h65 : (decide (65 ≤ r) && decide (r ≤ 70)) = false := by
        by_cases ha : 65 ≤ r
        · rw [decide_eq_false (show ¬ r ≤ 70 by omega), Bool.and_false]
        · rw [decide_eq_false ha, Bool.false_and]
      have hc2 : (decide (65 ≤ r) = false) ∨ (65 ≤ r ∧ decide (r ≤ 70) = false) := by
        by_cases ha : 65 ≤ r
        · exact .inr ⟨ha, decide_eq_false (by omega)⟩
        · exact .inl (decide_eq_false ha)
      have HE := Lib.hid (show hxP r = dgP r by unfold hxP; rw [h97, h65]; rfl)
      rw [HE.out]
      generalize dgP r = b at C ⊢
      clear h97 h65 h1 h2 HE
      rcases hc1 with t1 | ⟨t0, t1⟩
      · rcases hc2 with t2 | ⟨t2, t3⟩
        all_goals
          go_enter Tryz.func215, Tryz.ntmps215
          go_wp2_with (go_at_call 214; refine C.mono ?_; rintro e w1 ⟨v, rfl, rfl⟩; clear C)
          go_ret2
          exact ⟨_, rfl, rfl⟩
      · rcases hc2 with t2 | ⟨t2, t3⟩
        all_goals
          go_enter Tryz.func215, Tryz.ntmps215
          go_wp2_with (go_at_call 214; refine C.mono ?_; rintro e w1 ⟨v, rfl, rfl⟩; clear C)
          go_ret2
          exact ⟨_, rfl, rfl⟩
set_option maxRecDepth 100000 in
theorem hex159 (r : Int) (w : World) : Calls Tryz.prog 159 #[.int .i32 r] w fun e w' => e = .returned (.bool (hxP r)) ∧ Below w.heap.size w w' := by
  have C := hex215 r w
  unfold BoolSaid at C
  generalize hxP r = b at *
  go_enter Tryz.func159, Tryz.ntmps159
  go_wp2_with (go_at_call 215; refine C.mono ?_; rintro e w1 ⟨v, rfl, rfl⟩; clear C)
  go_ret
  exact ⟨rfl, Below.refl _ _⟩
/-- How many runes from a place on are such. -/
def runL (p : Int → Bool) (l : List Int) (f : Nat) : Nat := ((l.drop f).takeWhile p).length
theorem takeWhile_at {p : Int → Bool} : ∀ {l : List Int} {k : Nat}, k ≤ l.length → (∀ j, j < k → p (gz l j) = true) → (k = l.length ∨ p (gz l k) = false) → (l.takeWhile p).length = k
  | [], k, hk, _, _ => by simp at hk; simp [hk]
  | a :: l, 0, _, _, h => by
    rcases h with h | h
    · simp at h
    · rw [List.takeWhile_cons, show p a = false from h]; rfl
  | a :: l, k + 1, hk, ha, h => by
    rw [List.takeWhile_cons, show p a = true from ha 0 (by omega)]
    simp only [if_true, List.length_cons]
    rw [takeWhile_at (by simpa using hk) (fun j hj => ha (j + 1) (by omega)) (h.imp (fun e => by simpa using e) (fun e => e))]
theorem runL_le (p : Int → Bool) (l : List Int) (f : Nat) : runL p l f ≤ l.length - f := by
  unfold runL
  have := (List.takeWhile_sublist p (l := l.drop f)).length_le
  rwa [List.length_drop] at this
theorem runL_at {p : Int → Bool} {l : List Int} {f k : Nat} (hk : f + k ≤ l.length) (ha : ∀ j, j < k → p (gz l (f + j)) = true) (h : f + k = l.length ∨ p (gz l (f + k)) = false) : runL p l f = k := by
  refine takeWhile_at (by rw [List.length_drop]; omega) (fun j hj => by rw [gz_drop]; exact ha j hj) ?_
  rw [gz_drop, List.length_drop]
  exact h.imp (fun h => by omega) id
set_option maxRecDepth 100000 in
set_option maxHeartbeats 2000000 in
theorem run103 {w : World} (F : FuncId) (p : Int → Bool) (hE : ∀ (args : Array Value) (w : World), (callFunc F args).run Tryz.prog w = .ok (.enter F args) w) (hF : ∀ (r : Int) (W : World), Calls Tryz.prog F #[.int .i32 r] W fun e w' => e = .returned (.bool (p r)) ∧ Below W.heap.size W w')
    (A : Option Addr) (n c : Nat) (l : List Int) (f : Nat) (h : Rd w w.heap.size 1 A n c (ints .i32 l)) (hf : f ≤ n) (hn : n ≤ 65536) :
    Calls Tryz.prog 103 #[.slice A n c, .int .i64 (f : Nat), .func (.func F) #[] #[]] w fun e w' => e = .returned (.int .i64 (runL p l f : Nat)) ∧ Below w.heap.size w w' := by
  have qe : ∀ w, (binOp BinOp.eql 189 (.func (.func F) #[] #[]) .nilFunc).run Tryz.prog w = .ok (.bool false) w := fun _ => by kernel_rfl
  have HL := Lib.hid h.int_len
  have hcap := h.cap
  have HF := Lib.hid hF
  have t2 : decide ((f : Int) < 0) = false := by simp
  have t3 : decide (n < f) = false := by simp; omega
  by_cases hfn : f < n
  · obtain ⟨b, off, rfl, hbb, hc⟩ := h.int_form (by omega)
    have HC := Lib.hid hc
    have hcf : ¬ c = f := by omega
    have HT1 := Lib.hid (show ((n : Int) - (f : Int)) = ((n - f : Nat) : Int) by omega)
    clear h hc hF
    go_enter Tryz.func103, Tryz.ntmps103
    go_wp2_with fail
    go_loopw [25] (fun i wr => ∃ k : Nat, k ≤ n - f ∧ i = .int .i64 k ∧ Hid (∀ j, j < k → p (gz l (f + j)) = true) ∧ Below w.heap.size w wr)
      (fun i _ => n - f - (intOf i).toNat)
    case atStart => exact ⟨0, Nat.zero_le _, rfl, Lib.hid (fun j hj => absurd hj (by omega)), Below.refl _ _⟩
    case round =>
      obtain ⟨k, hk, rfl, HA, hb⟩ := hrel
      by_cases hlt : k < n - f
      · have x0 := (hb.cell (p := ⟨b, off + (f + k), none⟩) hbb).trans (HC.out (f + k) (by omega))
        rw [← Nat.add_assoc] at x0
        have CF := HF.out (gz l (f + k)) wr
        obtain ⟨z, hz⟩ : ∃ z, gz l (f + k) = z := ⟨_, rfl⟩
        rw [hz] at x0 CF
        have HZ := Lib.hid hz
        clear hz
        cases hp : p z with
        | true =>
          rw [hp] at CF
          have HP := Lib.hid hp
          clear hp
          go_wp2_with (go_at_fn F; refine CF.mono ?_; rintro e w1 ⟨rfl, b1⟩; have B1 := Lib.hid (hb.trans (b1.mono hb.size)); clear b1 CF x0)
          go_roundw
          case rel => exact ⟨k + 1, by omega, by go_num, Lib.hid (fun j hj => by
            rcases Nat.lt_or_eq_of_le (Nat.le_of_lt_succ hj) with h | rfl
            · exact HA.out j h
            · rw [HZ.out, HP.out]), B1.out⟩
          case measure => simp [intOf]; omega
        | false =>
          rw [hp] at CF
          have HE := Lib.hid (runL_at (p := p) (l := l) (f := f) (k := k) (by rw [HL.out]; omega) HA.out (.inr (by rw [HZ.out]; exact hp)))
          clear hp
          go_wp2_with (go_at_fn F; refine CF.mono ?_; rintro e w1 ⟨rfl, b1⟩; have B1 := Lib.hid (hb.trans (b1.mono hb.size)); clear b1 CF x0)
          go_ret
          exact ⟨by rw [HE.out]; rfl, B1.out⟩
      · obtain rfl : k = n - f := by omega
        have HE := Lib.hid (runL_at (p := p) (l := l) (f := f) (k := n - f) (by rw [HL.out]; omega) HA.out (.inl (by rw [HL.out]; omega)))
        go_wp2_with fail
        go_ret
        exact ⟨by rw [HE.out, ← HT1.out]; rfl, hb⟩
  · obtain rfl : f = n := by omega
    have HE := Lib.hid (runL_at (p := p) (l := l) (f := f) (k := 0) (by rw [HL.out]; omega) (fun j hj => absurd hj (by omega)) (.inl (by rw [HL.out]; omega)))
    clear h hF
    go_enter Tryz.func103, Tryz.ntmps103
    go_wp2_with fail
    all_goals
      go_loopw [25] (fun i wr => i = .int .i64 0 ∧ wr = w) (fun _ _ => 0)
      case atStart => exact ⟨rfl, rfl⟩
      case round =>
        obtain ⟨rfl, rfl⟩ := hrel
        go_wp2_with fail
        go_ret
        exact ⟨by rw [HE.out]; simp, Below.refl _ _⟩
end Go.Proofs.YtibakihcicfeoaaGreat
/- The walks of name.Lead, class.All, lex's quoted, angle, end. No condition. -/
namespace Go.Proofs.YtibakihcicfeoaaGreat
open Go.RowKit

theorem enters212 : ∀ (args : Array Value) (w : World), (callFunc 212 args).run Tryz.prog w = .ok (.enter 212 args) w := enters_of Tryz.func212 (by kernel_rfl) rfl
theorem enters158 : ∀ (args : Array Value) (w : World), (callFunc 158 args).run Tryz.prog w = .ok (.enter 158 args) w := enters_of Tryz.func158 (by kernel_rfl) rfl
theorem enters159 : ∀ (args : Array Value) (w : World), (callFunc 159 args).run Tryz.prog w = .ok (.enter 159 args) w := enters_of Tryz.func159 (by kernel_rfl) rfl
theorem enters104 : ∀ (args : Array Value) (w : World), (callFunc 104 args).run Tryz.prog w = .ok (.enter 104 args) w := enters_of Tryz.func104 (by kernel_rfl) rfl
theorem enters216 : ∀ (args : Array Value) (w : World), (callFunc 216 args).run Tryz.prog w = .ok (.enter 216 args) w := enters_of Tryz.func216 (by kernel_rfl) rfl
/-- How many runes at a place are a name. -/
def leadL (l : List Int) (f : Nat) : Nat := if f < l.length ∧ nsP (gz l f) = true then runL ncP l f else 0
theorem leadL_le (l : List Int) (f : Nat) : leadL l f ≤ l.length - f := by
  unfold leadL
  split
  · exact runL_le _ _ _
  · omega
set_option maxRecDepth 100000 in
set_option maxHeartbeats 1000000 in
theorem lead156 {w : World} (A : Option Addr) (n c : Nat) (l : List Int) (f : Nat) (h : Rd w w.heap.size 1 A n c (ints .i32 l)) (hn : n ≤ 65536) (hf : f ≤ 100000) :
    Calls Tryz.prog 156 #[.slice A n c, .int .i64 (f : Nat)] w fun e w' => e = .returned (.int .i64 (leadL l f : Nat)) ∧ Below w.heap.size w w' := by
  have hl := h.int_len
  have HR := Lib.hid h
  have t2 : decide ((f : Int) < 0) = false := by simp
  by_cases hfn : f < n
  · obtain ⟨b, off, rfl, hbb, hc⟩ := h.int_form (by omega)
    have x0 := hc f hfn
    have t3 : decide (n ≤ f) = false := by simp; omega
    have C211 := nameStart211 (gz l f) w
    cases hp : nsP (gz l f) with
    | true =>
      rw [hp] at C211
      have HE := Lib.hid (show leadL l f = runL ncP l f by unfold leadL; rw [if_pos ⟨by omega, hp⟩])
      clear h hc hl hp
      generalize gz l f = z at *
      go_enter Tryz.func156, Tryz.ntmps156
      go_wp2_with (first
        | (go_at_call 211; refine C211.mono ?_; rintro e w1 ⟨rfl, b1⟩; have B1 := Lib.hid b1; clear b1 C211)
        | (go_at_call 103; refine (run103 212 ncP enters212 (fun r W => nameChar212 r W) _ n c l f (HR.out.on B1.out) (by omega) hn).mono ?_; rintro e w2 ⟨rfl, b2⟩; have B2 := Lib.hid (B1.out.trans (b2.mono B1.out.size)); clear b2))
      go_ret
      exact ⟨by rw [HE.out]; rfl, B2.out⟩
    | false =>
      rw [hp] at C211
      have HE := Lib.hid (show leadL l f = 0 by unfold leadL; rw [if_neg (by rw [hp]; simp)])
      clear h hc hl hp
      generalize gz l f = z at *
      go_enter Tryz.func156, Tryz.ntmps156
      go_wp2_with (go_at_call 211; refine C211.mono ?_; rintro e w1 ⟨rfl, b1⟩; have B1 := Lib.hid b1; clear b1 C211)
      go_ret
      exact ⟨by rw [HE.out]; rfl, B1.out⟩
  · have t3 : decide (n ≤ f) = true := by simp; omega
    have HE := Lib.hid (show leadL l f = 0 by unfold leadL; rw [if_neg (by omega)])
    clear h hl hfn
    go_enter Tryz.func156, Tryz.ntmps156
    go_wp2_with fail
    go_ret
    exact ⟨by rw [HE.out]; rfl, Below.refl _ _⟩
/-- Where what a quote begins ends. -/
def qtL (l : List Int) (at_ : Nat) : Nat × Bool := if at_ + 1 + runL (fun r => r != gz l at_) l (at_ + 1) < l.length then (at_ + 1 + runL (fun r => r != gz l at_) l (at_ + 1) + 1, true) else (l.length, false)
theorem qtL_le (l : List Int) (at_ : Nat) (h : at_ < l.length) : at_ < (qtL l at_).1 ∧ (qtL l at_).1 ≤ l.length := by
  unfold qtL
  split <;> simp only <;> omega
set_option maxRecDepth 100000 in
set_option maxHeartbeats 1000000 in
theorem quoted209 {w : World} (A : Option Addr) (n c : Nat) (l : List Int) (at_ : Nat) (h : Rd w w.heap.size 1 A n c (ints .i32 l)) (hn : n ≤ 65536) (hat : at_ < n) :
    Calls Tryz.prog 209 #[.slice A n c, .int .i64 (at_ : Nat)] w fun e w' => e = .returned (.tuple #[.int .i64 ((qtL l at_).1 : Nat), .bool (qtL l at_).2]) ∧ Below w.heap.size w w' := by
  have HL := Lib.hid h.int_len
  obtain ⟨b, off, rfl, hbb, hc⟩ := h.int_form (by omega)
  have HC := Lib.hid hc
  have x0 := hc at_ hat
  have u1 : IntKind.i64.wrap ((at_ : Int) + 1) = (at_ : Int) + 1 := IntWalk.i64_in _ (by omega)
  clear h hc
  go_enter Tryz.func209, Tryz.ntmps209
  go_wp2_with fail
  go_loopw [6] (fun i wr => ∃ k : Nat, at_ + 1 + k ≤ n ∧ i = .int .i64 ((at_ + 1 + k : Nat) : Int) ∧ Hid (∀ j, j < k → (gz l (at_ + 1 + j) != gz l at_) = true) ∧ ∃ q, wr = w.drewN q)
    (fun i _ => n - (intOf i).toNat)
  case atStart => exact ⟨0, by omega, by rw [Int.natCast_add]; rfl, Lib.hid (fun j hj => absurd hj (by omega)), 0, rfl⟩
  case round =>
    obtain ⟨k, hk, rfl, HA, q, rfl⟩ := hrel
    obtain ⟨m, hm⟩ : ∃ m, at_ + 1 + k = m := ⟨_, rfl⟩
    have HM := Lib.hid hm
    rw [hm] at hk
    by_cases hlt : m < n
    · have x1 := HC.out m hlt
      obtain ⟨z, hz⟩ : ∃ z, gz l m = z := ⟨_, rfl⟩
      obtain ⟨z0, hz0⟩ : ∃ z0, gz l at_ = z0 := ⟨_, rfl⟩
      have HZ := Lib.hid hz
      have HZ0 := Lib.hid hz0
      rw [hz] at x1
      rw [hz0] at x0
      rw [hm]
      clear hz hz0 hm
      by_cases hzz : z = z0
      · subst hzz
        have HE := Lib.hid (show qtL l at_ = (m + 1, true) by
          have hr := runL_at (p := fun r => r != gz l at_) (l := l) (f := at_ + 1) (k := k) (by rw [HL.out, HM.out]; omega) HA.out (.inr (by rw [HM.out, HZ.out, HZ0.out]; simp))
          unfold qtL
          rw [hr, HM.out, HL.out, if_pos hlt])
        go_wp2_with fail
        go_quiet (fail)
        go_wp2_with fail
        go_ret2
        exact ⟨by rw [HE.out]; simp, Below.drewN_ (Below.refl _ _) _⟩
      · have t1 : (z == z0) = false := by simpa using hzz
        go_wp2_with fail
        go_quiet (fail)
        go_wp2_with fail
        go_roundw
        case rel => exact ⟨k + 1, by rw [← Nat.add_assoc, HM.out]; omega, by rw [← Nat.add_assoc, HM.out]; go_num, Lib.hid (fun j hj => by
          rcases Nat.lt_or_eq_of_le (Nat.le_of_lt_succ hj) with h | rfl
          · exact HA.out j h
          · rw [HM.out, HZ.out, HZ0.out]; simpa using hzz), _, rfl⟩
        case measure => simp [intOf]; omega
    · obtain rfl : m = n := by omega
      have HE := Lib.hid (show qtL l at_ = (m, false) by
        have hr := runL_at (p := fun r => r != gz l at_) (l := l) (f := at_ + 1) (k := k) (by rw [HL.out, HM.out]; omega) HA.out (.inl (by rw [HL.out, HM.out]))
        unfold qtL
        rw [hr, HM.out, HL.out, if_neg (by omega)])
      rw [hm]
      clear hm
      go_wp2_with fail
      go_ret2
      exact ⟨by rw [HE.out]; rfl, Below.drewN_ (Below.refl _ _) _⟩
end Go.Proofs.YtibakihcicfeoaaGreat
