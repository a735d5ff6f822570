/- The walk of a reader's takes. No condition. -/
import Derived.Test.YtibakihcicfeoaaGreatTo
namespace Go.Proofs.YtibakihcicfeoaaGreat
open Go.RowKit

theorem prow_get : ∀ (ts : List Pt) (j : Nat), j < ts.length → ∃ t, t ∈ ts ∧ (prow ts)[j * 3]? = some (.int .i64 t.1) ∧ (prow ts)[j * 3 + 1]? = some (.int .i64 (t.2.1 : Nat)) ∧ (prow ts)[j * 3 + 2]? = some (.int .i64 (t.2.2 : Nat))
  | [], j, h => by simp at h
  | t :: ts, 0, _ => ⟨t, List.mem_cons_self .., rfl, rfl, rfl⟩
  | t :: ts, j + 1, h => by
    obtain ⟨s, h0, h1, h2, h3⟩ := prow_get ts j (by simpa using h)
    have e : ∀ i, (prow (t :: ts))[3 + i]? = (prow ts)[i]? := fun i => by
      show (ptV t ++ prow ts)[3 + i]? = _
      rw [List.getElem?_append_right (by show 3 ≤ 3 + i; omega)]
      congr 1
      show 3 + i - 3 = i
      omega
    refine ⟨s, List.mem_cons_of_mem _ h0, ?_, ?_, ?_⟩
    · rw [show (j + 1) * 3 = 3 + j * 3 by omega, e]; exact h1
    · rw [show (j + 1) * 3 + 1 = 3 + (j * 3 + 1) by omega, e]; exact h2
    · rw [show (j + 1) * 3 + 2 = 3 + (j * 3 + 2) by omega, e]; exact h3
/-- A reader: its parts, and where it stands. -/
def rdr (A : Option Addr) (n c at_ : Nat) : Obj := .cells #[.slice A n c, .int .i64 (at_ : Nat)] 196 (0, 0)
/-- What takes leaves. -/
def TakesSaid (gr : Nat) (A : Option Addr) (n c at_ m : Nat) (ts : List Pt) (w : World) (e : Ending) (w' : World) : Prop :=
  ((e = .returned (.slice none 0 0) ∧ w'.heap[gr]? = some (rdr A n c at_)) ∨
    (at_ + m ≤ n ∧ (∃ ad c', e = .returned (.slice (some ad) m c') ∧ Rd w' gr 3 (some ad) m c' (((prow ts).drop (at_ * 3)).take (m * 3)) ∧ ∀ b off, A = some ⟨b, off, none⟩ → ad.block = b) ∧ w'.heap[gr]? = some (rdr A n c (at_ + m)))) ∧ w.grownBy w' (some gr)
theorem grown_of {w w' : World} {b : Option Nat} (hb : Below w.heap.size w w') : w.grownBy w' b := ⟨hb.os, hb.tape, hb.output, hb.size, fun k hk _ => hb.block k hk⟩
theorem grown_below {w w' : World} {g B : Nat} (h : w.grownBy w' (some g)) (hB : B ≤ g) (hg : g < w.heap.size) : Below B w w' :=
  ⟨h.os, h.tape, h.output, h.size, fun k hk => h.block k (by omega) (by intro e; injection e; omega)⟩
set_option maxRecDepth 100000 in
set_option maxHeartbeats 8000000 in
theorem takes106 {w : World} (gr B0 : Nat) (A : Option Addr) (n c at_ : Nat) (ts : List Pt) (hg : w.heap[gr]? = some (rdr A n c at_)) (hR : Rd w B0 3 A n c (prow ts)) (hB0 : B0 ≤ gr) (hat : at_ ≤ n) (hn : n ≤ 65536)
    (Ak : Option Addr) (m ck : Nat) (ks : List Int) (hk : Rd w w.heap.size 1 Ak m ck (ints .i64 ks)) (hm : 0 < m) (hm2 : m ≤ 4) :
    Calls Tryz.prog 106 #[.pointer (some ⟨gr, 0, none⟩), .slice Ak m ck] w (TakesSaid gr A n c at_ m ts w) := by
  have hgl : gr < w.heap.size := (Array.getElem?_eq_some_iff.1 hg).1
  have y0 : w.cell? ⟨gr, 0, none⟩ = some (.slice A n c) := cell_of_row w gr 0 _ _ _ hg
  have y1 : w.cell? ⟨gr, 1, none⟩ = some (.int .i64 (at_ : Nat)) := cell_of_row w gr 1 _ _ _ hg
  have hcap := hR.cap
  have hmax := hR.max
  unfold maxLen at hmax
  have HG := Lib.hid hg
  have HR := Lib.hid hR
  have HT := Lib.hid hR.len
  unfold TakesSaid
  obtain ⟨bk, ok, rfl, hbk, hck⟩ := hk.int_form hm
  have HCK := Lib.hid hck
  have u1 : IntKind.i64.wrap ((n : Int) - (at_ : Int)) = (n : Int) - (at_ : Int) := IntWalk.i64_in _ (by omega)
  have u2 : IntKind.i64.wrap ((at_ : Int) + (m : Int)) = (at_ : Int) + (m : Int) := IntWalk.i64_in _ (by omega)
  clear hg hR hk hck
  by_cases hsh : (n : Int) - (at_ : Int) < (m : Int)
  · have t0 : decide ((n : Int) - (at_ : Int) < (m : Int)) = true := by simpa using hsh
    clear hsh
    go_enter Tryz.func106, Tryz.ntmps106
    go_wp2_with fail
    go_quiet (fail)
    go_wp2_with fail
    go_ret
    exact ⟨.inl ⟨rfl, HG.out⟩, grown_of (Below.drewN_ (Below.refl _ _) _)⟩
  · have t0 : decide ((n : Int) - (at_ : Int) < (m : Int)) = false := by simpa using hsh
    have hfit : at_ + m ≤ n := by omega
    clear hsh
    obtain ⟨bp, op, rfl, hbp, hcp⟩ := HR.out.at_ (by omega)
    have HCP := Lib.hid hcp
    clear hcp
    go_enter Tryz.func106, Tryz.ntmps106
    go_wp2_with fail
    go_quiet (fail)
    go_wp2_with fail
    go_loopw [23] (fun i wr => ∃ k : Nat, i = .int .i64 k ∧ k ≤ m ∧ Below w.heap.size w wr)
      (fun i _ => m - (intOf i).toNat)
    case atStart => exact ⟨0, rfl, Nat.zero_le _, Below.drewN_ (Below.refl _ _) _⟩
    case round =>
      obtain ⟨k, rfl, hkm, hb⟩ := hrel
      have z0 := (hb.cell (p := ⟨gr, 0, none⟩) hgl).trans y0
      have z1 := (hb.cell (p := ⟨gr, 1, none⟩) hgl).trans y1
      by_cases hlt : k < m
      · have x0 := (hb.cell (p := ⟨bk, ok + k, none⟩) hbk).trans (HCK.out k hlt)
        obtain ⟨t, _, p1, _, _⟩ := prow_get ts (at_ + k) (by have := HT.out; rw [prow_len] at this; omega)
        have x1 := (hb.cell (p := ⟨bp, op + (at_ + k) * 3, none⟩) (by show bp < w.heap.size; omega)).trans (HCP.out _ _ p1)
        have u3 : IntKind.i64.wrap ((at_ : Int) + (k : Int)) = (at_ : Int) + (k : Int) := IntWalk.i64_in _ (by omega)
        have e3 : ((at_ : Int) + (k : Int)).toNat = at_ + k := by omega
        have e4 : 0 ≤ (at_ : Int) + (k : Int) := by omega
        have e5 : (at_ : Int) + (k : Int) < (n : Int) := by omega
        clear p1
        generalize gz ks k = z at x0
        generalize t.1 = kd at x1
        by_cases hz : kd = z
        · have t3 : (kd != z) = false := by simpa using hz
          clear hz
          go_wp2_with fail
          go_quiet (fail)
          go_wp2_with fail
          go_roundw
          case rel => exact ⟨k + 1, by go_num, by omega, Below.drewN_ hb _⟩
          case measure => simp [intOf]; omega
        · have t3 : (kd != z) = true := by simpa using hz
          clear hz
          go_wp2_with fail
          go_quiet (fail)
          go_wp2_with fail
          go_ret
          exact ⟨.inl ⟨rfl, ((Below.drewN_ hb _).block gr hgl).trans HG.out⟩, grown_of (Below.drewN_ hb _)⟩
      · obtain rfl : k = m := by omega
        have HG1 := Lib.hid ((hb.block gr hgl).trans HG.out)
        have f1 := fun j => frozen_of_row wr gr j _ _ HG1.out
        have e3 : ((at_ : Int) + (k : Int)).toNat = at_ + k := by omega
        have HC := Lib.hid (show Rd wr gr 3 (some ⟨bp, op + at_ * 3, none⟩) k (c - at_) (((prow ts).drop (at_ * 3)).take (k * 3)) by
          have hq := ((HR.out.more hB0).below (hb.mono (Nat.le_of_lt hgl))).cut (l := at_) (k := at_ + k) (m := c) (by omega) (by omega) (Nat.le_refl _) (by omega)
          rw [if_neg (by omega), Nat.add_sub_cancel_left, Option.map_some, add_none] at hq
          exact hq)
        go_wp2_with fail
        go_quiet (fail)
        go_wp2_with fail
        go_ret
        have HS := heap_setCell_same wr gr 1 _ _ (.int .i64 ((at_ : Int) + (k : Int))) HG1.out
        refine ⟨.inr ⟨hfit, ⟨_, _, rfl, (HC.out.setCell (p := ⟨gr, 1, none⟩) (Nat.le_refl _) _).drewN _, fun b off e => by injection e with e; injection e⟩, ?_⟩, (grown_of hb).trans ((grownBy_set wr gr 1 _).trans (grown_of (Below.drewN_ (Below.refl _ _) _)))⟩
        show (wr.setCell ⟨gr, 1, none⟩ _).heap[gr]? = _
        rw [HS]
        simp [rdr]
end Go.Proofs.YtibakihcicfeoaaGreat
/- The walk of a reader's attr. No condition. -/
namespace Go.Proofs.YtibakihcicfeoaaGreat
open Go.RowKit

/-- A reader of parts stands somewhere. -/
structure RdrAt (w : World) (gr B0 : Nat) (A : Option Addr) (n c at_ : Nat) (ts : List Pt) : Prop where
  g : w.heap[gr]? = some (rdr A n c at_)
  r : Rd w B0 3 A n c (prow ts)
  b : B0 ≤ gr
  le : at_ ≤ n
  n : n ≤ 65536
theorem RdrAt.lt {w : World} {gr B0 : Nat} {A : Option Addr} {n c at_ : Nat} {ts : List Pt} (h : RdrAt w gr B0 A n c at_ ts) : gr < w.heap.size := (Array.getElem?_eq_some_iff.1 h.g).1
theorem RdrAt.below {w w' : World} {gr B0 : Nat} {A : Option Addr} {n c at_ : Nat} {ts : List Pt} (h : RdrAt w gr B0 A n c at_ ts) (hb : Below w.heap.size w w') : RdrAt w' gr B0 A n c at_ ts :=
  ⟨(hb.block gr h.lt).trans h.g, h.r.below (hb.mono (Nat.le_trans h.b (Nat.le_of_lt h.lt))), h.b, h.le, h.n⟩
/-- Back to where it stood. -/
theorem RdrAt.back {w : World} {gr B0 : Nat} {A : Option Addr} {n c at_ : Nat} {ts : List Pt} (h : RdrAt w gr B0 A n c at_ ts) {at' : Nat} (hl : at' ≤ n) : RdrAt (w.setCell ⟨gr, 1, none⟩ (.int .i64 (at' : Nat))) gr B0 A n c at' ts := by
  refine ⟨?_, h.r.setCell h.b _, h.b, hl, h.n⟩
  rw [heap_setCell_same w gr 1 _ _ _ h.g]
  simp [rdr]
theorem RdrAt.on {w w' : World} {gr B0 : Nat} {A : Option Addr} {n c at_ at' : Nat} {ts : List Pt} (h : RdrAt w gr B0 A n c at_ ts) (hb : Below gr w w') (hg : w'.heap[gr]? = some (rdr A n c at')) (hl : at' ≤ n) : RdrAt w' gr B0 A n c at' ts :=
  ⟨hg, h.r.below (hb.mono h.b), h.b, hl, h.n⟩
/-- takes, with one kind. -/
theorem takes1 {w : World} {gr B0 : Nat} {A : Option Addr} {n c at_ : Nat} {ts : List Pt} (h : RdrAt w gr B0 A n c at_ ts) (z : Int) (g : Nat) (hg : g = w.heap.size) :
    Calls Tryz.prog 106 #[.pointer (some ⟨gr, 0, none⟩), .slice (some ⟨g, 0, none⟩) 1 1] (w.alloc (.cells #[.int .i64 z] 3)) fun e w' =>
      ((e = .returned (.slice none 0 0) ∧ RdrAt w' gr B0 A n c at_ ts) ∨
        (∃ ad c', e = .returned (.slice (some ad) 1 c') ∧ Rd w' gr 3 (some ad) 1 c' (((prow ts).drop (at_ * 3)).take 3) ∧ at_ < ts.length ∧ RdrAt w' gr B0 A n c (at_ + 1) ts)) ∧ w.grownBy w' (some gr) := by
  subst hg
  have hal := (Below.refl w.heap.size w).alloc (Nat.le_refl _) (.cells #[.int .i64 z] 3)
  have h1 := h.below hal
  have hlen := h.r.len
  rw [prow_len] at hlen
  refine (takes106 gr B0 A n c at_ ts h1.g h1.r h1.b h1.le h1.n _ 1 1 [z] (Rd.lit w [.int .i64 z] 3 1 1 rfl (by omega)) (by omega) (by omega)).mono ?_
  rintro e w' ⟨hor, hb⟩
  refine ⟨?_, (grown_of hal).trans hb⟩
  have hb := grown_below hb (Nat.le_refl _) h1.lt
  rcases hor with ⟨rfl, hg⟩ | ⟨hf, ⟨ad, c', rfl, hr⟩, hg⟩
  · exact .inl ⟨rfl, h1.on hb hg h.le⟩
  · exact .inr ⟨ad, c', rfl, hr.1, by omega, h1.on hb hg hf⟩
/-- One part, read of a slice of one. -/
theorem part_cells {w : World} {gr c' at_ : Nat} {ad : Addr} {ts : List Pt} (hr : Rd w gr 3 (some ad) 1 c' (((prow ts).drop (at_ * 3)).take 3)) (hlt : at_ < ts.length) : ∃ t b o, t ∈ ts ∧ ad = ⟨b, o, none⟩ ∧ b < gr ∧
    w.cell? ⟨b, o, none⟩ = some (.int .i64 t.1) ∧ w.cell? ⟨b, o + 1, none⟩ = some (.int .i64 (t.2.1 : Nat)) ∧ w.cell? ⟨b, o + 2, none⟩ = some (.int .i64 (t.2.2 : Nat)) := by
  obtain ⟨b, o, he, hb, hc⟩ := hr.at_ (by omega)
  obtain ⟨t, t0, t1, t2, t3⟩ := prow_get ts at_ hlt
  injection he with he
  have key : ∀ j, j < 3 → (((prow ts).drop (at_ * 3)).take 3)[j]? = (prow ts)[at_ * 3 + j]? := fun j hj => by
    rw [List.getElem?_take_of_lt hj, List.getElem?_drop]
  exact ⟨t, b, o, t0, he, hb, hc 0 _ (by rw [key 0 (by omega)]; exact t1), hc 1 _ (by rw [key 1 (by omega)]; exact t2), hc 2 _ (by rw [key 2 (by omega)]; exact t3)⟩
abbrev at9 (a b c d e f g h i : Int) : Array Value := #[.int .i64 a, .int .i64 b, .int .i64 c, .int .i64 d, .int .i64 e, .int .i64 f, .int .i64 g, .int .i64 h, .int .i64 i]
/-- What attr leaves. -/
def AttrSaid (gr B0 : Nat) (A : Option Addr) (n c at_ : Nat) (ts : List Pt) (w : World) (e : Ending) (w' : World) : Prop :=
  ∃ a1 a2 a3 a4 a5 a6 a7 a8 a9 b at', e = .returned (.tuple #[.agg (at9 a1 a2 a3 a4 a5 a6 a7 a8 a9), .bool b]) ∧ RdrAt w' gr B0 A n c at' ts ∧ (b = true → at_ < at') ∧ (b = false → at' = at_) ∧ w.grownBy w' (some gr)
/-- takes, with one kind; what it returns is not looked at. -/
theorem takesAny {w : World} {gr B0 : Nat} {A : Option Addr} {n c at_ : Nat} {ts : List Pt} (h : RdrAt w gr B0 A n c at_ ts) (z : Int) (g : Nat) (hg : g = w.heap.size) :
    Calls Tryz.prog 106 #[.pointer (some ⟨gr, 0, none⟩), .slice (some ⟨g, 0, none⟩) 1 1] (w.alloc (.cells #[.int .i64 z] 3)) fun e w' => ∃ v at', e = .returned v ∧ at_ ≤ at' ∧ RdrAt w' gr B0 A n c at' ts ∧ w.grownBy w' (some gr) := by
  refine (takes1 h z g hg).mono ?_
  rintro e w' ⟨⟨rfl, h1⟩ | ⟨ad, c', rfl, _, _, h1⟩, hb⟩
  · exact ⟨_, at_, rfl, Nat.le_refl _, h1, hb⟩
  · exact ⟨_, at_ + 1, rfl, Nat.le_succ _, h1, hb⟩
theorem cell_gr {w w' : World} {gr b o : Nat} {u : Value} (h : w.grownBy w' (some gr)) (hc : w.cell? ⟨b, o, none⟩ = some u) (hlt : b < gr) : w'.cell? ⟨b, o, none⟩ = some u :=
  h.cell hc (by intro e; injection e with e; exact absurd e (Nat.ne_of_lt hlt))
/-- A store into the answer's block. -/
theorem a9_put {ops : Array Oper} {rest : List Oper} {o : Oper} {a : Act} {w : World} {Q : Exit → Act → World → Prop} (hgd : o.guard = none) (x y : Operand) (ho : o.op = .store 199 x y)
    (g : Nat) (a1 a2 a3 a4 a5 a6 a7 a8 a9 : Int) (hx : a.eval x = .pointer (some ⟨g, 0, none⟩)) (hy : a.eval y = .agg (at9 a1 a2 a3 a4 a5 a6 a7 a8 a9))
    (hg : w.heap[g]? = some (.cells (at9 0 0 0 0 0 0 0 0 0) 199 (0, 0)))
    (h : ∀ w', w'.heap[g]? = some (.cells (at9 a1 a2 a3 a4 a5 a6 a7 a8 a9) 199 (0, 0)) → w.grownBy w' (some g) → wpList Tryz.prog ops Q rest (a.put o.dst undef) w') : wpList Tryz.prog ops Q (o :: rest) a w :=
  wpList_put hgd 199 x y ho g (at9 a1 a2 a3 a4 a5 a6 a7 a8 a9) hx hy 199 (at9 0 0 0 0 0 0 0 0 0) hg (by kernel_rfl) rfl (by simp [Value.oneCell']) h
/-- The answer's block, all else kept but the reader's. -/
structure AttrW (w w' : World) (gr : Nat) : Prop where
  g : w.grownBy w' (some gr)
  x : w'.heap[w.heap.size]? = some (.cells (at9 0 0 0 0 0 0 0 0 0) 199 (0, 0))
theorem AttrW.start (w : World) (gr : Nat) : AttrW w (w.alloc (.cells (at9 0 0 0 0 0 0 0 0 0) 199)) gr := ⟨World.grownBy_alloc w _ _, heap_alloc_new w _⟩
theorem AttrW.on {w w' w2 : World} {gr : Nat} (h : AttrW w w' gr) (hgl : gr < w.heap.size) (hg : w'.grownBy w2 (some gr)) : AttrW w w2 gr :=
  ⟨h.g.trans hg, (hg.block _ (Array.getElem?_eq_some_iff.1 h.x).1 (by intro e; injection e; omega)).trans h.x⟩
theorem AttrW.done {w w' w2 : World} {gr : Nat} (h : AttrW w w' gr) (hg : w'.grownBy w2 (some w.heap.size)) : w.grownBy w2 (some gr) :=
  ⟨hg.os.trans h.g.os, hg.tape.trans h.g.tape, hg.output.trans h.g.output, Nat.le_trans h.g.size hg.size, fun k hk hne => (hg.block k (Nat.lt_of_lt_of_le hk h.g.size) (by intro e; injection e; omega)).trans (h.g.block k hk hne)⟩
theorem RdrAt.grown {w w' : World} {gr B0 : Nat} {A : Option Addr} {n c at_ g : Nat} {ts : List Pt} (h : RdrAt w gr B0 A n c at_ ts) (hg : w.grownBy w' (some g)) (hne : gr < g) : RdrAt w' gr B0 A n c at_ ts := by
  refine ⟨(hg.block gr h.lt (by intro e; injection e; omega)).trans h.g, h.r.keep fun p hp => World.cell?_of_block (hg.block p.block ?_ ?_), h.b, h.le, h.n⟩
  · exact Nat.lt_trans (Nat.lt_of_lt_of_le hp h.b) h.lt
  · have := h.b
    intro e; injection e; omega
set_option maxRecDepth 100000 in
set_option maxHeartbeats 8000000 in
theorem attr107 {w : World} {gr B0 : Nat} {A : Option Addr} {n c at_ : Nat} {ts : List Pt} (h : RdrAt w gr B0 A n c at_ ts) :
    Calls Tryz.prog 107 #[.pointer (some ⟨gr, 0, none⟩)] w (AttrSaid gr B0 A n c at_ ts w) := by
  have hal := (Below.refl w.heap.size w).alloc (Nat.le_refl _) (.cells (at9 0 0 0 0 0 0 0 0 0) 199)
  have H0 := Lib.hid (h.below hal)
  have hgl := h.lt
  have y1 : (w.alloc (.cells (at9 0 0 0 0 0 0 0 0 0) 199)).cell? ⟨gr, 1, none⟩ = some (.int .i64 (at_ : Nat)) := cell_of_row _ gr 1 _ _ _ H0.out.g
  have HW0 := Lib.hid (AttrW.start w gr)
  have HLE := Lib.hid h.le
  unfold AttrSaid
  clear h hal
  go_enter Tryz.func107, Tryz.ntmps107
  go_wp2_with fail
  refine (takes1 H0.out 3 (w.heap.size + 1) (by simp)).mono ?_
  rintro e w1 ⟨h1, b1⟩
  have HW1 := Lib.hid (HW0.out.on hgl b1)
  clear b1 y1
  rcases h1 with ⟨rfl, h1⟩ | ⟨ad1, c1, rfl, r1, l1, h1⟩
  · go_wp2_with fail
    refine (takes1 h1 2 _ rfl).mono ?_
    rintro e w2 ⟨h2, b2⟩
    have HW2 := Lib.hid (HW1.out.on hgl b2)
    clear b2 h1
    rcases h2 with ⟨rfl, h2⟩ | ⟨ad2, c2, rfl, r2, l2, h2⟩
    all_goals
      have H2 := Lib.hid (h2.back HLE.out)
      have HW3 := Lib.hid (HW2.out.on hgl (grownBy_set w2 gr 1 (.int .i64 (at_ : Nat))))
      have f2 := fun j => frozen_of_row w2 gr j _ _ h2.g
      have z2 : w2.cell? ⟨gr, 1, none⟩ = some _ := cell_of_row w2 gr 1 _ _ _ h2.g
      have hR := HW3.out.x
      clear h2
      go_wp2_with (refine a9_put rfl _ _ rfl w.heap.size 0 0 0 0 0 0 0 0 0 rfl rfl hR ?_; intro w8 hR3 hg3)
      exact bodyPost_ret (v := .tuple #[.agg (at9 0 0 0 0 0 0 0 0 0), .bool false]) (results_row2 rfl _ _ w.heap.size 199 _ (0, 0) _ _ rfl rfl hR3 Tryz.underlying199 rfl (by kernel_rfl)) rfl ⟨0, 0, 0, 0, 0, 0, 0, 0, 0, false, at_, rfl, H2.out.grown hg3 hgl, (fun h => by cases h), (fun _ => rfl), HW3.out.done hg3⟩
  · go_wp2_with fail
    refine (takes1 h1 2 _ rfl).mono ?_
    rintro e w2 ⟨h2, b2⟩
    have HW2 := Lib.hid (HW1.out.on hgl b2)
    obtain ⟨p1, q1, o1, -, rfl, k1, m1, m2, m3⟩ := part_cells r1 l1
    have n2 := cell_gr b2 m2 (by omega)
    clear b2 h1 r1 m1 m2 m3 l1
    rcases h2 with ⟨rfl, h2⟩ | ⟨ad2, c2, rfl, r2, l2, h2⟩
    · have H2 := Lib.hid (h2.back HLE.out)
      have HW3 := Lib.hid (HW2.out.on hgl (grownBy_set w2 gr 1 (.int .i64 (at_ : Nat))))
      have f2 := fun j => frozen_of_row w2 gr j _ _ h2.g
      have z2 : w2.cell? ⟨gr, 1, none⟩ = some _ := cell_of_row w2 gr 1 _ _ _ h2.g
      have hR := HW3.out.x
      clear h2 n2
      go_wp2_with (refine a9_put rfl _ _ rfl w.heap.size 0 0 0 0 0 0 0 0 0 rfl rfl hR ?_; intro w8 hR3 hg3)
      exact bodyPost_ret (v := .tuple #[.agg (at9 0 0 0 0 0 0 0 0 0), .bool false]) (results_row2 rfl _ _ w.heap.size 199 _ (0, 0) _ _ rfl rfl hR3 Tryz.underlying199 rfl (by kernel_rfl)) rfl ⟨0, 0, 0, 0, 0, 0, 0, 0, 0, false, at_, rfl, H2.out.grown hg3 hgl, (fun h => by cases h), (fun _ => rfl), HW3.out.done hg3⟩
    · obtain ⟨p2, q2, o2, -, rfl, k2, m1, m2, m3⟩ := part_cells r2 l2
      clear r2 l2
      go_wp2_with fail
      refine (takesAny h2 3 _ rfl).mono ?_
      rintro e w3 ⟨v3, t3, rfl, g3, h3, b3⟩
      have HW3 := Lib.hid (HW2.out.on hgl b3)
      have n2 := cell_gr b3 n2 (by omega)
      have m1 := cell_gr b3 m1 (by omega)
      have m2 := cell_gr b3 m2 (by omega)
      have m3 := cell_gr b3 m3 (by omega)
      clear b3 h2
      go_wp2_with fail
      refine (takes1 h3 4 _ rfl).mono ?_
      rintro e w4 ⟨h4, b4⟩
      have HW4 := Lib.hid (HW3.out.on hgl b4)
      have n2 := cell_gr b4 n2 (by omega)
      have m1 := cell_gr b4 m1 (by omega)
      have m2 := cell_gr b4 m2 (by omega)
      have m3 := cell_gr b4 m3 (by omega)
      clear b4 h3
      rcases h4 with ⟨rfl, h4⟩ | ⟨ad4, c4, rfl, r4, l4, h4⟩
      all_goals
        go_wp2_with fail
        refine (takesAny h4 3 _ rfl).mono ?_
        rintro e w5 ⟨v5, t5, rfl, g5, h5, b5⟩
        have HW5 := Lib.hid (HW4.out.on hgl b5)
        have n2 := cell_gr b5 n2 (by omega)
        have m1 := cell_gr b5 m1 (by omega)
        have m2 := cell_gr b5 m2 (by omega)
        have m3 := cell_gr b5 m3 (by omega)
        clear b5 h4
        go_wp2_with fail
        refine (takes1 h5 5 _ rfl).mono ?_
        rintro e w6 ⟨h6, b6⟩
        have HW6 := Lib.hid (HW5.out.on hgl b6)
        have n2 := cell_gr b6 n2 (by omega)
        have m1 := cell_gr b6 m1 (by omega)
        have m2 := cell_gr b6 m2 (by omega)
        have m3 := cell_gr b6 m3 (by omega)
        clear b6 h5
        rcases h6 with ⟨rfl, h6⟩ | ⟨ad6, c6, rfl, r6, l6, h6⟩
      rotate_right
      · obtain ⟨p3, q3, o3, -, rfl, k3, r1, r2, r3⟩ := part_cells r6 l6
        have hR := HW6.out.x
        have HR := Lib.hid hR
        go_wp2_with fail
        refine region_tail 16 (by kernel_rfl) (by kernel_rfl) ?_
        intro W HW
        have d0 : W.cell? ⟨q1, o1 + 1, none⟩ = some (.int .i64 (p1.2.1 : Nat)) := by rw [HW.out]; exact n2
        have d1 : W.cell? ⟨q2, o2, none⟩ = some (.int .i64 p2.1) := by rw [HW.out]; exact m1
        have d2 : W.cell? ⟨q2, o2 + 1, none⟩ = some (.int .i64 (p2.2.1 : Nat)) := by rw [HW.out]; exact m2
        have d3 : W.cell? ⟨q2, o2 + 2, none⟩ = some (.int .i64 (p2.2.2 : Nat)) := by rw [HW.out]; exact m3
        have d4 : W.cell? ⟨q3, o3, none⟩ = some (.int .i64 p3.1) := by rw [HW.out]; exact r1
        have d5 : W.cell? ⟨q3, o3 + 1, none⟩ = some (.int .i64 (p3.2.1 : Nat)) := by rw [HW.out]; exact r2
        have d6 : W.cell? ⟨q3, o3 + 2, none⟩ = some (.int .i64 (p3.2.2 : Nat)) := by rw [HW.out]; exact r3
        simp only [List.take_succ_cons, List.take_zero, List.drop_succ_cons, List.drop_zero]
        repeat (first | (refine wpStill_step (fun K hK => ?_); go_simp; refine hK _ ?_; clear hK K))
        refine wpStill_nil ?_
        rw [HW.out]
        clear HW d0 d1 d2 d3 d4 d5 d6
        have hR' : w6.drew.heap[w.heap.size]? = some (.cells (at9 0 0 0 0 0 0 0 0 0) 199 (0, 0)) := hR
        have H6 : Hid (RdrAt w6.drew gr B0 A n c _ ts) := Lib.hid (h6.grown (g := w.heap.size) ⟨rfl, rfl, rfl, Nat.le_refl _, fun _ _ _ => rfl⟩ hgl)
        have HD : Hid (AttrW w w6.drew gr) := Lib.hid ⟨⟨HW6.out.g.os, HW6.out.g.tape, HW6.out.g.output, HW6.out.g.size, HW6.out.g.block⟩, hR⟩
        clear h6 hR n2 m1 m2 m3 r1 r2 r3
        go_wp2_with (refine a9_put rfl _ _ rfl w.heap.size p2.1 (p2.2.1 : Nat) (p2.2.2 : Nat) p3.1 (p3.2.1 : Nat) (p3.2.2 : Nat) 7 (p1.2.1 : Nat) (p3.2.2 : Nat) rfl rfl hR' ?_; intro w8 hR3 hg3)
        exact bodyPost_ret (v := .tuple #[.agg (at9 p2.1 (p2.2.1 : Nat) (p2.2.2 : Nat) p3.1 (p3.2.1 : Nat) (p3.2.2 : Nat) 7 (p1.2.1 : Nat) (p3.2.2 : Nat)), .bool true]) (results_row2 rfl _ _ w.heap.size 199 _ (0, 0) _ _ rfl rfl hR3 Tryz.underlying199 rfl (by kernel_rfl)) rfl ⟨_, _, _, _, _, _, _, _, _, true, _, rfl, H6.out.grown hg3 hgl, (fun _ => by omega), (fun h => by cases h), HD.out.done hg3⟩
      all_goals
        have H2 := Lib.hid (h6.back HLE.out)
        have HW7 := Lib.hid (HW6.out.on hgl (grownBy_set w6 gr 1 (.int .i64 (at_ : Nat))))
        have f2 := fun j => frozen_of_row w6 gr j _ _ h6.g
        have z2 : w6.cell? ⟨gr, 1, none⟩ = some _ := cell_of_row w6 gr 1 _ _ _ h6.g
        have hR := HW7.out.x
        clear h6 n2 m1 m2 m3
        go_wp2_with (refine a9_put rfl _ _ rfl w.heap.size 0 0 0 0 0 0 0 0 0 rfl rfl hR ?_; intro w8 hR3 hg3)
        exact bodyPost_ret (v := .tuple #[.agg (at9 0 0 0 0 0 0 0 0 0), .bool false]) (results_row2 rfl _ _ w.heap.size 199 _ (0, 0) _ _ rfl rfl hR3 Tryz.underlying199 rfl (by kernel_rfl)) rfl ⟨0, 0, 0, 0, 0, 0, 0, 0, 0, false, at_, rfl, H2.out.grown hg3 hgl, (fun h => by cases h), (fun _ => rfl), HW7.out.done hg3⟩
end Go.Proofs.YtibakihcicfeoaaGreat
