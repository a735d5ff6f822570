/- Plain facts on bytes each two of which are turned round. No condition. -/
import Derived.Test.YtibakihcicfeoaaGreatTa
import Derived.Test.YtibakihcicfeoaaGreatTe
import Derived.Test.YtibakihcicfeoaaGreatTc
import Derived.Test.YtibakihcicfeoaaGreatTb2
import Derived.Laws.Cover4
namespace Go.Proofs.YtibakihcicfeoaaGreat

/-- The byte at a place, each two turned round. -/
def tz (zs : List Int) (j : Nat) : Int := if j % 2 = 0 then (if j + 1 < zs.length then gz zs (j + 1) else gz zs j) else gz zs (j - 1)
/-- The first i places turned. -/
def tw (zs : List Int) (i : Nat) : List Int := (List.range zs.length).map fun j => if j < i then tz zs j else gz zs j

theorem tw_len (zs : List Int) (i : Nat) : (tw zs i).length = zs.length := by simp [tw]
theorem tw_get? (zs : List Int) (i j : Nat) (hj : j < zs.length) : (tw zs i)[j]? = some (if j < i then tz zs j else gz zs j) := by
  simp [tw, List.getElem?_map, List.getElem?_range hj]
theorem gz_tw (zs : List Int) (i j : Nat) (hj : j < zs.length) : gz (tw zs i) j = if j < i then tz zs j else gz zs j := by
  rw [gz, List.getD_eq_getElem?_getD, tw_get? zs i j hj]; rfl
theorem gz_get? (zs : List Int) (j : Nat) (hj : j < zs.length) : zs[j]? = some (gz zs j) := by
  rw [gz, List.getD_eq_getElem?_getD, List.getElem?_eq_getElem hj]; rfl
theorem tw_zero (zs : List Int) : tw zs 0 = zs := by
  apply List.ext_getElem?
  intro j
  rcases Nat.lt_or_ge j zs.length with hj | hj
  · rw [tw_get? zs 0 j hj, if_neg (by omega), gz_get? zs j hj]
  · rw [List.getElem?_eq_none (by rw [tw_len]; exact hj), List.getElem?_eq_none hj]
theorem tw_step (zs : List Int) (i : Nat) (he : i % 2 = 0) (hi : i + 1 < zs.length) : ((tw zs i).set i (gz zs (i + 1))).set (i + 1) (gz zs i) = tw zs (i + 2) := by
  apply List.ext_getElem?
  intro j
  rcases Nat.lt_or_ge j zs.length with hj | hj
  · rw [tw_get? zs (i + 2) j hj, List.getElem?_set, List.getElem?_set]
    by_cases h1 : j = i + 1
    · subst h1
      rw [if_pos rfl, if_pos (by simp [tw_len]; omega), if_pos (by omega)]
      unfold tz
      rw [if_neg (by omega)]; rfl
    · rw [if_neg (by omega)]
      by_cases h2 : j = i
      · subst h2
        rw [if_pos rfl, if_pos (by rw [tw_len]; omega), if_pos (by omega)]
        unfold tz
        rw [if_pos he, if_pos hi]
      · rw [if_neg (by omega), tw_get? zs i j hj]
        by_cases h3 : j < i
        · rw [if_pos h3, if_pos (by omega)]
        · rw [if_neg h3, if_neg (by omega)]
  · rw [List.getElem?_eq_none (by simp [tw_len]; exact hj), List.getElem?_eq_none (by rw [tw_len]; exact hj)]
theorem tw_end (zs : List Int) (i : Nat) (he : i % 2 = 0) (hi : zs.length ≤ i + 1) : tw zs i = tw zs zs.length := by
  apply List.ext_getElem?
  intro j
  rcases Nat.lt_or_ge j zs.length with hj | hj
  · rw [tw_get? zs i j hj, tw_get? zs zs.length j hj, if_pos hj]
    by_cases h : j < i
    · rw [if_pos h]
    · rw [if_neg h]
      unfold tz
      rw [if_pos (by omega), if_neg (by omega)]
  · rw [List.getElem?_eq_none (by rw [tw_len]; exact hj), List.getElem?_eq_none (by rw [tw_len]; exact hj)]
theorem unit_turned (zs : List Int) (big : Bool) (p : Nat) (he : p % 2 = 0) (hp : p + 1 < zs.length) :
    unitOf (!big) (gz (tw zs zs.length) p) (gz (tw zs zs.length) (p + 1)) = unitOf big (gz zs p) (gz zs (p + 1)) := by
  rw [gz_tw _ _ _ (by omega), gz_tw _ _ _ hp, if_pos (by omega), if_pos hp]
  unfold tz
  rw [if_pos he, if_pos hp, if_neg (by omega)]
  cases big <;> simp [unitOf]
theorem wStep_turned (zs : List Int) (big : Bool) (p : Nat) (he : p % 2 = 0) (hp : p < zs.length) : wStep (tw zs zs.length) (!big) p = wStep zs big p := by
  unfold wStep
  rw [tw_len]
  by_cases h1 : p + 1 = zs.length
  · rw [if_pos h1, if_pos h1]
  · rw [if_neg h1, if_neg h1, unit_turned zs big p he (by omega)]
    by_cases h4 : zs.length < p + 4
    · by_cases hA : unitOf big (gz zs p) (gz zs (p + 1)) < 55296 ∨ 57343 < unitOf big (gz zs p) (gz zs (p + 1))
      · rw [if_pos hA, if_pos hA]
      · rw [if_neg hA, if_neg hA, if_pos (.inr h4), if_pos (.inr h4)]
    · rw [show p + 3 = p + 2 + 1 by omega, unit_turned zs big (p + 2) (by omega) (by omega)]
theorem wStep_even (zs : List Int) (big : Bool) (p : Nat) (he : p % 2 = 0) : (p + (wStep zs big p).2) % 2 = 0 ∨ p + (wStep zs big p).2 = zs.length := by
  unfold wStep
  repeat' split
  all_goals simp only []; omega
theorem go_turned (zs : List Int) (big : Bool) (k : Nat) : runGo (wStep (tw zs zs.length) (!big)) zs.length k = runGo (wStep zs big) zs.length k ∧ ((runGo (wStep zs big) zs.length k).2 % 2 = 0 ∨ (runGo (wStep zs big) zs.length k).2 = zs.length) := by
  induction k with
  | zero => exact ⟨rfl, .inl rfl⟩
  | succ k ih =>
    obtain ⟨ih1, ih2⟩ := ih
    by_cases h : (runGo (wStep zs big) zs.length k).2 < zs.length
    · have he : (runGo (wStep zs big) zs.length k).2 % 2 = 0 := by omega
      rw [runGo_succ h, runGo_succ (by rw [ih1]; exact h), ih1, wStep_turned zs big _ he h]
      exact ⟨rfl, wStep_even zs big _ he⟩
    · rw [runGo_stay (by rw [ih1]; omega), runGo_stay (by omega)]
      exact ⟨ih1, ih2⟩
theorem items_turned (zs : List Int) (big : Bool) : wItems (tw zs zs.length) (!big) = wItems zs big := by
  unfold wItems runItems
  rw [tw_len, (go_turned zs big zs.length).1]
theorem Bytes8.tw {zs : List Int} (h : Bytes8 zs) (i : Nat) : Bytes8 (tw zs i) := by
  intro z hz
  simp only [Go.Proofs.YtibakihcicfeoaaGreat.tw, List.mem_map, List.mem_range] at hz
  obtain ⟨j, _, rfl⟩ := hz
  split
  · unfold tz
    repeat' split
    all_goals exact h.at_ _
  · exact h.at_ _
theorem ints_setS (k : IntKind) (zs : List Int) (j : Nat) (z : Int) : (ints k zs).set j (.int k z) = ints k (zs.set j z) := by
  simp [ints, List.map_set]
end Go.Proofs.YtibakihcicfeoaaGreat
/- Walks of layer 2, of callees. No condition. -/
namespace Go.Proofs.YtibakihcicfeoaaGreat
open Go.RowKit

theorem st22S : ST Tryz.prog 22 5 1 1 := ST.mk' (z := .int .u8 0) Tryz.underlying22 (by kernel_rfl) rfl (by decide)
theorem ints_cellsS (k : IntKind) (zs : List Int) : ∀ u ∈ ints k zs, u.oneCell' = true := by
  intro u hu
  simp at hu
  obtain ⟨z, _, rfl⟩ := hu
  rfl
theorem own_emptyS (w : World) (t : TypeId) (sz : Nat) (B : Nat) (hB : B ≤ w.heap.size) : (w.alloc (.cells #[] t)).ownsRow B t sz (.slice (some ⟨w.heap.size, 0, none⟩) 0 0) 0 [] :=
  World.ownsRow_made w #[] 0 hB (by simp [maxLen]) (by simp)
/-- An owned row with an element begins at the head of a block. -/
theorem own_headS {w : World} {B n c : Nat} {e : TypeId} {sz : Nat} {A : Option Addr} {xs : List Value} (h : w.ownsRow B e sz (.slice A n c) n xs) (hn : 0 < n) : ∃ g, A = some ⟨g, 0, none⟩ ∧ B ≤ g ∧ g < w.heap.size ∧ n ≤ c := by
  rcases h.2 with ⟨_, h0⟩ | ⟨g, cap, cur, hv, hb, hg, hnc, _⟩
  · omega
  · injection hv with h1 _ h3
    subst h3
    exact ⟨g, h1, hb, (Array.getElem?_eq_some_iff.1 hg).1, hnc⟩

end Go.Proofs.YtibakihcicfeoaaGreat
/- What a decoded text is, in plain words. No condition. -/
namespace Go.Proofs.YtibakihcicfeoaaGreat
open Go.RowKit

/-- How many bytes say so. -/
def dBom (zs : List Int) : Nat := (pKind zs).2.toNat
/-- The pieces behind the mark. -/
def dItems (zs : List Int) : List It := pItems (pKind zs).1 (zs.drop (dBom zs))
/-- The runes of pieces. -/
def runesOf (l : List It) : List Int := l.map (·.1)
/-- The places of pieces, behind a mark of b bytes. -/
def offsOf (b : Nat) (l : List It) : List Int := l.map fun x => ((x.2.1 + b : Nat) : Int)
def decR (zs : List Int) : List Int := runesOf (dItems zs)
def decOff (zs : List Int) : List Int := offsOf (dBom zs) (dItems zs) ++ [(zs.length : Int)]

theorem beg_len {zs sl : List Int} (h : beg zs sl = true) : sl.length ≤ zs.length := by
  unfold beg at h
  rw [decide_eq_true_iff] at h
  have := congrArg List.length h
  rw [List.length_take] at this
  omega
theorem pKind_bd (zs : List Int) : 0 ≤ (pKind zs).1 ∧ (pKind zs).1 ≤ 2 ∧ 0 ≤ (pKind zs).2 ∧ (pKind zs).2 ≤ 3 ∧ (pKind zs).2 ≤ zs.length := by
  unfold pKind
  repeat' split
  all_goals (try (have hb := beg_len (by assumption))); simp at *; try omega
theorem dBom_eq (zs : List Int) : (pKind zs).2 = (dBom zs : Int) := by have := pKind_bd zs; unfold dBom; omega
theorem dBom_le (zs : List Int) : dBom zs ≤ zs.length ∧ dBom zs ≤ 3 := by have := pKind_bd zs; have := dBom_eq zs; omega

theorem pItems_le (kind : Int) {zs : List Int} (hz : Bytes8 zs) : (pItems kind zs).length ≤ zs.length := by
  unfold pItems
  split
  · exact sItems_le hz
  · split
    · exact runItems_len_le (wStep_good zs true)
    · split
      · exact runItems_len_le (wStep_good zs false)
      · simp
theorem dItems_le {zs : List Int} (hz : Bytes8 zs) : (dItems zs).length ≤ zs.length := by
  have := pItems_le (pKind zs).1 (hz.drop (dBom zs))
  rw [List.length_drop] at this
  unfold dItems
  omega
/-- Pieces lie one behind the other: G k is where the k-th one begins. -/
theorem pItems_chain (kind : Int) (hk : 0 ≤ kind ∧ kind ≤ 2) {zs : List Int} (hz : Bytes8 zs) : ∃ G : Nat → Nat, G 0 = 0 ∧ G (pItems kind zs).length = zs.length ∧
    ∀ k (h : k < (pItems kind zs).length), (pItems kind zs)[k].2.1 = G k ∧ G k + (pItems kind zs)[k].2.2 = G (k + 1) ∧ 1 ≤ (pItems kind zs)[k].2.2 ∧ G (k + 1) ≤ zs.length := by
  have key : ∀ step : Nat → Int × Nat, Good step zs.length → ∃ G : Nat → Nat, G 0 = 0 ∧ G (runItems step zs.length).length = zs.length ∧
    ∀ k (h : k < (runItems step zs.length).length), (runItems step zs.length)[k].2.1 = G k ∧ G k + (runItems step zs.length)[k].2.2 = G (k + 1) ∧ 1 ≤ (runItems step zs.length)[k].2.2 ∧ G (k + 1) ≤ zs.length := by
    intro step hg
    refine ⟨fun k => (runGo step zs.length k).2, rfl, runItems_last hg, fun k h => ?_⟩
    obtain ⟨h1, h2, h3⟩ := runItems_get (step := step) (n := zs.length) k h
    have hgd := hg _ h1
    rw [h2]
    exact ⟨rfl, h3.symm, hgd.1, Nat.le_trans (Nat.le_of_eq h3) hgd.2⟩
  rcases (show kind = 0 ∨ kind = 1 ∨ kind = 2 by omega) with rfl | rfl | rfl
  · exact key _ (sStep_good hz)
  · exact key _ (wStep_good zs true)
  · exact key _ (wStep_good zs false)
theorem pItems_at (kind : Int) (hk : 0 ≤ kind ∧ kind ≤ 2) {zs : List Int} (hz : Bytes8 zs) (k : Nat) (h : k < (pItems kind zs).length) : (pItems kind zs)[k].2.1 ≤ zs.length := by
  obtain ⟨G, _, _, hG⟩ := pItems_chain kind hk hz
  obtain ⟨h1, h2, h3, h4⟩ := hG k h
  omega
theorem runesOf_snoc (l : List It) (k : Nat) (h : k < l.length) : runesOf (l.take (k + 1)) = runesOf (l.take k) ++ [l[k].1] := by
  unfold runesOf
  rw [List.take_succ_eq_append_getElem h, List.map_append]; rfl
theorem offsOf_snoc (b : Nat) (l : List It) (k : Nat) (h : k < l.length) : offsOf b (l.take (k + 1)) = offsOf b (l.take k) ++ [((l[k].2.1 + b : Nat) : Int)] := by
  unfold offsOf
  rw [List.take_succ_eq_append_getElem h, List.map_append]; rfl
theorem decR_len (zs : List Int) : (decR zs).length = (dItems zs).length := by simp [decR, runesOf]
theorem decOff_len (zs : List Int) : (decOff zs).length = (dItems zs).length + 1 := by simp [decOff, offsOf]
end Go.Proofs.YtibakihcicfeoaaGreat
/- The walk of the document's Decode of layer 3. No condition. -/
namespace Go.Proofs.YtibakihcicfeoaaGreat
open Go.RowKit

theorem st24 : ST Tryz.prog 24 21 1 4 := ST.mk' (z := .int .i32 0) Tryz.underlying24 (by kernel_rfl) rfl (by decide)
theorem st25E : ST Tryz.prog 25 3 1 8 := ST.mk' (z := .int .i64 0) Tryz.underlying25 (by kernel_rfl) rfl (by decide)

/-- What a Decode answers: a kind, a mark, the runes and places of pieces, and where all ends. -/
def DecIs (kd : Int) (p n : Nat) (L : List It) (w : World) (e : Ending) (w' : World) : Prop :=
  ∃ A1 c1 A2 c2, e = .returned (.agg #[.int .i64 kd, .int .i64 (p : Nat), .slice A1 L.length c1, .slice A2 (L.length + 1) c2]) ∧
    Rd w' w'.heap.size 1 A1 L.length c1 (ints .i32 (runesOf L)) ∧ Rd w' w'.heap.size 1 A2 (L.length + 1) c2 (ints .i64 (offsOf p L ++ [(n : Int)])) ∧ Below w.heap.size w w'

theorem some_ne_succ (n : Nat) : some n ≠ some (n + 1) := by simp
theorem not_text {w : World} {b i g : Nat} {r kd p : Int} {v1 v2 : Value} {t : TypeId} {fr : Nat × Nat} {A1 A2 : Option Addr} {n1 c1 n2 c2 : Nat} (h1 : v1 = .slice A1 n1 c1) (h2 : v2 = .slice A2 n2 c2) (hx : w.cell? ⟨b, i, none⟩ = some (.int .i32 r))
    (hg : w.heap[g]? = some (.cells #[.int .i64 kd, .int .i64 p, v1, v2] t fr)) : b ≠ g := by
  rintro rfl
  subst h1; subst h2
  rw [cell_of_row w b i _ t fr hg] at hx
  rcases i with _ | _ | _ | _ | i <;> simp at hx
theorem Rd.from2 {w : World} {B n c p : Nat} {A : Option Addr} {zs : List Int} (h : Rd w B 1 A n c (ints .u8 zs)) (hp : p ≤ n) :
    (c = p → Rd w B 1 A (n - p) 0 (ints .u8 (zs.drop p))) ∧ (¬ c = p → Rd w B 1 (A.map (·.add p)) (n - p) (c - p) (ints .u8 (zs.drop p))) := by
  have hc := h.cap
  have hl := h.int_len
  have := h.cut (l := p) (k := n) (m := c) hp (Nat.le_refl _) (Nat.le_refl _) (by omega)
  rw [Nat.mul_one, Nat.mul_one, List.take_of_length_le (by simp; omega), ← List.map_drop] at this
  refine ⟨fun e => ?_, fun e => ?_⟩
  · rw [if_pos e, show c - p = 0 by omega] at this
    exact this
  · rw [if_neg e] at this
    exact this

theorem Rd.from5 {w : World} {B n c p : Nat} {A : Option Addr} {zs : List Int} (h : Rd w B 1 A n c (ints .u8 zs)) (hp : p ≤ n) :
    Rd w B 1 (if c = p then A else Option.map (fun x => x.add p) A) (n - p) (c - p) (ints .u8 (zs.drop p)) := by
  have hl := h.int_len
  have hc := h.cap
  have := h.cut (l := p) (k := n) (m := c) hp (Nat.le_refl _) (Nat.le_refl _) (by omega)
  rw [Nat.mul_one, Nat.mul_one, List.take_of_length_le (by simp; omega), ← List.map_drop] at this
  exact this
/-- The slice behind the mark, whatever the world behind. -/
theorem Rd.from3 {w : World} {n c p : Nat} {A : Option Addr} {zs : List Int} (h : Rd w w.heap.size 1 A n c (ints .u8 zs)) (hp : p ≤ n) (e : c = p) (W : World) (hb : Below w.heap.size w W) : Rd W W.heap.size 1 A (n - p) 0 (ints .u8 (zs.drop p)) :=
  (((h.from2 hp).1 e).below hb).more hb.size
theorem Rd.from4 {w : World} {n c p : Nat} {A : Option Addr} {zs : List Int} (h : Rd w w.heap.size 1 A n c (ints .u8 zs)) (hp : p ≤ n) (e : ¬ c = p) (W : World) (hb : Below w.heap.size w W) : Rd W W.heap.size 1 (A.map (·.add p)) (n - p) (c - p) (ints .u8 (zs.drop p)) :=
  (((h.from2 hp).2 e).below hb).more hb.size

/-- The end of a Decode: the last place laid down, the struct read and put where the answer lies. -/
theorem dec_end {w w3 w1 : World} {t : TypeId} {kd : Int} {p n : Nat} {L : List It} {AR AO : Option Addr} {cR cO : Nat} {a0 a1 a2 a3 : Value} (hb0 : Below w.heap.size w w3) (hsz3 : w.heap.size + 2 ≤ w3.heap.size) (HG1 : w3.grownBy w1 (some (w.heap.size + 1)))
    (HR1 : w1.heap[w.heap.size]? = some (.cells #[a0, a1, a2, a3] t (0, 0)))
    (hR1 : w1.ownsRow w3.heap.size 21 1 (.slice AR L.length cR) L.length (ints .i32 (runesOf L)))
    (hO1 : w1.ownsRow w3.heap.size 3 1 (.slice AO (L.length + 1) cO) (L.length + 1) (ints .i64 (offsOf p L) ++ [.int .i64 n])) (W : World)
    (hW : W = ((((w1.setCell ⟨w.heap.size + 1, 3, none⟩ (.slice AO (L.length + 1) cO)).setCell ⟨w.heap.size, 0, none⟩ (.int .i64 kd)).setCell ⟨w.heap.size, 1, none⟩ (.int .i64 (p : Nat))).setCell ⟨w.heap.size, 2, none⟩ (.slice AR L.length cR)).setCell ⟨w.heap.size, 3, none⟩ (.slice AO (L.length + 1) cO)) :
    W.heap[w.heap.size]? = some (.cells #[.int .i64 kd, .int .i64 (p : Nat), .slice AR L.length cR, .slice AO (L.length + 1) cO] t (0, 0)) ∧ Rd W W.heap.size 1 AR L.length cR (ints .i32 (runesOf L)) ∧ Rd W W.heap.size 1 AO (L.length + 1) cO (ints .i64 (offsOf p L ++ [(n : Int)])) ∧ Below w.heap.size w W := by
  subst hW
  have h1 : w.heap.size + 1 < w3.heap.size := by omega
  have h0 : w.heap.size < w3.heap.size := by omega
  refine ⟨?_, .of_own (base := w3.heap.size) (e := 21) ?_, .of_own (base := w3.heap.size) (e := 3) ?_, ?_⟩
  · refine blk_set3 (a := .int .i64 kd) (b := .int .i64 (p : Nat)) (c := .slice AR L.length cR) (d := a3) ?_ _
    refine blk_set2 (a := .int .i64 kd) (b := .int .i64 (p : Nat)) (c := a2) (d := a3) ?_ _
    refine blk_set1 (a := .int .i64 kd) (b := a1) (c := a2) (d := a3) ?_ _
    refine blk_set0 (a := a0) (b := a1) (c := a2) (d := a3) ?_ _
    rw [heap_setCell_other _ _ _ _ (by simp)]
    exact HR1
  · exact ownsRow_setCell_below (ownsRow_setCell_below (ownsRow_setCell_below (ownsRow_setCell_below (ownsRow_setCell_below hR1 h1 _) h0 _) h0 _) h0 _) h0 _
  · have := ownsRow_setCell_below (ownsRow_setCell_below (ownsRow_setCell_below (ownsRow_setCell_below (ownsRow_setCell_below hO1 (a := ⟨w.heap.size + 1, 3, none⟩) h1 (.slice AO (L.length + 1) cO)) (a := ⟨w.heap.size, 0, none⟩) h0 (.int .i64 kd)) (a := ⟨w.heap.size, 1, none⟩) h0 (.int .i64 (p : Nat))) (a := ⟨w.heap.size, 2, none⟩) h0 (.slice AR L.length cR)) (a := ⟨w.heap.size, 3, none⟩) h0 (.slice AO (L.length + 1) cO)
    exact own_as this rfl (by simp [ints])
  · have hb1 := hb0.grown HG1 (by omega) (fun k hk => by cases hk; omega)
    exact ((((hb1.setCell (by simp) _).setCell (by simp) _).setCell (by simp) _).setCell (by simp) _).setCell (by simp) _

end Go.Proofs.YtibakihcicfeoaaGreat
/- The walk of sniff.Decode. No condition. -/
namespace Go.Proofs.YtibakihcicfeoaaGreat
open Go.RowKit

set_option maxRecDepth 100000 in
set_option maxHeartbeats 4000000 in
theorem decode42_core (A : Option Addr) (n c p : Nat) (kd : Int) (zs : List Int) (L : List It) (w : World) (h0 : Rd w w.heap.size 1 A n c (ints .u8 zs)) (hn : n ≤ 4096) (hp : p ≤ n) (hL : L.length ≤ 4096) (hat : ∀ k (h : k < L.length), L[k].2.1 ≤ 4096)
    (C44 : ∀ W, Below w.heap.size w W → Calls Tryz.prog 28 #[.slice A n c] W fun e w' => e = .returned (.tuple #[.int .i64 kd, .int .i64 (p : Nat)]) ∧ Below W.heap.size W w')
    (C46 : ∀ W A' c', Rd W W.heap.size 1 A' (n - p) c' (ints .u8 (zs.drop p)) → Calls Tryz.prog 29 #[.int .i64 kd, .slice A' (n - p) c'] W (PItemsSaid L W)) :
    Calls Tryz.prog 11 #[.slice A n c] w (DecIs kd p n L w) := by
  unfold DecIs
  have hcap := h0.cap
  have hmax := h0.max
  unfold maxLen at hmax
  have HAT := Lib.hid hat; clear hat
  have HB := ((Below.refl w.heap.size w).alloc (Nat.le_refl _) (.cells #[.int .i64 0, .int .i64 0, .slice none 0 0, .slice none 0 0] 27)).alloc (by simp) (.cells #[.int .i64 0, .int .i64 0, .slice none 0 0, .slice none 0 0] 27)
  have K44 := C44 _ HB; clear C44
  go_enter Tryz.func11, Tryz.ntmps11
  go_wp2_with (go_at_call 28; refine K44.mono ?_; rintro e w1 ⟨rfl, hb1⟩; clear K44; have hG := hb1.block (w.heap.size + 1) (by simp); rw [heap_alloc2_new] at hG; have hR := hb1.block w.heap.size (by simp; omega); rw [heap_alloc2_old] at hR; have hb0 := HB.trans (hb1.mono (by simp; omega)); have hsz1 : w.heap.size + 2 ≤ w1.heap.size := (by have := hb1.size; simp at this; omega); clear hb1 HB; have y0 : w1.cell? ⟨w.heap.size + 1, 0, none⟩ = some (.int .i64 0) := cell_of_row w1 (w.heap.size + 1) 0 _ _ _ hG; have y1 : w1.cell? ⟨w.heap.size + 1, 1, none⟩ = some (.int .i64 0) := cell_of_row w1 (w.heap.size + 1) 1 _ _ _ hG; have f1 := fun i => frozen_of_row w1 (w.heap.size + 1) i _ _ hG; have HG1 := Lib.hid (blk_set1 (blk_set0 hG (.int .i64 kd)) (.int .i64 (p : Nat))); have HR1 := Lib.hid ((heap_setCell_other (w1.setCell ⟨w.heap.size + 1, 0, none⟩ (.int .i64 kd)) ⟨w.heap.size + 1, 1, none⟩ w.heap.size (.int .i64 (p : Nat)) (by simp)).trans ((heap_setCell_other w1 ⟨w.heap.size + 1, 0, none⟩ w.heap.size (.int .i64 kd) (by simp)).trans hR)); clear hG hR; have hb2 := (hb0.setCell (p := ⟨w.heap.size + 1, 0, none⟩) (by simp) (.int .i64 kd)).setCell (p := ⟨w.heap.size + 1, 1, none⟩) (by simp) (.int .i64 (p : Nat)); clear hb0)
  clear y0 y1 f1
  generalize hW2 : (w1.setCell ⟨w.heap.size + 1, 0, none⟩ (.int .i64 kd)).setCell ⟨w.heap.size + 1, 1, none⟩ (.int .i64 (p : Nat)) = w2 at *
  have hsz2 : w.heap.size + 2 ≤ w2.heap.size := by rw [← hW2]; simpa [World.setCell] using hsz1
  clear hW2 hsz1
  refine wp_region_held_drew (S := fun W => W.cell? ⟨w.heap.size + 1, 0, none⟩ = some (.int .i64 kd) ∧ W.cell? ⟨w.heap.size + 1, 1, none⟩ = some (.int .i64 (p : Nat))) (by kernel_rfl) ⟨cell_of_row w2 (w.heap.size + 1) 0 _ _ _ HG1.out, cell_of_row w2 (w.heap.size + 1) 1 _ _ _ HG1.out⟩ (fun hHeld => ?_)
  change wpAnyH _ _ _ _ _ 9 #[false, false, false, false, false, false, false, false, false] _ _
  refine wpAnyH_take (i := 0) (oi := _) (v := ?_) rfl (by kernel_rfl) (by kernel_rfl) (by kernel_rfl) (fun _ _ _ h => h) (Or.inl ⟨by rfl, ?_⟩) hHeld ?_
  rotate_left
  · intro w9 hSw; obtain ⟨s0, s1⟩ := hSw; go_simp; (try with_reducible rfl)
  simp only [List.getElem_toArray, List.getElem_cons_zero, Act.put, List.setIfInBounds_toArray, List.set_cons_zero, List.set_cons_succ]
  refine wpAnyH_take (i := 1) (oi := _) (v := ?_) rfl (by kernel_rfl) (by kernel_rfl) (by kernel_rfl) (fun _ _ _ h => h) (Or.inl ⟨by rfl, ?_⟩) hHeld ?_
  rotate_left
  · intro w9 hSw; obtain ⟨s0, s1⟩ := hSw; go_simp; (try with_reducible rfl)
  simp only [List.getElem_toArray, List.getElem_cons_zero, List.getElem_cons_succ, Act.put, List.setIfInBounds_toArray, List.set_cons_zero, List.set_cons_succ]
  refine wpAnyH_take (i := 2) (oi := _) (v := ?_) rfl (by kernel_rfl) (by kernel_rfl) (by kernel_rfl) (fun _ _ _ h => h) (Or.inl ⟨by rfl, ?_⟩) hHeld ?_
  rotate_left
  · intro w9 hSw; obtain ⟨s0, s1⟩ := hSw; go_simp; (try with_reducible rfl)
  simp only [List.getElem_toArray, List.getElem_cons_zero, List.getElem_cons_succ, Act.put, List.setIfInBounds_toArray, List.set_cons_zero, List.set_cons_succ]
  refine wpAnyH_take (i := 3) (oi := _) (v := ?_) rfl (by kernel_rfl) (by kernel_rfl) (by kernel_rfl) (fun _ _ _ h => h) (Or.inl ⟨by rfl, ?_⟩) hHeld ?_
  rotate_left
  · intro w9 hSw; obtain ⟨s0, s1⟩ := hSw; go_simp; (try with_reducible rfl)
  simp only [List.getElem_toArray, List.getElem_cons_zero, List.getElem_cons_succ, Act.put, List.setIfInBounds_toArray, List.set_cons_zero, List.set_cons_succ]
  refine wpAnyH_take (i := 4) (oi := _) (v := ?_) rfl (by kernel_rfl) (by kernel_rfl) (by kernel_rfl) (fun _ _ _ h => h) (Or.inl ⟨by rfl, ?_⟩) hHeld ?_
  rotate_left
  · intro w9 hSw; obtain ⟨s0, s1⟩ := hSw; go_simp; (try with_reducible rfl)
  simp only [List.getElem_toArray, List.getElem_cons_zero, List.getElem_cons_succ, Act.put, List.setIfInBounds_toArray, List.set_cons_zero, List.set_cons_succ]
  refine wpAnyH_take (i := 5) (oi := _) (v := ?_) rfl (by kernel_rfl) (by kernel_rfl) (by kernel_rfl) (fun _ _ _ h => h) (Or.inl ⟨by rfl, ?_⟩) hHeld ?_
  rotate_left
  · intro w9 hSw; obtain ⟨s0, s1⟩ := hSw; go_simp; (try with_reducible rfl)
  simp only [List.getElem_toArray, List.getElem_cons_zero, List.getElem_cons_succ, Act.put, List.setIfInBounds_toArray, List.set_cons_zero, List.set_cons_succ]
  refine wpAnyH_take (i := 8) (oi := _) (v := ?_) rfl (by kernel_rfl) (by kernel_rfl) (by kernel_rfl) (fun _ _ _ h => h) (Or.inl ⟨by rfl, ?_⟩) hHeld ?_
  rotate_left
  · intro w9 hSw; obtain ⟨s0, s1⟩ := hSw; go_simp; (try with_reducible rfl)
  simp only [List.getElem_toArray, List.getElem_cons_zero, List.getElem_cons_succ, Act.put, List.setIfInBounds_toArray, List.set_cons_zero, List.set_cons_succ]
  have h5 := h0.from5 hp
  generalize (if c = p then A else Option.map (fun x => x.add p) A) = A5 at h5 ⊢
  have h6 : Rd w2.drew w2.drew.heap.size 1 A5 (n - p) (c - p) (ints .u8 (zs.drop p)) := (h5.below hb2.drew).more hb2.size
  clear h5 h0
  refine wpAnyH_ready (rs := [6]) (by kernel_rfl) (by simp) ?_
  refine AllReadyH.cons (o := _) rfl (fun K hK => ?_) AllReadyH.nil
  go_simp
  refine (C46 _ _ _ h6).mono ?_
  rintro e w3 ⟨A3, c3, rfl, hr3, hb3⟩
  refine hK.out _ _ ?_ (fun hHeld2 => ?_)
  · refine ⟨(hb3.cell ?_).trans hHeld.1, (hb3.cell ?_).trans hHeld.2⟩ <;> (simp; omega)
  clear hK

  refine wpAnyH_take (i := 7) (oi := _) (v := ?_) rfl (by kernel_rfl) (by kernel_rfl) (by kernel_rfl) (fun _ _ _ h => h) (Or.inl ⟨by rfl, ?_⟩) hHeld2 ?_
  rotate_left
  · intro w9 hSw; obtain ⟨s0, s1⟩ := hSw; go_simp; (try with_reducible rfl)
  simp only [List.getElem_toArray, List.getElem_cons_zero, List.getElem_cons_succ, Act.put, List.setIfInBounds_toArray, List.set_cons_zero, List.set_cons_succ]
  refine wpAnyH_done (by kernel_rfl) ?_ _
  have HB3 := Lib.hid ((hb3.block (w.heap.size + 1) (by simp; omega)).trans HG1.out)
  have HB2 := Lib.hid ((hb3.block w.heap.size (by simp; omega)).trans HR1.out)
  have hb0 := hb2.drew.trans (hb3.mono hb2.size)
  have hsz3 : w.heap.size + 2 ≤ w3.heap.size := by have := hb3.size; simp at this; omega
  clear hb3 hb2 HG1 HR1 hsz2 hHeld hHeld2 h6 C46
  go_wp2_with fail

  go_loopw [22] (fun i wr => ∃ (k : Nat) (vR vO : Value), k ≤ L.length ∧ i = .int .i64 k ∧ Hid (wr.heap[w.heap.size + 1]? = some (.cells #[.int .i64 kd, .int .i64 (p : Nat), vR, vO] 27 (0, 0))) ∧ wr.ownsRow w3.heap.size 21 1 vR k (ints .i32 (runesOf (L.take k))) ∧ wr.ownsRow w3.heap.size 3 1 vO k (ints .i64 (offsOf p (L.take k))) ∧ Hid (w3.grownBy wr (some (w.heap.size + 1))))
    (fun i _ => L.length - (intOf i).toNat)
  case atStart => exact ⟨0, .slice none 0 0, .slice none 0 0, Nat.zero_le _, rfl, HB3, World.ownsRow_nil _ _ _ _, World.ownsRow_nil _ _ _ _, World.grownBy.refl _ _⟩
  case round =>
    obtain ⟨k, vR, vO, hk, rfl, HB, hR, hO, HG⟩ := hrel
    have hsz := HG.out.size
    by_cases hlt : k < L.length
    · have hat := HAT.out k hlt
      have hs1 := runesOf_snoc L k hlt
      have hs2 := offsOf_snoc p L k hlt
      obtain ⟨b, off, rfl, hbb, hc⟩ := hr3.it_form (by omega)
      have hbg := not_text rfl rfl (hc 0 (by omega)).1 HB3.out
      obtain ⟨x0, x1, x2⟩ := hc k hlt
      have hbg' : some b ≠ some (w.heap.size + 1) := by simpa using hbg
      have x0 := HG.out.cell x0 hbg'
      have x1 := HG.out.cell x1 hbg'
      have x2 := HG.out.cell x2 hbg'
      have HC := Lib.hid hc
      clear hc hbg'
      generalize L[k] = it at x0 x1 x2 hat hs1 hs2
      obtain ⟨r, q, N⟩ := it
      simp only at x0 x1 x2 hat hs1 hs2
      have HS1 := Lib.hid hs1
      have HS2 := Lib.hid hs2
      clear hs1 hs2
      have y2 : ∀ X, (wr.alloc X).cell? ⟨w.heap.size + 1, 2, none⟩ = some vR := fun X => cell_old wr (w.heap.size + 1) 2 X _ (cell_of_row wr (w.heap.size + 1) 2 _ _ _ HB.out)
      have t1 : IntKind.i64.wrap ((q : Int) + (p : Int)) = (q : Int) + (p : Int) := IntWalk.i64_in _ (by omega)
      go_wp2_with (first | (at_builtin; refine wpList_pushG st24 rfl _ _ rfl _ rfl (hR.alloc _) [.int .i32 r] (wr.heap.size + 1) rfl (by simp) rfl (by simp [Value.oneCell']) (by omega) (by omega) (by simp; omega) ?_; intro v1 w1 hR1 hg1; obtain ⟨AR, cR, rfl, hR1⟩ := own_form hR1; have HB1 := (hg1.block (w.heap.size + 1) (by simp; omega) (own_not hR HB.out (by decide))).trans ((heap_alloc_old wr _ (by omega)).trans HB.out); have e1 : w1.cell? ⟨wr.heap.size, 1, none⟩ = some (.int .i64 (q : Nat)) := hg1.cell (cell_in wr _ 1 _ _ rfl) (own_ne hR (Nat.le_refl _)); have hO1 := (hO.alloc _).kept hg1 (own_apart hR hO (by decide)); have HG1 := Lib.hid ((HG.out.trans (World.grownBy_alloc wr _ _)).andThen hg1 (fun j hj => .inl (hR.lt j hj).1)); have hsz1 := HG1.out.size; have z1 : w1.cell? ⟨w.heap.size + 1, 1, none⟩ = some (.int .i64 (p : Nat)) := cell_of_row w1 (w.heap.size + 1) 1 _ _ _ HB1; have z2 : w1.cell? ⟨w.heap.size + 1, 2, none⟩ = some vR := cell_of_row w1 (w.heap.size + 1) 2 _ _ _ HB1; have z3 : w1.cell? ⟨w.heap.size + 1, 3, none⟩ = some vO := cell_of_row w1 (w.heap.size + 1) 3 _ _ _ HB1; have f2 := frozen_of_row w1 (w.heap.size + 1) 2 _ _ HB1; have f3 := frozen_of_row w1 (w.heap.size + 1) 3 _ _ HB1; have HB1 := Lib.hid HB1; have hR2 := ownsRow_setCell_below hR1 (a := ⟨w.heap.size + 1, 2, none⟩) (show w.heap.size + 1 < w3.heap.size by omega) (.slice AR (k + 1) cR); have hO2 := ownsRow_setCell_below hO1 (a := ⟨w.heap.size + 1, 2, none⟩) (show w.heap.size + 1 < w3.heap.size by omega) (.slice AR (k + 1) cR); clear hR1 hO1; clear hR hO HG HB hg1) | (at_builtin; refine wpList_pushG st25E rfl _ _ rfl _ rfl hO2 [.int .i64 ((q : Int) + (p : Int))] w1.heap.size rfl (by simp [World.setCell]) rfl (by simp [Value.oneCell']) (by omega) (by omega) (by simp; omega) ?_; intro v2 w2 hO3 hg2; obtain ⟨AO, cO, rfl, hO3⟩ := own_form hO3; have hS1 := blk_set2 HB1.out (.slice AR (k + 1) cR); have HB4 := (hg2.block (w.heap.size + 1) (by simp; omega) (own_not hO2 hS1 (by decide))).trans hS1; have hR3 := hR2.kept hg2 (own_apart hO2 hR2 (by decide)); have HG2 := Lib.hid ((HG1.out.trans (grownBy_set w1 (w.heap.size + 1) 2 (.slice AR (k + 1) cR))).andThen hg2 (fun j hj => .inl (hO2.lt j hj).1)); have hsz2 := HG2.out.size; have z4 : w2.cell? ⟨w.heap.size + 1, 3, none⟩ = some vO := cell_of_row w2 (w.heap.size + 1) 3 _ _ _ HB4; have f4 := frozen_of_row w2 (w.heap.size + 1) 3 _ _ HB4; have HB4 := Lib.hid HB4; clear hS1 hR2 hO2 hg2))
      go_roundw
      case rel => exact ⟨k + 1, _, _, by omega, by go_num, Lib.hid (blk_set3 HB4.out (.slice AO (k + 1) cO)), own_as (ownsRow_setCell_below hR3 (a := ⟨w.heap.size + 1, 3, none⟩) (show w.heap.size + 1 < w3.heap.size by omega) (.slice AO (k + 1) cO)) rfl (by rw [HS1.out]; simp [ints]), own_as (ownsRow_setCell_below hO3 (a := ⟨w.heap.size + 1, 3, none⟩) (show w.heap.size + 1 < w3.heap.size by omega) (.slice AO (k + 1) cO)) rfl (by rw [HS2.out]; simp [ints]), Lib.hid (HG2.out.trans (grownBy_set w2 (w.heap.size + 1) 3 (.slice AO (k + 1) cO)))⟩
      case measure => simp [intOf]; omega
    · obtain rfl : k = L.length := by omega
      rw [List.take_length] at hR hO
      have y3 : ∀ X, (wr.alloc X).cell? ⟨w.heap.size + 1, 3, none⟩ = some vO := fun X => cell_old wr (w.heap.size + 1) 3 X _ (cell_of_row wr (w.heap.size + 1) 3 _ _ _ HB.out)
      have y3' : wr.cell? ⟨w.heap.size + 1, 3, none⟩ = some vO := cell_of_row wr (w.heap.size + 1) 3 _ _ _ HB.out
      obtain ⟨AR, cR, rfl, hR⟩ := own_form hR
      go_wp2_with (at_builtin; refine wpList_pushG st25E rfl _ _ rfl _ rfl hO [.int .i64 n] wr.heap.size rfl rfl rfl (by simp [Value.oneCell']) (by omega) (by omega) (by omega) ?_; intro v1 w1 hO1 hg1; obtain ⟨AO, cO, rfl, hO1⟩ := own_form hO1; have HB1 := (hg1.block (w.heap.size + 1) (by omega) (own_not hO HB.out (by decide))).trans HB.out; have HR1 := (hg1.block w.heap.size (by omega) (fun e => absurd (hO.lt _ e.symm).1 (by omega))).trans ((HG.out.block w.heap.size (by omega) (some_ne_succ _)).trans HB2.out); have hR1 := hR.kept hg1 (own_apart hO hR (by decide)); have HG1 := Lib.hid (HG.out.andThen hg1 (fun j hj => .inl (hO.lt j hj).1)); have hsz1 := HG1.out.size; have z0 : w1.cell? ⟨w.heap.size + 1, 0, none⟩ = some (.int .i64 kd) := cell_of_row w1 (w.heap.size + 1) 0 _ _ _ HB1; have z1 : w1.cell? ⟨w.heap.size + 1, 1, none⟩ = some (.int .i64 (p : Nat)) := cell_of_row w1 (w.heap.size + 1) 1 _ _ _ HB1; have z2 : w1.cell? ⟨w.heap.size + 1, 2, none⟩ = some (.slice AR L.length cR) := cell_of_row w1 (w.heap.size + 1) 2 _ _ _ HB1; have z3 : w1.cell? ⟨w.heap.size + 1, 3, none⟩ = some vO := cell_of_row w1 (w.heap.size + 1) 3 _ _ _ HB1; have f3 := fun i => frozen_of_row w1 (w.heap.size + 1) i _ _ HB1; have r0 : w1.cell? ⟨w.heap.size, 0, none⟩ = some (.int .i64 0) := cell_of_row w1 w.heap.size 0 _ _ _ HR1; have r1 : w1.cell? ⟨w.heap.size, 1, none⟩ = some (.int .i64 0) := cell_of_row w1 w.heap.size 1 _ _ _ HR1; have r2 : w1.cell? ⟨w.heap.size, 2, none⟩ = some (.slice none 0 0) := cell_of_row w1 w.heap.size 2 _ _ _ HR1; have r3 : w1.cell? ⟨w.heap.size, 3, none⟩ = some (.slice none 0 0) := cell_of_row w1 w.heap.size 3 _ _ _ HR1; have f4 := fun i => frozen_of_row w1 w.heap.size i _ _ HR1; have HB1 := Lib.hid HB1; have HR1 := Lib.hid HR1; clear hR hO HG HB hg1)
      obtain ⟨e1, e2, e3, e4⟩ := dec_end (kd := kd) hb0 hsz3 HG1.out HR1.out hR1 hO1 _ rfl
      exact bodyPost_ret (v := .agg #[.int .i64 kd, .int .i64 (p : Nat), .slice AR L.length cR, .slice AO (L.length + 1) cO]) (results_cell_row rfl _ _ w.heap.size 27 _ (0, 0) _ rfl e1 Tryz.underlying27 rfl (by kernel_rfl)) rfl ⟨AR, cR, AO, cO, rfl, e2, e3, e4⟩

theorem decode42 (A : Option Addr) (n c : Nat) (zs : List Int) (w : World) (h : Rd w w.heap.size 1 A n c (ints .u8 zs)) (hz : Bytes8 zs) (hn : n ≤ 4096) :
    Calls Tryz.prog 11 #[.slice A n c] w (DecIs (pKind zs).1 (dBom zs) n (dItems zs) w) := by
  have hl := h.int_len
  have hp := dBom_le zs
  have hk := pKind_bd zs
  have hlen := dItems_le hz
  refine decode42_core A n c (dBom zs) (pKind zs).1 zs (dItems zs) w h hn (by omega) (by omega) (fun k hk' => ?_) (fun W hb => ?_) (fun W A' c' hr => ?_)
  · have := pItems_at (pKind zs).1 ⟨hk.1, hk.2.1⟩ (hz.drop (dBom zs)) k hk'
    rw [List.length_drop] at this
    exact Nat.le_trans this (by omega)
  · have := kind44 A n c zs W ((h.below hb).more hb.size) hz
    rw [dBom_eq] at this
    exact this
  · exact pieces46 (pKind zs).1 A' (n - dBom zs) c' (zs.drop (dBom zs)) W hr (hz.drop _) (by omega)
end Go.Proofs.YtibakihcicfeoaaGreat
/- The walk of layer 3's example. No condition. -/
namespace Go.Proofs.YtibakihcicfeoaaGreat
open Go.RowKit

theorem awake3_kind : pKind [255, 254, 65, 0] = (2, 2) ∧ dBom [255, 254, 65, 0] = 2 ∧ dItems [255, 254, 65, 0] = [(65, 0, 2)] := by decide +kernel
end Go.Proofs.YtibakihcicfeoaaGreat
/- The walk of the law SniffPieces. No condition. -/
namespace Go.Proofs.YtibakihcicfeoaaGreat
open Go.RowKit

end Go.Proofs.YtibakihcicfeoaaGreat
/- The walk of the law SniffDecodes. No condition. -/
namespace Go.Proofs.YtibakihcicfeoaaGreat
open Go.RowKit

theorem gz_last {l : List Int} {k : Nat} (h : l.length = k) (n : Int) : gz (l ++ [n]) k = n := by subst h; simp [gz]
/-- Two blocks laid one behind the other, and what a callee leaves of them. -/
theorem two_blocksS {w w3 : World} {cs1 cs2 : Array Value} {t1 t2 : TypeId} (hb : Below ((w.alloc (.cells cs1 t1)).alloc (.cells cs2 t2)).heap.size ((w.alloc (.cells cs1 t1)).alloc (.cells cs2 t2)) w3) :
    w3.heap[w.heap.size]? = some (.cells cs1 t1 (0, 0)) ∧ w3.heap[w.heap.size + 1]? = some (.cells cs2 t2 (0, 0)) ∧ Below w.heap.size w w3 := by
  refine ⟨(hb.block w.heap.size (by simp; omega)).trans (heap_alloc2_old w _ _), (hb.block (w.heap.size + 1) (by simp)).trans (heap_alloc2_new w _ _), ?_⟩
  exact (((Below.refl w.heap.size w).alloc (Nat.le_refl _) _).alloc (by simp) _).trans (hb.mono (by simp; omega))
/-- The cells of a text in a block. -/
theorem text_cells {w : World} {g : Nat} {t : TypeId} {a b c d : Value} (h : w.heap[g]? = some (.cells #[a, b, c, d] t (0, 0))) :
    w.cell? ⟨g, 0, none⟩ = some a ∧ w.cell? ⟨g, 1, none⟩ = some b ∧ w.cell? ⟨g, 2, none⟩ = some c ∧ w.cell? ⟨g, 3, none⟩ = some d :=
  ⟨cell_of_row w g 0 _ _ _ h, cell_of_row w g 1 _ _ _ h, cell_of_row w g 2 _ _ _ h, cell_of_row w g 3 _ _ _ h⟩

end Go.Proofs.YtibakihcicfeoaaGreat
