/- Plain facts: the document's First, one to four bytes tried in turn, is the piece. No condition. -/
import Derived.Test.YtibakihcicfeoaaGreatTc
import Derived.Deep.RegionWith
namespace Go.Proofs.YtibakihcicfeoaaGreat
open Go.RowKit

def leadOf (m : Nat) : Int := if m = 2 then 192 else if m = 3 then 224 else if m = 4 then 240 else 0
/-- The number that m bytes tell, after the first k of them. -/
def pv (zs : List Int) (m : Nat) : Nat → Int
  | 0 => gz zs 0 - leadOf m
  | 1 => gz zs 0 - leadOf m
  | k + 2 => 64 * pv zs m (k + 1) + gz zs (k + 1) - 128
theorem pv_step (zs : List Int) (m k : Nat) (hk : 1 ≤ k) : pv zs m (k + 1) = 64 * pv zs m k + gz zs k - 128 := by
  obtain ⟨j, rfl⟩ : ∃ j, k = j + 1 := ⟨k - 1, by omega⟩
  rfl
theorem pv_bd {zs : List Int} (hz : Bytes8 zs) (m k : Nat) (hk : k ≤ 4) : -1000000000 ≤ pv zs m k ∧ pv zs m k ≤ 1000000000 := by
  have b0 := hz.at_ 0
  have b1 := hz.at_ 1
  have b2 := hz.at_ 2
  have b3 := hz.at_ 3
  have hl : 0 ≤ leadOf m ∧ leadOf m ≤ 240 := by unfold leadOf; repeat' split
                                                all_goals omega
  match k, hk with
  | 0, _ => simp only [pv]; omega
  | 1, _ => simp only [pv]; omega
  | 2, _ => simp only [pv, Nat.reduceAdd]; omega
  | 3, _ => simp only [pv, Nat.reduceAdd]; omega
  | 4, _ => simp only [pv, Nat.reduceAdd]; omega

/-- The m bytes at the beginning are a rune's. -/
def Acc (zs : List Int) (m : Nat) : Prop := 0 ≤ pv zs m m ∧ pv zs m m ≤ 1114111 ∧ enc (pv zs m m) = zs.take m

theorem take_one {zs : List Int} (h : 1 ≤ zs.length) : zs.take 1 = [gz zs 0] := by
  match zs, h with
  | a :: t, _ => simp [gz]
theorem take_two {zs : List Int} (h : 2 ≤ zs.length) : zs.take 2 = [gz zs 0, gz zs 1] := by
  match zs, h with
  | a :: b :: t, _ => simp [gz]
theorem take_three {zs : List Int} (h : 3 ≤ zs.length) : zs.take 3 = [gz zs 0, gz zs 1, gz zs 2] := by
  match zs, h with
  | a :: b :: c :: t, _ => simp [gz]
theorem take_four {zs : List Int} (h : 4 ≤ zs.length) : zs.take 4 = [gz zs 0, gz zs 1, gz zs 2, gz zs 3] := by
  match zs, h with
  | a :: b :: c :: d :: t, _ => simp [gz]

theorem enc_at1 {v a : Int} : enc v = [a] ↔ 0 ≤ v ∧ v < 128 ∧ a = v := by
  have hl := enc_len v
  constructor
  · intro h
    rw [h] at hl
    have hw : wdS v = 1 := hl.symm
    have hp := wd_pos (r := v) (by omega)
    have : v < 128 := by
      unfold wdS at hw
      rw [if_neg (by omega)] at hw
      repeat' split at hw
      all_goals omega
    unfold enc at h
    rw [if_neg (by omega), if_pos this] at h
    simp at h
    exact ⟨hp.1, this, h.symm⟩
  · rintro ⟨h0, h1, rfl⟩
    unfold enc
    rw [if_neg (by unfold wdS; rw [if_neg (by omega), if_pos h1]; omega), if_pos h1]
theorem enc_at2 {v a b : Int} : enc v = [a, b] ↔ 128 ≤ v ∧ v < 2048 ∧ a = 192 + v / 64 ∧ b = 128 + v % 64 := by
  have hl := enc_len v
  constructor
  · intro h
    rw [h] at hl
    have hw : wdS v = 2 := hl.symm
    have hp := wd_pos (r := v) (by omega)
    have : 128 ≤ v ∧ v < 2048 := by
      unfold wdS at hw
      rw [if_neg (by omega)] at hw
      repeat' split at hw
      all_goals omega
    unfold enc at h
    rw [if_neg (by omega), if_neg (by omega), if_pos (by omega)] at h
    simp at h
    omega
  · rintro ⟨h0, h1, rfl, rfl⟩
    unfold enc
    rw [if_neg (by unfold wdS; rw [if_neg (by omega), if_neg (by omega), if_pos h1]; omega), if_neg (by omega), if_pos h1]
theorem enc_at3 {v a b c : Int} : enc v = [a, b, c] ↔ 2048 ≤ v ∧ v < 65536 ∧ (v < 55296 ∨ 57343 < v) ∧ a = 224 + v / 4096 ∧ b = 128 + v / 64 % 64 ∧ c = 128 + v % 64 := by
  have hl := enc_len v
  constructor
  · intro h
    rw [h] at hl
    have hw : wdS v = 3 := hl.symm
    have hp := wd_pos (r := v) (by omega)
    have : 2048 ≤ v ∧ v < 65536 := by
      unfold wdS at hw
      rw [if_neg (by omega)] at hw
      repeat' split at hw
      all_goals omega
    unfold enc at h
    rw [if_neg (by omega), if_neg (by omega), if_neg (by omega), if_pos (by omega)] at h
    simp at h
    omega
  · rintro ⟨h0, h1, h2, rfl, rfl, rfl⟩
    unfold enc
    rw [if_neg (by unfold wdS; rw [if_neg (by omega), if_neg (by omega), if_neg (by omega), if_pos h1]; omega), if_neg (by omega), if_neg (by omega), if_pos h1]
theorem enc_at4 {v a b c d : Int} : enc v = [a, b, c, d] ↔ 65536 ≤ v ∧ v ≤ 1114111 ∧ a = 240 + v / 262144 ∧ b = 128 + v / 4096 % 64 ∧ c = 128 + v / 64 % 64 ∧ d = 128 + v % 64 := by
  have hl := enc_len v
  constructor
  · intro h
    rw [h] at hl
    have hw : wdS v = 4 := hl.symm
    have hp := wd_pos (r := v) (by omega)
    have : 65536 ≤ v := by
      unfold wdS at hw
      rw [if_neg (by omega)] at hw
      repeat' split at hw
      all_goals omega
    unfold enc at h
    rw [if_neg (by omega), if_neg (by omega), if_neg (by omega), if_neg (by omega)] at h
    simp at h
    omega
  · rintro ⟨h0, h1, rfl, rfl, rfl, rfl⟩
    unfold enc
    rw [if_neg (by unfold wdS; rw [if_neg (by omega), if_neg (by omega), if_neg (by omega), if_neg (by omega)]; omega), if_neg (by omega), if_neg (by omega), if_neg (by omega)]

section
variable {zs : List Int} (hz : Bytes8 zs)
include hz
theorem acc1 (h : 1 ≤ zs.length) : Acc zs 1 ↔ gz zs 0 < 128 := by
  have b0 := hz.at_ 0
  have e : pv zs 1 1 = gz zs 0 := by simp [pv, leadOf]
  unfold Acc; rw [e, take_one h, enc_at1]; omega
theorem acc2 (h : 2 ≤ zs.length) : Acc zs 2 ↔ 192 ≤ gz zs 0 ∧ gz zs 0 < 224 ∧ 128 ≤ gz zs 1 ∧ gz zs 1 < 192 ∧ 128 ≤ (gz zs 0 - 192) * 64 + (gz zs 1 - 128) := by
  have b0 := hz.at_ 0
  have b1 := hz.at_ 1
  have e : pv zs 2 2 = (gz zs 0 - 192) * 64 + (gz zs 1 - 128) := by simp [pv, leadOf]; omega
  unfold Acc; rw [e, take_two h, enc_at2]; omega
theorem acc3 (h : 3 ≤ zs.length) : Acc zs 3 ↔ 224 ≤ gz zs 0 ∧ gz zs 0 < 240 ∧ 128 ≤ gz zs 1 ∧ gz zs 1 < 192 ∧ 128 ≤ gz zs 2 ∧ gz zs 2 < 192 ∧ 2048 ≤ (gz zs 0 - 224) * 4096 + (gz zs 1 - 128) * 64 + (gz zs 2 - 128) ∧ ((gz zs 0 - 224) * 4096 + (gz zs 1 - 128) * 64 + (gz zs 2 - 128) < 55296 ∨ 57343 < (gz zs 0 - 224) * 4096 + (gz zs 1 - 128) * 64 + (gz zs 2 - 128)) := by
  have b0 := hz.at_ 0
  have b1 := hz.at_ 1
  have b2 := hz.at_ 2
  have e : pv zs 3 3 = (gz zs 0 - 224) * 4096 + (gz zs 1 - 128) * 64 + (gz zs 2 - 128) := by simp [pv, leadOf]; omega
  unfold Acc; rw [e, take_three h, enc_at3]; omega
theorem acc4 (h : 4 ≤ zs.length) : Acc zs 4 ↔ 240 ≤ gz zs 0 ∧ gz zs 0 < 248 ∧ 128 ≤ gz zs 1 ∧ gz zs 1 < 192 ∧ 128 ≤ gz zs 2 ∧ gz zs 2 < 192 ∧ 128 ≤ gz zs 3 ∧ gz zs 3 < 192 ∧ 65536 ≤ (gz zs 0 - 240) * 262144 + (gz zs 1 - 128) * 4096 + (gz zs 2 - 128) * 64 + (gz zs 3 - 128) ∧ (gz zs 0 - 240) * 262144 + (gz zs 1 - 128) * 4096 + (gz zs 2 - 128) * 64 + (gz zs 3 - 128) ≤ 1114111 := by
  have b0 := hz.at_ 0
  have b1 := hz.at_ 1
  have b2 := hz.at_ 2
  have b3 := hz.at_ 3
  have e : pv zs 4 4 = (gz zs 0 - 240) * 262144 + (gz zs 1 - 128) * 4096 + (gz zs 2 - 128) * 64 + (gz zs 3 - 128) := by simp [pv, leadOf]; omega
  unfold Acc; rw [e, take_four h, enc_at4]; omega
/-- The first m that serves is the piece's. -/
theorem acc_dec {m : Nat} (h1 : 1 ≤ m) (h4 : m ≤ 4) (hm : m ≤ zs.length) (h : Acc zs m) : sStep zs 0 = (pv zs m m, m) := by
  unfold sStep
  simp only [Nat.sub_zero, Nat.zero_add]
  obtain rfl | rfl | rfl | rfl : m = 1 ∨ m = 2 ∨ m = 3 ∨ m = 4 := by omega
  · rw [dec_one ((acc1 hz hm).1 h)]; simp [pv, leadOf]
  · have := (acc2 hz hm).1 h
    rw [dec_two (by omega)]; simp [pv, leadOf]; omega
  · have := (acc3 hz hm).1 h
    rw [dec_three (by omega)]; simp [pv, leadOf]; omega
  · have := (acc4 hz hm).1 h
    rw [dec_four (by omega)]; simp [pv, leadOf]; omega
theorem none_dec (hl : 1 ≤ zs.length) (h : ∀ m, 1 ≤ m → m ≤ 4 → m ≤ zs.length → ¬ Acc zs m) : sStep zs 0 = (-1, 1) := by
  unfold sStep
  simp only [Nat.sub_zero, Nat.zero_add]
  refine dec_bad (fun g => h 1 (by omega) (by omega) hl ((acc1 hz hl).2 g)) (fun g => ?_) (fun g => ?_) (fun g => ?_)
  · exact h 2 (by omega) (by omega) g.2.2.1 ((acc2 hz g.2.2.1).2 (by omega))
  · exact h 3 (by omega) (by omega) g.2.2.1 ((acc3 hz g.2.2.1).2 (by omega))
  · exact h 4 (by omega) (by omega) g.2.2.1 ((acc4 hz g.2.2.1).2 (by omega))
end
/-- The test of two strings of bytes, as the walk spells it. -/
theorem str_beq {xs ys : List Int} (hx : Bytes8 xs) (hy : Bytes8 ys) : ((strOfNums xs).toList == (strOfNums ys).toList) = decide (xs = ys) := by
  have key : (strOfNums xs).toList = (strOfNums ys).toList ↔ xs = ys := by
    constructor
    · intro h
      rw [ByteArray.toList_eq, ByteArray.toList_eq, strOfNums_data, strOfNums_data] at h
      have h1 : Lib.strCells (strOfNums xs) = Lib.strCells (strOfNums ys) := by unfold Lib.strCells; rw [strOfNums_data, strOfNums_data, h]
      rw [strCells_nums hx, strCells_nums hy] at h1
      have : ∀ (a b : List Int), ints .u8 a = ints .u8 b → a = b := by
        intro a
        induction a with
        | nil => intro b h; cases b with
          | nil => rfl
          | cons _ _ => simp [ints] at h
        | cons x t ih => intro b h; cases b with
          | nil => simp [ints] at h
          | cons y u =>
            simp only [ints, List.map_cons, List.cons.injEq, Value.int.injEq, true_and] at h
            rw [h.1, ih u h.2]
      exact this _ _ h1
    · rintro rfl; rfl
  rw [Bool.eq_iff_iff]
  simp [key]
end Go.Proofs.YtibakihcicfeoaaGreat
/- The walk of the document's First. No condition. -/
namespace Go.Proofs.YtibakihcicfeoaaGreat
open Go.RowKit

theorem lead_at (m : Nat) (h : m ≤ 4) : (#[Value.int .i64 0, .int .i64 0, .int .i64 192, .int .i64 224, .int .i64 240] : Array Value)[m]? = some (.int .i64 (leadOf m)) := by
  match m, h with
  | 0, _ => rfl
  | 1, _ => rfl
  | 2, _ => rfl
  | 3, _ => rfl
  | 4, _ => rfl

/-- What First says of bytes. -/
def firstOf (zs : List Int) : Int × Nat := if zs.length = 0 then (0, 0) else sStep zs 0

theorem wpAnyH_monoS {P : Program} {md : Region.Mode} {ops : Array Oper} {Q : Exit → Act → World → Prop} {S S' : World → Prop} (h : ∀ w, S' w → S w) :
    ∀ (fuel : Nat) (listed : Array Bool) (a : Act) (w : World), wpAnyH P md ops Q S' fuel listed a w → wpAnyH P md ops Q S fuel listed a w
  | 0, _, _, _, hw => hw
  | fuel + 1, _, _, _, hw => ⟨hw.1, fun i hi => wpOp_mono (fun a' w' hq => ⟨h _ hq.1, wpAnyH_monoS h fuel _ a' w' hq.2⟩) (hw.2 i hi)⟩

end Go.Proofs.YtibakihcicfeoaaGreat
/- The walks of the document's Items of layer 1, of scan.Valid, and of the law ScanItems. No condition. -/
namespace Go.Proofs.YtibakihcicfeoaaGreat
open Go.RowKit

theorem gz_drop (zs : List Int) (p j : Nat) : gz (zs.drop p) j = gz zs (p + j) := by simp [gz]
theorem sStep_drop (zs : List Int) (p : Nat) : sStep (zs.drop p) 0 = sStep zs p := by
  unfold sStep
  rw [gz_drop, gz_drop, gz_drop, gz_drop, List.length_drop]
  simp
theorem Rd.from_ {w : World} {B n c b off p : Nat} {zs : List Int} (h : Rd w B 1 (some ⟨b, off, none⟩) n c (ints .u8 zs)) (hp : p < n) : Rd w B 1 (some ⟨b, off + p, none⟩) (n - p) (c - p) (ints .u8 (zs.drop p)) := by
  have hc := h.cap
  have hl := h.int_len
  have := h.cut (l := p) (k := n) (m := c) (by omega) (Nat.le_refl _) (Nat.le_refl _) (by omega)
  rw [if_neg (by omega), Nat.mul_one, Nat.mul_one] at this
  rw [List.take_of_length_le (by simp; omega), ← List.map_drop] at this
  simpa [add_none] using this

/-- Are the first k pieces all runes? -/
def okTo (l : List It) (k : Nat) : Bool := (l.take k).all fun x => decide (x.1 ≠ -1)
theorem okTo_succ (l : List It) (k : Nat) (h : k < l.length) : okTo l (k + 1) = (okTo l k && decide (l[k].1 ≠ -1)) := by
  unfold okTo
  rw [List.take_succ_eq_append_getElem h, List.all_append]
  simp

theorem okTo_false {l : List It} {x : It} (h : x ∈ l) (hx : x.1 = -1) : okTo l l.length = false := by
  unfold okTo
  rw [List.take_length, List.all_eq_false]
  exact ⟨x, h, by simp [hx]⟩
theorem okTo_true {l : List It} (h : ∀ x ∈ l, x.1 ≠ -1) : okTo l l.length = true := by
  unfold okTo
  rw [List.take_length, List.all_eq_true]
  intro x hx
  simpa using h x hx
theorem sGo_sub {zs : List Int} (hz : Bytes8 zs) {k p : Nat} {acc : List It} (H : Hid (sGo zs k = (acc, p))) {x : It} (hx : x ∈ acc) : x ∈ sItems zs := by
  have h : runGo (sStep zs) zs.length k = (acc, p) := H.out
  have hall := runGo_all (sStep_good hz) (k := max zs.length k) (by have := runGo_far (sStep_good hz) (max zs.length k); omega)
  obtain ⟨t, ht⟩ := runGo_prefix (step := sStep zs) (n := zs.length) (show k ≤ max zs.length k by omega)
  show x ∈ runItems (sStep zs) zs.length
  rw [← hall, ht, h]
  exact List.mem_append_left _ hx

end Go.Proofs.YtibakihcicfeoaaGreat
