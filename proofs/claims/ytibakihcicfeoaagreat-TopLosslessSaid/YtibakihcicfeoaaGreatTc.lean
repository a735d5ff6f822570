/- The walks of the document's Width and Rune. No condition. -/
import Derived.Test.YtibakihcicfeoaaGreatTb
import Derived.Test.YtibakihcicfeoaaGreatTb2
import Derived.Test.YtibakihcicfeoaaGreatTa
import Derived.Lib.AppendStr
namespace Go.Proofs.YtibakihcicfeoaaGreat
open Go.RowKit
/-- A rune's bytes. -/
def enc (r : Int) : List Int :=
  if wdS r = 0 then [] else if r < 128 then [r] else if r < 2048 then [192 + r / 64, 128 + r % 64] else if r < 65536 then [224 + r / 4096, 128 + r / 64 % 64, 128 + r % 64] else [240 + r / 262144, 128 + r / 4096 % 64, 128 + r / 64 % 64, 128 + r % 64]
theorem enc_len (r : Int) : (enc r).length = wdS r := by
  unfold enc wdS
  repeat' split
  all_goals first | rfl | omega
theorem wd_pos {r : Int} (h : wdS r ≠ 0) : 0 ≤ r ∧ r ≤ 1114111 ∧ (r < 55296 ∨ 57343 < r) := by
  unfold wdS at h
  by_cases h0 : r < 0 ∨ 1114111 < r ∨ (55296 ≤ r ∧ r ≤ 57343)
  · rw [if_pos h0] at h; exact absurd rfl h
  · omega
theorem enc_bytes (r : Int) : Bytes8 (enc r) := by
  intro z hz
  unfold enc at hz
  by_cases h0 : wdS r = 0
  · rw [if_pos h0] at hz; simp at hz
  · rw [if_neg h0] at hz
    have := wd_pos h0
    by_cases h1 : r < 128
    · rw [if_pos h1] at hz; simp only [List.mem_cons, List.not_mem_nil, or_false] at hz; omega
    · rw [if_neg h1] at hz
      by_cases h2 : r < 2048
      · rw [if_pos h2] at hz; simp only [List.mem_cons, List.not_mem_nil, or_false] at hz; omega
      · rw [if_neg h2] at hz
        by_cases h3 : r < 65536
        · rw [if_pos h3] at hz; simp only [List.mem_cons, List.not_mem_nil, or_false] at hz; omega
        · rw [if_neg h3] at hz; simp only [List.mem_cons, List.not_mem_nil, or_false] at hz; omega
theorem own_lit (w : World) (cs : List Value) (t : TypeId) (n sz B : Nat) (hl : cs.length = n * sz) (hn : n ≤ 1048576) (hB : B ≤ w.heap.size) : (w.alloc (.cells cs.toArray t)).ownsRow B t sz (.slice (some ⟨w.heap.size, 0, none⟩) n n) n cs :=
  ⟨hl, .inr ⟨w.heap.size, n, cs.toArray, rfl, hB, heap_alloc_new w _, Nat.le_refl _, by unfold maxLen; omega, by simpa using hl, by simp [← hl]⟩⟩

def RuneSaid (r : Int) (w : World) (e : Ending) (w' : World) : Prop := ∃ A c, e = .returned (.slice A (wdS r) c) ∧ w'.ownsRow w.heap.size 5 1 (.slice A (wdS r) c) (wdS r) (ints .u8 (enc r)) ∧ Below w.heap.size w w'

end Go.Proofs.YtibakihcicfeoaaGreat
/- Plain facts: runes as bytes of UTF-8, against the model's own encoding. No condition. -/
namespace Go.Proofs.YtibakihcicfeoaaGreat
open Go.RowKit

theorem strCells_nums {zs : List Int} (h : Bytes8 zs) : Lib.strCells (strOfNums zs) = ints .u8 zs := by
  unfold Lib.strCells strOfNums ints
  simp only [List.map_map]
  apply List.map_congr_left
  intro z hz
  have := h z hz
  simp only [Function.comp, UInt8.toNat_ofNat']
  congr 1
  omega
theorem encode_nums {r : Int} (h : wdS r ≠ 0) : Utf8.encode r = strOfNums (enc r) := by
  obtain ⟨h0, h1, h2⟩ := wd_pos h
  have hv : Utf8.valid r = true := by
    rw [validRune_eq]; simp [validRune]; omega
  unfold enc Utf8.encode strOfNums
  rw [if_neg h]
  simp only [hv, if_true]
  by_cases c1 : r < 128
  · rw [if_pos c1, if_pos (by omega)]; rfl
  · rw [if_neg c1, if_neg (by omega)]
    by_cases c2 : r < 2048
    · rw [if_pos c2, if_pos (by omega)]
      simp only [List.map_cons, List.map_nil]
      rw [show (192 + r / 64).toNat = 192 + r.toNat / 64 by omega, show (128 + r % 64).toNat = 128 + r.toNat % 64 by omega]
    · rw [if_neg c2, if_neg (by omega)]
      by_cases c3 : r < 65536
      · rw [if_pos c3, if_pos (by omega)]
        simp only [List.map_cons, List.map_nil]
        rw [show (224 + r / 4096).toNat = 224 + r.toNat / 4096 by omega, show (128 + r / 64 % 64).toNat = 128 + r.toNat / 64 % 64 by omega, show (128 + r % 64).toNat = 128 + r.toNat % 64 by omega]
      · rw [if_neg c3, if_neg (by omega)]
        simp only [List.map_cons, List.map_nil]
        rw [show (240 + r / 262144).toNat = 240 + r.toNat / 262144 by omega, show (128 + r / 4096 % 64).toNat = 128 + r.toNat / 4096 % 64 by omega, show (128 + r / 64 % 64).toNat = 128 + r.toNat / 64 % 64 by omega, show (128 + r % 64).toNat = 128 + r.toNat % 64 by omega]
theorem enc_zero {r : Int} (h : wdS r = 0) : enc r = [] := by unfold enc; rw [if_pos h]
theorem wd_le (r : Int) : wdS r ≤ 4 := by
  unfold wdS
  repeat' split
  all_goals omega

/-- Runes' bytes. -/
def encs (l : List Int) : List Int := l.flatMap enc
theorem encs_snoc (l : List Int) (k : Nat) (h : k < l.length) : encs (l.take (k + 1)) = encs (l.take k) ++ enc (gz l k) := by
  rw [List.take_succ_eq_append_getElem h, encs, encs, List.flatMap_append]
  simp [gz, h]
theorem encs_len_le (l : List Int) : (encs l).length ≤ 4 * l.length := by
  induction l with
  | nil => simp [encs]
  | cons a t ih =>
    have := enc_len a
    have := wd_le a
    simp only [encs, List.flatMap_cons, List.length_append, List.length_cons] at ih ⊢
    omega
theorem encs_bytes (l : List Int) : Bytes8 (encs l) := by
  intro z hz
  simp only [encs, List.mem_flatMap] at hz
  obtain ⟨r, _, hz⟩ := hz
  exact enc_bytes r z hz
/-- How many bytes the first k runes have. -/
def wds (l : List Int) (k : Nat) : Nat := (encs (l.take k)).length
theorem wds_succ (l : List Int) (k : Nat) (h : k < l.length) : wds l (k + 1) = wds l k + wdS (gz l k) := by
  unfold wds; rw [encs_snoc l k h, List.length_append, enc_len]
theorem wds_le (l : List Int) (k : Nat) : wds l k ≤ 4 * k := by
  have := encs_len_le (l.take k)
  rw [List.length_take] at this
  unfold wds; omega
end Go.Proofs.YtibakihcicfeoaaGreat
/- The walks of scan.Bytes and of the document's Bytes. No condition. -/
namespace Go.Proofs.YtibakihcicfeoaaGreat
open Go.RowKit

theorem few_facts {A : Option Addr} {n c : Nat} {zs : List Int} {w : World} (h : Rd w w.heap.size 1 A n c (ints .i32 zs)) : Rd w w.heap.size 1 A (min n 60) c (ints .i32 (zs.take 60)) := by
  have := (h.take (k := min n 60) (Nat.min_le_left _ _))
  rw [← List.map_take, Nat.mul_one] at this
  rw [ints, show zs.take 60 = zs.take (min n 60) by rw [List.take_eq_take_iff, h.int_len]; omega]
  exact this

theorem st22' : ST Tryz.prog 22 5 1 1 := ST.mk' (z := .int .u8 0) Tryz.underlying22 (by kernel_rfl) rfl (by decide)
theorem info5 : (Tryz.prog.info? 5).map (fun i => (i.zero, i.size, i.bytes)) = some (some (.int .u8 0), 1, 1) := by kernel_rfl
theorem ints_cells' (k : IntKind) (zs : List Int) : ∀ u ∈ ints k zs, u.oneCell' = true := by
  intro u hu
  simp at hu
  obtain ⟨z, _, rfl⟩ := hu
  rfl

def BytesSaid (zs : List Int) (w : World) (e : Ending) (w' : World) : Prop :=
  ∃ A c, e = .returned (.slice A zs.length c) ∧ w'.ownsRow w.heap.size 5 1 (.slice A zs.length c) zs.length (ints .u8 zs) ∧ Below w.heap.size w w'

set_option maxHeartbeats 1000000 in
set_option maxRecDepth 100000 in
theorem bytes32 (A : Option Addr) (n c : Nat) (l : List Int) (w : World) (h : Rd w w.heap.size 1 A n c (ints .i32 l)) (hn : n ≤ 4096) :
    Calls Tryz.prog 77 #[.slice A n c] w (BytesSaid (encs l) w) := by
  have HL := Lib.hid h.int_len
  have hcap := h.cap
  obtain ⟨i0, hi, hz0, hz1, hz2⟩ := info_parts info5
  go_enter Tryz.func77, Tryz.ntmps77
  go_wp2_with fail
  go_loopw [3, 8] (fun out i wr => ∃ k : Nat, k ≤ n ∧ i = .int .i64 k ∧ wr.ownsRow w.heap.size 5 1 out (wds l k) (ints .u8 (encs (l.take k))) ∧ Below w.heap.size w wr)
    (fun _ i _ => n - (intOf i).toNat)
  case atStart => exact ⟨0, Nat.zero_le _, rfl, World.ownsRow_nil _ _ _ _, Below.refl _ _⟩
  case round =>
    obtain ⟨k, hk, rfl, hown, hb⟩ := hrel
    have hwk := wds_le l k
    have hsz := hb.size
    by_cases hlt : k < n
    · obtain ⟨b, off, rfl, hbb, hc⟩ := (h.below hb).int_form (by omega)
      have x0 := hc k hlt
      have HS := Lib.hid (wds_succ l k (by rw [HL.out]; exact hlt))
      have HE := Lib.hid (encs_snoc l k (by rw [HL.out]; exact hlt))
      have h4 := wd_le (gz l k)
      have CW := fun W => width26 (gz l k) W
      clear hc
      by_cases hw : wdS (gz l k) = 0
      · have hez := Lib.hid (enc_zero hw)
        have HW := Lib.hid hw
        rw [hw] at CW
        clear hw
        go_wp2_with (go_at_call 129; refine (CW _).mono ?_; rintro e w1 ⟨rfl, rfl⟩)
        go_roundw
        case rel => exact ⟨k + 1, by omega, by go_num, own_as hown (by rw [HS.out, HW.out]; rfl) (by rw [HE.out, hez.out, List.append_nil]), hb⟩
        case measure => simp [intOf]; omega
      · have hsize : (Utf8.encode (gz l k)).size = wdS (gz l k) := by rw [encode_nums hw, strOfNums_size, enc_len]
        have HZ := Lib.hid hsize
        have HC := Lib.hid (show Lib.strCells (Utf8.encode (gz l k)) = ints .u8 (enc (gz l k)) by rw [encode_nums hw, strCells_nums (enc_bytes _)])
        have hpos : (0 : Int) < (wdS (gz l k) : Int) := by omega
        clear hw hsize
        go_wp2_with (first | (go_at_call 129; refine (CW _).mono ?_; rintro e w1 ⟨rfl, rfl⟩) | (at_builtin; refine Lib.wpList_append_own_string _ rfl _ _ 22 9 rfl w.heap.size 5 i0 Tryz.underlying22 Tryz.underlying9 hi hz0 hz1 hz2 _ _ _ rfl hown (Utf8.encode (gz l k)) rfl (by rw [HZ.out]; unfold maxLen; omega) (by rw [HZ.out]; omega) hsz ?_; intro v2 w2 hown2 hg2 _; have hb2 := below_append hb hsz hown hg2; clear hg2 hown))
        go_roundw
        case rel => exact ⟨k + 1, by omega, by go_num, own_as hown2 (by rw [HS.out, HZ.out]) (by rw [HE.out, HC.out, ints, ints, ints, List.map_append]), hb2⟩
        case measure => simp [intOf]; omega
    · obtain rfl : k = n := by omega
      go_wp2_with fail
      go_ret
      have ht : l.take k = l := List.take_of_length_le (by rw [HL.out]; exact Nat.le_refl _)
      unfold wds at hown
      rw [ht] at hown
      obtain ⟨A', c', hv, ho⟩ := own_form hown
      rw [hv]
      exact ⟨A', c', rfl, ho, hb⟩

/-- 'string(b)', whatever the slice. -/
theorem run_str' {w : World} {B n c : Nat} {A : Option Addr} {zs : List Int} (h : Rd w B 1 A n c (ints .u8 zs)) :
    (convert 22 9 (.slice A n c)).run Tryz.prog w = .ok (.string (strOfNums zs)) w := by
  have hl := h.int_len
  by_cases hn : n = 0
  · subst hn
    have : zs = [] := List.eq_nil_of_length_eq_zero hl
    subst this
    rcases A with _ | ⟨b, off, sp⟩
    · exact run_convert_bytes_nil w 22 5 Tryz.underlying22 Tryz.underlying5 0 c 9 Tryz.underlying9
    · rw [run_convert_bytes_string w 22 9 5 _ 0 c Tryz.underlying22 Tryz.underlying5 Tryz.underlying9]
      simp [Conv.bytesToString, loadCells, loadCellsFrom]
      rfl
  · obtain ⟨b, off, rfl, _, hc⟩ := h.int_form (by omega)
    exact run_convert_bytes_arg w 22 5 Tryz.underlying22 Tryz.underlying5 b off n c zs hl (fun i hi => hc i hi) 9 Tryz.underlying9
theorem run_str_eq {w : World} {B n c : Nat} {A : Option Addr} {zs : List Int} (h : Rd w B 1 A n c (ints .u8 zs)) : ∀ q, (convert 22 9 (.slice A n c)).run Tryz.prog (w.drewN q) = .ok (.string (strOfNums zs)) (w.drewN q) := fun q => run_str' (h.drewN q)
end Go.Proofs.YtibakihcicfeoaaGreat
/- The walks of layer 2's small functions: Width, put, unit, few. No condition. -/
namespace Go.Proofs.YtibakihcicfeoaaGreat
open Go.RowKit

/-- How many bytes a rune has in units. -/
def ww (r : Int) : Nat := if wdS r = 0 then 0 else if r < 65536 then 2 else 4
/-- A unit's bytes. -/
def ub (big : Bool) (u : Int) : List Int := if big then [u / 256, u % 256] else [u % 256, u / 256]
/-- A rune's bytes in units. -/
def wenc (big : Bool) (r : Int) : List Int := if wdS r = 0 then [] else if r < 65536 then ub big r else ub big (55296 + (r - 65536) / 1024) ++ ub big (56320 + (r - 65536) % 1024)
theorem ub_len (big : Bool) (u : Int) : (ub big u).length = 2 := by unfold ub; split <;> rfl
theorem wenc_len (big : Bool) (r : Int) : (wenc big r).length = ww r := by
  unfold wenc ww
  repeat' split
  all_goals simp [ub_len]
theorem ww_le (r : Int) : ww r ≤ 4 := by unfold ww; repeat' split
                                         all_goals omega
theorem wd_four {r : Int} (h : wdS r ≠ 0) : (wdS r = 4 ↔ ¬ r < 65536) ∧ wdS r ≤ 4 := by
  have hp := wd_pos h
  unfold wdS
  rw [if_neg (by omega)]
  repeat' split
  all_goals omega

set_option maxRecDepth 100000 in
theorem width37 (r : Int) (w : World) : Calls Tryz.prog 130 #[.int .i32 r] w fun e w' => e = .returned (.int .i64 (ww r : Nat)) ∧ w = w' := by
  have CW := fun W => width26 r W
  by_cases h0 : wdS r = 0
  · have HW := Lib.hid (show ww r = 0 by unfold ww; rw [if_pos h0])
    rw [h0] at CW
    clear h0
    go_enter Tryz.func130, Tryz.ntmps130
    go_wp2_with (go_at_call 129; refine (CW _).mono ?_; rintro e w' ⟨rfl, rfl⟩)
    go_ret
    exact ⟨by rw [HW.out]; rfl, rfl⟩
  · have t1 : (((wdS r : Nat) : Int) == 0) = false := by simpa using h0
    by_cases h1 : r < 65536
    · have HW := Lib.hid (show ww r = 2 by unfold ww; rw [if_neg h0, if_pos h1])
      clear h0
      go_enter Tryz.func130, Tryz.ntmps130
      go_wp2_with (go_at_call 129; refine (CW _).mono ?_; rintro e w' ⟨rfl, rfl⟩)
      go_ret
      exact ⟨by rw [HW.out]; rfl, rfl⟩
    · have HW := Lib.hid (show ww r = 4 by unfold ww; rw [if_neg h0, if_neg h1])
      clear h0
      go_enter Tryz.func130, Tryz.ntmps130
      go_wp2_with (go_at_call 129; refine (CW _).mono ?_; rintro e w' ⟨rfl, rfl⟩)
      go_ret
      exact ⟨by rw [HW.out]; rfl, rfl⟩

def UnitSaid (big : Bool) (u : Int) (w : World) (e : Ending) (w' : World) : Prop := ∃ A c, e = .returned (.slice A 2 c) ∧ w'.ownsRow w.heap.size 5 1 (.slice A 2 c) 2 (ints .u8 (ub big u)) ∧ Below w.heap.size w w'
def PutSaid (B : Nat) (n : Nat) (xs : List Value) (big : Bool) (v : Int) (w : World) (e : Ending) (w' : World) : Prop := ∃ v', e = .returned v' ∧ w'.ownsRow B 5 1 v' (n + 2) (xs ++ ints .u8 (ub big v)) ∧ Below B w w'
set_option maxHeartbeats 1000000 in
set_option maxRecDepth 100000 in
theorem put63 (o : Value) (B n : Nat) (xs : List Value) (big : Bool) (v : Int) (w : World) (ho : w.ownsRow B 5 1 o n xs) (hB : B ≤ w.heap.size) (hn : n ≤ 65536) (hv : 0 ≤ v ∧ v ≤ 65535) :
    Calls Tryz.prog 131 #[o, .bool big, .int .i32 v] w (PutSaid B n xs big v w) := by
  obtain ⟨h0, h1⟩ := hv
  have r1 : IntKind.u8.wrap (v / 256) = v / 256 := IntWalk.u8_in _ (by omega)
  have r2 : IntKind.u8.wrap v = v % 256 := by rw [IntKind.wrap_u8]
  cases big
  · have hr1 := Rd.lit w (ints .u8 [v % 256, v / 256]) 5 2 1 rfl (by omega)
    have ho1 := ho.alloc (.cells (ints .u8 [v % 256, v / 256]).toArray 5)
    have hb1 := (Below.refl B w).alloc hB (.cells (ints .u8 [v % 256, v / 256]).toArray 5)
    go_enter Tryz.func131, Tryz.ntmps131
    go_wp2_with (at_builtin; refine wpList_pushes st22' rfl _ _ rfl o rfl ho1 rfl hr1 (ints_cells' _ _) (by omega) (by omega) hb1 (Nat.le_trans hB hb1.size) ?_; intro v2 w2 hown2 hb3 _; clear ho1 hr1)
    go_ret
    exact ⟨v2, rfl, hown2, hb3⟩
  · have hr1 := Rd.lit w (ints .u8 [v / 256, v % 256]) 5 2 1 rfl (by omega)
    have ho1 := ho.alloc (.cells (ints .u8 [v / 256, v % 256]).toArray 5)
    have hb1 := (Below.refl B w).alloc hB (.cells (ints .u8 [v / 256, v % 256]).toArray 5)
    go_enter Tryz.func131, Tryz.ntmps131
    go_wp2_with (at_builtin; refine wpList_pushes st22' rfl _ _ rfl o rfl ho1 rfl hr1 (ints_cells' _ _) (by omega) (by omega) hb1 (Nat.le_trans hB hb1.size) ?_; intro v2 w2 hown2 hb3 _; clear ho1 hr1)
    go_ret
    exact ⟨v2, rfl, hown2, hb3⟩
end Go.Proofs.YtibakihcicfeoaaGreat
/- The walks of wide.Bytes and of the document's Bytes of layer 2. No condition. -/
namespace Go.Proofs.YtibakihcicfeoaaGreat
open Go.RowKit

/-- Runes' bytes in units. -/
def wencs (big : Bool) (l : List Int) : List Int := l.flatMap (wenc big)
theorem wencs_snoc (big : Bool) (l : List Int) (k : Nat) (h : k < l.length) : wencs big (l.take (k + 1)) = wencs big (l.take k) ++ wenc big (gz l k) := by
  rw [List.take_succ_eq_append_getElem h, wencs, wencs, List.flatMap_append]
  simp [gz, h]
theorem wencs_len_le (big : Bool) (l : List Int) : (wencs big l).length ≤ 4 * l.length := by
  induction l with
  | nil => simp [wencs]
  | cons a t ih =>
    have := wenc_len big a
    have := ww_le a
    simp only [wencs, List.flatMap_cons, List.length_append, List.length_cons] at ih ⊢
    omega
/-- How many bytes the first k runes have. -/
def wws (big : Bool) (l : List Int) (k : Nat) : Nat := (wencs big (l.take k)).length
theorem wws_succ (big : Bool) (l : List Int) (k : Nat) (h : k < l.length) : wws big l (k + 1) = wws big l k + ww (gz l k) := by
  unfold wws; rw [wencs_snoc big l k h, List.length_append, wenc_len]
theorem wws_le (big : Bool) (l : List Int) (k : Nat) : wws big l k ≤ 4 * k := by
  have := wencs_len_le big (l.take k)
  rw [List.length_take] at this
  unfold wws; omega
theorem ww_cases (r : Int) : (ww r = 0 ∧ ∀ b, wenc b r = []) ∨ (ww r = 2 ∧ 0 ≤ r ∧ r < 65536 ∧ ∀ b, wenc b r = ub b r) ∨ (ww r = 4 ∧ 65536 ≤ r ∧ r ≤ 1114111 ∧ ∀ b, wenc b r = ub b (55296 + (r - 65536) / 1024) ++ ub b (56320 + (r - 65536) % 1024)) := by
  by_cases h0 : wdS r = 0
  · exact Or.inl ⟨by unfold ww; rw [if_pos h0], fun b => by unfold wenc; rw [if_pos h0]⟩
  · obtain ⟨p0, p1, p2⟩ := wd_pos h0
    by_cases h1 : r < 65536
    · exact Or.inr (Or.inl ⟨by unfold ww; rw [if_neg h0, if_pos h1], by omega, h1, fun b => by unfold wenc; rw [if_neg h0, if_pos h1]⟩)
    · exact Or.inr (Or.inr ⟨by unfold ww; rw [if_neg h0, if_neg h1], by omega, by omega, fun b => by unfold wenc; rw [if_neg h0, if_neg h1]⟩)

set_option maxHeartbeats 2000000 in
set_option maxRecDepth 100000 in
theorem bytes39 (big : Bool) (A : Option Addr) (n c : Nat) (l : List Int) (w : World) (h : Rd w w.heap.size 1 A n c (ints .i32 l)) (hn : n ≤ 4096) :
    Calls Tryz.prog 78 #[.bool big, .slice A n c] w (BytesSaid (wencs big l) w) := by
  have HL := Lib.hid h.int_len
  have hcap := h.cap
  go_enter Tryz.func78, Tryz.ntmps78
  go_wp2_with fail
  go_loopw [5, 10] (fun out i wr => ∃ k : Nat, k ≤ n ∧ i = .int .i64 k ∧ wr.ownsRow w.heap.size 5 1 out (wws big l k) (ints .u8 (wencs big (l.take k))) ∧ Below w.heap.size w wr)
    (fun _ i _ => n - (intOf i).toNat)
  case atStart => exact ⟨0, Nat.zero_le _, rfl, World.ownsRow_nil _ _ _ _, Below.refl _ _⟩
  case round =>
    obtain ⟨k, hk, rfl, hown, hb⟩ := hrel
    have hwk := wws_le big l k
    have hsz := hb.size
    by_cases hlt : k < n
    · obtain ⟨b, off, rfl, hbb, hc⟩ := (h.below hb).int_form (by omega)
      have x0 := hc k hlt
      have HS := Lib.hid (wws_succ big l k (by rw [HL.out]; exact hlt))
      have HE := Lib.hid (wencs_snoc big l k (by rw [HL.out]; exact hlt))
      have CW := fun W => width37 (gz l k) W
      clear hc
      rcases ww_cases (gz l k) with ⟨hw, he⟩ | ⟨hw, h0, h1, he⟩ | ⟨hw, h0, h1, he⟩
      · have HE2 := Lib.hid (he big)
        have HW := Lib.hid hw
        rw [hw] at CW
        clear hw he
        go_wp2_with (go_at_call 130; refine (CW _).mono ?_; rintro e w1 ⟨rfl, rfl⟩)
        go_roundw
        case rel => exact ⟨k + 1, by omega, by go_num, own_as hown (by rw [HS.out, HW.out]; rfl) (by rw [HE.out, HE2.out, List.append_nil]), hb⟩
        case measure => simp [intOf]; omega
      · have HE2 := Lib.hid (he big)
        have HW := Lib.hid hw
        rw [hw] at CW
        clear hw he
        have CP := put63 _ w.heap.size (wws big l k) _ big (gz l k) wr hown hsz (by omega) (by omega)
        go_wp2_with (first | (go_at_call 130; refine (CW _).mono ?_; rintro e w1 ⟨rfl, rfl⟩) | (go_at_call 131; refine CP.mono ?_; rintro e w2 ⟨v2, rfl, hown2, hb2⟩; clear CP))
        go_roundw
        case rel => exact ⟨k + 1, by omega, by go_num, own_as hown2 (by rw [HS.out, HW.out]) (by rw [HE.out, HE2.out, ints, ints, ints, List.map_append]), hb.trans hb2⟩
        case measure => simp [intOf]; omega
      · have HE2 := Lib.hid (he big)
        have HW := Lib.hid hw
        rw [hw] at CW
        clear hw he
        have m1 : bits BinOp.and IntKind.i32 (gz l k - 65536) 1023 = (gz l k - 65536) % 1024 := by
          have := bits_mask .i32 31 (by decide) wraps_i32 10 (by decide) (gz l k - 65536) (by omega) (by omega)
          rwa [show ((2 : Int) ^ 10 - 1) = 1023 by decide] at this
        have CP := put63 _ w.heap.size (wws big l k) _ big (55296 + (gz l k - 65536) / 1024) wr hown hsz (by omega) (by omega)
        have CP2 := fun v2 w2 (hown2 : World.ownsRow w2 w.heap.size 5 1 v2 _ _) hs2 => put63 v2 w.heap.size (wws big l k + 2) (ints .u8 (wencs big (l.take k)) ++ ints .u8 (ub big (55296 + (gz l k - 65536) / 1024))) big (56320 + (gz l k - 65536) % 1024) w2 hown2 hs2 (by omega) (by omega)
        go_wp2_with (first | (go_at_call 130; refine (CW _).mono ?_; rintro e w1 ⟨rfl, rfl⟩) | (go_at_call 131; refine CP.mono ?_; rintro e w2 ⟨v2, rfl, hown2, hb2⟩; clear CP) | (go_at_call 131; refine (CP2 _ _ hown2 (hb.trans hb2).size).mono ?_; rintro e w3 ⟨v3, rfl, hown3, hb3⟩; clear CP2))
        go_roundw
        case rel => exact ⟨k + 1, by omega, by go_num, own_as hown3 (by rw [HS.out, HW.out]) (by rw [HE.out, HE2.out, ints, ints, ints, ints, List.map_append, List.map_append, List.append_assoc]), (hb.trans hb2).trans hb3⟩
        case measure => simp [intOf]; omega
    · obtain rfl : k = n := by omega
      go_wp2_with fail
      go_ret
      have ht : l.take k = l := List.take_of_length_le (by rw [HL.out]; exact Nat.le_refl _)
      unfold wws at hown
      rw [ht] at hown
      obtain ⟨A', c', hv, ho⟩ := own_form hown
      rw [hv]
      exact ⟨A', c', rfl, ho, hb⟩
end Go.Proofs.YtibakihcicfeoaaGreat
/- The walk of the document's Bytes of layer 2. No condition. -/
namespace Go.Proofs.YtibakihcicfeoaaGreat
open Go.RowKit

end Go.Proofs.YtibakihcicfeoaaGreat
/- The walk of scan.Items. No condition. -/
namespace Go.Proofs.YtibakihcicfeoaaGreat
open Go.RowKit

/-- 'string(b)', whatever the slice. -/
theorem run_str {w : World} {B n c : Nat} {A : Option Addr} {zs : List Int} (h : Rd w B 1 A n c (ints .u8 zs)) :
    (convert 22 9 (.slice A n c)).run Tryz.prog w = .ok (.string (strOfNums zs)) w := by
  have hl := h.int_len
  by_cases hn : n = 0
  · subst hn
    have : zs = [] := List.eq_nil_of_length_eq_zero hl
    subst this
    rcases A with _ | ⟨b, off, sp⟩
    · exact run_convert_bytes_nil w 22 5 Tryz.underlying22 Tryz.underlying5 0 c 9 Tryz.underlying9
    · rw [run_convert_bytes_string w 22 9 5 _ 0 c Tryz.underlying22 Tryz.underlying5 Tryz.underlying9]
      simp [Conv.bytesToString, loadCells, loadCellsFrom]
      rfl
  · obtain ⟨b, off, rfl, _, hc⟩ := h.int_form (by omega)
    exact run_convert_bytes_arg w 22 5 Tryz.underlying22 Tryz.underlying5 b off n c zs hl (fun i hi => hc i hi) 9 Tryz.underlying9

theorem sGo_next {zs : List Int} {k p m : Nat} {acc : List It} {r : Int} (H : Hid (sGo zs k = (acc, p))) (hp : p < zs.length) (hs : sStep zs p = (r, m)) : Hid (sGo zs (k + 1) = (acc ++ [(r, p, m)], p + m)) := by
  have h : runGo (sStep zs) zs.length k = (acc, p) := H.out
  show runGo (sStep zs) zs.length (k + 1) = _
  rw [runGo_succ (by rw [h]; exact hp), h]
  simp only [hs]
theorem sGo_acc {zs : List Int} (hz : Bytes8 zs) {k p : Nat} {acc : List It} (H : Hid (sGo zs k = (acc, p))) : acc.length ≤ p ∧ p ≤ zs.length := by
  have h : runGo (sStep zs) zs.length k = (acc, p) := H.out
  have h1 := runGo_len_le (sStep_good hz) k
  have h2 := runGo_le (sStep_good hz) k
  rw [h] at h1 h2
  exact ⟨h1, h2⟩
theorem sGo_end {zs : List Int} (hz : Bytes8 zs) {k p : Nat} {acc : List It} (H : Hid (sGo zs k = (acc, p))) (hp : zs.length ≤ p) : Hid (sItems zs = acc) := by
  have h : runGo (sStep zs) zs.length k = (acc, p) := H.out
  have := runGo_all (sStep_good hz) (k := k) (by rw [h]; exact hp)
  rw [h] at this
  exact this.symm

set_option maxHeartbeats 1000000 in
theorem items25 (A : Option Addr) (n c : Nat) (zs : List Int) (w : World) (h : Rd w w.heap.size 1 A n c (ints .u8 zs)) (hz : Bytes8 zs) (hn : n ≤ 4096) :
    Calls Tryz.prog 51 #[.slice A n c] w fun e w' => ∃ A' c', e = .returned (.slice A' (sItems zs).length c') ∧ Rd w' w'.heap.size 3 A' (sItems zs).length c' (flat (sItems zs)) ∧ Below w.heap.size w w' := by
  have HL := Lib.hid h.int_len
  have hstr := run_str h
  have hsl : zs.length ≤ 4096 := by rw [HL.out]; exact hn
  have HZ := Lib.hid (strOfNums_size zs)
  go_enter Tryz.func51, Tryz.ntmps51
  go_wp2_with fail
  clear hstr
  go_loopw [3] (fun out wr => ∃ (k p : Nat) (acc : List It), Hid (sGo zs k = (acc, p)) ∧ Hid (wr.heap[w.heap.size]? = some (.stringIter (strOfNums zs) p)) ∧ wr.ownsRow (w.heap.size + 1) 78 3 out acc.length (flat acc) ∧ Below w.heap.size w wr ∧ w.heap.size + 1 ≤ wr.heap.size)
    (fun _ wr => zs.length - wr.iterPos w.heap.size)
  case atStart => exact ⟨0, 0, [], rfl, World.iter_heap w _ 0, World.ownsRow_nil _ _ _ _, (Below.refl _ _).alloc (Nat.le_refl _) _, by simp [World.iter]⟩
  case round =>
    obtain ⟨k, p, acc, HP, HI, hown, hb, hsz⟩ := hrel
    obtain ⟨hal, hpn⟩ := sGo_acc hz HP
    have HM := Lib.hid (iterPos_of HI.out)
    by_cases hp : p < zs.length
    · obtain ⟨W1, hnx, hI1, hown1, hb1, hs1⟩ := iter_on (P := Tryz.prog) HI.out (by rw [HZ.out]; exact hp) hown (by omega) hb (Nat.le_refl _)
      have hs3 : w.heap.size + 1 ≤ W1.heap.size := by omega
      clear hs1
      have ht := (decode_str zs hz p).2
      have CP := fun W => piece61 zs hz p hp (by omega) _ rfl W
      have hm4 := (sStep_facts hz hp).1
      have hgd := sStep_good hz p hp
      generalize hd : Utf8.decode (strOfNums zs) p = d at hnx hI1 ht CP
      obtain ⟨d1, d2⟩ := d
      generalize hst : sStep zs p = st at ht CP hm4 hgd
      obtain ⟨r, m⟩ := st
      simp only at ht hm4 hgd
      subst ht
      have HS := sGo_next HP hp hst
      have HI1 := Lib.hid hI1
      clear hd hst hI1 HI hown hb
      go_wp2_with (first | (go_at_call 99; refine (CP _).mono ?_; rintro e w' ⟨rfl, rfl⟩) | (at_builtin; refine wpList_pushB st75 rfl _ _ rfl _ rfl hown1 [.int .i32 r, .int .i64 p, .int .i64 d2] W1.heap.size rfl rfl rfl (flat_cells [(r, p, d2)]) (by omega) (by omega) hb1 (by omega) (by omega) ?_; intro v1 w1 hown2 hb2 hk2; have HI2 := Lib.hid (hk2 _ _ HI1.out (fun e => by have := (hown1.lt _ e.symm).1; omega)); have hs2 : w.heap.size + 1 ≤ w1.heap.size := (Array.getElem?_eq_some_iff.1 HI2.out).1; clear hk2 hown1 HI1 hb1))
      go_roundw
      case rel => exact ⟨k + 1, p + d2, acc ++ [(r, p, d2)], HS, HI2, own_as hown2 (by simp) (flat_snoc acc (r, p, d2)), hb2, hs2⟩
      case measure => rw [iterPos_of HI2.out, HM.out]; omega
    · have HE := sGo_end hz HP (by omega)
      have hnx := fun ty => Lib.run_next_end_at (P := Tryz.prog) wr w.heap.size (strOfNums zs) p ty HI.out (by rw [HZ.out]; exact hp)
      go_wp2_with fail
      go_ret
      obtain ⟨A', c', hv, ho⟩ := own_form hown
      rw [hv, HE.out]
      exact ⟨A', c', rfl, .of_own ho, hb⟩
end Go.Proofs.YtibakihcicfeoaaGreat
/- The walks of layer 1's example and of the law ScanWhole. No condition. -/
namespace Go.Proofs.YtibakihcicfeoaaGreat
open Go.RowKit

theorem awake1_items : sItems [195, 169, 255] = [(233, 0, 2), (-1, 2, 1)] := by decide +kernel
theorem sItems_get {ys : List Int} (hz : Bytes8 ys) : ∀ k (_ : k < (sItems ys).length), ∃ (r : Int) (p N : Nat), (sItems ys)[k]? = some (r, p, N) ∧ (sGo ys k).2 = p ∧ (sGo ys (k + 1)).2 = p + N ∧ 1 ≤ N ∧ N ≤ 4 ∧ p + N ≤ ys.length ∧ (r = -1 → N = 1) ∧ (r ≠ -1 → wdS r = N) ∧ sStep ys p = (r, N) ∧ -1 ≤ r ∧ r ≤ 1114111 := by
  intro k hk
  obtain ⟨h1, h2, h3⟩ := runItems_get (step := sStep ys) (n := ys.length) k hk
  have hg := sStep_good hz _ h1
  obtain ⟨f1, f2, f3, f4, f5⟩ := sStep_facts hz h1
  exact ⟨_, _, _, by rw [List.getElem?_eq_getElem hk]; exact congrArg some h2, rfl, h3, hg.1, f1, hg.2, f2, f3, rfl, f4, f5⟩
theorem sItems_last {ys : List Int} (hz : Bytes8 ys) : (sGo ys (sItems ys).length).2 = ys.length := runItems_last (sStep_good hz)
theorem sItems_le {ys : List Int} (hz : Bytes8 ys) : (sItems ys).length ≤ ys.length := runItems_len_le (sStep_good hz)

/-- What the laws' 'short' leaves: at most 200 bytes. -/
theorem short_facts {A : Option Addr} {n c : Nat} {zs : List Int} {w : World} (h : Rd w w.heap.size 1 A n c (ints .u8 zs)) : Rd w w.heap.size 1 A (min n 200) c (ints .u8 (zs.take 200)) := by
  have := (h.take (k := min n 200) (Nat.min_le_left _ _))
  rw [← List.map_take, Nat.mul_one] at this
  rw [ints, show zs.take 200 = zs.take (min n 200) by rw [List.take_eq_take_iff, h.int_len]; omega]
  exact this

end Go.Proofs.YtibakihcicfeoaaGreat
