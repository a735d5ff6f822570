/- The walks of layer 3's small functions: short, few, Pieces, the document's Items and Encode. No condition. -/
import Derived.Test.YtibakihcicfeoaaGreatTc
import Derived.Test.YtibakihcicfeoaaGreatTa
import Derived.Test.YtibakihcicfeoaaGreatTd
import Derived.Lib.Strings
namespace Go.Proofs.YtibakihcicfeoaaGreat
open Go.RowKit

/-- The pieces of bytes of a kind. -/
def pItems (kind : Int) (zs : List Int) : List It := if kind = 0 then sItems zs else if kind = 1 then wItems zs true else if kind = 2 then wItems zs false else []
def PItemsSaid (L : List It) (w : World) (e : Ending) (w' : World) : Prop := ∃ A' c', e = .returned (.slice A' L.length c') ∧ Rd w' w'.heap.size 3 A' L.length c' (flat L) ∧ Below w.heap.size w w'

set_option maxRecDepth 100000 in
theorem pieces46 (kind : Int) (A : Option Addr) (n c : Nat) (zs : List Int) (w : World) (h : Rd w w.heap.size 1 A n c (ints .u8 zs)) (hz : Bytes8 zs) (hn : n ≤ 4096) :
    Calls Tryz.prog 29 #[.int .i64 kind, .slice A n c] w (PItemsSaid (pItems kind zs) w) := by
  by_cases h0 : kind = 0
  · subst h0
    have C := items25 A n c zs w h hz hn
    rw [show pItems 0 zs = sItems zs from rfl]
    go_enter Tryz.func29, Tryz.ntmps29
    go_wp2_with (go_at_call 51; refine C.mono ?_; rintro e w1 ⟨A1, c1, rfl, hr, hb⟩; clear C)
    go_ret
    exact ⟨A1, c1, rfl, hr, hb⟩
  · have t0 : (kind == 0) = false := by simpa using h0
    by_cases h1 : kind = 1
    · subst h1
      have C := items21 A n c zs true w h hz hn
      rw [show pItems 1 zs = wItems zs true from rfl]
      go_enter Tryz.func29, Tryz.ntmps29
      go_wp2_with (go_at_call 52; refine C.mono ?_; rintro e w1 ⟨A1, c1, rfl, hr, hb⟩; clear C)
      go_ret
      exact ⟨A1, c1, rfl, hr, hb⟩
    · have t1 : (kind == 1) = false := by simpa using h1
      by_cases h2 : kind = 2
      · subst h2
        have C := items21 A n c zs false w h hz hn
        rw [show pItems 2 zs = wItems zs false from rfl]
        go_enter Tryz.func29, Tryz.ntmps29
        go_wp2_with (go_at_call 52; refine C.mono ?_; rintro e w1 ⟨A1, c1, rfl, hr, hb⟩; clear C)
        go_ret
        exact ⟨A1, c1, rfl, hr, hb⟩
      · have t2 : (kind == 2) = false := by simpa using h2
        rw [show pItems kind zs = [] by unfold pItems; rw [if_neg h0, if_neg h1, if_neg h2]]
        go_enter Tryz.func29, Tryz.ntmps29
        go_wp2_with fail
        go_ret
        exact ⟨none, 0, rfl, Rd.nil_, Below.refl _ _⟩
end Go.Proofs.YtibakihcicfeoaaGreat
/- The walks of layer 3's Encode and of the document's Encode. No condition. -/
namespace Go.Proofs.YtibakihcicfeoaaGreat
open Go.RowKit

/-- Runes' bytes of a kind. -/
def pEnc (kind : Int) (l : List Int) : List Int := if kind = 0 then encs l else if kind = 1 then wencs true l else if kind = 2 then wencs false l else []
set_option maxRecDepth 100000 in
theorem encode51 (kind : Int) (A : Option Addr) (n c : Nat) (l : List Int) (w : World) (h : Rd w w.heap.size 1 A n c (ints .i32 l)) (hn : n ≤ 4096) :
    Calls Tryz.prog 46 #[.int .i64 kind, .slice A n c] w (BytesSaid (pEnc kind l) w) := by
  by_cases h0 : kind = 0
  · subst h0
    have C := bytes32 A n c l w h hn
    rw [show pEnc 0 l = encs l from rfl]
    go_enter Tryz.func46, Tryz.ntmps46
    go_wp2_with (go_at_call 77; refine C.mono ?_; rintro e w1 ⟨A1, c1, rfl, ho, hb⟩; clear C)
    go_ret
    exact ⟨A1, c1, rfl, ho, hb⟩
  · have t0 : (kind == 0) = false := by simpa using h0
    by_cases h1 : kind = 1
    · subst h1
      have C := bytes39 true A n c l w h hn
      rw [show pEnc 1 l = wencs true l from rfl]
      go_enter Tryz.func46, Tryz.ntmps46
      go_wp2_with (go_at_call 78; refine C.mono ?_; rintro e w1 ⟨A1, c1, rfl, ho, hb⟩; clear C)
      go_ret
      exact ⟨A1, c1, rfl, ho, hb⟩
    · have t1 : (kind == 1) = false := by simpa using h1
      by_cases h2 : kind = 2
      · subst h2
        have C := bytes39 false A n c l w h hn
        rw [show pEnc 2 l = wencs false l from rfl]
        go_enter Tryz.func46, Tryz.ntmps46
        go_wp2_with (go_at_call 78; refine C.mono ?_; rintro e w1 ⟨A1, c1, rfl, ho, hb⟩; clear C)
        go_ret
        exact ⟨A1, c1, rfl, ho, hb⟩
      · have t2 : (kind == 2) = false := by simpa using h2
        rw [show pEnc kind l = [] by unfold pEnc; rw [if_neg h0, if_neg h1, if_neg h2]]
        go_enter Tryz.func46, Tryz.ntmps46
        go_wp2_with fail
        go_ret
        exact ⟨none, 0, rfl, World.ownsRow_nil _ _ _ _, Below.refl _ _⟩
end Go.Proofs.YtibakihcicfeoaaGreat
/- The walks of the document's begins and Kind of layer 3. No condition. -/
namespace Go.Proofs.YtibakihcicfeoaaGreat
open Go.RowKit

/-- Do bytes begin so? -/
def beg (zs sl : List Int) : Bool := decide (zs.take sl.length = sl)
end Go.Proofs.YtibakihcicfeoaaGreat
/- The walk of the document's Kind of layer 3. No condition. -/
namespace Go.Proofs.YtibakihcicfeoaaGreat
open Go.RowKit

/-- Of which kind bytes are, and how many say so. -/
def pKind (zs : List Int) : Int × Int :=
  if beg zs [254, 255] = true then (1, 2) else
  if beg zs [255, 254] = true then (2, 2) else
  if beg zs [239, 187, 191] = true then (0, 3) else
  if beg zs [0, 60, 0, 63] = true then (1, 0) else
  if beg zs [60, 0, 63, 0] = true then (2, 0) else
  (0, 0)
end Go.Proofs.YtibakihcicfeoaaGreat
/- The walks of strings.HasPrefix as sniff.Kind calls it. No condition. -/
namespace Go.Proofs.YtibakihcicfeoaaGreat
open Go.RowKit

set_option maxRecDepth 100000 in
theorem has75 (s p : ByteArray) (w : World) :
    Calls Tryz.prog 98 #[.string s, .string p] w fun e w' => e = .returned (.bool (decide (p.size ≤ s.size) && ((s.extract 0 p.size).toList == p.toList))) ∧ w = w' := by
  by_cases h : p.size ≤ s.size
  · have t0 : decide (p.size ≤ s.size) = true := by simpa using h
    have t1 : (p.size : Int) ≤ (s.size : Int) := by omega
    rw [t0, Bool.true_and]
    generalize hb : ((s.extract 0 p.size).toList == p.toList) = vb
    go_enter Tryz.func98, Tryz.ntmps98
    go_wp2_with fail
    go_ret
    exact ⟨rfl, rfl⟩
  · have t0 : decide (p.size ≤ s.size) = false := by simpa using h
    rw [t0, Bool.false_and]
    go_enter Tryz.func98, Tryz.ntmps98
    go_wp2_with fail
    go_ret
    exact ⟨rfl, rfl⟩
set_option maxRecDepth 100000 in
theorem has65 (s p : ByteArray) (w : World) :
    Calls Tryz.prog 50 #[.string s, .string p] w fun e w' => e = .returned (.bool (decide (p.size ≤ s.size) && ((s.extract 0 p.size).toList == p.toList))) ∧ w = w' := by
  have C := has75 s p w
  generalize (decide (p.size ≤ s.size) && ((s.extract 0 p.size).toList == p.toList)) = vb at *
  go_enter Tryz.func50, Tryz.ntmps50
  go_wp2_with (go_at_call 98; refine C.mono ?_; rintro e w1 ⟨rfl, rfl⟩)
  go_ret
  exact ⟨rfl, rfl⟩
end Go.Proofs.YtibakihcicfeoaaGreat
/- Plain facts on bytes that begin so. No condition. -/
namespace Go.Proofs.YtibakihcicfeoaaGreat
open Go.RowKit

theorem strOfNums_extract (zs : List Int) (k : Nat) : (strOfNums zs).extract 0 k = strOfNums (zs.take k) := by
  apply ByteArray.ext
  simp [strOfNums, ByteArray.data_extract, List.map_take]
theorem has_beg {zs sl : List Int} (hz : Bytes8 zs) (hs : Bytes8 sl) (k : Nat) (hk : sl.length ≤ k) :
    (decide ((strOfNums sl).size ≤ (strOfNums (zs.take k)).size) && (((strOfNums (zs.take k)).extract 0 (strOfNums sl).size).toList == (strOfNums sl).toList)) = beg zs sl := by
  rw [strOfNums_extract, strOfNums_size, strOfNums_size, str_beq ((hz.take _).take _) hs, List.take_take, Nat.min_eq_left hk, List.length_take]
  unfold beg
  by_cases h : zs.take sl.length = sl
  · have := congrArg List.length h
    rw [List.length_take] at this
    simp [h]; omega
  · simp [h]
end Go.Proofs.YtibakihcicfeoaaGreat
/- How an index into sniff.Kind's array answers. No condition. -/
namespace Go.Proofs.YtibakihcicfeoaaGreat
open Go.RowKit

theorem sign_at0 (W : World) : (Instr.index 119 (.agg #[.string ⟨#[254, 255]⟩, .int .i64 1, .int .i64 2, .string ⟨#[255, 254]⟩, .int .i64 2, .int .i64 2, .string ⟨#[239, 187, 191]⟩, .int .i64 0, .int .i64 3, .string ⟨#[0, 60, 0, 63]⟩, .int .i64 1, .int .i64 0, .string ⟨#[60, 0, 63, 0]⟩, .int .i64 2, .int .i64 0]) (.int .i64 0)).run Tryz.prog W = .ok (.agg #[.string ⟨#[254, 255]⟩, .int .i64 1, .int .i64 2]) W := by kernel_rfl
theorem sign_at1 (W : World) : (Instr.index 119 (.agg #[.string ⟨#[254, 255]⟩, .int .i64 1, .int .i64 2, .string ⟨#[255, 254]⟩, .int .i64 2, .int .i64 2, .string ⟨#[239, 187, 191]⟩, .int .i64 0, .int .i64 3, .string ⟨#[0, 60, 0, 63]⟩, .int .i64 1, .int .i64 0, .string ⟨#[60, 0, 63, 0]⟩, .int .i64 2, .int .i64 0]) (.int .i64 1)).run Tryz.prog W = .ok (.agg #[.string ⟨#[255, 254]⟩, .int .i64 2, .int .i64 2]) W := by kernel_rfl
theorem sign_at2 (W : World) : (Instr.index 119 (.agg #[.string ⟨#[254, 255]⟩, .int .i64 1, .int .i64 2, .string ⟨#[255, 254]⟩, .int .i64 2, .int .i64 2, .string ⟨#[239, 187, 191]⟩, .int .i64 0, .int .i64 3, .string ⟨#[0, 60, 0, 63]⟩, .int .i64 1, .int .i64 0, .string ⟨#[60, 0, 63, 0]⟩, .int .i64 2, .int .i64 0]) (.int .i64 2)).run Tryz.prog W = .ok (.agg #[.string ⟨#[239, 187, 191]⟩, .int .i64 0, .int .i64 3]) W := by kernel_rfl
theorem sign_at3 (W : World) : (Instr.index 119 (.agg #[.string ⟨#[254, 255]⟩, .int .i64 1, .int .i64 2, .string ⟨#[255, 254]⟩, .int .i64 2, .int .i64 2, .string ⟨#[239, 187, 191]⟩, .int .i64 0, .int .i64 3, .string ⟨#[0, 60, 0, 63]⟩, .int .i64 1, .int .i64 0, .string ⟨#[60, 0, 63, 0]⟩, .int .i64 2, .int .i64 0]) (.int .i64 3)).run Tryz.prog W = .ok (.agg #[.string ⟨#[0, 60, 0, 63]⟩, .int .i64 1, .int .i64 0]) W := by kernel_rfl
theorem sign_at4 (W : World) : (Instr.index 119 (.agg #[.string ⟨#[254, 255]⟩, .int .i64 1, .int .i64 2, .string ⟨#[255, 254]⟩, .int .i64 2, .int .i64 2, .string ⟨#[239, 187, 191]⟩, .int .i64 0, .int .i64 3, .string ⟨#[0, 60, 0, 63]⟩, .int .i64 1, .int .i64 0, .string ⟨#[60, 0, 63, 0]⟩, .int .i64 2, .int .i64 0]) (.int .i64 4)).run Tryz.prog W = .ok (.agg #[.string ⟨#[60, 0, 63, 0]⟩, .int .i64 2, .int .i64 0]) W := by kernel_rfl
end Go.Proofs.YtibakihcicfeoaaGreat
/- HasPrefix at a document's first four bytes. No condition. -/
namespace Go.Proofs.YtibakihcicfeoaaGreat
open Go.RowKit

theorem beg65 {zs sl : List Int} {s p : ByteArray} (hz : Bytes8 zs) (hs : Bytes8 sl) (hS : strOfNums (zs.take 4) = s) (hP : p = strOfNums sl) (hk : sl.length ≤ 4) (w : World) :
    Calls Tryz.prog 50 #[.string s, .string p] w fun e w' => e = .returned (.bool (beg zs sl)) ∧ w = w' := by
  have C := has65 s p w
  rw [← hS, hP, has_beg hz hs 4 hk] at C
  rw [← hS, hP]
  exact C
end Go.Proofs.YtibakihcicfeoaaGreat
/- The walk of sniff.Kind. No condition. -/
namespace Go.Proofs.YtibakihcicfeoaaGreat
open Go.RowKit

set_option maxRecDepth 20000 in
set_option maxHeartbeats 4000000 in
theorem kind44_short (A : Option Addr) (n c : Nat) (zs : List Int) (w : World) (h : Rd w w.heap.size 1 A n c (ints .u8 zs)) (hz : Bytes8 zs) (h4 : (n : Int) ≤ 4) :
    Calls Tryz.prog 28 #[.slice A n c] w fun e w' => e = .returned (.tuple #[.int .i64 (pKind zs).1, .int .i64 (pKind zs).2]) ∧ Below w.heap.size w w' := by
  have hlen := h.int_len
  have hcap := h.cap
  have hmax := h.max
  unfold maxLen at hmax
  have e0 := fun o => run_str' (h.alloc (Nat.le_refl _) o)
  have ht : zs = zs.take 4 := (List.take_of_length_le (by omega)).symm
  rw [show strOfNums zs = strOfNums (zs.take 4) by rw [← ht]] at e0
  generalize hsg : strOfNums (zs.take 4) = s at e0
  have C0 := fun W => beg65 (sl := [254, 255]) (p := ⟨#[254, 255]⟩) hz (by intro z hz; simp at hz; omega) hsg rfl (by decide) W
  have C1 := fun W => beg65 (sl := [255, 254]) (p := ⟨#[255, 254]⟩) hz (by intro z hz; simp at hz; omega) hsg rfl (by decide) W
  have C2 := fun W => beg65 (sl := [239, 187, 191]) (p := ⟨#[239, 187, 191]⟩) hz (by intro z hz; simp at hz; omega) hsg rfl (by decide) W
  have C3 := fun W => beg65 (sl := [0, 60, 0, 63]) (p := ⟨#[0, 60, 0, 63]⟩) hz (by intro z hz; simp at hz; omega) hsg rfl (by decide) W
  have C4 := fun W => beg65 (sl := [60, 0, 63, 0]) (p := ⟨#[60, 0, 63, 0]⟩) hz (by intro z hz; simp at hz; omega) hsg rfl (by decide) W
  have HP := Lib.hid (rfl : pKind zs = pKind zs)
  clear h ht hsg
  go_enter Tryz.func28, Tryz.ntmps28
  go_wp2_with fail
  go_loopw [21] (fun i wr => ∃ k : Nat, k ≤ 5 ∧ i = .int .i64 k ∧ Below w.heap.size w wr ∧ (0 < k → beg zs [254, 255] = false) ∧ (1 < k → beg zs [255, 254] = false) ∧ (2 < k → beg zs [239, 187, 191] = false) ∧ (3 < k → beg zs [0, 60, 0, 63] = false) ∧ (4 < k → beg zs [60, 0, 63, 0] = false))
    (fun i _ => 5 - (intOf i).toNat)
  case atStart => exact ⟨0, by omega, rfl, (Below.refl _ _).alloc (Nat.le_refl _) _, by omega, by omega, by omega, by omega, by omega⟩
  case round =>
    obtain ⟨k, hk, rfl, hb, r0, r1, r2, r3, r4⟩ := hrel
    have hsz := hb.size
    rcases (show k = 0 ∨ k = 1 ∨ k = 2 ∨ k = 3 ∨ k = 4 ∨ k = 5 by omega) with rfl | rfl | rfl | rfl | rfl | rfl
    · have I0 := sign_at0
      by_cases hh : beg zs [254, 255] = true
      · rw [hh] at C0
        go_wp2_with (go_at_call 50; refine (C0 _).mono ?_; rintro e w1 ⟨rfl, rfl⟩)
        go_quiet (fail)
        go_wp2_with fail
        go_ret2
        exact ⟨by unfold pKind; simp [hh], Below.drewN_ (hb.alloc hsz _) _⟩
      · have hf : beg zs [254, 255] = false := by simpa using hh
        rw [hf] at C0
        go_wp2_with (go_at_call 50; refine (C0 _).mono ?_; rintro e w1 ⟨rfl, rfl⟩)
        go_roundw
        case rel => exact ⟨1, by omega, by go_num, hb.alloc hsz _, by simp_all, by simp_all, by simp_all, by simp_all, by simp_all⟩
        case measure => simp [intOf]
    · have I1 := sign_at1
      by_cases hh : beg zs [255, 254] = true
      · rw [hh] at C1
        go_wp2_with (go_at_call 50; refine (C1 _).mono ?_; rintro e w1 ⟨rfl, rfl⟩)
        go_quiet (fail)
        go_wp2_with fail
        go_ret2
        exact ⟨by unfold pKind; simp [hh, r0], Below.drewN_ (hb.alloc hsz _) _⟩
      · have hf : beg zs [255, 254] = false := by simpa using hh
        rw [hf] at C1
        go_wp2_with (go_at_call 50; refine (C1 _).mono ?_; rintro e w1 ⟨rfl, rfl⟩)
        go_roundw
        case rel => exact ⟨2, by omega, by go_num, hb.alloc hsz _, by simp_all, by simp_all, by simp_all, by simp_all, by simp_all⟩
        case measure => simp [intOf]
    · have I2 := sign_at2
      by_cases hh : beg zs [239, 187, 191] = true
      · rw [hh] at C2
        go_wp2_with (go_at_call 50; refine (C2 _).mono ?_; rintro e w1 ⟨rfl, rfl⟩)
        go_quiet (fail)
        go_wp2_with fail
        go_ret2
        exact ⟨by unfold pKind; simp [hh, r0, r1], Below.drewN_ (hb.alloc hsz _) _⟩
      · have hf : beg zs [239, 187, 191] = false := by simpa using hh
        rw [hf] at C2
        go_wp2_with (go_at_call 50; refine (C2 _).mono ?_; rintro e w1 ⟨rfl, rfl⟩)
        go_roundw
        case rel => exact ⟨3, by omega, by go_num, hb.alloc hsz _, by simp_all, by simp_all, by simp_all, by simp_all, by simp_all⟩
        case measure => simp [intOf]
    · have I3 := sign_at3
      by_cases hh : beg zs [0, 60, 0, 63] = true
      · rw [hh] at C3
        go_wp2_with (go_at_call 50; refine (C3 _).mono ?_; rintro e w1 ⟨rfl, rfl⟩)
        go_quiet (fail)
        go_wp2_with fail
        go_ret2
        exact ⟨by unfold pKind; simp [hh, r0, r1, r2], Below.drewN_ (hb.alloc hsz _) _⟩
      · have hf : beg zs [0, 60, 0, 63] = false := by simpa using hh
        rw [hf] at C3
        go_wp2_with (go_at_call 50; refine (C3 _).mono ?_; rintro e w1 ⟨rfl, rfl⟩)
        go_roundw
        case rel => exact ⟨4, by omega, by go_num, hb.alloc hsz _, by simp_all, by simp_all, by simp_all, by simp_all, by simp_all⟩
        case measure => simp [intOf]
    · have I4 := sign_at4
      by_cases hh : beg zs [60, 0, 63, 0] = true
      · rw [hh] at C4
        go_wp2_with (go_at_call 50; refine (C4 _).mono ?_; rintro e w1 ⟨rfl, rfl⟩)
        go_quiet (fail)
        go_wp2_with fail
        go_ret2
        exact ⟨by unfold pKind; simp [hh, r0, r1, r2, r3], Below.drewN_ (hb.alloc hsz _) _⟩
      · have hf : beg zs [60, 0, 63, 0] = false := by simpa using hh
        rw [hf] at C4
        go_wp2_with (go_at_call 50; refine (C4 _).mono ?_; rintro e w1 ⟨rfl, rfl⟩)
        go_roundw
        case rel => exact ⟨5, by omega, by go_num, hb.alloc hsz _, by simp_all, by simp_all, by simp_all, by simp_all, by simp_all⟩
        case measure => simp [intOf]
    · go_wp2_with fail
      go_ret2
      exact ⟨by unfold pKind; simp_all, hb⟩
end Go.Proofs.YtibakihcicfeoaaGreat
/- The walk of sniff.Kind. No condition. -/
namespace Go.Proofs.YtibakihcicfeoaaGreat
open Go.RowKit

set_option maxRecDepth 20000 in
set_option maxHeartbeats 4000000 in
theorem kind44_long (A : Option Addr) (n c : Nat) (zs : List Int) (w : World) (h : Rd w w.heap.size 1 A n c (ints .u8 zs)) (hz : Bytes8 zs) (h4 : 4 < n) :
    Calls Tryz.prog 28 #[.slice A n c] w fun e w' => e = .returned (.tuple #[.int .i64 (pKind zs).1, .int .i64 (pKind zs).2]) ∧ Below w.heap.size w w' := by
  have hlen := h.int_len
  have hcap := h.cap
  have hmax := h.max
  unfold maxLen at hmax
  have h2 := h.take (k := 4) (by omega)
  rw [← List.map_take, Nat.mul_one] at h2
  have e0 := fun o => run_str' (h2.alloc (Nat.le_refl _) o)
  generalize hsg : strOfNums (zs.take 4) = s at e0
  have C0 := fun W => beg65 (sl := [254, 255]) (p := ⟨#[254, 255]⟩) hz (by intro z hz; simp at hz; omega) hsg rfl (by decide) W
  have C1 := fun W => beg65 (sl := [255, 254]) (p := ⟨#[255, 254]⟩) hz (by intro z hz; simp at hz; omega) hsg rfl (by decide) W
  have C2 := fun W => beg65 (sl := [239, 187, 191]) (p := ⟨#[239, 187, 191]⟩) hz (by intro z hz; simp at hz; omega) hsg rfl (by decide) W
  have C3 := fun W => beg65 (sl := [0, 60, 0, 63]) (p := ⟨#[0, 60, 0, 63]⟩) hz (by intro z hz; simp at hz; omega) hsg rfl (by decide) W
  have C4 := fun W => beg65 (sl := [60, 0, 63, 0]) (p := ⟨#[60, 0, 63, 0]⟩) hz (by intro z hz; simp at hz; omega) hsg rfl (by decide) W
  have HP := Lib.hid (rfl : pKind zs = pKind zs)
  clear h h2 hsg
  go_enter Tryz.func28, Tryz.ntmps28
  go_wp2_with fail
  go_loopw [21] (fun i wr => ∃ k : Nat, k ≤ 5 ∧ i = .int .i64 k ∧ Below w.heap.size w wr ∧ (0 < k → beg zs [254, 255] = false) ∧ (1 < k → beg zs [255, 254] = false) ∧ (2 < k → beg zs [239, 187, 191] = false) ∧ (3 < k → beg zs [0, 60, 0, 63] = false) ∧ (4 < k → beg zs [60, 0, 63, 0] = false))
    (fun i _ => 5 - (intOf i).toNat)
  case atStart => exact ⟨0, by omega, rfl, (Below.refl _ _).alloc (Nat.le_refl _) _, by omega, by omega, by omega, by omega, by omega⟩
  case round =>
    obtain ⟨k, hk, rfl, hb, r0, r1, r2, r3, r4⟩ := hrel
    have hsz := hb.size
    rcases (show k = 0 ∨ k = 1 ∨ k = 2 ∨ k = 3 ∨ k = 4 ∨ k = 5 by omega) with rfl | rfl | rfl | rfl | rfl | rfl
    · have I0 := sign_at0
      by_cases hh : beg zs [254, 255] = true
      · rw [hh] at C0
        go_wp2_with (go_at_call 50; refine (C0 _).mono ?_; rintro e w1 ⟨rfl, rfl⟩)
        go_quiet (fail)
        go_wp2_with fail
        go_ret2
        exact ⟨by unfold pKind; simp [hh], Below.drewN_ (hb.alloc hsz _) _⟩
      · have hf : beg zs [254, 255] = false := by simpa using hh
        rw [hf] at C0
        go_wp2_with (go_at_call 50; refine (C0 _).mono ?_; rintro e w1 ⟨rfl, rfl⟩)
        go_roundw
        case rel => exact ⟨1, by omega, by go_num, hb.alloc hsz _, by simp_all, by simp_all, by simp_all, by simp_all, by simp_all⟩
        case measure => simp [intOf]
    · have I1 := sign_at1
      by_cases hh : beg zs [255, 254] = true
      · rw [hh] at C1
        go_wp2_with (go_at_call 50; refine (C1 _).mono ?_; rintro e w1 ⟨rfl, rfl⟩)
        go_quiet (fail)
        go_wp2_with fail
        go_ret2
        exact ⟨by unfold pKind; simp [hh, r0], Below.drewN_ (hb.alloc hsz _) _⟩
      · have hf : beg zs [255, 254] = false := by simpa using hh
        rw [hf] at C1
        go_wp2_with (go_at_call 50; refine (C1 _).mono ?_; rintro e w1 ⟨rfl, rfl⟩)
        go_roundw
        case rel => exact ⟨2, by omega, by go_num, hb.alloc hsz _, by simp_all, by simp_all, by simp_all, by simp_all, by simp_all⟩
        case measure => simp [intOf]
    · have I2 := sign_at2
      by_cases hh : beg zs [239, 187, 191] = true
      · rw [hh] at C2
        go_wp2_with (go_at_call 50; refine (C2 _).mono ?_; rintro e w1 ⟨rfl, rfl⟩)
        go_quiet (fail)
        go_wp2_with fail
        go_ret2
        exact ⟨by unfold pKind; simp [hh, r0, r1], Below.drewN_ (hb.alloc hsz _) _⟩
      · have hf : beg zs [239, 187, 191] = false := by simpa using hh
        rw [hf] at C2
        go_wp2_with (go_at_call 50; refine (C2 _).mono ?_; rintro e w1 ⟨rfl, rfl⟩)
        go_roundw
        case rel => exact ⟨3, by omega, by go_num, hb.alloc hsz _, by simp_all, by simp_all, by simp_all, by simp_all, by simp_all⟩
        case measure => simp [intOf]
    · have I3 := sign_at3
      by_cases hh : beg zs [0, 60, 0, 63] = true
      · rw [hh] at C3
        go_wp2_with (go_at_call 50; refine (C3 _).mono ?_; rintro e w1 ⟨rfl, rfl⟩)
        go_quiet (fail)
        go_wp2_with fail
        go_ret2
        exact ⟨by unfold pKind; simp [hh, r0, r1, r2], Below.drewN_ (hb.alloc hsz _) _⟩
      · have hf : beg zs [0, 60, 0, 63] = false := by simpa using hh
        rw [hf] at C3
        go_wp2_with (go_at_call 50; refine (C3 _).mono ?_; rintro e w1 ⟨rfl, rfl⟩)
        go_roundw
        case rel => exact ⟨4, by omega, by go_num, hb.alloc hsz _, by simp_all, by simp_all, by simp_all, by simp_all, by simp_all⟩
        case measure => simp [intOf]
    · have I4 := sign_at4
      by_cases hh : beg zs [60, 0, 63, 0] = true
      · rw [hh] at C4
        go_wp2_with (go_at_call 50; refine (C4 _).mono ?_; rintro e w1 ⟨rfl, rfl⟩)
        go_quiet (fail)
        go_wp2_with fail
        go_ret2
        exact ⟨by unfold pKind; simp [hh, r0, r1, r2, r3], Below.drewN_ (hb.alloc hsz _) _⟩
      · have hf : beg zs [60, 0, 63, 0] = false := by simpa using hh
        rw [hf] at C4
        go_wp2_with (go_at_call 50; refine (C4 _).mono ?_; rintro e w1 ⟨rfl, rfl⟩)
        go_roundw
        case rel => exact ⟨5, by omega, by go_num, hb.alloc hsz _, by simp_all, by simp_all, by simp_all, by simp_all, by simp_all⟩
        case measure => simp [intOf]
    · go_wp2_with fail
      go_ret2
      exact ⟨by unfold pKind; simp_all, hb⟩
end Go.Proofs.YtibakihcicfeoaaGreat
/- The walk of sniff.Kind, joined. No condition. -/
namespace Go.Proofs.YtibakihcicfeoaaGreat
open Go.RowKit

theorem kind44 (A : Option Addr) (n c : Nat) (zs : List Int) (w : World) (h : Rd w w.heap.size 1 A n c (ints .u8 zs)) (hz : Bytes8 zs) :
    Calls Tryz.prog 28 #[.slice A n c] w fun e w' => e = .returned (.tuple #[.int .i64 (pKind zs).1, .int .i64 (pKind zs).2]) ∧ Below w.heap.size w w' := by
  by_cases h4 : n ≤ 4
  · exact kind44_short A n c zs w h hz (by omega)
  · exact kind44_long A n c zs w h hz (by omega)
end Go.Proofs.YtibakihcicfeoaaGreat
