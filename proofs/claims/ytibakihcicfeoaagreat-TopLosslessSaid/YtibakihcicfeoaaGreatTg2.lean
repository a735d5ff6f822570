/- The walks of strings.Builder's copyCheck, Write and String over this program's numbers. No condition. -/
import Derived.Test.YtibakihcicfeoaaGreatTg
import Derived.Lib.Builder
import Derived.Lib.UnsafeStr
import Derived.Lib.Strings
import Derived.Shelf.RegionOpenPlain
import Derived.Laws.Externs
namespace Go.Proofs.YtibakihcicfeoaaGreat
open Go.RowKit

theorem info86 : (Tryz.prog.info? 271).map (·.size) = some 2 := by kernel_rfl
theorem lies86 : liesAt Tryz.prog Tryz.prog.depth 271 (2 / Tryz.prog.cellsOf 271) 0 271 1 = true := by kernel_rfl

set_option maxHeartbeats 1000000 in
set_option maxRecDepth 100000 in
theorem copy_used (b : Nat) (w : World) (h0 : w.cell? ⟨b, 0, none⟩ = some (.pointer (some ⟨b, 0, none⟩))) :
    Calls Tryz.prog 230 #[.pointer (some ⟨b, 0, none⟩)] w fun e w' => e = .returned (.tuple #[]) ∧ w' = w := by
  obtain ⟨j, hj, _⟩ := Option.map_eq_some_iff.1 info86
  go_enter Tryz.func230, Tryz.ntmps230
  go_wp2
  rw [Lib.run_neq_ptr_same w _ Tryz.underlying269 hj]
  go_wp2
  go_end0
  exact ⟨rfl, rfl⟩

set_option maxHeartbeats 1000000 in
set_option maxRecDepth 100000 in
theorem copy_fresh (b : Nat) (w : World) (h0 : w.cell? ⟨b, 0, none⟩ = some (.pointer none)) (hsh : w.shape? b = some (271, 2)) (hfz : w.frozen? ⟨b, 0, none⟩ = false) :
    Calls Tryz.prog 230 #[.pointer (some ⟨b, 0, none⟩)] w fun e w' => e = .returned (.tuple #[]) ∧ w' = w.setCell ⟨b, 0, none⟩ (.pointer (some ⟨b, 0, none⟩)) := by
  obtain ⟨j, hj, hjs⟩ := Option.map_eq_some_iff.1 info86
  go_enter Tryz.func230, Tryz.ntmps230
  go_wp2
  rw [Lib.run_to_unsafe w ⟨b, 0, none⟩ Tryz.underlying269 Tryz.underlying369 hj (by rw [hjs]; decide) hsh (Nat.zero_lt_succ 1)]
  simp only [Result.andThen]
  rw [Oper.upon_value]
  go_wp2
  rw [run_callFunc_extern Tryz.func270 (by kernel_rfl) (by kernel_rfl) (by kernel_rfl) (e := Extern.AbiNoEscape.same) (by kernel_rfl)]
  rw [Lib.run_noEscape]
  simp only [Result.andThen]
  rw [Oper.upon_value]
  go_wp2
  rw [Lib.run_from_unsafe w ⟨b, 0, none⟩ Tryz.underlying369 Tryz.underlying269 hj hsh lies86]
  simp only [Result.andThen]
  rw [Oper.upon_value]
  go_wp2
  go_end0
  exact ⟨rfl, rfl⟩

theorem copy76 (B b : Nat) (bs : List Value) (w : World) (h : Lib.IsBuilder 271 5 B b bs w) :
    Calls Tryz.prog 230 #[.pointer (some ⟨b, 0, none⟩)] w fun e w' => e = .returned (.tuple #[]) ∧ (Lib.BuilderAt 271 5 B b (.pointer (some ⟨b, 0, none⟩)) bs w' ∧ Below B w w') := by
  rcases h with h | h
  · refine (copy_fresh b w h.cell0 h.shape h.frozen0).mono ?_
    rintro e w' ⟨rfl, rfl⟩
    exact ⟨rfl, h.used _, (Below.refl B w).setCell (p := ⟨b, 0, none⟩) h.1 _⟩
  · refine (copy_used b w h.cell0).mono ?_
    rintro e w' ⟨rfl, rfl⟩
    exact ⟨rfl, h, Below.refl B _⟩
end Go.Proofs.YtibakihcicfeoaaGreat
/- The walks of strings.Builder's Write and String, and of a text's String. No condition. -/
namespace Go.Proofs.YtibakihcicfeoaaGreat
open Go.RowKit

/-- A row of integers is as it was where every integer's cell is. -/
theorem Rd.ints_keep {w w' : World} {B n c : Nat} {A : Option Addr} {k : IntKind} {zs : List Int} (h : Rd w B 1 A n c (ints k zs)) (hk : ∀ a z, w.cell? a = some (.int k z) → w'.cell? a = some (.int k z)) : Rd w' B 1 A n c (ints k zs) :=
  ⟨h.len, h.cap, h.max, fun hn => by
    obtain ⟨b, off, e, hb, hc⟩ := h.at_ hn
    refine ⟨b, off, e, hb, fun j u hu => ?_⟩
    have := hc j u hu
    rw [ints, List.getElem?_map] at hu
    cases hz : zs[j]? with
    | none => rw [hz] at hu; cases hu
    | some z =>
      rw [hz] at hu
      obtain rfl : Value.int k z = u := by simpa using hu
      exact hk _ _ this⟩
theorem copy76' (B b : Nat) (bs : List Value) (w : World) (h : Lib.IsBuilder 271 5 B b bs w) :
    Calls Tryz.prog 230 #[.pointer (some ⟨b, 0, none⟩)] w fun e w' => e = .returned (.tuple #[]) ∧ (Lib.BuilderAt 271 5 B b (.pointer (some ⟨b, 0, none⟩)) bs w' ∧ Below B w w' ∧ w'.heap.size = w.heap.size ∧ ∀ a k z, w.cell? a = some (.int k z) → w'.cell? a = some (.int k z)) := by
  rcases h with h | h
  · have h0 := h.cell0
    refine (copy_fresh b w h0 h.shape h.frozen0).mono ?_
    rintro e w' ⟨rfl, rfl⟩
    refine ⟨rfl, h.used _, (Below.refl B w).setCell (p := ⟨b, 0, none⟩) h.1 _, by simp [World.setCell], fun a k z ha => ?_⟩
    rw [World.cell?_setCell_other w _ _ _ (fun e => by subst e; rw [h0] at ha; cases ha)]
    exact ha
  · refine (copy_used b w h.cell0).mono ?_
    rintro e w' ⟨rfl, rfl⟩
    exact ⟨rfl, h, Below.refl B _, rfl, fun _ _ _ ha => ha⟩
theorem builder_below {B b : Nat} {bs : List Value} {w w' : World} (h : Lib.IsBuilder 271 5 B b bs w) (hb : Below w.heap.size w w') : Lib.IsBuilder 271 5 B b bs w' := by
  have key : ∀ p, Lib.BuilderAt 271 5 B b p bs w → Lib.BuilderAt 271 5 B b p bs w' := fun p hp => by
    have hlt := hp.lt
    obtain ⟨hB, v, hk, ho, hne⟩ := hp
    exact ⟨hB, v, (hb.block b hlt).trans hk, own_below ho hb, hne⟩
  exact h.imp (key _) (key _)

set_option maxRecDepth 100000 in
set_option maxHeartbeats 1000000 in
theorem write71 (B b : Nat) (bs : List Value) (A : Option Addr) (n c : Nat) (zs : List Int) (w : World) (h : Lib.IsBuilder 271 5 B b bs w) (hr : Rd w w.heap.size 1 A n c (ints .u8 zs)) (hBw : B ≤ w.heap.size) (hlen : bs.length + n ≤ 1048576) :
    Calls Tryz.prog 172 #[.pointer (some ⟨b, 0, none⟩), .slice A n c] w fun e w' => e = .returned (.tuple #[.int .i64 n, .nilIface]) ∧ Lib.IsBuilder 271 5 B b (bs ++ ints .u8 zs) w' ∧ Below B w w' := by
  have hzl := hr.int_len
  have C76 := copy76' B b bs w h
  clear h
  go_enter Tryz.func172, Tryz.ntmps172
  go_wp2_with (first | (go_at_call 230; refine C76.mono ?_; rintro e w1 ⟨rfl, ⟨hB, v, hk, ho, hne⟩, hb1, hs1, hkeep⟩; clear C76; have hr1 := (hr.ints_keep fun a z => hkeep a _ z).more (Nat.le_of_eq hs1.symm); have y1 : w1.cell? ⟨b, 1, none⟩ = some v := cell_of_row w1 b 1 _ _ _ hk; have f1 := frozen_of_row w1 b 1 _ _ hk; have hk := Lib.hid hk; clear hr hkeep) | (at_builtin; refine wpList_pushesB st22S rfl _ _ rfl _ rfl ho rfl hr1 (ints_cellsS _ _) hlen (by omega) hb1 (by omega) (Nat.le_refl _) ?_; intro v2 w2 ho2 hb2 hk2; have hk3 := hk2 _ _ hk.out (fun e => hne e.symm); have y1 : w2.cell? ⟨b, 1, none⟩ = some v := cell_of_row w2 b 1 _ _ _ hk3; have f1 := frozen_of_row w2 b 1 _ _ hk3; have hk3 := Lib.hid hk3; obtain ⟨A9, c9, rfl, ho2⟩ := own_form ho2; clear hk2))
  go_ret2
  exact ⟨rfl, .inr (Lib.BuilderAt.put hB hk3.out (own_as ho2 (by simp [hzl]) rfl) (by decide)), hb2.setCell (p := ⟨b, 1, none⟩) hB _⟩
end Go.Proofs.YtibakihcicfeoaaGreat
/- The walk of strings.Builder's String over this program's numbers. No condition. -/
namespace Go.Proofs.YtibakihcicfeoaaGreat
open Go.RowKit

theorem noBytes (W : World) (q : Option Addr) : (Builtin.unsafeString_ #[337, 3] 9 #[.pointer q, .int .i64 0]).run Tryz.prog W = .ok (.string .empty) W := Lib.run_unsafeString_none W _ _ _ q

set_option maxHeartbeats 1000000 in
set_option maxRecDepth 100000 in
theorem string72_some (B b : Nat) (l : List UInt8) (w : World) (h : Lib.IsBuilder 271 5 B b (Lib.byteCells l) w) (h0 : l ≠ []) :
    Calls Tryz.prog 173 #[.pointer (some ⟨b, 0, none⟩)] w fun e w' => e = .returned (.string ⟨l.toArray⟩) ∧ Below B w w' := by
  obtain ⟨p, hB, v, hbk, hown, hne⟩ : ∃ p, Lib.BuilderAt 271 5 B b p (Lib.byteCells l) w := by
    rcases h with h | h
    · exact ⟨_, h⟩
    · exact ⟨_, h⟩
  have hl0 : l.length ≠ 0 := by simpa using h0
  rw [Lib.byteCells_length] at hown
  obtain ⟨g, cap, cur, rfl, hbg, hg, hnc, hcm, hcs, htake⟩ : ∃ g cap cur, v = .slice (some ⟨g, 0, none⟩) l.length cap ∧ B ≤ g ∧ w.heap[g]? = some (.cells cur 5 (0, 0)) ∧ l.length ≤ cap ∧ cap ≤ maxLen ∧ cur.size = cap * 1 ∧ cur.toList.take (l.length * 1) = Lib.byteCells l := by
    rcases hown.2 with ⟨_, hz⟩ | ⟨g, cap, cur, hv, r⟩
    · exact absurd hz hl0
    · exact ⟨g, cap, cur, hv, r⟩
  have c1 : w.drew.cell? ⟨b, 1, none⟩ = some (.slice (some ⟨g, 0, none⟩) l.length cap) := by
    have : w.drew.heap[b]? = some (.cells #[p, .slice (some ⟨g, 0, none⟩) l.length cap] 271 (0, 0)) := hbk
    rw [Lib.cell_of_heap this]; rfl
  have hSD : (Builtin.unsafeSliceData_ #[22] 337 #[.slice (some ⟨g, 0, none⟩) l.length cap]).run Tryz.prog w.drew = .ok (.pointer (some ⟨g, 0, none⟩)) w.drew :=
    Lib.run_unsafeSliceData_row _ _ _ _ _ _ (by omega)
  have hUS : (Builtin.unsafeString_ #[337, 3] 9 #[.pointer (some ⟨g, 0, none⟩), .int .i64 l.length]).run Tryz.prog w.drew = .ok (.string ⟨l.toArray⟩) (w.drew.freeze ⟨g, 0, none⟩ l.length) := by
    refine Lib.run_unsafeString_row w.drew 337 3 9 5 Tryz.underlying337 (by kernel_rfl) g cur.size (by have hg' : w.drew.heap[g]? = some (.cells cur 5 (0, 0)) := hg; simp [World.shape?, hg']) l h0 (by omega) (by unfold maxLen at hcm; omega) ?_
    intro j x hx
    have := hown.cells (g := g) rfl j (.int .u8 x.toNat) (by simp [Lib.byteCells, hx])
    exact this
  clear h hown hg htake hcs hcm hnc hbk
  go_enter Tryz.func173, Tryz.ntmps173
  go_wp2
  go_region
  all_goals (go_wp2; go_ret; exact ⟨rfl, Lib.below_freeze (Below.drew (Below.refl B w)) (p := ⟨g, 0, none⟩) hbg _⟩)

set_option maxHeartbeats 2000000 in
set_option maxRecDepth 100000 in
theorem string72_nil (B b : Nat) (p : Value) (w : World) (hbk : w.heap[b]? = some (.cells #[p, .slice none 0 0] 271 (0, 0))) :
    Calls Tryz.prog 173 #[.pointer (some ⟨b, 0, none⟩)] w fun e w' => e = .returned (.string ⟨#[]⟩) ∧ Below B w w' := by
  have hUS := noBytes
  have c1 : w.drew.cell? ⟨b, 1, none⟩ = some (.slice none 0 0) := by
    have : w.drew.heap[b]? = some (.cells #[p, .slice none 0 0] 271 (0, 0)) := hbk
    rw [Lib.cell_of_heap this]; rfl
  have hSD : (Builtin.unsafeSliceData_ #[22] 337 #[.slice none 0 0]).run Tryz.prog w.drew = .ok (.pointer none) w.drew := rfl
  clear hbk
  go_enter Tryz.func173, Tryz.ntmps173
  go_wp2
  go_region
  all_goals (go_wp2; go_ret; exact ⟨rfl, Below.drew (Below.refl B w)⟩)

set_option maxHeartbeats 2000000 in
set_option maxRecDepth 100000 in
theorem string72_noroom (B b g : Nat) (p : Value) (cur : Array Value) (w : World) (hBw : B ≤ w.heap.size) (hbk : w.heap[b]? = some (.cells #[p, .slice (some ⟨g, 0, none⟩) 0 0] 271 (0, 0))) (hg : w.heap[g]? = some (.cells cur 5 (0, 0))) :
    Calls Tryz.prog 173 #[.pointer (some ⟨b, 0, none⟩)] w fun e w' => e = .returned (.string ⟨#[]⟩) ∧ Below B w w' := by
  have hUS := noBytes
  have hlt : b < w.heap.size := by
    rcases Nat.lt_or_ge b w.heap.size with h' | h'
    · exact h'
    · simp [Array.getElem?_eq_none h'] at hbk
  have c1 : w.drew.cell? ⟨b, 1, none⟩ = some (.slice (some ⟨g, 0, none⟩) 0 0) := by
    have : w.drew.heap[b]? = some (.cells #[p, .slice (some ⟨g, 0, none⟩) 0 0] 271 (0, 0)) := hbk
    rw [Lib.cell_of_heap this]; rfl
  have hSD : (Builtin.unsafeSliceData_ #[22] 337 #[.slice (some ⟨g, 0, none⟩) 0 0]).run Tryz.prog w.drew = .ok (.pointer (some ⟨w.drew.heap.size, 0, none⟩)) (w.drew.alloc (.view ⟨g, 0, none⟩ 5)) :=
    Lib.run_unsafeSliceData_zero w.drew _ _ 5 Tryz.underlying337 ⟨g, 0, none⟩ 0 (5, cur.size) (by have hg' : w.drew.heap[g]? = some (.cells cur 5 (0, 0)) := hg; simp [World.shape?, hg'])
  have c2 : (w.drew.alloc (.view ⟨g, 0, none⟩ 5)).cell? ⟨b, 1, none⟩ = some (.slice (some ⟨g, 0, none⟩) 0 0) := by
    have : (w.drew.alloc (.view ⟨g, 0, none⟩ 5)).heap[b]? = _ := (Lib.alloc_old w.drew _ b hlt).trans hbk
    rw [Lib.cell_of_heap this]; rfl
  have c3 : (w.alloc (.view ⟨g, 0, none⟩ 5)).drew.cell? ⟨b, 1, none⟩ = some (.slice (some ⟨g, 0, none⟩) 0 0) := c2
  have c0 : w.cell? ⟨b, 1, none⟩ = some (.slice (some ⟨g, 0, none⟩) 0 0) := c1
  clear hbk hg
  go_enter Tryz.func173, Tryz.ntmps173
  go_wp2
  go_region
  all_goals (go_wp2; go_ret; exact ⟨rfl, (Below.drew (Below.refl B w)).alloc hBw _⟩)

set_option maxHeartbeats 2000000 in
set_option maxRecDepth 100000 in
theorem string72_room (B b g cap : Nat) (p : Value) (w : World) (hc0 : cap ≠ 0) (hbk : w.heap[b]? = some (.cells #[p, .slice (some ⟨g, 0, none⟩) 0 cap] 271 (0, 0))) :
    Calls Tryz.prog 173 #[.pointer (some ⟨b, 0, none⟩)] w fun e w' => e = .returned (.string ⟨#[]⟩) ∧ Below B w w' := by
  have hUS := noBytes
  have c1 : w.drew.cell? ⟨b, 1, none⟩ = some (.slice (some ⟨g, 0, none⟩) 0 cap) := by
    have : w.drew.heap[b]? = some (.cells #[p, .slice (some ⟨g, 0, none⟩) 0 cap] 271 (0, 0)) := hbk
    rw [Lib.cell_of_heap this]; rfl
  have hSD : (Builtin.unsafeSliceData_ #[22] 337 #[.slice (some ⟨g, 0, none⟩) 0 cap]).run Tryz.prog w.drew = .ok (.pointer (some ⟨g, 0, none⟩)) w.drew :=
    Lib.run_unsafeSliceData_row _ _ _ _ _ _ hc0
  clear hc0 hbk
  go_enter Tryz.func173, Tryz.ntmps173
  go_wp2
  go_region
  all_goals (go_wp2; go_ret; exact ⟨rfl, Below.drew (Below.refl B w)⟩)

theorem string72_empty (B b : Nat) (w : World) (h : Lib.IsBuilder 271 5 B b [] w) (hBw : B ≤ w.heap.size) :
    Calls Tryz.prog 173 #[.pointer (some ⟨b, 0, none⟩)] w fun e w' => e = .returned (.string ⟨#[]⟩) ∧ Below B w w' := by
  obtain ⟨p, hB, v, hbk, hown, hne⟩ : ∃ p, Lib.BuilderAt 271 5 B b p [] w := by
    rcases h with h | h
    · exact ⟨_, h⟩
    · exact ⟨_, h⟩
  rcases hown.2 with ⟨rfl, _⟩ | ⟨g, cap, cur, rfl, hbg, hg, _, _, _, _⟩
  · exact string72_nil B b p w hbk
  · by_cases hc0 : cap = 0
    · subst hc0
      exact string72_noroom B b g p cur w hBw hbk hg
    · exact string72_room B b g cap p w hc0 hbk

theorem string72 (B b : Nat) (zs : List Int) (hz : Bytes8 zs) (w : World) (h : Lib.IsBuilder 271 5 B b (ints .u8 zs) w) (hBw : B ≤ w.heap.size) :
    Calls Tryz.prog 173 #[.pointer (some ⟨b, 0, none⟩)] w fun e w' => e = .returned (.string (strOfNums zs)) ∧ Below B w w' := by
  have e : ints .u8 zs = Lib.byteCells (zs.map fun n => UInt8.ofNat n.toNat) := by
    rw [← strCells_nums hz, Lib.strCells_eq, strOfNums_data]
  rw [e] at h
  cases zs with
  | nil => exact string72_empty B b w h hBw
  | cons z r => exact string72_some B b _ w h (by simp)
end Go.Proofs.YtibakihcicfeoaaGreat
/- The walks of a text's At and String. No condition. -/
namespace Go.Proofs.YtibakihcicfeoaaGreat
open Go.RowKit

/-- The first place that is not ahead of a byte: k of m. -/
def IsAt (O : List Int) (off : Int) (m k : Nat) : Prop := k ≤ m ∧ (∀ j, j < k → gz O j < off) ∧ (k = m ∨ off ≤ gz O k)
theorem isAt_uniq {O : List Int} {off : Int} {m a b : Nat} (h1 : IsAt O off m a) (h2 : IsAt O off m b) : a = b := by
  obtain ⟨a1, a2, a3⟩ := h1
  obtain ⟨b1, b2, b3⟩ := h2
  rcases Nat.lt_trichotomy a b with h | h | h
  · have := b2 a h
    omega
  · exact h
  · have := a2 b h
    omega

set_option maxHeartbeats 1000000 in
set_option maxRecDepth 100000 in
theorem at56 (kd p off : Int) (A1 A2 : Option Addr) (m c1 c2 : Nat) (O : List Int) (w : World) (hO : Rd w w.heap.size 1 A2 (m + 1) c2 (ints .i64 O)) (hm : m ≤ 4096) :
    Calls Tryz.prog 112 #[.agg #[.int .i64 kd, .int .i64 p, .slice A1 m c1, .slice A2 (m + 1) c2], .int .i64 off] w fun e w' => ∃ k : Nat, e = .returned (.int .i64 k) ∧ IsAt O off m k ∧ Below w.heap.size w w' := by
  obtain ⟨b, o, rfl, hbb, hc⟩ := hO.int_form (by omega)
  have HC := Lib.hid hc
  clear hc hO
  go_enter Tryz.func112, Tryz.ntmps112
  go_wp2_with fail
  go_loopw [15] (fun i wr => ∃ k : Nat, k ≤ m ∧ i = .int .i64 k ∧ Hid (∀ j, j < k → gz O j < off) ∧ Below w.heap.size w wr ∧ wr.cell? ⟨w.heap.size, 3, none⟩ = some (.slice (some ⟨b, o, none⟩) (m + 1) c2))
    (fun i _ => m - (intOf i).toNat)
  case atStart => exact ⟨0, Nat.zero_le _, rfl, Lib.hid (fun j hj => absurd hj (by omega)), (Below.refl _ _).alloc (Nat.le_refl _) _, cell_in w _ 3 _ _ rfl⟩
  case round =>
    obtain ⟨k, hk, rfl, HK, hb, y3⟩ := hrel
    by_cases hlt : k < m
    · have x0 := (hb.cell (p := ⟨b, o + k, none⟩) hbb).trans (HC.out k (by omega))
      by_cases hoff : off ≤ gz O k
      · have t0 : decide (off ≤ gz O k) = true := by simpa using hoff
        have HI := Lib.hid (show IsAt O off m k from ⟨hk, HK.out, .inr hoff⟩)
        clear hoff
        generalize gz O k = z at *
        go_wp2_with fail
        go_ret
        exact ⟨k, rfl, HI.out, hb⟩
      · have t0 : decide (off ≤ gz O k) = false := by simpa using hoff
        have HI := Lib.hid (show ∀ j, j < k + 1 → gz O j < off from fun j hj => by
          rcases Nat.lt_or_ge j k with h | h
          · exact HK.out j h
          · obtain rfl : j = k := by omega
            omega)
        clear hoff
        generalize gz O k = z at t0 x0
        go_wp2_with fail
        go_roundw
        case rel => exact ⟨k + 1, by omega, by go_num, HI, hb, y3⟩
        case measure => simp [intOf]; omega
    · obtain rfl : k = m := by omega
      have HI := Lib.hid (show IsAt O off k k from ⟨hk, HK.out, .inl rfl⟩)
      go_wp2_with fail
      go_ret
      exact ⟨k, rfl, HI.out, hb⟩

set_option maxRecDepth 100000 in
theorem string57_bad (kd p : Int) (A1 A2 : Option Addr) (m c1 n2 c2 : Nat) (i j : Int) (w : World) (hij : ¬ (0 ≤ i ∧ i ≤ j ∧ j ≤ m)) :
    Calls Tryz.prog 116 #[.agg #[.int .i64 kd, .int .i64 p, .slice A1 m c1, .slice A2 n2 c2], .int .i64 i, .int .i64 j] w fun e w' => e = .returned (.string ⟨#[]⟩) ∧ Below w.heap.size w w' := by
  have C68 := fun W => in68 kd p A1 A2 m c1 n2 c2 i j W
  rw [decide_eq_false hij] at C68
  clear hij
  go_enter Tryz.func116, Tryz.ntmps116
  go_wp2_with (go_at_call 162; refine (C68 _).mono ?_; rintro e w1 ⟨rfl, hb1⟩; clear C68)
  go_ret
  exact ⟨rfl, ((Below.refl _ _).alloc (Nat.le_refl _) _).trans (hb1.mono (by simp))⟩
end Go.Proofs.YtibakihcicfeoaaGreat
/- The walk of a text's String. No condition. -/
namespace Go.Proofs.YtibakihcicfeoaaGreat
open Go.RowKit

theorem enc_bad : enc (-1) = [] := enc_zero (by decide)
theorem encs_one (r : Int) : encs [r] = enc r := by simp [encs]
theorem gz_sub {R : List Int} {i j k : Nat} (h : k < j - i) : gz ((R.drop i).take (j - i)) k = gz R (i + k) := by
  unfold gz
  rw [List.getD_eq_getElem?_getD, List.getD_eq_getElem?_getD, List.getElem?_take, if_pos h, List.getElem?_drop]
theorem sub_len {R : List Int} {i j : Nat} (h : j ≤ R.length) : ((R.drop i).take (j - i)).length = j - i := by
  rw [List.length_take, List.length_drop]; omega

set_option maxRecDepth 100000 in
theorem string57_zero (kd p : Int) (A1 A2 : Option Addr) (c1 n2 c2 : Nat) (w : World) :
    Calls Tryz.prog 116 #[.agg #[.int .i64 kd, .int .i64 p, .slice A1 0 c1, .slice A2 n2 c2], .int .i64 0, .int .i64 0] w fun e w' => e = .returned (.string ⟨#[]⟩) ∧ Below w.heap.size w w' := by
  have C68 := fun W => in68 kd p A1 A2 0 c1 n2 c2 0 0 W
  rw [decide_eq_true (show (0 : Int) ≤ 0 ∧ (0 : Int) ≤ 0 ∧ (0 : Int) ≤ (0 : Nat) by omega)] at C68
  go_enter Tryz.func116, Tryz.ntmps116
  go_wp2_with (go_at_call 162; refine (C68 _).mono ?_; rintro e w1 ⟨rfl, hb1⟩; clear C68; obtain ⟨hg, hb2⟩ := one_block hb1; obtain ⟨y0, y1, y2, y3⟩ := text_cells hg; have z2 := fun X => cell_old w1 w.heap.size 2 X _ y2; clear hb1 hg)
  all_goals
    go_loopw [21] (fun i wr => i = .int .i64 0 ∧ Lib.IsBuilder 271 5 w1.heap.size w1.heap.size [] wr ∧ Below w1.heap.size w1 wr)
      (fun _ _ => 0)
    case atStart => exact ⟨rfl, Lib.fresh_isBuilder 271 5 w1, (Below.refl _ _).alloc (Nat.le_refl _) _⟩
    case round =>
      obtain ⟨rfl, hbu, hb⟩ := hrel
      go_wp2_with (go_at_call 173; refine (string72 w1.heap.size w1.heap.size [] (by intro z hz; cases hz) wr hbu hb.size).mono ?_; rintro e w3 ⟨rfl, hb3⟩)
      go_ret
      exact ⟨rfl, hb2.trans ((hb.trans hb3).mono hb2.size)⟩

set_option maxRecDepth 100000 in
set_option maxHeartbeats 4000000 in
theorem string57_pos (kd p : Int) (A1 A2 : Option Addr) (m c1 n2 c2 i j : Nat) (R : List Int) (w : World) (hR : Rd w w.heap.size 1 A1 m c1 (ints .i32 R)) (hij : i ≤ j) (hjm : j ≤ m) (hm : m ≤ 4096) (hm0 : 0 < m) :
    Calls Tryz.prog 116 #[.agg #[.int .i64 kd, .int .i64 p, .slice A1 m c1, .slice A2 n2 c2], .int .i64 i, .int .i64 j] w fun e w' => e = .returned (.string (strOfNums (encs ((R.drop i).take (j - i))))) ∧ Below w.heap.size w w' := by
  have hRl := hR.int_len
  have hcap := hR.cap
  have hmax := hR.max
  unfold maxLen at hmax
  obtain ⟨b0, o0, rfl, hb0, hc⟩ := hR.int_form hm0
  have HC := Lib.hid hc
  clear hc hR
  have C68 := fun W => in68 kd p (some ⟨b0, o0, none⟩) A2 m c1 n2 c2 i j W
  rw [decide_eq_true (show (0 : Int) ≤ i ∧ (i : Int) ≤ j ∧ (j : Int) ≤ m by omega)] at C68
  have hsl := sub_len (R := R) (i := i) (j := j) (by omega)
  have HG := Lib.hid (fun k (h : k < j - i) => gz_sub (R := R) h)
  generalize (R.drop i).take (j - i) = sub at hsl HG
  have C32 := fun W r => bytes32 (some ⟨W.heap.size, 0, none⟩) 1 1 [r] _ (Rd.lit W (ints .i32 [r]) 21 1 1 rfl (by omega)) (by omega)
  have C72 := fun B b W h hB => string72 B b (encs sub) (encs_bytes sub) W h hB
  have HSL := Lib.hid hsl
  clear hsl
  go_enter Tryz.func116, Tryz.ntmps116
  go_wp2_with (go_at_call 162; refine (C68 _).mono ?_; rintro e w1 ⟨rfl, hb1⟩; clear C68; obtain ⟨hg, hb2⟩ := one_block hb1; obtain ⟨y0, y1, y2, y3⟩ := text_cells hg; have z2 := fun X => cell_old w1 w.heap.size 2 X _ y2; clear hb1 hg)
  all_goals
    have hh := Lib.hid h
    clear h y0 y1 y2 y3 z2
    go_loopw [21] (fun idx wr => ∃ k : Nat, k ≤ j - i ∧ idx = .int .i64 k ∧ Hid (Lib.IsBuilder 271 5 w1.heap.size w1.heap.size (ints .u8 (encs (sub.take k))) wr) ∧ Below w1.heap.size w1 wr)
      (fun idx _ => j - i - (intOf idx).toNat)
    case atStart => exact ⟨0, Nat.zero_le _, rfl, Lib.hid (Lib.fresh_isBuilder 271 5 w1), (Below.refl _ _).alloc (Nat.le_refl _) _⟩
    case round =>
      obtain ⟨k, hk, rfl, HB, hb⟩ := hrel
      have hsz := hb.size
      by_cases hlt : k < j - i
      · first
          | exact absurd hlt (by have hq := hh.out; omega)
          | have x0 : wr.cell? ⟨b0, o0 + i + k, none⟩ = some (.int .i32 (gz R (i + k))) := by
              rw [Nat.add_assoc]
              exact (((hb2.trans (hb.mono hb2.size)).cell (p := ⟨b0, o0 + (i + k), none⟩) hb0)).trans (HC.out (i + k) (by omega))
            rw [← HG.out k hlt] at x0
            have hts := encs_snoc sub k (by rw [HSL.out]; exact hlt)
            have hlen := encs_len_le (sub.take k)
            have hl2 : (sub.take k).length ≤ k := by rw [List.length_take]; omega
            have C := C32 wr (gz sub k)
            rw [encs_one] at C
            by_cases hr : gz sub k = -1
            · rw [hr, enc_bad, List.append_nil] at hts
              have HT := Lib.hid hts
              rw [hr] at x0
              clear hts C hr
              go_wp2_with fail
              go_roundw
              case rel => exact ⟨k + 1, by omega, by go_num, by rw [HT.out]; exact HB, hb⟩
              case measure => simp [intOf]; omega
            · have t0 : (gz sub k != -1) = true := by simpa using hr
              have HT := Lib.hid hts
              have HEL := Lib.hid (show (enc (gz sub k)).length ≤ 4 by rw [← encs_one]; exact encs_len_le [gz sub k])
              clear hts hr
              generalize hE : enc (gz sub k) = en at C HT HEL
              generalize gz sub k = r at *
              have hel := HEL.out
              clear hE
              go_wp2_with (first | (go_at_call 77; refine C.mono ?_; rintro e w2 ⟨A9, c9, rfl, ho2, hb3⟩; clear C; have hbu := builder_below HB.out (((Below.refl wr.heap.size wr).alloc (Nat.le_refl _) (.cells (ints .i32 [r]).toArray 21)).trans (hb3.mono (by simp))); have hb4 := hb.trans ((((Below.refl wr.heap.size wr).alloc (Nat.le_refl _) (.cells (ints .i32 [r]).toArray 21)).trans (hb3.mono (by simp))).mono hsz); have hr2 := Rd.of_own ho2; have hs4 := hb4.size; clear ho2 hb3 HB) | (go_at_call 172; refine (write71 _ _ _ _ _ _ en w2 hbu hr2 hs4 (by simp; omega)).mono ?_; rintro e w3 ⟨rfl, hbu3, hb5⟩; have HB3 := Lib.hid hbu3; clear hbu hr2 hbu3))
              go_roundw
              case rel => exact ⟨k + 1, by omega, by go_num, by rw [HT.out, ints, List.map_append]; exact HB3, hb4.trans hb5⟩
              case measure => simp [intOf]; omega
      · obtain rfl : k = j - i := by omega
        have hbu := HB.out
        rw [List.take_of_length_le (by rw [HSL.out]; exact Nat.le_refl _)] at hbu
        have C := C72 _ _ _ hbu hsz
        clear hbu
        go_wp2_with (go_at_call 173; refine C.mono ?_; rintro e w3 ⟨rfl, hb3⟩)
        go_ret
        exact ⟨rfl, hb2.trans ((hb.trans hb3).mono hb2.size)⟩

theorem string57 (kd p : Int) (A1 A2 : Option Addr) (m c1 n2 c2 i j : Nat) (R : List Int) (w : World) (hR : Rd w w.heap.size 1 A1 m c1 (ints .i32 R)) (hij : i ≤ j) (hjm : j ≤ m) (hm : m ≤ 4096) :
    Calls Tryz.prog 116 #[.agg #[.int .i64 kd, .int .i64 p, .slice A1 m c1, .slice A2 n2 c2], .int .i64 i, .int .i64 j] w fun e w' => e = .returned (.string (strOfNums (encs ((R.drop i).take (j - i))))) ∧ Below w.heap.size w w' := by
  rcases Nat.eq_zero_or_pos m with h0 | h0
  · subst h0
    obtain rfl : j = 0 := by omega
    obtain rfl : i = 0 := by omega
    exact string57_zero kd p A1 A2 c1 n2 c2 w
  · exact string57_pos kd p A1 A2 m c1 n2 c2 i j R w hR hij hjm hm h0
end Go.Proofs.YtibakihcicfeoaaGreat
