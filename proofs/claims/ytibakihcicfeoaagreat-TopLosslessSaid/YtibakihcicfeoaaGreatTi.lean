/- The walks of an arena's of, and of what is asked of a node. No condition. -/
import Derived.Test.YtibakihcicfeoaaGreatTh
import Derived.WalkSmall
namespace Go.Proofs.YtibakihcicfeoaaGreat
open Go.RowKit

/-- What is handed back of a node. -/
def NodeSaid (B : Nat) (x : GN) (w : World) (e : Ending) (w' : World) : Prop := ∃ A5 c5 A6 c6, e = .returned (.agg #[.int .i64 x.kind, .int .i64 x.w, .int .i64 x.cnt, .bool x.leaf, .slice A5 x.b.length c5, .slice A6 x.kids.length c6]) ∧
  w'.ownsRow B 5 1 (.slice A5 x.b.length c5) x.b.length (ints .u8 x.b) ∧ w'.ownsRow B 3 1 (.slice A6 x.kids.length c6) x.kids.length (ints .i64 x.kids) ∧ Below w.heap.size w w'

set_option maxRecDepth 100000 in
set_option maxHeartbeats 1000000 in
theorem of53_at {w : World} {B ga : Nat} {N : List GN} (h : Arena w B ga N) (i : Nat) (hi : i < N.length) : Calls Tryz.prog 24 #[.pointer (some ⟨ga, 0, none⟩), .int .i64 i] w (NodeSaid B (gn N i) w) := by
  unfold NodeSaid
  have C17 := fun (W : World) (hb : Below w.heap.size w W) => len17 (h.below hb)
  obtain ⟨g, c, bv, kv, hs, hn⟩ := h.node
  have hs := hs (by omega)
  obtain ⟨n0, n1, n2, n3, n4, n5, o5, o6⟩ := hn i hi
  obtain ⟨A5, c5, hv5, ho5⟩ := own_form o5
  obtain ⟨A6, c6, hv6, ho6⟩ := own_form o6
  rw [hv5] at n4
  rw [hv6] at n5
  have hlt := h.lt
  have hgl := World.block_lt_of_cell? _ _ n0
  clear hn o5 o6 hv5 hv6 h
  have C := C17 _ ((Below.refl w.heap.size w).alloc (Nat.le_refl _) (.cells #[.int .i64 0, .int .i64 0, .int .i64 0, .bool false, .slice none 0 0, .slice none 0 0] 62))
  clear C17
  have t0 : decide ((N.length : Int) ≤ (i : Int)) = false := by simp; omega
  generalize gn N i = x at *
  have ho5 := Lib.hid ho5
  have ho6 := Lib.hid ho6
  have m0 := fun X => cell_old w g (i * 6) X _ n0
  have m1 := fun X => cell_old w g (i * 6 + 1) X _ n1
  have m2 := fun X => cell_old w g (i * 6 + 2) X _ n2
  have m3 := fun X => cell_old w g (i * 6 + 3) X _ n3
  have m4 := fun X => cell_old w g (i * 6 + 4) X _ n4
  have m5 := fun X => cell_old w g (i * 6 + 5) X _ n5
  have ms := fun X => cell_old w ga 0 X _ hs
  clear n0 n1 n2 n3 n4 n5 hs
  go_enter Tryz.func24, Tryz.ntmps24
  go_wp2_with (go_at_call 36; refine C.mono ?_; rintro e w1 ⟨rfl, rfl⟩; clear C)
  exact bodyPost_ret (v := .agg #[.int .i64 x.kind, .int .i64 x.w, .int .i64 x.cnt, .bool x.leaf, .slice A5 x.b.length c5, .slice A6 x.kids.length c6]) (results_cell_row rfl _ _ w.heap.size 62 _ (0, 0) _ rfl (heap_alloc_new w _) Tryz.underlying62 rfl (by kernel_rfl)) rfl
    ⟨A5, c5, A6, c6, rfl, own_below ho5.out ((Below.refl _ _).alloc (Nat.le_refl _) _), own_below ho6.out ((Below.refl _ _).alloc (Nat.le_refl _) _), (Below.refl _ _).alloc (Nat.le_refl _) _⟩

/-- A node; the zero one, if there is none. -/
def gq (N : List GN) (n : Int) : GN := if 0 ≤ n ∧ n < N.length then gn N n.toNat else ⟨0, 0, 0, false, [], []⟩
set_option maxRecDepth 100000 in
set_option maxHeartbeats 1000000 in
theorem of53_out {w : World} {B ga : Nat} {N : List GN} (h : Arena w B ga N) (n : Int) (hn : ¬ (0 ≤ n ∧ n < N.length)) : Calls Tryz.prog 24 #[.pointer (some ⟨ga, 0, none⟩), .int .i64 n] w (NodeSaid B ⟨0, 0, 0, false, [], []⟩ w) := by
  unfold NodeSaid
  have C := len17 (h.below ((Below.refl w.heap.size w).alloc (Nat.le_refl _) (.cells #[.int .i64 0, .int .i64 0, .int .i64 0, .bool false, .slice none 0 0, .slice none 0 0] 62)))
  clear h
  have hcase : decide (n < 0) = true ∨ (decide (n < 0) = false ∧ decide ((N.length : Int) ≤ n) = true) := by simp; omega
  clear hn
  rcases hcase with t0 | ⟨t0, t1⟩
  all_goals
    go_enter Tryz.func24, Tryz.ntmps24
    go_wp2_with (go_at_call 36; refine C.mono ?_; rintro e w1 ⟨rfl, rfl⟩; clear C)
    exact bodyPost_ret (v := .agg #[.int .i64 0, .int .i64 0, .int .i64 0, .bool false, .slice none 0 0, .slice none 0 0]) (results_cell_row rfl _ _ w.heap.size 62 _ (0, 0) _ rfl (heap_alloc_new w _) Tryz.underlying62 rfl (by kernel_rfl)) rfl
      ⟨none, 0, none, 0, rfl, World.ownsRow_nil _ _ _ _, World.ownsRow_nil _ _ _ _, (Below.refl _ _).alloc (Nat.le_refl _) _⟩
theorem of53 {w : World} {B ga : Nat} {N : List GN} (h : Arena w B ga N) (n : Int) : Calls Tryz.prog 24 #[.pointer (some ⟨ga, 0, none⟩), .int .i64 n] w (NodeSaid B (gq N n) w) := by
  unfold gq
  by_cases hn : 0 ≤ n ∧ n < N.length
  · rw [if_pos hn]
    obtain ⟨i, rfl⟩ := Int.eq_ofNat_of_zero_le hn.1
    exact of53_at h i (by omega)
  · rw [if_neg hn]
    exact of53_out h n hn
set_option maxRecDepth 100000 in
theorem kind23 {w : World} {B ga : Nat} {N : List GN} (h : Arena w B ga N) (n : Int) : Calls Tryz.prog 114 #[.pointer (some ⟨ga, 0, none⟩), .int .i64 n] w fun e w' => e = .returned (.int .i64 (gq N n).kind) ∧ Below w.heap.size w w' := by
  have C := of53 h n
  unfold NodeSaid at C
  clear h
  generalize gq N n = x at C ⊢
  have q0 := fld0
  have q1 := fld1
  have q2 := fld2
  have q3 := fld3
  go_enter Tryz.func114, Tryz.ntmps114
  go_wp2_with (go_at_call 24; refine C.mono ?_; rintro e w1 ⟨A5, c5, A6, c6, rfl, _, _, hb1⟩; clear C)
  go_ret
  exact ⟨rfl, hb1⟩
set_option maxRecDepth 100000 in
theorem width18 {w : World} {B ga : Nat} {N : List GN} (h : Arena w B ga N) (n : Int) : Calls Tryz.prog 8 #[.pointer (some ⟨ga, 0, none⟩), .int .i64 n] w fun e w' => e = .returned (.int .i64 (gq N n).w) ∧ Below w.heap.size w w' := by
  have C := of53 h n
  unfold NodeSaid at C
  clear h
  generalize gq N n = x at C ⊢
  have q0 := fld0
  have q1 := fld1
  have q2 := fld2
  have q3 := fld3
  go_enter Tryz.func8, Tryz.ntmps8
  go_wp2_with (go_at_call 24; refine C.mono ?_; rintro e w1 ⟨A5, c5, A6, c6, rfl, _, _, hb1⟩; clear C)
  go_ret
  exact ⟨rfl, hb1⟩
set_option maxRecDepth 100000 in
theorem count30 {w : World} {B ga : Nat} {N : List GN} (h : Arena w B ga N) (n : Int) : Calls Tryz.prog 9 #[.pointer (some ⟨ga, 0, none⟩), .int .i64 n] w fun e w' => e = .returned (.int .i64 (gq N n).cnt) ∧ Below w.heap.size w w' := by
  have C := of53 h n
  unfold NodeSaid at C
  clear h
  generalize gq N n = x at C ⊢
  have q0 := fld0
  have q1 := fld1
  have q2 := fld2
  have q3 := fld3
  go_enter Tryz.func9, Tryz.ntmps9
  go_wp2_with (go_at_call 24; refine C.mono ?_; rintro e w1 ⟨A5, c5, A6, c6, rfl, _, _, hb1⟩; clear C)
  go_ret
  exact ⟨rfl, hb1⟩
set_option maxRecDepth 100000 in
theorem kids28 {w : World} {B ga : Nat} {N : List GN} (h : Arena w B ga N) (n : Int) (hl : (gq N n).kids.length ≤ 65536) : Calls Tryz.prog 38 #[.pointer (some ⟨ga, 0, none⟩), .int .i64 n] w (OwnSaid 3 (gq N n).kids.length (ints .i64 (gq N n).kids) w) := by
  have C := of53 h n
  unfold NodeSaid at C
  unfold OwnSaid
  clear h
  generalize gq N n = x at C hl ⊢
  have q4 := fld4
  have q5 := fld5
  have CC := fun A c W hW => clone55 A x.kids.length c x.kids W hW hl
  unfold OwnSaid at CC
  go_enter Tryz.func38, Tryz.ntmps38
  go_wp2_with (first | (go_at_call 24; refine C.mono ?_; rintro e w1 ⟨A5, c5, A6, c6, rfl, o5, o6, hb1⟩; clear C) | (go_at_call 61; refine (CC _ _ _ (Rd.of_own o6)).mono ?_; rintro e w2 ⟨A7, c7, rfl, o7, hb2⟩; clear CC))
  go_ret
  exact ⟨A7, c7, rfl, own_mono o7 hb1.size, hb1.trans (hb2.mono hb1.size)⟩

end Go.Proofs.YtibakihcicfeoaaGreat
/- The walks of an arena's way and At. No condition. -/
namespace Go.Proofs.YtibakihcicfeoaaGreat
open Go.RowKit

theorem ints_snoc (k : IntKind) (l : List Int) (z : Int) : ints k (l ++ [z]) = ints k l ++ [.int k z] := by simp
theorem gz_eq {zs : List Int} {j : Nat} (h : j < zs.length) : gz zs j = zs[j] := by simp [gz, List.getD_eq_getElem?_getD, List.getElem?_eq_getElem h]
/-- Each kid stands ahead of its parent. -/
def GoodN (N : List GN) : Prop := ∀ i, i < N.length → ∀ j, j < (gn N i).kids.length → 0 ≤ gz (gn N i).kids j ∧ gz (gn N i).kids j < i
/-- The node that k steps of a path lead to. -/
def gat (N : List GN) (root : Nat) (P : List Int) : Nat → Option Nat
  | 0 => some root
  | k + 1 => (gat N root P k).bind fun r => if 0 ≤ gz P k ∧ gz P k < (gn N r).kids.length then some (gz (gn N r).kids (gz P k).toNat).toNat else none
theorem gat_lt {N : List GN} (hN : GoodN N) {root : Nat} (hr : root < N.length) (P : List Int) : ∀ {k r : Nat}, gat N root P k = some r → r < N.length := by
  intro k
  induction k with
  | zero => intro r h; simp only [gat, Option.some.injEq] at h; omega
  | succ k ih =>
    intro r h
    simp only [gat] at h
    cases hk : gat N root P k with
    | none => rw [hk] at h; cases h
    | some q =>
      rw [hk] at h
      simp only [Option.bind_some] at h
      split at h
      · rename_i hc
        have hq := ih hk
        have := hN q hq (gz P k).toNat (by omega)
        simp only [Option.some.injEq] at h
        omega
      · cases h
theorem gat_none {N : List GN} {root : Nat} {P : List Int} {k m : Nat} (h : gat N root P k = none) (hm : k ≤ m) : gat N root P m = none := by
  induction m with
  | zero => rw [show k = 0 by omega] at h; exact h
  | succ m ih =>
    rcases Nat.lt_or_ge k (m + 1) with h' | h'
    · simp only [gat, ih (by omega)]; rfl
    · rw [show k = m + 1 by omega] at h; exact h
/-- The nodes on the way. -/
def gways (N : List GN) (root : Nat) (P : List Int) (k : Nat) : List Int := (List.range (k + 1)).map fun j => (((gat N root P j).getD 0 : Nat) : Int)
theorem gways_succ (N : List GN) (root : Nat) (P : List Int) (k : Nat) : gways N root P (k + 1) = gways N root P k ++ [(((gat N root P (k + 1)).getD 0 : Nat) : Int)] := by
  unfold gways
  rw [List.range_succ, List.map_append]
  rfl
theorem gways_len (N : List GN) (root : Nat) (P : List Int) (k : Nat) : (gways N root P k).length = k + 1 := by simp [gways]
theorem gways_get (N : List GN) (root : Nat) (P : List Int) (k j : Nat) (h : j ≤ k) : gz (gways N root P k) j = (((gat N root P j).getD 0 : Nat) : Int) := by
  rw [gz_eq (by rw [gways_len]; omega)]
  simp [gways]

set_option maxRecDepth 100000 in
set_option maxHeartbeats 4000000 in
theorem way54 {w : World} {B ga : Nat} {N : List GN} (h : Arena w B ga N) (hN : GoodN N) (root : Nat) (hroot : root < N.length) (A : Option Addr) (m c : Nat) (P : List Int) (hP : Rd w w.heap.size 1 A m c (ints .i64 P)) (hm : m ≤ 4096) :
    Calls Tryz.prog 171 #[.pointer (some ⟨ga, 0, none⟩), .int .i64 root, .slice A m c] w fun e w' =>
      ((∃ A' c', e = .returned (.tuple #[.slice A' (m + 1) c', .bool true]) ∧ (∃ r, gat N root P m = some r) ∧ w'.ownsRow w.heap.size 3 1 (.slice A' (m + 1) c') (m + 1) (ints .i64 (gways N root P m))) ∨
        (e = .returned (.tuple #[.slice none 0 0, .bool false]) ∧ gat N root P m = none)) ∧ Below w.heap.size w w' := by
  have HL := Lib.hid hP.int_len
  have C17 := len17 h
  have t0 : decide ((N.length : Int) ≤ (root : Int)) = false := by simp; omega
  have h0 := World.ownsRow_lit (base := w.heap.size) (e := 3) (size := 1) w #[.int .i64 (root : Nat)] 1 (Nat.le_refl _) (by simp [maxLen]) rfl
  have HGN := Lib.hid hN
  obtain ⟨g, cg, bv, kv, hs, hnode⟩ := h.node
  have HS := Lib.hid (hs (by omega))
  have HN := Lib.hid hnode
  have hga := h.lt
  clear hs hnode h hN
  go_enter Tryz.func171, Tryz.ntmps171
  go_wp2_with (go_at_call 36; refine C17.mono ?_; rintro e w1 ⟨rfl, rfl⟩; clear C17)
  go_loopw [1, 8, 24] (fun r0 out i wr => ∃ k r : Nat, k ≤ m ∧ i = .int .i64 k ∧ r0 = .int .i64 r ∧ Hid (gat N root P k = some r) ∧ wr.ownsRow w.heap.size 3 1 out (k + 1) (ints .i64 (gways N root P k)) ∧ Below w.heap.size w wr)
    (fun _ _ i _ => m - (intOf i).toNat)
  case atStart => exact ⟨0, root, Nat.zero_le _, rfl, rfl, Lib.hid rfl, h0, (Below.refl _ _).alloc (Nat.le_refl _) _⟩
  case round =>
    obtain ⟨k, r, hk, rfl, rfl, HK, hown, hb⟩ := hrel
    have hsz := hb.size
    by_cases hlt : k < m
    · obtain ⟨b, off, rfl, hbb, hc⟩ := (hP.below hb).int_form (by omega)
      have x0 := hc k hlt
      clear hc
      have hr := gat_lt HGN.out hroot P HK.out
      obtain ⟨n0, _, _, _, _, n5, _, o6⟩ := HN.out r hr
      have hgl := World.block_lt_of_cell? _ _ n0
      obtain ⟨A6, c6, hv6, ho6⟩ := own_form o6
      rw [hv6] at n5
      have e1 := (hb.cell (p := ⟨ga, 0, none⟩) hga).trans HS.out
      have m5 := (hb.cell (p := ⟨g, r * 6 + 5, none⟩) hgl).trans n5
      have hkids := (Rd.of_own ho6).below hb
      have hgk := HGN.out r hr
      by_cases hv : 0 ≤ gz P k ∧ gz P k < (gn N r).kids.length
      · have HG1 := Lib.hid (show gat N root P (k + 1) = some (gz (gn N r).kids (gz P k).toNat).toNat by simp only [gat, HK.out, Option.bind_some, if_pos hv])
        obtain ⟨j, hj⟩ := Int.eq_ofNat_of_zero_le hv.1
        have hjl : j < (gn N r).kids.length := by omega
        obtain ⟨b6, o6', rfl, _, hc6⟩ := hkids.int_form (by omega)
        have x6 := hc6 j hjl
        have hq := hgk j hjl
        clear hc6 hkids
        rw [hj] at x0 HG1
        obtain ⟨q, hq'⟩ := Int.eq_ofNat_of_zero_le hq.1
        rw [show ((j : Nat) : Int).toNat = j from rfl, hq', show ((q : Nat) : Int).toNat = q from rfl] at HG1
        rw [hq'] at x6
        have HGW := Lib.hid (gways_succ N root P k)
        clear n0 n5 o6 hv6 ho6 hgk hq hq' hv hj
        generalize (gn N r).kids.length = kl at *
        go_wp2_with (at_builtin; refine wpList_push st25 rfl _ _ rfl _ rfl hown [.int .i64 (q : Nat)] wr.heap.size rfl rfl rfl (by simp [Value.oneCell']) (by omega) (by omega) hb hsz ?_; intro v1 w2 hown2 hb2 _; clear hown)
        go_roundw
        case rel => exact ⟨_, _, _, _, _, _, _, ⟨k + 1, by omega, (by go_num : Value.int .i64 ((k : Int) + 1) = .int .i64 ((k + 1 : Nat) : Int)), q, rfl, HG1, own_as hown2 rfl (by rw [HGW.out, HG1.out, ints_snoc]; rfl)⟩, rfl, rfl, rfl, rfl, rfl, rfl, rfl⟩
        case measure => simp [intOf]; omega
      · have HG0 := Lib.hid (gat_none (m := m) (show gat N root P (k + 1) = none by simp only [gat, HK.out, Option.bind_some, if_neg hv]) (by omega))
        have hcase : decide (gz P k < 0) = true ∨ (decide (gz P k < 0) = false ∧ decide (((gn N r).kids.length : Int) ≤ gz P k) = true) := by simp; omega
        clear n0 n5 o6 hv6 ho6 hgk hv hkids
        generalize (gn N r).kids.length = kl at *
        generalize gz P k = z at x0 hcase
        rcases hcase with t1 | ⟨t1, t2⟩
        all_goals
          go_wp2_with fail
          go_ret2
          exact ⟨.inr ⟨rfl, HG0.out⟩, hb⟩
    · obtain rfl : k = m := by omega
      go_wp2_with fail
      go_ret2
      obtain ⟨A', c', hv, ho⟩ := own_form hown
      subst hv
      exact ⟨.inl ⟨A', c', rfl, ⟨r, HK.out⟩, ho⟩, hb⟩
end Go.Proofs.YtibakihcicfeoaaGreat
/- The walk of an arena's At. No condition. -/
namespace Go.Proofs.YtibakihcicfeoaaGreat
open Go.RowKit

theorem at20_some {w : World} {ga root m c : Nat} {N : List GN} {A : Option Addr} {P : List Int} {r : Nat} (hr : gat N root P m = some r) (hm : m ≤ 4096)
    (C : Calls Tryz.prog 171 #[.pointer (some ⟨ga, 0, none⟩), .int .i64 root, .slice A m c] w fun e w' => ∃ A' c', e = .returned (.tuple #[.slice A' (m + 1) c', .bool true]) ∧ w'.ownsRow w.heap.size 3 1 (.slice A' (m + 1) c') (m + 1) (ints .i64 (gways N root P m)) ∧ Below w.heap.size w w') :
    Calls Tryz.prog 115 #[.pointer (some ⟨ga, 0, none⟩), .int .i64 root, .slice A m c] w fun e w' => e = .returned (.tuple #[.int .i64 r, .bool true]) ∧ Below w.heap.size w w' := by
  have t0 : IntKind.i64.wrap ((m : Int) + 1 - 1) = (m : Int) := by rw [show (m : Int) + 1 - 1 = m by omega]; exact IntWalk.i64_in _ (by omega)
  have hg := gways_get N root P m m (Nat.le_refl _)
  rw [hr] at hg
  have HG := Lib.hid hg
  clear hg hr
  go_enter Tryz.func115, Tryz.ntmps115
  go_wp2_with (go_at_call 171; refine C.mono ?_; rintro e w1 ⟨A', c', rfl, ho, hb⟩; clear C; obtain ⟨b, off, rfl, _, hc⟩ := (Rd.of_own ho).int_form (by omega); have x0 := hc m (by omega); rw [HG.out] at x0; clear hc ho)
  go_ret2
  exact ⟨rfl, hb⟩
theorem at20_none {w : World} {ga root m c : Nat} {A : Option Addr}
    (C : Calls Tryz.prog 171 #[.pointer (some ⟨ga, 0, none⟩), .int .i64 root, .slice A m c] w fun e w' => e = .returned (.tuple #[.slice none 0 0, .bool false]) ∧ Below w.heap.size w w') :
    Calls Tryz.prog 115 #[.pointer (some ⟨ga, 0, none⟩), .int .i64 root, .slice A m c] w fun e w' => e = .returned (.tuple #[.int .i64 0, .bool false]) ∧ Below w.heap.size w w' := by
  go_enter Tryz.func115, Tryz.ntmps115
  go_wp2_with (go_at_call 171; refine C.mono ?_; rintro e w1 ⟨rfl, hb⟩; clear C)
  go_ret2
  exact ⟨rfl, hb⟩
theorem at20 {w : World} {B ga : Nat} {N : List GN} (h : Arena w B ga N) (hN : GoodN N) (root : Nat) (hroot : root < N.length) (A : Option Addr) (m c : Nat) (P : List Int) (hP : Rd w w.heap.size 1 A m c (ints .i64 P)) (hm : m ≤ 4096) :
    Calls Tryz.prog 115 #[.pointer (some ⟨ga, 0, none⟩), .int .i64 root, .slice A m c] w fun e w' =>
      ((∃ r : Nat, e = .returned (.tuple #[.int .i64 r, .bool true]) ∧ gat N root P m = some r) ∨ (e = .returned (.tuple #[.int .i64 0, .bool false]) ∧ gat N root P m = none)) ∧ Below w.heap.size w w' := by
  have C := way54 h hN root hroot A m c P hP hm
  cases hr : gat N root P m with
  | none =>
    refine (at20_none (C.mono ?_)).mono ?_
    · rintro e w' ⟨⟨A', c', _, ⟨r, h'⟩, _⟩ | ⟨rfl, _⟩, hb⟩
      · rw [hr] at h'; cases h'
      · exact ⟨rfl, hb⟩
    · rintro e w' ⟨rfl, hb⟩
      exact ⟨.inr ⟨rfl, rfl⟩, hb⟩
  | some r =>
    refine (at20_some hr hm (C.mono ?_)).mono ?_
    · rintro e w' ⟨⟨A', c', rfl, _, ho⟩ | ⟨_, h'⟩, hb⟩
      · exact ⟨A', c', rfl, ho, hb⟩
      · rw [hr] at h'; cases h'
    · rintro e w' ⟨rfl, hb⟩
      exact ⟨.inl ⟨r, rfl, rfl⟩, hb⟩
end Go.Proofs.YtibakihcicfeoaaGreat
/- What a node prints, in plain words. No condition. -/
namespace Go.Proofs.YtibakihcicfeoaaGreat
open Go.RowKit

/-- What a node prints, d steps deep. -/
def prF (N : List GN) : Nat → Int → List Int
  | 0, _ => []
  | d + 1, z => (gn N z.toNat).b ++ (gn N z.toNat).kids.flatMap (prF N d)
/-- How many nodes its tree has, d steps deep. -/
def szF (N : List GN) : Nat → Int → Nat
  | 0, _ => 0
  | d + 1, z => 1 + ((gn N z.toNat).kids.map (szF N d)).sum
/-- The kids of a node there is, as a list. -/
theorem good_kid {N : List GN} (hN : GoodN N) {i : Nat} (hi : i < N.length) {z : Int} (hz : z ∈ (gn N i).kids) : 0 ≤ z ∧ z < i := by
  obtain ⟨j, hj, rfl⟩ := List.getElem_of_mem hz
  have := hN i hi j hj
  rw [gz_eq hj] at this
  exact this
theorem flatMap_ext {f g : Int → List Int} : ∀ (l : List Int), (∀ z ∈ l, f z = g z) → l.flatMap f = l.flatMap g
  | [], _ => rfl
  | a :: l, h => by
    rw [List.flatMap_cons, List.flatMap_cons, h a (List.mem_cons_self ..), flatMap_ext l (fun z hz => h z (List.mem_cons_of_mem _ hz))]
theorem prF_stable {N : List GN} (hN : GoodN N) : ∀ (d : Nat) (z : Int), 0 ≤ z → z < d → z < N.length → ∀ e, d ≤ e → prF N e z = prF N d z := by
  intro d
  induction d with
  | zero => intro z h0 h1; omega
  | succ d ih =>
    intro z h0 h1 h2 e he
    obtain ⟨e, rfl⟩ : ∃ e', e = e' + 1 := ⟨e - 1, by omega⟩
    show (gn N z.toNat).b ++ (gn N z.toNat).kids.flatMap (prF N e) = (gn N z.toNat).b ++ (gn N z.toNat).kids.flatMap (prF N d)
    congr 1
    refine flatMap_ext _ fun y hy => ?_
    have hk := good_kid hN (i := z.toNat) (by omega) hy
    exact ih y hk.1 (by omega) (by omega) e (by omega)
theorem szF_stable {N : List GN} (hN : GoodN N) : ∀ (d : Nat) (z : Int), 0 ≤ z → z < d → z < N.length → ∀ e, d ≤ e → szF N e z = szF N d z := by
  intro d
  induction d with
  | zero => intro z h0 h1; omega
  | succ d ih =>
    intro z h0 h1 h2 e he
    obtain ⟨e, rfl⟩ : ∃ e', e = e' + 1 := ⟨e - 1, by omega⟩
    show 1 + ((gn N z.toNat).kids.map (szF N e)).sum = 1 + ((gn N z.toNat).kids.map (szF N d)).sum
    congr 2
    refine List.map_congr_left fun y hy => ?_
    have hk := good_kid hN (i := z.toNat) (by omega) hy
    exact ih y hk.1 (by omega) (by omega) e (by omega)
/-- What a node prints; how many nodes its tree has. -/
def pr (N : List GN) (z : Int) : List Int := prF N N.length z
def sz (N : List GN) (z : Int) : Nat := szF N N.length z
theorem pr_eq {N : List GN} (hN : GoodN N) {z : Int} (h0 : 0 ≤ z) (h1 : z < N.length) : pr N z = (gn N z.toNat).b ++ (gn N z.toNat).kids.flatMap (pr N) := by
  unfold pr
  rw [← prF_stable hN N.length z h0 h1 h1 (N.length + 1) (by omega)]
  rfl
theorem sz_eq {N : List GN} (hN : GoodN N) {z : Int} (h0 : 0 ≤ z) (h1 : z < N.length) : sz N z = 1 + ((gn N z.toNat).kids.map (sz N)).sum := by
  unfold sz
  rw [← szF_stable hN N.length z h0 h1 h1 (N.length + 1) (by omega)]
  rfl
/-- Each node's width is the length of what it prints. -/
def WideN (N : List GN) : Prop := ∀ i, i < N.length → (gn N i).w = (pr N i).length

/-- What stands on the stack, the last one first, is still to be printed. -/
def todo (N : List GN) (s : List Int) : List Int := s.reverse.flatMap (pr N)
theorem todo_snoc (N : List GN) (s : List Int) (z : Int) : todo N (s ++ [z]) = pr N z ++ todo N s := by simp [todo]
/-- The kids from the last one down to the k-th one that print something. -/
def push (N : List GN) (kids : List Int) (k : Nat) : List Int := ((kids.drop k).filter fun z => decide (0 < (pr N z).length)).reverse
theorem push_all (N : List GN) (kids : List Int) : push N kids kids.length = [] := by simp [push]
theorem push_step (N : List GN) (kids : List Int) (k : Nat) (h : k < kids.length) : push N kids k = push N kids (k + 1) ++ (if 0 < (pr N (gz kids k)).length then [gz kids k] else []) := by
  unfold push
  rw [List.drop_eq_getElem_cons h, List.filter_cons, gz_eq h]
  split
  · rename_i hc
    rw [if_pos (by simpa using hc), List.reverse_cons]
  · rename_i hc
    rw [if_neg (by simpa using hc), List.append_nil]
theorem todo_push (N : List GN) (s kids : List Int) : todo N (s ++ push N kids 0) = kids.flatMap (pr N) ++ todo N s := by
  unfold todo push
  rw [List.reverse_append, List.reverse_reverse, List.flatMap_append, List.drop_zero]
  congr 1
  induction kids with
  | nil => rfl
  | cons a l ih =>
    rw [List.filter_cons, List.flatMap_cons]
    split
    · rw [List.flatMap_cons, ih]
    · rename_i hc
      have : pr N a = [] := by
        have : ¬ 0 < (pr N a).length := by simpa using hc
        exact List.eq_nil_of_length_eq_zero (by omega)
      rw [ih, this, List.nil_append]
end Go.Proofs.YtibakihcicfeoaaGreat
/- The walk of an arena's Print. No condition. -/
namespace Go.Proofs.YtibakihcicfeoaaGreat
open Go.RowKit

theorem ints_inj {k : IntKind} : ∀ {a b : List Int}, ints k a = ints k b → a = b
  | [], [], _ => rfl
  | [], _ :: _, h => by simp at h
  | _ :: _, [], h => by simp at h
  | x :: a, y :: b, h => by
    simp only [ints, List.map_cons, List.cons.injEq, Value.int.injEq, true_and] at h
    rw [h.1, ints_inj h.2]
theorem own_uniq {w : World} {B : Nat} {e : TypeId} {v : Value} {a b : List Int} (h1 : w.ownsRow B e 1 v a.length (ints .i64 a)) (h2 : w.ownsRow B e 1 v b.length (ints .i64 b)) : a = b := by
  obtain ⟨_, ⟨rfl, hn⟩ | ⟨g, cap, cur, rfl, _, hg, _, _, _, ht⟩⟩ := h1
  · obtain ⟨_, ⟨_, hm⟩ | ⟨g', cap', cur', hv', _⟩⟩ := h2
    · rw [List.eq_nil_of_length_eq_zero hn, List.eq_nil_of_length_eq_zero hm]
    · cases hv'
  · obtain ⟨_, ⟨hv', _⟩ | ⟨g', cap', cur', hv', _, hg', _, _, _, ht'⟩⟩ := h2
    · cases hv'
    · simp only [Value.slice.injEq, Option.some.injEq, Addr.mk.injEq, and_true] at hv'
      obtain ⟨rfl, hl, _⟩ := hv'
      rw [hg] at hg'
      simp only [Option.some.injEq, Obj.cells.injEq, and_true] at hg'
      subst hg'
      rw [← hl] at ht'
      exact ints_inj (ht.symm.trans ht')
/-- How many nodes are still to be gone through, by what the stack holds. -/
theorem left_ex (N : List GN) (B : Nat) : ∃ left : Value → World → Nat, ∀ v w (s : List Int), w.ownsRow B 3 1 v s.length (ints .i64 s) → left v w = (s.map (sz N)).sum := by
  classical
  refine ⟨fun v w => if h : ∃ s : List Int, w.ownsRow B 3 1 v s.length (ints .i64 s) then ((Classical.choose h).map (sz N)).sum else 0, fun v w s h => ?_⟩
  have hx : ∃ s : List Int, w.ownsRow B 3 1 v s.length (ints .i64 s) := ⟨s, h⟩
  show (if h : ∃ s : List Int, w.ownsRow B 3 1 v s.length (ints .i64 s) then ((Classical.choose h).map (sz N)).sum else 0) = _
  rw [dif_pos hx, own_uniq (Classical.choose_spec hx) h]
theorem todo_len {N : List GN} : ∀ {s : List Int}, (∀ z ∈ s, 1 ≤ (pr N z).length) → s.length ≤ (todo N s).length := by
  intro s
  induction s with
  | nil => intro _; simp
  | cons a l ih =>
    intro h
    have h1 := h a (by simp)
    have h2 := ih (fun z hz => h z (by simp [hz]))
    have : todo N (a :: l) = todo N l ++ pr N a := by simp [todo]
    rw [this, List.length_append, List.length_cons]
    omega
theorem sum_push (N : List GN) (kids : List Int) : ((push N kids 0).map (sz N)).sum ≤ (kids.map (sz N)).sum := by
  unfold push
  rw [List.map_reverse, List.sum_reverse, List.drop_zero]
  induction kids with
  | nil => simp
  | cons a l ih =>
    rw [List.filter_cons]
    split
    · simp only [List.map_cons, List.sum_cons]; omega
    · simp only [List.map_cons, List.sum_cons]; omega

theorem mem_push {N : List GN} {kids : List Int} {k : Nat} {z : Int} (h : z ∈ push N kids k) : z ∈ kids ∧ 1 ≤ (pr N z).length := by
  unfold push at h
  rw [List.mem_reverse, List.mem_filter] at h
  exact ⟨List.mem_of_mem_drop h.1, by have := h.2; simp at this; omega⟩
theorem push_less (N : List GN) (s kids : List Int) (i : Int) (h : sz N i = 1 + (kids.map (sz N)).sum) : ((s ++ push N kids 0).map (sz N)).sum < ((s ++ [i]).map (sz N)).sum := by
  have := sum_push N kids
  rw [List.map_append, List.map_append, List.sum_append, List.sum_append, List.map_singleton, List.sum_singleton]
  omega
set_option maxRecDepth 100000 in
set_option maxHeartbeats 8000000 in
theorem print19_in {w : World} {B ga : Nat} {N : List GN} (h : Arena w B ga N) (hN : GoodN N) (hW : WideN N) (n : Nat) (hn : n < N.length) (hp : (pr N n).length ≤ 65536) (hk : ∀ i, i < N.length → (gn N i).kids.length ≤ 65536) :
    Calls Tryz.prog 16 #[.pointer (some ⟨ga, 0, none⟩), .int .i64 n] w (OwnSaid 5 (pr N n).length (ints .u8 (pr N n)) w) := by
  unfold OwnSaid
  have C17 := len17 h
  have t0 : decide ((N.length : Int) ≤ (n : Int)) = false := by simp; omega
  obtain ⟨g, cg, bv, kv, hs, hnode⟩ := h.node
  have HS := Lib.hid (hs (by omega))
  have HN := Lib.hid hnode
  have HG := Lib.hid hN
  have HWI := Lib.hid hW
  have HKL := Lib.hid hk
  have hga := h.lt
  have h0 := World.ownsRow_lit (base := w.heap.size) (e := 3) (size := 1) w #[.int .i64 (n : Nat)] 1 (Nat.le_refl _) (by simp [maxLen]) rfl
  obtain ⟨left, hleft⟩ := left_ex N w.heap.size
  have HLE := Lib.hid hleft
  clear h hs hnode hN hW hk hleft
  go_enter Tryz.func16, Tryz.ntmps16
  go_wp2_with (go_at_call 36; refine C17.mono ?_; rintro e w1 ⟨rfl, rfl⟩; clear C17)
  go_loopw [5, 6] (fun out st wr => ∃ (s acc : List Int), Hid (acc ++ todo N s = pr N n) ∧ Hid (∀ z ∈ s, 0 ≤ z ∧ z < (N.length : Int)) ∧ Hid ((∀ z ∈ s, 1 ≤ (pr N z).length) ∨ s.length ≤ 1) ∧ wr.ownsRow w.heap.size 5 1 out acc.length (ints .u8 acc) ∧ wr.ownsRow w.heap.size 3 1 st s.length (ints .i64 s) ∧ Below w.heap.size w wr)
    (fun _ st wr => left st wr)
  case atStart => exact ⟨[(n : Int)], [], Lib.hid (by simp [todo]), Lib.hid (fun z hz => by simp at hz; omega), Lib.hid (.inr (by simp)), World.ownsRow_nil _ _ _ _, h0, (Below.refl _ _).alloc (Nat.le_refl _) _⟩
  case round =>
    obtain ⟨s, acc, HA, HB, HC, ho5, ho3, hb⟩ := hrel
    have hsz := hb.size
    rcases List.eq_nil_or_concat s with rfl | ⟨s', x, rfl⟩
    · have hacc : acc = pr N n := by rw [← HA.out]; simp [todo]
      subst hacc
      obtain ⟨A3, c3, rfl, _⟩ := own_form ho3
      go_wp2_with fail
      go_ret
      obtain ⟨A5, c5, hv, ho⟩ := own_form ho5
      subst hv
      exact ⟨A5, c5, rfl, ho, hb⟩
    · have hx := HB.out x (by simp)
      obtain ⟨i, rfl⟩ := Int.eq_ofNat_of_zero_le hx.1
      have hiN : i < N.length := by omega
      rw [List.concat_eq_append] at ho3
      have hpr1 := HA.out
      rw [List.concat_eq_append, todo_snoc] at hpr1
      have ho3' : wr.ownsRow w.heap.size 3 1 u6 (s'.length + 1) (ints .i64 s' ++ [.int .i64 (i : Nat)]) := own_as ho3 (by simp) (by rw [ints_snoc])
      obtain ⟨gs, cap, cur, rfl, hBg, hgs, hnc, hcm, hcs, htk⟩ : ∃ gs cap cur, u6 = .slice (some ⟨gs, 0, none⟩) (s'.length + 1) cap ∧ w.heap.size ≤ gs ∧ wr.heap[gs]? = some (.cells cur 3 (0, 0)) ∧ s'.length + 1 ≤ cap ∧ cap ≤ maxLen ∧ cur.size = cap * 1 ∧ cur.toList.take ((s'.length + 1) * 1) = ints .i64 s' ++ [.int .i64 (i : Nat)] := by
        rcases ho3'.2 with ⟨_, hz⟩ | ⟨gs, cap, cur, hv, r⟩
        · omega
        · exact ⟨gs, cap, cur, hv, r⟩
      have z1 : wr.cell? ⟨gs, s'.length, none⟩ = some (.int .i64 (i : Nat)) := by
        have := World.ownsRow.cells ho3' (g := gs) rfl s'.length (.int .i64 (i : Nat)) (by simp [ints])
        rw [add_none, Nat.zero_add] at this
        exact this
      have hpop : wr.ownsRow w.heap.size 3 1 (.slice (some ⟨gs, 0, none⟩) s'.length cap) s'.length (ints .i64 s') := ownsRow_pop (last := [.int .i64 (i : Nat)]) (by simp) ho3'
      have hml : (left (.slice (some ⟨gs, 0, none⟩) (s'.length + 1) cap) wr) = ((s' ++ [(i : Int)]).map (sz N)).sum := HLE.out _ _ _ ho3
      have HML := Lib.hid hml
      obtain ⟨n0, n1, n2, n3, n4, n5, o5, o6⟩ := HN.out i hiN
      have hgl := World.block_lt_of_cell? _ _ n0
      obtain ⟨A5, c5, hv5, hb5⟩ := own_form o5
      obtain ⟨A6, c6, hv6, hk6⟩ := own_form o6
      rw [hv5] at n4
      rw [hv6] at n5
      have e1 := (hb.cell (p := ⟨ga, 0, none⟩) hga).trans HS.out
      have m0 := (hb.cell (p := ⟨g, i * 6, none⟩) hgl).trans n0
      have m1 := (hb.cell (p := ⟨g, i * 6 + 1, none⟩) hgl).trans n1
      have m2 := (hb.cell (p := ⟨g, i * 6 + 2, none⟩) hgl).trans n2
      have m3 := (hb.cell (p := ⟨g, i * 6 + 3, none⟩) hgl).trans n3
      have m4 := (hb.cell (p := ⟨g, i * 6 + 4, none⟩) hgl).trans n4
      have m5 := (hb.cell (p := ⟨g, i * 6 + 5, none⟩) hgl).trans n5
      have hb5' := hb5
      have hk6' := hk6
      clear hb5 hk6
      have hpi := pr_eq HG.out (z := (i : Int)) (by omega) (by omega)
      rw [show ((i : Nat) : Int).toNat = i from rfl] at hpi
      have hlen := congrArg List.length hpr1
      rw [List.length_append, List.length_append, hpi, List.length_append] at hlen
      have hsl : s'.length ≤ 65536 := by
        rcases HC.out with h1 | h1
        · have := todo_len (N := N) (s := s') (fun z hz => h1 z (by simp [hz]))
          omega
        · rw [List.concat_eq_append, List.length_append, List.length_singleton] at h1; omega
      have hbl : acc.length + (gn N i).b.length ≤ 65536 := by omega
      have t1 : IntKind.i64.wrap ((s'.length : Int) + 1 - 1) = (s'.length : Int) := by rw [show (s'.length : Int) + 1 - 1 = s'.length by omega]; exact IntWalk.i64_in _ (by omega)
      have t2 : IntKind.i64.wrap (s'.length : Int) = (s'.length : Int) := IntWalk.i64_in _ (by omega)
      have hlc : s'.length ≤ cap := by omega
      have t3 : (s'.length : Int) < (s'.length : Int) + 1 := by omega
      have t4 : (i : Int) < (N.length : Int) := by omega
      clear n0 n1 n2 n3 n4 n5 o5 o6 hv5 hv6 hml ho3' htk hcs hgs hnc
      go_wp2_with fail
      refine wp_region_held_drew (S := fun W => W.cell? ⟨ga, 0, none⟩ = some (.slice (some ⟨g, 0, none⟩) N.length cg) ∧ W.cell? ⟨gs, s'.length, none⟩ = some (.int .i64 (i : Nat)) ∧ W.cell? ⟨g, i * 6, none⟩ = some (.int .i64 (gn N i).kind) ∧ W.cell? ⟨g, i * 6 + 1, none⟩ = some (.int .i64 (gn N i).w) ∧ W.cell? ⟨g, i * 6 + 2, none⟩ = some (.int .i64 (gn N i).cnt) ∧ W.cell? ⟨g, i * 6 + 3, none⟩ = some (.bool (gn N i).leaf) ∧ W.cell? ⟨g, i * 6 + 4, none⟩ = some (.slice A5 (gn N i).b.length c5) ∧ W.cell? ⟨g, i * 6 + 5, none⟩ = some (.slice A6 (gn N i).kids.length c6)) (by kernel_rfl) ⟨e1, z1, m0, m1, m2, m3, m4, m5⟩ (fun hHeld => ?_)
      change wpAnyH _ _ _ _ _ 14 #[false, false, false, false, false, false, false, false, false, false, false, false, false, false] _ _
      refine wpAnyH_take (i := 0) (oi := _) (v := ?_) rfl (by kernel_rfl) (by kernel_rfl) (by kernel_rfl) (fun _ _ _ h => h) (Or.inl ⟨by rfl, ?_⟩) hHeld ?_
      rotate_left
      · intro w9 hSw; obtain ⟨s0, s1, s2, s3, s4, s5, s6, s7⟩ := hSw; go_simp; (try with_reducible rfl)
      simp only [List.getElem_toArray, List.getElem_cons_zero, Act.put, List.setIfInBounds_toArray, List.set_cons_zero, List.set_cons_succ]
      refine wpAnyH_take (i := 1) (oi := _) (v := ?_) rfl (by kernel_rfl) (by kernel_rfl) (by kernel_rfl) (fun _ _ _ h => h) (Or.inl ⟨by rfl, ?_⟩) hHeld ?_
      rotate_left
      · intro w9 hSw; obtain ⟨s0, s1, s2, s3, s4, s5, s6, s7⟩ := hSw; go_simp; (try with_reducible rfl)
      simp only [List.getElem_toArray, List.getElem_cons_zero, List.getElem_cons_succ, Act.put, List.setIfInBounds_toArray, List.set_cons_zero, List.set_cons_succ]
      refine wpAnyH_take (i := 2) (oi := _) (v := ?_) rfl (by kernel_rfl) (by kernel_rfl) (by kernel_rfl) (fun _ _ _ h => h) (Or.inl ⟨by rfl, ?_⟩) hHeld ?_
      rotate_left
      · intro w9 hSw; obtain ⟨s0, s1, s2, s3, s4, s5, s6, s7⟩ := hSw; go_simp; (try with_reducible rfl)
      simp only [List.getElem_toArray, List.getElem_cons_zero, List.getElem_cons_succ, Act.put, List.setIfInBounds_toArray, List.set_cons_zero, List.set_cons_succ]
      refine wpAnyH_take (i := 3) (oi := _) (v := ?_) rfl (by kernel_rfl) (by kernel_rfl) (by kernel_rfl) (fun _ _ _ h => h) (Or.inl ⟨by rfl, ?_⟩) hHeld ?_
      rotate_left
      · intro w9 hSw; obtain ⟨s0, s1, s2, s3, s4, s5, s6, s7⟩ := hSw; go_simp; (try with_reducible rfl)
      simp only [List.getElem_toArray, List.getElem_cons_zero, List.getElem_cons_succ, Act.put, List.setIfInBounds_toArray, List.set_cons_zero, List.set_cons_succ]
      refine wpAnyH_take (i := 4) (oi := _) (v := ?_) rfl (by kernel_rfl) (by kernel_rfl) (by kernel_rfl) (fun _ _ _ h => h) (Or.inl ⟨by rfl, ?_⟩) hHeld ?_
      rotate_left
      · intro w9 hSw; obtain ⟨s0, s1, s2, s3, s4, s5, s6, s7⟩ := hSw; go_simp; (try with_reducible rfl)
      simp only [List.getElem_toArray, List.getElem_cons_zero, List.getElem_cons_succ, Act.put, List.setIfInBounds_toArray, List.set_cons_zero, List.set_cons_succ]
      refine wpAnyH_take (i := 5) (oi := _) (v := ?_) rfl (by kernel_rfl) (by kernel_rfl) (by kernel_rfl) (fun _ _ _ h => h) (Or.inl ⟨by rfl, ?_⟩) hHeld ?_
      rotate_left
      · intro w9 hSw; obtain ⟨s0, s1, s2, s3, s4, s5, s6, s7⟩ := hSw; go_simp; (try with_reducible rfl)
      simp only [List.getElem_toArray, List.getElem_cons_zero, List.getElem_cons_succ, Act.put, List.setIfInBounds_toArray, List.set_cons_zero, List.set_cons_succ]
      refine wpAnyH_take (i := 6) (oi := _) (v := ?_) rfl (by kernel_rfl) (by kernel_rfl) (by kernel_rfl) (fun _ _ _ h => h) (Or.inl ⟨by rfl, ?_⟩) hHeld ?_
      rotate_left
      · intro w9 hSw; obtain ⟨s0, s1, s2, s3, s4, s5, s6, s7⟩ := hSw; go_simp; (try with_reducible rfl)
      simp only [List.getElem_toArray, List.getElem_cons_zero, List.getElem_cons_succ, Act.put, List.setIfInBounds_toArray, List.set_cons_zero, List.set_cons_succ]
      refine wpAnyH_take (i := 7) (oi := _) (v := ?_) rfl (by kernel_rfl) (by kernel_rfl) (by kernel_rfl) (fun _ _ _ h => h) (Or.inl ⟨by rfl, ?_⟩) hHeld ?_
      rotate_left
      · intro w9 hSw; obtain ⟨s0, s1, s2, s3, s4, s5, s6, s7⟩ := hSw; go_simp; (try with_reducible rfl)
      simp only [List.getElem_toArray, List.getElem_cons_zero, List.getElem_cons_succ, Act.put, List.setIfInBounds_toArray, List.set_cons_zero, List.set_cons_succ]
      refine wpAnyH_take (i := 8) (oi := _) (v := ?_) rfl (by kernel_rfl) (by kernel_rfl) (by kernel_rfl) (fun _ _ _ h => h) (Or.inl ⟨by rfl, ?_⟩) hHeld ?_
      rotate_left
      · intro w9 hSw; obtain ⟨s0, s1, s2, s3, s4, s5, s6, s7⟩ := hSw; go_simp; (try with_reducible rfl)
      simp only [List.getElem_toArray, List.getElem_cons_zero, List.getElem_cons_succ, Act.put, List.setIfInBounds_toArray, List.set_cons_zero, List.set_cons_succ]
      refine wpAnyH_take (i := 9) (oi := _) (v := ?_) rfl (by kernel_rfl) (by kernel_rfl) (by kernel_rfl) (fun _ _ _ h => h) (Or.inl ⟨by rfl, ?_⟩) hHeld ?_
      rotate_left
      · intro w9 hSw; obtain ⟨s0, s1, s2, s3, s4, s5, s6, s7⟩ := hSw; go_simp; (try with_reducible rfl)
      simp only [List.getElem_toArray, List.getElem_cons_zero, List.getElem_cons_succ, Act.put, List.setIfInBounds_toArray, List.set_cons_zero, List.set_cons_succ]
      refine wpAnyH_take (i := 10) (oi := _) (v := ?_) rfl (by kernel_rfl) (by kernel_rfl) (by kernel_rfl) (fun _ _ _ h => h) (Or.inl ⟨by rfl, ?_⟩) hHeld ?_
      rotate_left
      · intro w9 hSw; obtain ⟨s0, s1, s2, s3, s4, s5, s6, s7⟩ := hSw; go_simp; (try with_reducible rfl)
      simp only [List.getElem_toArray, List.getElem_cons_zero, List.getElem_cons_succ, Act.put, List.setIfInBounds_toArray, List.set_cons_zero, List.set_cons_succ]
      refine wpAnyH_take (i := 11) (oi := _) (v := ?_) rfl (by kernel_rfl) (by kernel_rfl) (by kernel_rfl) (fun _ _ _ h => h) (Or.inl ⟨by rfl, ?_⟩) hHeld ?_
      rotate_left
      · intro w9 hSw; obtain ⟨s0, s1, s2, s3, s4, s5, s6, s7⟩ := hSw; go_simp; (try with_reducible rfl)
      simp only [List.getElem_toArray, List.getElem_cons_zero, List.getElem_cons_succ, Act.put, List.setIfInBounds_toArray, List.set_cons_zero, List.set_cons_succ]
      refine wpAnyH_ready (rs := [12]) (by kernel_rfl) (by simp) ?_
      refine AllReadyH.cons (o := _) rfl (fun K hK => ?_) AllReadyH.nil
      go_simp
      obtain ⟨s0, s1, s2, s3, s4, s5, s6, s7⟩ := hHeld
      refine hK.out _ _ ⟨cell_old wr _ _ _ _ s0, cell_old wr _ _ _ _ s1, cell_old wr _ _ _ _ s2, cell_old wr _ _ _ _ s3, cell_old wr _ _ _ _ s4, cell_old wr _ _ _ _ s5, cell_old wr _ _ _ _ s6, cell_old wr _ _ _ _ s7⟩ (fun _ => ?_)
      clear hK
      refine wpAnyH_ready (rs := [13]) (by kernel_rfl) (by simp) ?_
      refine AllReadyH.cons (o := _) rfl (fun K hK => ?_) AllReadyH.nil
      go_simp
      refine hK.out _ _ ⟨cell_old wr _ _ _ _ s0, cell_old wr _ _ _ _ s1, cell_old wr _ _ _ _ s2, cell_old wr _ _ _ _ s3, cell_old wr _ _ _ _ s4, cell_old wr _ _ _ _ s5, cell_old wr _ _ _ _ s6, cell_old wr _ _ _ _ s7⟩ (fun _ => ?_)
      clear hK s0 s1 s2 s3 s4 s5 s6 s7 e1 z1 m0 m1 m2 m3 m4 m5
      refine wpAnyH_done (by kernel_rfl) ?_ _
      have HX := Lib.hid (heap_alloc_new wr (.cells #[.int .i64 (gn N i).kind, .int .i64 (gn N i).w, .int .i64 (gn N i).cnt, .bool (gn N i).leaf, .slice A5 (gn N i).b.length c5, .slice A6 (gn N i).kids.length c6] 62))
      have hbW := (hb.alloc hsz (.cells #[.int .i64 (gn N i).kind, .int .i64 (gn N i).w, .int .i64 (gn N i).cnt, .bool (gn N i).leaf, .slice A5 (gn N i).b.length c5, .slice A6 (gn N i).kids.length c6] 62)).drew
      have ho5 := (ho5.alloc (.cells #[.int .i64 (gn N i).kind, .int .i64 (gn N i).w, .int .i64 (gn N i).cnt, .bool (gn N i).leaf, .slice A5 (gn N i).b.length c5, .slice A6 (gn N i).kids.length c6] 62)).drew
      have hpop := (hpop.alloc (.cells #[.int .i64 (gn N i).kind, .int .i64 (gn N i).w, .int .i64 (gn N i).cnt, .bool (gn N i).leaf, .slice A5 (gn N i).b.length c5, .slice A6 (gn N i).kids.length c6] 62)).drew
      have hX2 : (wr.alloc (.cells #[.int .i64 (gn N i).kind, .int .i64 (gn N i).w, .int .i64 (gn N i).cnt, .bool (gn N i).leaf, .slice A5 (gn N i).b.length c5, .slice A6 (gn N i).kids.length c6] 62)).drew.heap[wr.heap.size]? = some (.cells #[.int .i64 (gn N i).kind, .int .i64 (gn N i).w, .int .i64 (gn N i).cnt, .bool (gn N i).leaf, .slice A5 (gn N i).b.length c5, .slice A6 (gn N i).kids.length c6] 62 (0, 0)) := HX.out
      clear HX
      generalize (wr.alloc (.cells #[.int .i64 (gn N i).kind, .int .i64 (gn N i).w, .int .i64 (gn N i).cnt, .bool (gn N i).leaf, .slice A5 (gn N i).b.length c5, .slice A6 (gn N i).kids.length c6] 62)).drew = W2 at *
      have HX := Lib.hid hX2
      have y4 : W2.cell? ⟨wr.heap.size, 4, none⟩ = some (.slice A5 (gn N i).b.length c5) := cell_of_row W2 _ 4 _ _ _ hX2
      clear hX2
      have hrb := (Rd.of_own hb5').below hbW
      have hrk := Rd.of_own hk6'
      have hsW := hbW.size
      have t5 : IntKind.i64.wrap (((gn N i).kids.length : Int) - 1) = ((gn N i).kids.length : Int) - 1 := IntWalk.i64_in _ (by have := HKL.out i hiN; omega)
      go_wp2_with (at_builtin; go_loud (refine wpList_pushesG st22 rfl _ _ rfl _ rfl ho5 rfl hrb (ints_cells _ _) (by omega) (by omega) hsW ?_); intro v5 w5 ho5b hg5; have hst := hpop.kept hg5 (own_apart ho5 hpop (by decide)); have hX5 := (hg5.block wr.heap.size (Array.getElem?_eq_some_iff.1 HX.out).1 (own_not ho5 HX.out (by decide))).trans HX.out; have hb5W := hbW.grown hg5 hsW (fun k hk => (ho5.lt k hk).1); have y5 : w5.cell? ⟨wr.heap.size, 5, none⟩ = some (.slice A6 (gn N i).kids.length c6) := cell_of_row w5 _ 5 _ _ _ hX5; have HX5 := Lib.hid hX5; clear hX5 hg5 hpop ho5)
      have HPR := Lib.hid (show (acc ++ (gn N i).b) ++ todo N (s' ++ push N (gn N i).kids 0) = pr N n by rw [todo_push, ← hpr1, hpi]; simp [List.append_assoc])
      have hs1 : ∀ z ∈ s', 1 ≤ (pr N z).length := by
        intro z hz
        rcases HC.out with h1 | h1
        · exact h1 z (by simp [hz])
        · rw [List.concat_eq_append, List.length_append, List.length_singleton] at h1
          have : s' = [] := List.eq_nil_of_length_eq_zero (by omega)
          rw [this] at hz; cases hz
      have HB2 := Lib.hid (show ∀ z ∈ s' ++ push N (gn N i).kids 0, 0 ≤ z ∧ z < (N.length : Int) by
        intro z hz
        rcases List.mem_append.1 hz with h1 | h1
        · exact HB.out z (by simp [h1])
        · have := good_kid HG.out hiN (mem_push h1).1
          omega)
      have HC2 := Lib.hid (show ∀ z ∈ s' ++ push N (gn N i).kids 0, 1 ≤ (pr N z).length by
        intro z hz
        rcases List.mem_append.1 hz with h1 | h1
        · exact hs1 z h1
        · exact (mem_push h1).2)
      have HLT := Lib.hid (push_less N s' (gn N i).kids (i : Int) (by rw [sz_eq HG.out (z := (i : Int)) (by omega) (by omega)]; rfl))
      have HPL := Lib.hid (show ∀ q, q ≤ (gn N i).kids.length → (s' ++ push N (gn N i).kids q).length ≤ 131072 by
        intro q hq
        have := HKL.out i hiN
        have h2 : (push N (gn N i).kids q).length ≤ (gn N i).kids.length := by
          unfold push
          rw [List.length_reverse]
          exact Nat.le_trans (List.length_filter_le _ _) (by rw [List.length_drop]; omega)
        rw [List.length_append]; omega)
      clear hpr1 hpi hlen hs1 HA HB HC
      have HKI := Lib.hid (fun (z : Int) (hz : z ∈ (gn N i).kids) => good_kid HG.out hiN hz)
      have hkl := HKL.out i hiN
      clear y4 t5 hb
      go_loopw [6, 8] (fun st kk w6 => ∃ q : Nat, q ≤ (gn N i).kids.length ∧ kk = .int .i64 ((q : Int) - 1) ∧ w6.ownsRow w.heap.size 5 1 v5 (acc.length + (gn N i).b.length) (ints .u8 acc ++ ints .u8 (gn N i).b) ∧ w6.ownsRow w.heap.size 3 1 st (s' ++ push N (gn N i).kids q).length (ints .i64 (s' ++ push N (gn N i).kids q)) ∧ Below w.heap.size w w6 ∧ Hid (w6.heap[wr.heap.size]? = some (.cells #[.int .i64 (gn N i).kind, .int .i64 (gn N i).w, .int .i64 (gn N i).cnt, .bool (gn N i).leaf, .slice A5 (gn N i).b.length c5, .slice A6 (gn N i).kids.length c6] 62 (0, 0))))
        (fun _ kk _ => (intOf kk + 1).toNat)
      case atStart => exact ⟨(gn N i).kids.length, Nat.le_refl _, rfl, ho5b, by rw [push_all, List.append_nil]; exact hst, hb5W, HX5⟩
      case round =>
        obtain ⟨q, hq, rfl, ho7, hst7, hb7, HX7⟩ := hrel
        have hs7 := hb7.size
        by_cases hq0 : q = 0
        · subst hq0
          obtain ⟨A3, c3, rfl, hst8⟩ := own_form hst7
          have HL7 := Lib.hid (HLE.out _ _ _ hst8)
          go_wp2_with fail
          go_roundw
          case rel =>
            iterate 57 apply Exists.intro
            refine ⟨⟨s' ++ push N (gn N i).kids 0, acc ++ (gn N i).b, HPR, HB2, Lib.hid (.inl HC2.out), own_as ho7 (by simp) (by simp [ints]), hst8, hb7⟩, ?_⟩
            rw [show decide (N.length ≤ n) = false by simp; omega, Bool.or_false]
          case measure =>
            show left (.slice A3 (s' ++ push N (gn N i).kids 0).length c3) _ < left (.slice (some ⟨gs, 0, none⟩) (s'.length + 1) cap) _
            rw [HL7.out, HML.out]
            exact HLT.out
        · obtain ⟨p, rfl⟩ : ∃ p, q = p + 1 := ⟨q - 1, by omega⟩
          rw [show ((p + 1 : Nat) : Int) - 1 = (p : Int) by omega]
          have hpk : p < (gn N i).kids.length := by omega
          obtain ⟨z, hz⟩ : ∃ z : Int, gz (gn N i).kids p = z := ⟨_, rfl⟩
          have hzm : z ∈ (gn N i).kids := by rw [← hz, gz_eq hpk]; exact List.getElem_mem _
          have hzk := HKI.out z hzm
          obtain ⟨y, rfl⟩ := Int.eq_ofNat_of_zero_le hzk.1
          have hyN : y < N.length := by omega
          obtain ⟨n0, n1, _⟩ := HN.out y hyN
          have hwy := HWI.out y hyN
          have e7 := (hb7.cell (p := ⟨ga, 0, none⟩) hga).trans HS.out
          have m7 := (hb7.cell (p := ⟨g, y * 6 + 1, none⟩) hgl).trans n1
          have y5 := (cell_of_row wr _ 5 _ _ _ HX7.out).trans (show _ = some (Value.slice A6 (gn N i).kids.length c6) from rfl)
          obtain ⟨b6, f6, rfl, hb6, hc6⟩ := hrk.int_form (by omega)
          have x6 := (hb7.cell (p := ⟨b6, f6 + p, none⟩) (World.block_lt_of_cell? _ _ (hc6 p hpk))).trans (hc6 p hpk)
          rw [hz] at x6
          have HPS := Lib.hid (push_step N (gn N i).kids p hpk)
          have hwz : (gn N y).w = (pr N (y : Int)).length := hwy
          have t6 : IntKind.i64.wrap ((p : Int) - 1) = (p : Int) - 1 := IntWalk.i64_in _ (by omega)
          have t7 : (y : Int) < (N.length : Int) := by omega
          have t8 : (p : Int) < ((gn N i).kids.length : Int) := by omega
          have hr64 := HPL.out (p + 1) hq
          clear n0 n1 hc6 hb6 hrk hrb hzm
          by_cases hpos : 0 < (pr N (y : Int)).length
          · have t9 : (0 : Int) < ((gn N y).w : Int) := by rw [hwz]; omega
            rw [hz, if_pos hpos] at HPS
            go_wp2_with fail
            go_quiet (fail)
            have hst7 : (wr.drewN nq).ownsRow w.heap.size 3 1 u6 _ _ := hst7
            have ho7 : (wr.drewN nq).ownsRow w.heap.size 5 1 v5 _ _ := ho7
            have hb7 : Below w.heap.size w (wr.drewN nq) := hb7.trans ⟨rfl, rfl, rfl, Nat.le_refl _, fun _ _ => rfl⟩
            have hs7 : w.heap.size ≤ (wr.drewN nq).heap.size := hs7
            have x6 : (wr.drewN nq).cell? _ = _ := x6
            have y5 : (wr.drewN nq).cell? _ = _ := y5
            have HX7 := Lib.hid (show (wr.drewN nq).heap[_]? = _ from HX7.out)
            have nl := own_form hst7
            generalize wr.drewN nq = W3 at *
            obtain ⟨A9, c9, rfl, hst7⟩ := nl
            go_wp2_with (at_builtin; go_loud (refine wpList_pushG st25 rfl _ _ rfl _ rfl hst7 [.int .i64 (y : Nat)] _ rfl rfl rfl (by simp [Value.oneCell']) (by omega) (by omega) hs7 ?_); intro v6 w6 ho6b hg6; have ho5c := ho7.kept hg6 (own_apart hst7 ho7 (by decide)); have hX6 := (hg6.block _ (Array.getElem?_eq_some_iff.1 HX7.out).1 (own_not hst7 HX7.out (by decide))).trans HX7.out; have HX8 := Lib.hid hX6; have hb6W := hb7.grown hg6 hs7 (fun k hk => (hst7.lt k hk).1); clear hX6 hg6 hst7 HX7 ho7)
            go_wp2_with fail
            refine ⟨⟨p, by omega, rfl, ho5c, own_as ho6b (by rw [HPS.out, ← List.append_assoc, List.length_append, List.length_append]; simp) (by rw [HPS.out, ← List.append_assoc]; simp [ints]), hb6W, HX8⟩, ?_⟩
            simp [intOf]
          · have t9 : decide ((0 : Int) < ((gn N y).w : Int)) = false := by rw [hwz]; simpa using hpos
            rw [hz, if_neg hpos, List.append_nil] at HPS
            go_wp2_with fail
            go_quiet (fail)
            go_wp2_with fail
            go_roundw
            case rel => exact ⟨p, by omega, rfl, ho7, by rw [HPS.out]; exact hst7, hb7.trans ⟨rfl, rfl, rfl, Nat.le_refl _, fun _ _ => rfl⟩, HX7⟩
            case measure => simp [intOf]
end Go.Proofs.YtibakihcicfeoaaGreat
/- The walks of an arena's Print, way, At, where there is no such node. No condition. -/
namespace Go.Proofs.YtibakihcicfeoaaGreat
open Go.RowKit

set_option maxRecDepth 100000 in
set_option maxHeartbeats 1000000 in
theorem print19_out {w : World} {B ga : Nat} {N : List GN} (h : Arena w B ga N) (n : Int) (hn : ¬ (0 ≤ n ∧ n < N.length)) : Calls Tryz.prog 16 #[.pointer (some ⟨ga, 0, none⟩), .int .i64 n] w fun e w' => e = .returned (.slice none 0 0) ∧ w = w' := by
  have C := len17 h
  clear h
  have hcase : decide (n < 0) = true ∨ (decide (n < 0) = false ∧ decide ((N.length : Int) ≤ n) = true) := by simp; omega
  clear hn
  rcases hcase with t0 | ⟨t0, t1⟩
  all_goals
    go_enter Tryz.func16, Tryz.ntmps16
    go_wp2_with (go_at_call 36; refine C.mono ?_; rintro e w1 ⟨rfl, rfl⟩; clear C)
    go_ret
    exact ⟨rfl, rfl⟩
set_option maxRecDepth 100000 in
set_option maxHeartbeats 1000000 in
theorem way54_out {w : World} {B ga : Nat} {N : List GN} (h : Arena w B ga N) (n : Int) (hn : ¬ (0 ≤ n ∧ n < N.length)) (A : Option Addr) (m c : Nat) : Calls Tryz.prog 171 #[.pointer (some ⟨ga, 0, none⟩), .int .i64 n, .slice A m c] w fun e w' => e = .returned (.tuple #[.slice none 0 0, .bool false]) ∧ w = w' := by
  have C := len17 h
  clear h
  have hcase : decide (n < 0) = true ∨ (decide (n < 0) = false ∧ decide ((N.length : Int) ≤ n) = true) := by simp; omega
  clear hn
  rcases hcase with t0 | ⟨t0, t1⟩
  all_goals
    go_enter Tryz.func171, Tryz.ntmps171
    go_wp2_with (go_at_call 36; refine C.mono ?_; rintro e w1 ⟨rfl, rfl⟩; clear C)
    go_ret2
    exact ⟨rfl, rfl⟩
theorem at20_out {w : World} {B ga : Nat} {N : List GN} (h : Arena w B ga N) (n : Int) (hn : ¬ (0 ≤ n ∧ n < N.length)) (A : Option Addr) (m c : Nat) : Calls Tryz.prog 115 #[.pointer (some ⟨ga, 0, none⟩), .int .i64 n, .slice A m c] w fun e w' => e = .returned (.tuple #[.int .i64 0, .bool false]) ∧ Below w.heap.size w w' := by
  have C := way54_out h n hn A m c
  clear h hn
  go_enter Tryz.func115, Tryz.ntmps115
  go_wp2_with (go_at_call 171; refine C.mono ?_; rintro e w1 ⟨rfl, rfl⟩; clear C)
  go_ret2
  exact ⟨rfl, Below.refl _ _⟩
end Go.Proofs.YtibakihcicfeoaaGreat
