import Derived.Test.YtiegbochpcmicaaA1
namespace Go.Proofs.Ytiegbochpcmicaa
open Go.RowKit

theorem st26 : ST Try.prog 26 29 3 24 := ST.mk' (z := .agg #[.int .i32 0, .int .i64 0, .int .i64 0]) Try.underlying26 (by kernel_rfl) rfl (by decide)
theorem is60t (u lo hi : Int) (w : World) (h : lo ≤ u ∧ u ≤ hi) : Calls Try.prog 60 #[.int .i64 u, .int .i64 lo, .int .i64 hi] w fun e w' => e = .returned (.bool true) ∧ w = w' :=
  (is60 u lo hi w).mono fun _ _ ⟨a, b⟩ => ⟨by rw [a, decide_eq_true h], b⟩
theorem is60f (u lo hi : Int) (w : World) (h : u < lo ∨ hi < u) : Calls Try.prog 60 #[.int .i64 u, .int .i64 lo, .int .i64 hi] w fun e w' => e = .returned (.bool false) ∧ w = w' :=
  (is60 u lo hi w).mono fun _ _ ⟨a, b⟩ => ⟨by rw [a, decide_eq_false (by omega)], b⟩

theorem ints_two {zs : List Int} {p : Nat} (h : p + 2 ≤ zs.length) : ((ints .u8 zs).drop (p * 1)).take (2 * 1) = ints .u8 [gz zs p, gz zs (p + 1)] := by
  apply List.ext_getElem?
  intro i
  match i with
  | 0 => simp [gz, List.getElem?_drop, List.getElem?_eq_getElem (show p < zs.length by omega)]
  | 1 => simp [gz, List.getElem?_drop, List.getElem?_eq_getElem (show p + 1 < zs.length by omega)]
  | i + 2 => simp; omega

/-- Two bytes of a slice, cut out, as the walk spells the cut. -/
theorem Rd.two {w : World} {B n c b off p : Nat} {zs : List Int} (h : Rd w B 1 (some ⟨b, off, none⟩) n c (ints .u8 zs)) (hp : p + 2 ≤ n) : Rd w B 1 (some ⟨b, off + p, none⟩) 2 (c - p) (ints .u8 [gz zs p, gz zs (p + 1)]) := by
  have hc := h.cap
  have hl := h.int_len
  have := h.cut (l := p) (k := p + 2) (m := c) (by omega) (by omega) (Nat.le_refl _) (by omega)
  rw [if_neg (by omega), show p + 2 - p = 2 by omega, ints_two (by omega)] at this
  simpa [add_none] using this

set_option maxRecDepth 100000 in
set_option maxHeartbeats 4000000 in
theorem items22 (A : Option Addr) (n c : Nat) (zs : List Int) (big : Bool) (w : World) (h : Rd w w.heap.size 1 A n c (ints .u8 zs)) (hz : Bytes8 zs) (hn : n ≤ 4096) :
    Calls Try.prog 22 #[.slice A n c, .bool big] w fun e w' => ∃ v, e = .returned v ∧ w'.ownsRow w.heap.size 29 3 v (wItems zs big).length (flat (wItems zs big)) ∧ Below w.heap.size w w' := by
  have HL := Lib.hid h.int_len
  have hcap := h.cap
  go_enter Try.func22, Try.ntmps22
  go_wp2_with fail
  go_loopw [5, 6] (fun out at_ wr => ∃ (k p : Nat) (acc : List It), Hid (wGo zs big k = (acc, p)) ∧ at_ = .int .i64 p ∧ wr.ownsRow w.heap.size 29 3 out acc.length (flat acc) ∧ Below w.heap.size w wr)
    (fun _ at_ _ => n - (intOf at_).toNat)
  case atStart => exact ⟨0, 0, [], rfl, rfl, World.ownsRow_nil _ _ _ _, Below.refl _ _⟩
  case round =>
    obtain ⟨k, p, acc, HP, rfl, hown, hb⟩ := hrel
    obtain ⟨hal, hpn⟩ := wGo_acc HP HL
    have hsz := hb.size
    by_cases hp : p < n
    · obtain ⟨b, off, rfl, hbb, hc⟩ := (h.below hb).int_form (by omega)
      have HR := Lib.hid (h.below hb); clear h hc
      by_cases h1 : p + 1 = n
      · have HE := wGo_next HP (by rw [HL.out]; exact hp) (r := -1) (m := 1) (by unfold wStep; rw [HL.out, if_pos h1])
        have HE := wGo_end HE HL (by omega)
        subst h1
        go_wp2_with (at_builtin; refine wpList_push st26 rfl _ _ rfl _ rfl hown [.int .i32 (-1), .int .i64 p, .int .i64 1] wr.heap.size rfl rfl rfl (flat_cells [(-1, p, 1)]) (by omega) (by omega) hb hsz ?_; intro v1 w1 hown1 hb1 hk1; clear hk1 hown)
        go_ret
        exact ⟨_, rfl, own_as hown1 (by rw [HE.out]; simp) (by rw [HE.out]; exact flat_snoc acc (-1, p, 1)), hb1⟩
      · have hcp : ¬ c = p := by omega
        have b0 := hz.at_ p
        have b1 := hz.at_ (p + 1)
        have CU := unit59 _ _ _ _ big wr _ (HR.out.two (p := p) (by omega)) b0 b1
        have hub := unitOf_bd (big := big) b0 b1
        generalize hu : unitOf big (gz zs p) (gz zs (p + 1)) = u at CU hub
        have HU := Lib.hid hu; clear hu
        obtain ⟨hu0, hu1⟩ := hub
        have hD := fun q o => alloc_drewN wr q o
        go_wp2_with (go_at_call 59; refine CU.mono ?_; rintro e w' ⟨rfl, q1, rfl⟩)
        clear CU b0 b1
        have hsz0 := hsz
        by_cases hlo : u < 55296 ∨ 57343 < u
        · have HS := wGo_next HP (by rw [HL.out]; exact hp) (r := u) (m := 2) (by unfold wStep; rw [HL.out, if_neg h1, HU.out, if_pos hlo])
          go_wp2_with (first | (go_at_call 60; refine (is60t _ _ _ _ (by omega)).mono ?_; rintro e w' ⟨rfl, rfl⟩) | (go_at_call 60; refine (is60f _ _ _ _ (by omega)).mono ?_; rintro e w' ⟨rfl, rfl⟩) | (go_at_call 59; refine (CV _ (((HR.out.drewN _).alloc hsz _).two (by omega))).mono ?_; rintro e w' ⟨rfl, q2, rfl⟩) | (at_builtin; refine wpList_push st26 rfl _ _ rfl _ rfl (own_drewN (hown.alloc _) _) [.int .i32 (u), .int .i64 p, .int .i64 2] (wr.heap.size + 1) rfl (by simp) rfl (flat_cells [(u, p, 2)]) (by omega) (by omega) (Below.drewN_ (hb.alloc hsz _) _) (by simp; omega) ?_; intro v1 w1 hown1 hb1 hk1; have hx1 := hk1 ⟨wr.heap.size, 2, none⟩ (.int .i64 2) (cell_in wr _ 2 _ _ rfl) (own_ne hown (Nat.le_refl _)); clear hk1 hown))
          go_roundw
          case rel => exact ⟨k + 1, p + 2, acc ++ [(u, p, 2)], HS, by go_num, own_as hown1 (by simp) (flat_snoc acc (u, p, 2)), hb1⟩
          case measure => simp [intOf]; omega
        · by_cases hmd : 56319 < u ∨ n < p + 4
          · have HS := wGo_next HP (by rw [HL.out]; exact hp) (r := -1) (m := 2) (by unfold wStep; rw [HL.out, if_neg h1, HU.out, if_neg hlo, if_pos hmd])
            by_cases hmd2 : 56319 < u
            · go_wp2_with (first | (go_at_call 60; refine (is60t _ _ _ _ (by omega)).mono ?_; rintro e w' ⟨rfl, rfl⟩) | (go_at_call 60; refine (is60f _ _ _ _ (by omega)).mono ?_; rintro e w' ⟨rfl, rfl⟩) | (go_at_call 59; refine (CV _ (((HR.out.drewN _).alloc hsz _).two (by omega))).mono ?_; rintro e w' ⟨rfl, q2, rfl⟩) | (at_builtin; refine wpList_push st26 rfl _ _ rfl _ rfl (own_drewN (hown.alloc _) _) [.int .i32 (-1), .int .i64 p, .int .i64 2] (wr.heap.size + 1) rfl (by simp) rfl (flat_cells [(-1, p, 2)]) (by omega) (by omega) (Below.drewN_ (hb.alloc hsz _) _) (by simp; omega) ?_; intro v1 w1 hown1 hb1 hk1; have hx1 := hk1 ⟨wr.heap.size, 2, none⟩ (.int .i64 2) (cell_in wr _ 2 _ _ rfl) (own_ne hown (Nat.le_refl _)); clear hk1 hown))
              go_roundw
              case rel => exact ⟨k + 1, p + 2, acc ++ [(-1, p, 2)], HS, by go_num, own_as hown1 (by simp) (flat_snoc acc (-1, p, 2)), hb1⟩
              case measure => simp [intOf]; omega
            · have hsh : ¬ ((p : Int) + 3 < (n : Int)) := by omega
              go_wp2_with (first | (go_at_call 60; refine (is60t _ _ _ _ (by omega)).mono ?_; rintro e w' ⟨rfl, rfl⟩) | (go_at_call 60; refine (is60f _ _ _ _ (by omega)).mono ?_; rintro e w' ⟨rfl, rfl⟩) | (go_at_call 59; refine (CV _ (((HR.out.drewN _).alloc hsz _).two (by omega))).mono ?_; rintro e w' ⟨rfl, q2, rfl⟩) | (at_builtin; refine wpList_push st26 rfl _ _ rfl _ rfl (own_drewN (hown.alloc _) _) [.int .i32 (-1), .int .i64 p, .int .i64 2] (wr.heap.size + 1) rfl (by simp) rfl (flat_cells [(-1, p, 2)]) (by omega) (by omega) (Below.drewN_ (hb.alloc hsz _) _) (by simp; omega) ?_; intro v1 w1 hown1 hb1 hk1; have hx1 := hk1 ⟨wr.heap.size, 2, none⟩ (.int .i64 2) (cell_in wr _ 2 _ _ rfl) (own_ne hown (Nat.le_refl _)); clear hk1 hown))
              go_roundw
              case rel => exact ⟨k + 1, p + 2, acc ++ [(-1, p, 2)], HS, by go_num, own_as hown1 (by simp) (flat_snoc acc (-1, p, 2)), hb1⟩
              case measure => simp [intOf]; omega
          · have hsh : (p : Int) + 3 < (n : Int) := by omega
            have hcp2 : ¬ c = p + 2 := by omega
            have b2 := hz.at_ (p + 2)
            have b3 := hz.at_ (p + 2 + 1)
            have CV := fun W (hW : Rd W w.heap.size 1 (some ⟨b, off + (p + 2), none⟩) 2 (c - (p + 2)) (ints .u8 [gz zs (p + 2), gz zs (p + 2 + 1)])) => unit59 _ _ _ _ big W _ hW b2 b3
            have hvb := unitOf_bd (big := big) b2 b3
            generalize hv : unitOf big (gz zs (p + 2)) (gz zs (p + 2 + 1)) = v at CV hvb
            have HV := Lib.hid hv; clear hv
            obtain ⟨hv0, hv1⟩ := hvb
            by_cases hlw : v < 56320 ∨ 57343 < v
            · have HS := wGo_next HP (by rw [HL.out]; exact hp) (r := -1) (m := 2) (by unfold wStep; rw [HL.out, if_neg h1, HU.out, if_neg (by omega), if_neg (by omega), show p + 3 = p + 2 + 1 by omega, HV.out, if_pos hlw])
              go_wp2_with (first | (go_at_call 60; refine (is60t _ _ _ _ (by omega)).mono ?_; rintro e w' ⟨rfl, rfl⟩) | (go_at_call 60; refine (is60f _ _ _ _ (by omega)).mono ?_; rintro e w' ⟨rfl, rfl⟩) | (go_at_call 59; refine (CV _ (((HR.out.drewN _).alloc hsz _).two (by omega))).mono ?_; rintro e w' ⟨rfl, q2, rfl⟩) | (at_builtin; refine wpList_push st26 rfl _ _ rfl _ rfl (own_drewN (hown.alloc _) _) [.int .i32 (-1), .int .i64 p, .int .i64 2] (wr.heap.size + 1) rfl (by simp) rfl (flat_cells [(-1, p, 2)]) (by omega) (by omega) (Below.drewN_ (hb.alloc hsz _) _) (by simp; omega) ?_; intro v1 w1 hown1 hb1 hk1; have hx1 := hk1 ⟨wr.heap.size, 2, none⟩ (.int .i64 2) (cell_in wr _ 2 _ _ rfl) (own_ne hown (Nat.le_refl _)); clear hk1 hown))
              go_roundw
              case rel => exact ⟨k + 1, p + 2, acc ++ [(-1, p, 2)], HS, by go_num, own_as hown1 (by simp) (flat_snoc acc (-1, p, 2)), hb1⟩
              case measure => simp [intOf]; omega
            · have HS := wGo_next HP (by rw [HL.out]; exact hp) (r := 65536 + 1024 * (u - 55296) + v - 56320) (m := 4) (by unfold wStep; rw [HL.out, if_neg h1, HU.out, if_neg (by omega), if_neg (by omega), show p + 3 = p + 2 + 1 by omega, HV.out, if_neg hlw, Int.add_sub_assoc])
              go_wp2_with (first | (go_at_call 60; refine (is60t _ _ _ _ (by omega)).mono ?_; rintro e w' ⟨rfl, rfl⟩) | (go_at_call 60; refine (is60f _ _ _ _ (by omega)).mono ?_; rintro e w' ⟨rfl, rfl⟩) | (go_at_call 59; refine (CV _ (((HR.out.drewN _).alloc hsz _).two (by omega))).mono ?_; rintro e w' ⟨rfl, q2, rfl⟩) | (at_builtin; refine wpList_push st26 rfl _ _ rfl _ rfl (own_drewN (hown.alloc _) _) [.int .i32 (65536 + 1024 * (u - 55296) + v - 56320), .int .i64 p, .int .i64 4] (wr.heap.size + 1) rfl (by simp) rfl (flat_cells [(65536 + 1024 * (u - 55296) + v - 56320, p, 4)]) (by omega) (by omega) (Below.drewN_ (hb.alloc hsz _) _) (by simp; omega) ?_; intro v1 w1 hown1 hb1 hk1; have hx1 := hk1 ⟨wr.heap.size, 2, none⟩ (.int .i64 4) (cell_in wr _ 2 _ _ rfl) (own_ne hown (Nat.le_refl _)); clear hk1 hown))
              go_roundw
              case rel => exact ⟨k + 1, p + 4, acc ++ [(65536 + 1024 * (u - 55296) + v - 56320, p, 4)], HS, by go_num, own_as hown1 (by simp) (flat_snoc acc (65536 + 1024 * (u - 55296) + v - 56320, p, 4)), hb1⟩
              case measure => simp [intOf]; omega
    · have HE := wGo_end HP HL (by omega)
      go_wp2_with fail
      go_ret
      exact ⟨_, rfl, own_as hown (by rw [HE.out]) (by rw [HE.out]), hb⟩
end Go.Proofs.Ytiegbochpcmicaa
