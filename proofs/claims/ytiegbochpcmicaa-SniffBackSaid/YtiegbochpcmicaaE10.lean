/- The walk of the law SniffBack. No condition. -/
import Derived.Test.YtiegbochpcmicaaE5
import Derived.Test.YtiegbochpcmicaaPlainPE
namespace Go.Proofs.Ytiegbochpcmicaa
open Go.RowKit

theorem and3 (x : Int) : 0 ≤ (bits .and .i64 x 3).tmod 3 ∧ (bits .and .i64 x 3).tmod 3 ≤ 2 := by
  have h : ((BitVec.ofInt 64 x) &&& (BitVec.ofInt 64 3)).toNat ≤ 3 := by rw [BitVec.toNat_and]; exact Nat.le_trans Nat.and_le_right (by decide)
  have e : bits .and .i64 x 3 = IntKind.i64.wrap (((BitVec.ofInt 64 x) &&& (BitVec.ofInt 64 3)).toNat : Nat) := rfl
  have h0 : 0 ≤ bits .and .i64 x 3 := by rw [e, IntKind.wrap_i64]; omega
  rw [Int.tmod_eq_emod_of_nonneg h0]
  omega

/-- What the law's walk is told of the runes' bytes. -/
structure BackIn (K k1 : Int) (p1 : Nat) (l bs : List Int) (L : List It) : Prop where
  len : bs.length ≤ 4096
  k54 : ∀ A c W, Rd W W.heap.size 1 A bs.length c (ints .u8 bs) → Calls Try.prog 54 #[.slice A bs.length c] W fun e w' => e = .returned (.tuple #[.int .i64 k1, .int .i64 p1]) ∧ W = w'
  k42 : ∀ A c W, Rd W W.heap.size 1 A bs.length c (ints .u8 bs) → Calls Try.prog 42 #[.slice A bs.length c] W (DecIs k1 p1 bs.length L W)
  runes : k1 = K → p1 = 0 → runesOf L = vals l
theorem back_in (K : Int) (hK : 0 ≤ K ∧ K ≤ 2) (l : List Int) (hl : l.length ≤ 60) : BackIn K (pKind (pEnc K l)).1 (dBom (pEnc K l)) l (pEnc K l) (dItems (pEnc K l)) := by
  have hlen := pEnc_len K l
  have hb := pEnc_bytes K l
  refine ⟨by omega, fun A c W h => ?_, fun A c W h => decode42 A _ c _ W h hb (by omega), fun h1 h2 => dec_back hK h1 h2⟩
  have := kind54 A _ c _ W h hb
  rw [dBom_eq] at this
  exact this

set_option maxRecDepth 100000 in
set_option maxHeartbeats 4000000 in
theorem walk17_core (k1 : Int) (p1 : Nat) (bs : List Int) (L : List It) (kind : Int) (A : Option Addr) (m n c : Nat) (l : List Int) (w : World) (h2' : Rd w w.heap.size 1 A m c (ints .i32 l)) (hm : m ≤ 60)
    (C52 : Calls Try.prog 52 #[.slice A n c] w fun e w' => e = .returned (.slice A m c) ∧ w = w')
    (C51 : Calls Try.prog 51 #[.int .i64 ((bits BinOp.and IntKind.i64 kind 3).tmod 3), .slice A m c] w (BytesSaid bs w))
    (HBI : Hid (BackIn ((bits BinOp.and IntKind.i64 kind 3).tmod 3) k1 p1 l bs L)) :
    Calls Try.prog 17 #[.int .i64 kind, .slice A n c] w fun e w' => e = .returned (.bool true) ∧ Below w.heap.size w w' := by
  have HL := Lib.hid h2'.int_len
  have hblen := HBI.out.len
  generalize hX : (bits BinOp.and IntKind.i64 kind 3).tmod 3 = X at C51 HBI
  by_cases hk : k1 = X
  · by_cases hp : p1 = 0
    · have HV := Lib.hid (HBI.out.runes hk hp)
      subst hp
      have hLV : L.length = (vals l).length := by rw [← HV.out]; simp [runesOf]
      have hVm : (vals l).length ≤ 60 := by have := vn_all l; have h3 := vn_le l l.length; have h4 := HL.out; omega
      have HLV := Lib.hid hLV
      clear hLV
      subst hX
      have t0 : (k1 != (bits BinOp.and IntKind.i64 kind 3).tmod 3) = false := by simpa using hk
      clear hk
      go_enter Try.func17, Try.ntmps17
      go_wp2_with (first | (go_at_call 52; refine C52.mono ?_; rintro e w1 ⟨rfl, rfl⟩; clear C52) | (go_at_call 51; refine C51.mono ?_; rintro e w1 ⟨A1, c1, rfl, ho1, hb1⟩; clear C51; have hr1 := Rd.of_own ho1; have hl1 := h2'.on hb1; clear ho1 h2') | (go_at_call 54; refine (HBI.out.k54 _ _ _ hr1).mono ?_; rintro e w9 ⟨rfl, rfl⟩))
      clear t0
      go_loopw [8, 37] (fun want i wr => ∃ k : Nat, k ≤ m ∧ i = .int .i64 k ∧ wr.ownsRow w1.heap.size 21 1 want (vn l k) (ints .i32 (vals (l.take k))) ∧ Below w1.heap.size w1 wr)
        (fun _ i _ => m - (intOf i).toNat)
      case atStart => exact ⟨0, Nat.zero_le _, rfl, World.ownsRow_nil _ _ _ _, Below.refl _ _⟩
      case round =>
        obtain ⟨k, hk, rfl, hown, hb⟩ := hrel
        have hsz := hb.size
        by_cases hlt : k < m
        · obtain ⟨b, off, rfl, hbb, hc⟩ := (hl1.below hb).int_form (by omega)
          have x0 := hc k hlt
          have CW := fun W => width31 (gz l k) W
          have hvn := vn_le l k
          have hvt := vals_take l k (by rw [HL.out]; exact hlt)
          clear hc
          by_cases hw : wd (gz l k) = 0
          · have HT := Lib.hid (vn_skip l k (by rw [HL.out]; exact hlt) hw)
            rw [hw] at CW
            rw [if_pos hw, List.append_nil] at hvt
            have HVT := Lib.hid hvt
            clear hvt hw
            generalize gz l k = r at *
            go_wp2_with (go_at_call 31; refine (CW _).mono ?_; rintro e w2 ⟨rfl, rfl⟩)
            go_roundw
            case rel => exact ⟨k + 1, by omega, by go_num, own_as hown HT.out.symm (by rw [HVT.out]), hb⟩
            case measure => simp [intOf]; omega
          · have HT := Lib.hid (vn_next l k (by rw [HL.out]; exact hlt) hw).1
            rw [if_neg hw] at hvt
            have HVT := Lib.hid hvt
            have hwp : 0 < wd (gz l k) := by omega
            clear hvt hw
            generalize wd (gz l k) = N at CW hwp
            generalize gz l k = r at *
            go_wp2_with (first | (go_at_call 31; refine (CW _).mono ?_; rintro e w2 ⟨rfl, rfl⟩) | (at_builtin; refine wpList_push st37 rfl _ _ rfl _ rfl hown [.int .i32 r] wr.heap.size rfl rfl rfl (by simp [Value.oneCell']) (by omega) (by omega) hb hsz ?_; intro v1 w2 hown2 hb3 _; clear hown hb))
            go_roundw
            case rel => exact ⟨k + 1, by omega, by go_num, own_as hown2 HT.out.symm (by rw [HVT.out]; simp [ints]), hb3⟩
            case measure => simp [intOf]; omega
        · obtain rfl : k = m := by omega
          have hvl : vn l k = (vals l).length := by rw [← HL.out]; exact vn_all l
          have hlt2 : l.take k = l := by rw [← HL.out]; exact List.take_length
          rw [hvl, hlt2] at hown
          clear hvl hlt2
          obtain ⟨AW, cW, hWv, hown⟩ := own_form hown
          subst hWv
          have hr5 := hr1.on hb
          have C42 := HBI.out.k42 _ _ _ hr5
          have hrw := Rd.of_own hown
          clear hown
          unfold DecIs at C42
          rw [HV.out, HLV.out] at C42
          generalize vals l = V at *
          go_wp2_with (go_at_call 42; refine C42.mono ?_; rintro e w3 ⟨A3, c3, A4, c4, rfl, hr3, ho3, hb3⟩; clear C42; have hrw := hrw.on hb3; have hb9 := hb.trans (hb3.mono hb.size); clear ho3)
          go_loopw [59] (fun i wr2 => ∃ j : Nat, j ≤ V.length ∧ i = .int .i64 j ∧ Below w3.heap.size w3 wr2 ∧ wr2.cell? ⟨w3.heap.size, 2, none⟩ = some (.slice A3 V.length c3))
            (fun i _ => V.length - (intOf i).toNat)
          case atStart => exact ⟨0, Nat.zero_le _, rfl, (Below.refl _ _).alloc (Nat.le_refl _) _, cell_in w3 _ 2 _ _ rfl⟩
          case round =>
            obtain ⟨j, hj, rfl, hb2, z2⟩ := hrel
            by_cases hlt2 : j < V.length
            · obtain ⟨b3, o3, rfl, hbb3, hc3⟩ := (hr3.below hb2).int_form (by omega)
              obtain ⟨b5, o5, rfl, hbb5, hc5⟩ := (hrw.below hb2).int_form (by omega)
              have x3 := hc3 j hlt2
              have x5 := hc5 j hlt2
              have HC := Lib.hid (And.intro hc3 hc5)
              clear hc3 hc5
              go_wp2_with fail
              go_roundw
              case rel => exact ⟨j + 1, by omega, by go_num, hb2, z2⟩
              case measure => simp [intOf]; omega
            · obtain rfl : j = V.length := by omega
              go_wp2_with (go_at_call 45; refine (awake45 _).mono ?_; rintro e w4 ⟨rfl, hb6⟩)
              go_ret
              exact ⟨rfl, hb1.trans ((hb9.trans ((hb2.trans (hb6.mono hb2.size)).mono hb9.size)).mono hb1.size)⟩
    · subst hX
      have t0 : (k1 != (bits BinOp.and IntKind.i64 kind 3).tmod 3) = false := by simpa using hk
      have t1 : ((p1 : Int) != 0) = true := by simpa using hp
      clear hk hp
      go_enter Try.func17, Try.ntmps17
      go_wp2_with (first | (go_at_call 52; refine C52.mono ?_; rintro e w1 ⟨rfl, rfl⟩; clear C52) | (go_at_call 51; refine C51.mono ?_; rintro e w1 ⟨A1, c1, rfl, ho1, hb1⟩; clear C51; have hr1 := Rd.of_own ho1; clear ho1 h2') | (go_at_call 54; refine (HBI.out.k54 _ _ _ hr1).mono ?_; rintro e w9 ⟨rfl, rfl⟩) | (go_at_call 45; refine (awake45 _).mono ?_; rintro e w4 ⟨rfl, hb6⟩))
      go_ret
      exact ⟨rfl, hb1.trans (hb6.mono hb1.size)⟩
  · subst hX
    have t0 : (k1 != (bits BinOp.and IntKind.i64 kind 3).tmod 3) = true := by simpa using hk
    clear hk
    go_enter Try.func17, Try.ntmps17
    go_wp2_with (first | (go_at_call 52; refine C52.mono ?_; rintro e w1 ⟨rfl, rfl⟩; clear C52) | (go_at_call 51; refine C51.mono ?_; rintro e w1 ⟨A1, c1, rfl, ho1, hb1⟩; clear C51; have hr1 := Rd.of_own ho1; clear ho1 h2') | (go_at_call 54; refine (HBI.out.k54 _ _ _ hr1).mono ?_; rintro e w9 ⟨rfl, rfl⟩) | (go_at_call 45; refine (awake45 _).mono ?_; rintro e w4 ⟨rfl, hb6⟩))
    go_ret
    exact ⟨rfl, hb1.trans (hb6.mono hb1.size)⟩

theorem walk17 (kind : Int) (A : Option Addr) (n c : Nat) (zl : List Int) (w : World) (h : Rd w w.heap.size 1 A n c (ints .i32 zl)) :
    Calls Try.prog 17 #[.int .i64 kind, .slice A n c] w fun e w' => e = .returned (.bool true) ∧ Below w.heap.size w w' := by
  have h2' := few_facts h
  have hl := h2'.int_len
  have hm : min n 60 ≤ 60 := Nat.min_le_right _ _
  exact walk17_core _ _ (pEnc ((bits BinOp.and IntKind.i64 kind 3).tmod 3) (zl.take 60)) (dItems (pEnc ((bits BinOp.and IntKind.i64 kind 3).tmod 3) (zl.take 60))) kind A (min n 60) n c (zl.take 60) w h2' hm (few52 A n c w w.heap.size _ h)
    (encode51 _ A _ c _ w h2' (by omega)) (Lib.hid (back_in _ (and3 kind) _ (by omega)))
end Go.Proofs.Ytiegbochpcmicaa
