/- The walk of the law SniffWhole. No condition. -/
import Derived.Test.YtiegbochpcmicaaF2
namespace Go.Proofs.Ytiegbochpcmicaa
open Go.RowKit

theorem gz_app_lt {a b : List Int} {k : Nat} (h : k < a.length) : gz (a ++ b) k = gz a k := by
  simp [gz, List.getD_eq_getElem?_getD, List.getElem?_append_left h]
/-- The places of a text lie one behind the other, from its mark to its end. -/
theorem dec_chain {zs : List Int} (hz : Bytes8 zs) : ∃ F : Nat → Nat, F 0 = dBom zs ∧ F (dItems zs).length = zs.length ∧
    (∀ k, k ≤ (dItems zs).length → gz (offsOf (dBom zs) (dItems zs) ++ [(zs.length : Int)]) k = F k) ∧ ∀ k, k < (dItems zs).length → F k ≤ F (k + 1) ∧ F (k + 1) ≤ zs.length := by
  have hk := pKind_bd zs
  have hp := dBom_le zs
  obtain ⟨G, h0, hl, hG⟩ := pItems_chain (pKind zs).1 ⟨hk.1, hk.2.1⟩ (hz.drop (dBom zs))
  have hle : (zs.drop (dBom zs)).length = zs.length - dBom zs := List.length_drop
  rw [hle] at hl hG
  refine ⟨fun k => G k + dBom zs, by simp [h0], ?_, fun k h => ?_, fun k h => ?_⟩
  · show G (pItems (pKind zs).1 (zs.drop (dBom zs))).length + dBom zs = zs.length
    omega
  · have hol : (offsOf (dBom zs) (dItems zs)).length = (dItems zs).length := by simp [offsOf]
    rcases Nat.lt_or_ge k (dItems zs).length with h' | h'
    · rw [gz_app_lt (by omega)]
      have := (hG k h').1
      have e : gz (offsOf (dBom zs) (dItems zs)) k = (((dItems zs)[k].2.1 + dBom zs : Nat) : Int) := by
        simp [offsOf, gz, List.getD_eq_getElem?_getD, List.getElem?_eq_getElem h']
      rw [e]
      show (((dItems zs)[k].2.1 + dBom zs : Nat) : Int) = ((G k + dBom zs : Nat) : Int)
      have this' : (dItems zs)[k].2.1 = G k := this
      rw [this']
    · obtain rfl : k = (dItems zs).length := by omega
      rw [gz_last hol]
      show (zs.length : Int) = ((G (pItems (pKind zs).1 (zs.drop (dBom zs))).length + dBom zs : Nat) : Int)
      omega
  · have := hG k h
    show G k + dBom zs ≤ G (k + 1) + dBom zs ∧ G (k + 1) + dBom zs ≤ zs.length
    omega
theorem take_chain (zs : List Int) {a b : Nat} (h : a ≤ b) : ints .u8 (zs.take a) ++ ints .u8 ((zs.drop a).take (b - a)) = ints .u8 (zs.take b) := by
  rw [ints, ints, ints, ← List.map_append]
  congr 1
  rw [show b = a + (b - a) by omega, List.take_add]
  simp

set_option maxRecDepth 100000 in
set_option maxHeartbeats 4000000 in
theorem walk15 (A : Option Addr) (n c : Nat) (zs : List Int) (w : World) (h : Rd w w.heap.size 1 A n c (ints .u8 zs)) (hz : Bytes8 zs) :
    Calls Try.prog 15 #[.slice A n c] w fun e w' => e = .returned (.bool true) ∧ Below w.heap.size w w' := by
  have hz2 := hz.take 200
  have hm : min n 200 ≤ 200 := Nat.min_le_right _ _
  have C41 := short41' h
  have h2' := short_facts h
  generalize min n 200 = m at h2' hm C41
  generalize zs.take 200 = ys at h2' hz2
  clear h hz
  have hl := h2'.int_len
  have hcap := h2'.cap
  have C42 := decode42 A m c ys w h2' hz2 (by omega)
  obtain ⟨F, f0, f1, f2, f3⟩ := dec_chain hz2
  have hlm : (dItems ys).length ≤ 200 := by have h1 := dItems_le hz2; omega
  have hp := dBom_le ys
  rw [hl] at f1 f2 f3 hp
  clear hz2
  generalize dItems ys = L at C42 hlm f1 f2 f3
  generalize dBom ys = p at C42 f0 f2 hp
  generalize (pKind ys).1 = kd at C42
  unfold DecIs at C42
  generalize offsOf p L ++ [(m : Int)] = O at C42 f2
  have HF := Lib.hid (And.intro f2 f3)
  have HF0 := Lib.hid f0
  have HF1 := Lib.hid f1
  have HL := Lib.hid hl
  clear f0 f1 f2 f3 hl
  have hpc : p ≤ c := by omega
  have t0 : decide (m < p) = false := by simp; omega
  have t1 : decide ((p : Int) < 0) = false := by simp
  have htk : Rd w w.heap.size 1 A p c (ints .u8 (ys.take p)) := by
    have := h2'.take hp.1
    rw [← List.map_take, Nat.mul_one] at this
    exact this
  go_enter Try.func15, Try.ntmps15
  go_wp2_with (first | (go_at_call 41; refine C41.mono ?_; rintro e w' ⟨rfl, rfl⟩; clear C41) | (go_at_call 42; refine C42.mono ?_; rintro e w1 ⟨A1, c1, A2, c2, rfl, hr1, ho1, hb1⟩; clear C42; have h3 := h2'.on hb1; have h4 := htk.on hb1; clear h2' htk; have hE := own_empty (w1.alloc (.cells #[.int .i64 kd, .int .i64 (p : Nat), .slice A1 L.length c1, .slice A2 (L.length + 1) c2] 50)) 5 1 (w1.heap.size + 1) (by simp); simp only [World.size_alloc] at hE) | (at_builtin; go_loud (refine wpList_pushes (n := 0) (xs := []) st22 rfl _ _ rfl _ rfl hE rfl ((h4.alloc (Nat.le_refl _) _).alloc (by simp) _) (ints_cells _ _) (by omega) (by omega) ((Below.refl (w1.heap.size + 1) (w1.alloc (.cells #[.int .i64 kd, .int .i64 (p : Nat), .slice A1 L.length c1, .slice A2 (L.length + 1) c2] 50))).alloc (by simp) _) (by simp) ?_); intro v1 w2 hown1 hb2 _; simp only [Nat.zero_add, List.nil_append] at hown1; have hg := (hb2.block w1.heap.size (by omega)).trans (heap_alloc_new w1 _); obtain ⟨e0, e1, e2, e3⟩ := text_cells hg; have hb3 := ((Below.refl w1.heap.size w1).alloc (Nat.le_refl _) _).trans (hb2.mono (by omega))))
  clear hE h4 e0 e1 e2 e3
  go_loopw [4, 29] (fun all i wr => ∃ k : Nat, k ≤ L.length ∧ i = .int .i64 k ∧ wr.ownsRow (w1.heap.size + 1) 5 1 all (F k) (ints .u8 (ys.take (F k))) ∧ Below w1.heap.size w1 wr ∧ Hid (wr.heap[w1.heap.size]? = some (.cells #[.int .i64 kd, .int .i64 (p : Nat), .slice A1 L.length c1, .slice A2 (L.length + 1) c2] 50 (0, 0))))
    (fun _ i _ => L.length - (intOf i).toNat)
  case atStart => exact ⟨0, Nat.zero_le _, rfl, by rw [HF0.out]; exact hown1, hb3, Lib.hid hg⟩
  case round =>
    obtain ⟨k, hk, rfl, hown, hb, HG⟩ := hrel
    have hsz := hb.size
    have h5 := h3.on hb
    obtain ⟨y0, y1, y2, y3⟩ := text_cells HG.out
    by_cases hlt : k < L.length
    · have hF := HF.out.2 k hlt
      have C50 := slice50_good kd p A1 A2 A L.length c1 c2 m c (F k) (F (k + 1)) (F L.length) k (k + 1) O ys wr (ho1.on hb) h5 (by omega) (by omega) (HF.out.1 k (by omega)) (HF.out.1 (k + 1) (by omega)) (HF.out.1 L.length (Nat.le_refl _)) (by rw [HF1.out]; exact Nat.le_refl _) hF.1 hF.2 (by omega) (by omega)
      rw [show ((k + 1 : Nat) : Int) = (k : Int) + 1 from rfl] at C50
      go_wp2_with (first | (go_at_call 50; refine C50.mono ?_; rintro e w4 ⟨A4, c4, rfl, hr4, hb4⟩; clear C50; have hown3 := own_below hown hb4; have hb5 := hb.trans (hb4.mono hsz); have hG3 := (hb4.block w1.heap.size (Array.getElem?_eq_some_iff.1 HG.out).1).trans HG.out; have hlt3 := (Array.getElem?_eq_some_iff.1 hG3).1; clear hown hb y0 y1 y2 y3 HG) | (at_builtin; refine wpList_pushesB (n := F k) st22 rfl _ _ rfl _ rfl hown3 rfl hr4 (ints_cells _ _) (by omega) (by omega) hb5 (by omega) (by omega) ?_; intro v2 w5 hown4 hb6 hk6; have hG5 := hk6 _ _ hG3 (fun e => absurd (hown3.lt _ e.symm).1 (by omega)); have HG5 := Lib.hid hG5; clear hk6 hown3 hb5 hG3 hG5))
      go_roundw
      case rel => exact ⟨k + 1, by omega, by go_num, own_as hown4 (by omega) (take_chain ys hF.1), hb6, HG5⟩
      case measure => simp [intOf]; omega
    · obtain rfl : k = L.length := by omega
      rw [HF1.out, List.take_of_length_le (by rw [HL.out]; exact Nat.le_refl _)] at hown
      obtain ⟨A9, c9, rfl, hown9⟩ := own_form hown
      have q1 := run_str' (Rd.of_own hown9)
      have q2 := run_str' h5
      generalize strOfNums ys = s at q1 q2
      clear hown hown9
      go_wp2_with (go_at_call 45; refine (awake45 _).mono ?_; rintro e w4 ⟨rfl, hb4⟩)
      go_ret
      exact ⟨rfl, hb1.trans ((hb.trans (hb4.mono hsz)).mono hb1.size)⟩
end Go.Proofs.Ytiegbochpcmicaa
