/- The walks of the document's Items of layer 1, of scan.Valid, and of the law ScanItems. No condition. -/
import Derived.Test.YtiegbochpcmicaaB3
import Derived.Test.YtiegbochpcmicaaB7
namespace Go.Proofs.Ytiegbochpcmicaa
open Go.RowKit

theorem st26' : ST Try.prog 26 29 3 24 := ST.mk' (z := .agg #[.int .i32 0, .int .i64 0, .int .i64 0]) Try.underlying26 (by kernel_rfl) rfl (by decide)
theorem gz_drop (zs : List Int) (p j : Nat) : gz (zs.drop p) j = gz zs (p + j) := by simp [gz]
theorem sStep_drop (zs : List Int) (p : Nat) : sStep (zs.drop p) 0 = sStep zs p := by
  unfold sStep
  rw [gz_drop, gz_drop, gz_drop, gz_drop, List.length_drop]
  simp
theorem Rd.from_ {w : World} {B n c b off p : Nat} {zs : List Int} (h : Rd w B 1 (some ⟨b, off, none⟩) n c (ints .u8 zs)) (hp : p < n) : Rd w B 1 (some ⟨b, off + p, none⟩) (n - p) (c - p) (ints .u8 (zs.drop p)) := by
  have hc := h.cap
  have hl := h.int_len
  have := h.cut (l := p) (k := n) (m := c) (by omega) (Nat.le_refl _) (Nat.le_refl _) (by omega)
  rw [if_neg (by omega), Nat.mul_one, Nat.mul_one] at this
  rw [List.take_of_length_le (by simp; omega), ← List.map_drop] at this
  simpa [add_none] using this

set_option maxHeartbeats 1000000 in
theorem items28 (A : Option Addr) (n c : Nat) (zs : List Int) (w : World) (h : Rd w w.heap.size 1 A n c (ints .u8 zs)) (hz : Bytes8 zs) (hn : n ≤ 4096) :
    Calls Try.prog 28 #[.slice A n c] w fun e w' => ∃ A' c', e = .returned (.slice A' (sItems zs).length c') ∧ Rd w' w'.heap.size 3 A' (sItems zs).length c' (flat (sItems zs)) ∧ Below w.heap.size w w' := by
  have HL := Lib.hid h.int_len
  have hcap := h.cap
  go_enter Try.func28, Try.ntmps28
  go_wp2_with fail
  go_loopw [3, 4] (fun out at_ wr => ∃ (k p : Nat) (acc : List It), Hid (sGo zs k = (acc, p)) ∧ at_ = .int .i64 p ∧ wr.ownsRow w.heap.size 29 3 out acc.length (flat acc) ∧ Below w.heap.size w wr)
    (fun _ at_ _ => n - (intOf at_).toNat)
  case atStart => exact ⟨0, 0, [], rfl, rfl, World.ownsRow_nil _ _ _ _, Below.refl _ _⟩
  case round =>
    obtain ⟨k, p, acc, HP, rfl, hown, hb⟩ := hrel
    obtain ⟨hal, hpl⟩ := sGo_acc hz HP
    have hpn : p ≤ n := by rw [HL.out] at hpl; exact hpl
    have hsz := hb.size
    clear hpl
    by_cases hp : p < n
    · obtain ⟨b, off, rfl, hbb, _⟩ := (h.below hb).int_form (by omega)
      have hcp : ¬ c = p := by omega
      have CF := first35_some _ _ _ _ wr ((h.on hb).from_ hp) (hz.drop p) (by omega) (by omega)
      rw [sStep_drop] at CF
      have hm4 := (sStep_facts hz (p := p) (by rw [HL.out]; exact hp)).1
      have hgd := sStep_good hz p (by rw [HL.out]; exact hp)
      rw [HL.out] at hgd
      generalize hst : sStep zs p = st at CF hm4 hgd
      obtain ⟨r, m⟩ := st
      simp only at hm4 hgd CF
      have HS := sGo_next HP (by rw [HL.out]; exact hp) hst
      clear hst
      go_wp2_with (first | (go_at_call 35; refine CF.mono ?_; rintro e w1 ⟨rfl, hb1⟩; have hown1 := hown.kept (row := none) ⟨hb1.os, hb1.tape, hb1.output, hb1.size, fun k hk _ => hb1.block k hk⟩ (by cases hv : u3.ownBlock <;> simp); have hb2 := hb.trans (hb1.mono hsz); have hsz1 := hb2.size; clear hown hb1 CF) | (at_builtin; refine wpList_push st26' rfl _ _ rfl _ rfl hown1 [.int .i32 r, .int .i64 p, .int .i64 m] w1.heap.size rfl rfl rfl (flat_cells [(r, p, m)]) (by omega) (by omega) hb2 hsz1 ?_; intro v1 w2 hown2 hb3 _; clear hown1 hb2))
      go_roundw
      case rel => exact ⟨k + 1, p + m, acc ++ [(r, p, m)], HS, by go_num, own_as hown2 (by simp) (flat_snoc acc (r, p, m)), hb3⟩
      case measure => simp [intOf]; omega
    · have HE := sGo_end hz HP (by rw [HL.out]; omega)
      go_wp2_with fail
      go_ret
      obtain ⟨A', c', hv, ho⟩ := own_form hown
      rw [hv, HE.out]
      exact ⟨A', c', rfl, .of_own ho, hb⟩

/-- Are the first k pieces all runes? -/
def okTo (l : List It) (k : Nat) : Bool := (l.take k).all fun x => decide (x.1 ≠ -1)
theorem okTo_succ (l : List It) (k : Nat) (h : k < l.length) : okTo l (k + 1) = (okTo l k && decide (l[k].1 ≠ -1)) := by
  unfold okTo
  rw [List.take_succ_eq_append_getElem h, List.all_append]
  simp

theorem okTo_false {l : List It} {x : It} (h : x ∈ l) (hx : x.1 = -1) : okTo l l.length = false := by
  unfold okTo
  rw [List.take_length, List.all_eq_false]
  exact ⟨x, h, by simp [hx]⟩
theorem okTo_true {l : List It} (h : ∀ x ∈ l, x.1 ≠ -1) : okTo l l.length = true := by
  unfold okTo
  rw [List.take_length, List.all_eq_true]
  intro x hx
  simpa using h x hx
theorem sGo_sub {zs : List Int} (hz : Bytes8 zs) {k p : Nat} {acc : List It} (H : Hid (sGo zs k = (acc, p))) {x : It} (hx : x ∈ acc) : x ∈ sItems zs := by
  have h : runGo (sStep zs) zs.length k = (acc, p) := H.out
  have hall := runGo_all (sStep_good hz) (k := max zs.length k) (by have := runGo_far (sStep_good hz) (max zs.length k); omega)
  obtain ⟨t, ht⟩ := runGo_prefix (step := sStep zs) (n := zs.length) (show k ≤ max zs.length k by omega)
  show x ∈ runItems (sStep zs) zs.length
  rw [← hall, ht, h]
  exact List.mem_append_left _ hx

set_option maxHeartbeats 1000000 in
theorem valid29 (A : Option Addr) (n c : Nat) (zs : List Int) (w : World) (h : Rd w w.heap.size 1 A n c (ints .u8 zs)) (hz : Bytes8 zs) (hn : n ≤ 4096) :
    Calls Try.prog 29 #[.slice A n c] w fun e w' => e = .returned (.bool (okTo (sItems zs) (sItems zs).length)) ∧ Below w.heap.size w w' := by
  have HL := Lib.hid h.int_len
  have hstr := run_str h
  have hsl : zs.length ≤ 4096 := by rw [HL.out]; exact hn
  have HZ := Lib.hid (strOfNums_size zs)
  go_enter Try.func29, Try.ntmps29
  go_wp2_with fail
  clear hstr
  go_loopw [] (fun wr => ∃ (k p : Nat) (acc : List It), Hid (sGo zs k = (acc, p)) ∧ Hid (wr.heap[w.heap.size]? = some (.stringIter (strOfNums zs) p)) ∧ Hid (∀ x ∈ acc, x.1 ≠ -1) ∧ Below w.heap.size w wr)
    (fun wr => zs.length - wr.iterPos w.heap.size)
  case atStart => exact ⟨0, 0, [], rfl, World.iter_heap w _ 0, (by intro x hx; simp at hx), (Below.refl _ _).alloc (Nat.le_refl _) _⟩
  case round =>
    obtain ⟨k, p, acc, HP, HI, HA, hb⟩ := hrel
    obtain ⟨hal, hpn⟩ := sGo_acc hz HP
    have HM := Lib.hid (iterPos_of HI.out)
    by_cases hp : p < zs.length
    · obtain ⟨W1, hnx, hI1, _, hb1, hs1⟩ := iter_on (P := Try.prog) HI.out (by rw [HZ.out]; exact hp) (World.ownsRow_nil wr (w.heap.size + 1) 30 3) (by omega) hb (Nat.le_refl _)
      clear hs1
      have ht := (decode_str zs hz p).2
      have CP := fun W => piece61 zs hz p hp (by omega) _ rfl W
      have hgd := sStep_good hz p hp
      generalize hd : Utf8.decode (strOfNums zs) p = d at hnx hI1 ht CP
      obtain ⟨d1, d2⟩ := d
      generalize hst : sStep zs p = st at ht CP hgd
      obtain ⟨r, m⟩ := st
      simp only at ht hgd
      subst ht
      have HS := sGo_next HP hp hst
      have HI1 := Lib.hid hI1
      clear hd hst hI1 HI hb
      by_cases hr : r = -1
      · have HF := Lib.hid (okTo_false (sGo_sub hz HS (List.mem_append_right _ (List.mem_singleton.2 rfl))) hr)
        have t1 : (r == -1) = true := by simpa using hr
        clear hr
        go_wp2_with (go_at_call 61; refine (CP _).mono ?_; rintro e w' ⟨rfl, rfl⟩)
        go_ret
        exact ⟨by rw [HF.out]; rfl, hb1⟩
      · have HA2 := Lib.hid (fun x hx => (List.mem_append.1 hx).elim (HA.out x) (fun h => by rw [List.mem_singleton.1 h]; exact hr) : ∀ x ∈ acc ++ [(r, p, d2)], x.1 ≠ -1)
        have t1 : (r == -1) = false := by simpa using hr
        clear hr
        go_wp2_with (go_at_call 61; refine (CP _).mono ?_; rintro e w' ⟨rfl, rfl⟩)
        go_roundw
        case rel => exact ⟨k + 1, p + d2, acc ++ [(r, p, d2)], HS, HI1, HA2, hb1⟩
        case measure => rw [iterPos_of HI1.out, HM.out]; omega
    · have HE := sGo_end hz HP (by omega)
      have HT := Lib.hid (okTo_true HA.out)
      have hnx := fun ty => Lib.run_next_end_at (P := Try.prog) wr w.heap.size (strOfNums zs) p ty HI.out (by rw [HZ.out]; exact hp)
      go_wp2_with fail
      go_ret
      exact ⟨by rw [HE.out, HT.out]; rfl, hb⟩
end Go.Proofs.Ytiegbochpcmicaa
