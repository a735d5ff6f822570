/- The walk of scan.Items. No condition. -/
import Derived.Test.YtiegbochpcmicaaA1
import Derived.Test.YtiegbochpcmicaaB1
import Derived.Test.YtiegbochpcmicaaMem2
namespace Go.Proofs.Ytiegbochpcmicaa
open Go.RowKit

/-- 'string(b)', whatever the slice. -/
theorem run_str {w : World} {B n c : Nat} {A : Option Addr} {zs : List Int} (h : Rd w B 1 A n c (ints .u8 zs)) :
    (convert 22 9 (.slice A n c)).run Try.prog w = .ok (.string (strOfNums zs)) w := by
  have hl := h.int_len
  by_cases hn : n = 0
  · subst hn
    have : zs = [] := List.eq_nil_of_length_eq_zero hl
    subst this
    rcases A with _ | ⟨b, off, sp⟩
    · exact run_convert_bytes_nil w 22 5 Try.underlying22 Try.underlying5 0 c 9 Try.underlying9
    · rw [run_convert_bytes_string w 22 9 5 _ 0 c Try.underlying22 Try.underlying5 Try.underlying9]
      simp [Conv.bytesToString, loadCells, loadCellsFrom]
      rfl
  · obtain ⟨b, off, rfl, _, hc⟩ := h.int_form (by omega)
    exact run_convert_bytes_arg w 22 5 Try.underlying22 Try.underlying5 b off n c zs hl (fun i hi => hc i hi) 9 Try.underlying9

theorem sGo_next {zs : List Int} {k p m : Nat} {acc : List It} {r : Int} (H : Hid (sGo zs k = (acc, p))) (hp : p < zs.length) (hs : sStep zs p = (r, m)) : Hid (sGo zs (k + 1) = (acc ++ [(r, p, m)], p + m)) := by
  have h : runGo (sStep zs) zs.length k = (acc, p) := H.out
  show runGo (sStep zs) zs.length (k + 1) = _
  rw [runGo_succ (by rw [h]; exact hp), h]
  simp only [hs]
theorem sGo_acc {zs : List Int} (hz : Bytes8 zs) {k p : Nat} {acc : List It} (H : Hid (sGo zs k = (acc, p))) : acc.length ≤ p ∧ p ≤ zs.length := by
  have h : runGo (sStep zs) zs.length k = (acc, p) := H.out
  have h1 := runGo_len_le (sStep_good hz) k
  have h2 := runGo_le (sStep_good hz) k
  rw [h] at h1 h2
  exact ⟨h1, h2⟩
theorem sGo_end {zs : List Int} (hz : Bytes8 zs) {k p : Nat} {acc : List It} (H : Hid (sGo zs k = (acc, p))) (hp : zs.length ≤ p) : Hid (sItems zs = acc) := by
  have h : runGo (sStep zs) zs.length k = (acc, p) := H.out
  have := runGo_all (sStep_good hz) (k := k) (by rw [h]; exact hp)
  rw [h] at this
  exact this.symm

set_option maxHeartbeats 1000000 in
theorem items25 (A : Option Addr) (n c : Nat) (zs : List Int) (w : World) (h : Rd w w.heap.size 1 A n c (ints .u8 zs)) (hz : Bytes8 zs) (hn : n ≤ 4096) :
    Calls Try.prog 25 #[.slice A n c] w fun e w' => ∃ A' c', e = .returned (.slice A' (sItems zs).length c') ∧ Rd w' w'.heap.size 3 A' (sItems zs).length c' (flat (sItems zs)) ∧ Below w.heap.size w w' := by
  have HL := Lib.hid h.int_len
  have hstr := run_str h
  have hsl : zs.length ≤ 4096 := by rw [HL.out]; exact hn
  have HZ := Lib.hid (strOfNums_size zs)
  go_enter Try.func25, Try.ntmps25
  go_wp2_with fail
  clear hstr
  go_loopw [3] (fun out wr => ∃ (k p : Nat) (acc : List It), Hid (sGo zs k = (acc, p)) ∧ Hid (wr.heap[w.heap.size]? = some (.stringIter (strOfNums zs) p)) ∧ wr.ownsRow (w.heap.size + 1) 30 3 out acc.length (flat acc) ∧ Below w.heap.size w wr ∧ w.heap.size + 1 ≤ wr.heap.size)
    (fun _ wr => zs.length - wr.iterPos w.heap.size)
  case atStart => exact ⟨0, 0, [], rfl, World.iter_heap w _ 0, World.ownsRow_nil _ _ _ _, (Below.refl _ _).alloc (Nat.le_refl _) _, by simp [World.iter]⟩
  case round =>
    obtain ⟨k, p, acc, HP, HI, hown, hb, hsz⟩ := hrel
    obtain ⟨hal, hpn⟩ := sGo_acc hz HP
    have HM := Lib.hid (iterPos_of HI.out)
    by_cases hp : p < zs.length
    · obtain ⟨W1, hnx, hI1, hown1, hb1, hs1⟩ := iter_on (P := Try.prog) HI.out (by rw [HZ.out]; exact hp) hown (by omega) hb (Nat.le_refl _)
      have hs3 : w.heap.size + 1 ≤ W1.heap.size := by omega
      clear hs1
      have ht := (decode_str zs hz p).2
      have CP := fun W => piece61 zs hz p hp (by omega) _ rfl W
      have hm4 := (sStep_facts hz hp).1
      have hgd := sStep_good hz p hp
      generalize hd : Utf8.decode (strOfNums zs) p = d at hnx hI1 ht CP
      obtain ⟨d1, d2⟩ := d
      generalize hst : sStep zs p = st at ht CP hm4 hgd
      obtain ⟨r, m⟩ := st
      simp only at ht hm4 hgd
      subst ht
      have HS := sGo_next HP hp hst
      have HI1 := Lib.hid hI1
      clear hd hst hI1 HI hown hb
      go_wp2_with (first | (go_at_call 61; refine (CP _).mono ?_; rintro e w' ⟨rfl, rfl⟩) | (at_builtin; refine wpList_pushB st24 rfl _ _ rfl _ rfl hown1 [.int .i32 r, .int .i64 p, .int .i64 d2] W1.heap.size rfl rfl rfl (flat_cells [(r, p, d2)]) (by omega) (by omega) hb1 (by omega) (by omega) ?_; intro v1 w1 hown2 hb2 hk2; have HI2 := Lib.hid (hk2 _ _ HI1.out (fun e => by have := (hown1.lt _ e.symm).1; omega)); have hs2 : w.heap.size + 1 ≤ w1.heap.size := (Array.getElem?_eq_some_iff.1 HI2.out).1; clear hk2 hown1 HI1 hb1))
      go_roundw
      case rel => exact ⟨k + 1, p + d2, acc ++ [(r, p, d2)], HS, HI2, own_as hown2 (by simp) (flat_snoc acc (r, p, d2)), hb2, hs2⟩
      case measure => rw [iterPos_of HI2.out, HM.out]; omega
    · have HE := sGo_end hz HP (by omega)
      have hnx := fun ty => Lib.run_next_end_at (P := Try.prog) wr w.heap.size (strOfNums zs) p ty HI.out (by rw [HZ.out]; exact hp)
      go_wp2_with fail
      go_ret
      obtain ⟨A', c', hv, ho⟩ := own_form hown
      rw [hv, HE.out]
      exact ⟨A', c', rfl, .of_own ho, hb⟩
end Go.Proofs.Ytiegbochpcmicaa
