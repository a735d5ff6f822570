/- The walk of an arena's Replace, whatever is asked; of At, whatever is asked. No condition. -/
import Derived.Test.YtbmbiffhgdkpiaaN11
namespace Go.Proofs.Ytbmbiffhgdkpiaa
open Go.RowKit

theorem repS_last (N : List GN) (root : Nat) (P : List Int) (wth : Nat) : repS N root P wth P.length = (N, wth) := by
  unfold repS
  rw [List.drop_length]
  rfl
theorem repS_zero (N : List GN) (root : Nat) (P : List Int) (wth : Nat) : repS N root P wth 0 = repN N root P wth := rfl
set_option maxRecDepth 100000 in
set_option maxHeartbeats 1000000 in
theorem replace22_nowith' {w : World} {B ga : Nat} {N : List GN} (h : Arena w B ga N) (root wth : Int) (hw : ¬ (0 ≤ wth ∧ wth < N.length)) (A : Option Addr) (m c m' : Nat)
    (C : Calls Try.prog 54 #[.pointer (some ⟨ga, 0, none⟩), .int .i64 root, .slice A m c] w fun e w' => ∃ A' c', e = .returned (.tuple #[.slice A' m' c', .bool true]) ∧ Below w.heap.size w w') :
    Calls Try.prog 22 #[.pointer (some ⟨ga, 0, none⟩), .int .i64 root, .int .i64 wth, .slice A m c] w fun e w' => e = .returned (.tuple #[.int .i64 0, .int .i64 6]) ∧ Below w.heap.size w w' := by
  have hcase : decide (wth < 0) = true ∨ (decide (wth < 0) = false ∧ decide ((N.length : Int) ≤ wth) = true) := by simp; omega
  clear hw
  rcases hcase with t0 | ⟨t0, t1⟩
  all_goals
    go_enter Try.func22, Try.ntmps22
    go_wp2_with (go_at_call 54; refine C.mono ?_; rintro e w1 ⟨A', c', rfl, hb⟩; clear C; obtain ⟨A9, c9, e9⟩ := (h.below hb).head; clear h)
    go_ret2
    exact ⟨rfl, hb⟩
/-- What Replace hands back. -/
def RepSaid (N : List GN) (root wth : Int) (P : List Int) (B ga : Nat) (w : World) (e : Ending) (w' : World) : Prop :=
  if (0 ≤ root ∧ root < N.length ∧ (gatL N root.toNat P).isSome) ∧ 0 ≤ wth ∧ wth < N.length then
    e = .returned (.tuple #[.int .i64 (repN N root.toNat P wth.toNat).2, .int .i64 0]) ∧ Arena w' B ga (repN N root.toNat P wth.toNat).1 ∧ Kept9 w w' ∧ Below B w w'
  else e = .returned (.tuple #[.int .i64 0, .int .i64 6]) ∧ Below w.heap.size w w'
theorem replace22 {w : World} {B ga : Nat} {N : List GN} (h : Arena w B ga N) (hN : OkN N) (root wth : Int) (A : Option Addr) (m c : Nat) (P : List Int) (hP : w.ownsRow 0 3 1 (.slice A m c) m (ints .i64 P)) (hm : m ≤ 64) (hB : B ≤ w.heap.size)
    (hl : N.length + m ≤ 65536) (hb : ∀ i, i < N.length → (gn N i).w ≤ 1000000000) :
    Calls Try.prog 22 #[.pointer (some ⟨ga, 0, none⟩), .int .i64 root, .int .i64 wth, .slice A m c] w (RepSaid N root wth P B ga w) := by
  unfold RepSaid
  have hPl : P.length = m := by have := hP.1; simpa using this
  by_cases hr : 0 ≤ root ∧ root < N.length
  · obtain ⟨r, rfl⟩ := Int.eq_ofNat_of_zero_le hr.1
    have hrl : r < N.length := by omega
    have C54 := way54 h hN.good r hrl A m c P (Rd.of_own hP) (by omega)
    rw [← hPl, gat_all] at C54
    rw [show ((r : Nat) : Int).toNat = r from rfl]
    rw [hPl] at C54
    by_cases hg : (gatL N r P).isSome
    · have C54s := C54.mono (R' := fun e w' => ∃ A' c', e = .returned (.tuple #[.slice A' (m + 1) c', .bool true]) ∧ w'.ownsRow w.heap.size 3 1 (.slice A' (m + 1) c') (m + 1) (ints .i64 ((List.range (m + 1)).map fun j => (wyS N r P j : Int))) ∧ Below w.heap.size w w') (by
        rintro e w' ⟨⟨A', c', rfl, _, ho⟩ | ⟨_, hn⟩, hb⟩
        · exact ⟨A', c', rfl, ho, hb⟩
        · rw [hn] at hg; cases hg)
      by_cases hw : 0 ≤ wth ∧ wth < N.length
      · obtain ⟨t, rfl⟩ := Int.eq_ofNat_of_zero_le hw.1
        have htl : t < N.length := by omega
        rw [show ((t : Nat) : Int).toNat = t from rfl]
        refine (replace22_in h (repS N r P t) (wyS N r P) r t m P (fun k hk => repN_steps hN hrl htl hg (by omega) hb k (by omega)) (by rw [← hPl]; exact repS_last N r P t) htl A c hP hm hB C54s).mono ?_
        rintro e w' ⟨rfl, h2, h3, h4⟩
        rw [if_pos ⟨⟨hr.1, hr.2, hg⟩, hw⟩]
        exact ⟨rfl, h2, h3, h4⟩
      · rw [show (fun (e : Ending) (w' : World) => if (0 ≤ (r : Int) ∧ (r : Int) < N.length ∧ (gatL N r P).isSome) ∧ 0 ≤ wth ∧ wth < N.length then e = .returned (.tuple #[.int .i64 (repN N r P wth.toNat).2, .int .i64 0]) ∧ Arena w' B ga (repN N r P wth.toNat).1 ∧ Kept9 w w' ∧ Below B w w' else e = .returned (.tuple #[.int .i64 0, .int .i64 6]) ∧ Below w.heap.size w w') = fun e w' => e = .returned (.tuple #[.int .i64 0, .int .i64 6]) ∧ Below w.heap.size w w' from by
          funext e w'; rw [if_neg (fun hh => hw hh.2)]]
        have key : ∀ (e : Ending) (w' : World), (∃ A' c', e = .returned (.tuple #[.slice A' (m + 1) c', .bool true]) ∧ w'.ownsRow w.heap.size 3 1 (.slice A' (m + 1) c') (m + 1) (ints .i64 ((List.range (m + 1)).map fun j => (wyS N r P j : Int))) ∧ Below w.heap.size w w') → ∃ A' c', e = .returned (.tuple #[.slice A' (m + 1) c', .bool true]) ∧ Below w.heap.size w w' := fun e w' ⟨A', c', h1, _, h3⟩ => ⟨A', c', h1, h3⟩
        exact replace22_nowith' h r wth hw A m c (m + 1) (C54s.mono key)
    · rw [show (fun (e : Ending) (w' : World) => if (0 ≤ (r : Int) ∧ (r : Int) < N.length ∧ (gatL N r P).isSome) ∧ 0 ≤ wth ∧ wth < N.length then e = .returned (.tuple #[.int .i64 (repN N r P wth.toNat).2, .int .i64 0]) ∧ Arena w' B ga (repN N r P wth.toNat).1 ∧ Kept9 w w' ∧ Below B w w' else e = .returned (.tuple #[.int .i64 0, .int .i64 6]) ∧ Below w.heap.size w w') = fun e w' => e = .returned (.tuple #[.int .i64 0, .int .i64 6]) ∧ Below w.heap.size w w' from by
          funext e w'; rw [if_neg (fun hh => hg hh.1.2.2)]]
      refine replace22_noway r wth A m c (C54.mono ?_)
      rintro e w' ⟨⟨A', c', rfl, ⟨q, hq⟩, ho⟩ | ⟨rfl, hn⟩, hb⟩
      · rw [hq] at hg; exact absurd rfl hg
      · exact ⟨rfl, hb⟩
  · refine (replace22_noway root wth A m c ((way54_out h root hr A m c).mono ?_)).mono ?_
    · rintro e w' ⟨rfl, rfl⟩
      exact ⟨rfl, Below.refl _ _⟩
    · rintro e w' ⟨rfl, hb⟩
      rw [if_neg (fun hh => hr ⟨hh.1.1, hh.1.2.1⟩)]
      exact ⟨rfl, hb⟩
/-- What At hands back. -/
def AtSaid (N : List GN) (root : Int) (P : List Int) (w : World) (e : Ending) (w' : World) : Prop :=
  e = .returned (.tuple #[.int .i64 ((if 0 ≤ root ∧ root < N.length then gatL N root.toNat P else none).getD 0 : Nat), .bool (if 0 ≤ root ∧ root < N.length then gatL N root.toNat P else none).isSome]) ∧ Below w.heap.size w w'
theorem at20_any {w : World} {B ga : Nat} {N : List GN} (h : Arena w B ga N) (hN : GoodN N) (root : Int) (A : Option Addr) (m c : Nat) (P : List Int) (hP : Rd w w.heap.size 1 A m c (ints .i64 P)) (hm : m ≤ 4096) :
    Calls Try.prog 20 #[.pointer (some ⟨ga, 0, none⟩), .int .i64 root, .slice A m c] w (AtSaid N root P w) := by
  unfold AtSaid
  by_cases hr : 0 ≤ root ∧ root < N.length
  · obtain ⟨r, rfl⟩ := Int.eq_ofNat_of_zero_le hr.1
    refine (at20 h hN r (by omega) A m c P hP hm).mono ?_
    rw [if_pos hr, ← hP.int_len, gat_all]
    rintro e w' ⟨⟨q, rfl, hq⟩ | ⟨rfl, hq⟩, hb⟩
    · rw [show ((r : Nat) : Int).toNat = r from rfl, hq]; exact ⟨rfl, hb⟩
    · rw [show ((r : Nat) : Int).toNat = r from rfl, hq]; exact ⟨rfl, hb⟩
  · refine (at20_out h root hr A m c).mono ?_
    rw [if_neg hr]
    rintro e w' ⟨rfl, hb⟩
    exact ⟨rfl, hb⟩
end Go.Proofs.Ytbmbiffhgdkpiaa
