/- Cursors: Down, Up, Next, Prev and To in one form: whether there is one, and where it stands. No condition. -/
import Derived.Test.YtbmbiffhgdkpiaaR18
namespace Go.Proofs.Ytbmbiffhgdkpiaa
open Go.RowKit

theorem atZ_ok {N : List GN} {r : Nat} (hr : r < N.length) (P : List Int) : decide (0 ≤ atZ N (r : Nat) P) = (gatL N r P).isSome := by
  have h := gatR_in hr P
  cases hg : gatL N r P with
  | none => rw [atZ_none (h.trans hg)]; rfl
  | some q => rw [atZ_some (h.trans hg)]; simp
theorem gatL_one {N : List GN} {r : Nat} {P : List Int} {d : Nat} (h : gatL N r P = some d) (q : Int) : (gatL N r (P ++ [q])).isSome = decide (0 ≤ q ∧ q < (gn N d).kids.length) := by
  rw [gatL_append, h]
  simp only [Option.bind_some, gatL]
  split
  · rename_i hq; simp [hq]
  · rename_i hq; simp [hq]
/-- A cursor, if there is one. -/
def CSt (w : World) (ga : Nat) (N : List GN) (r : Nat) (Q : List Int) (a : Option Addr) (n f k : Int) (u : Option Addr) (ok : Bool) : Prop :=
  ok = (gatL N r Q.reverse).isSome ∧ (ok = true → a = some ⟨ga, 0, none⟩ ∧ Chain (fun _ => True) w ga N r Q n f k u)
theorem CSt.below {w w' : World} {ga : Nat} {N : List GN} {r : Nat} {Q : List Int} {a : Option Addr} {n f k : Int} {u : Option Addr} {ok : Bool} (h : CSt w ga N r Q a n f k u ok) (hb : Below w.heap.size w w') : CSt w' ga N r Q a n f k u ok :=
  ⟨h.1, fun ht => ⟨(h.2 ht).1, (h.2 ht).2.below hb⟩⟩
def CSaid (ga : Nat) (N : List GN) (r : Nat) (Q : List Int) (w : World) (e : Ending) (w' : World) : Prop :=
  ∃ a n f k u ok, e = .returned (.tuple #[.agg (cc a n f k u), .bool ok]) ∧ CSt w' ga N r Q a n f k u ok ∧ Below w.heap.size w w'
theorem DownSaid.cs {w w' : World} {e : Ending} {ga : Nat} {N : List GN} {r i : Nat} {Q : List Int} {f k : Int} {u : Option Addr} (hN : OkN N) (hr : r < N.length) (hc : Chain (fun _ => True) w ga N r Q (i : Nat) f k u) (q : Int) (h : DownSaid ga N i f k u q w e w') : CSaid ga N r (q :: Q) w e w' := by
  obtain ⟨h, hb⟩ := h
  have hg := (hc.ok hN hr).2.2.2.2
  rw [show ((i : Nat) : Int).toNat = i from rfl] at hg
  have hs := gatL_one hg q
  rw [← List.reverse_cons] at hs
  by_cases hq : 0 ≤ q ∧ q < (gn N i).kids.length
  · rw [if_pos hq] at h
    obtain ⟨b, rfl, hbb, hgb⟩ := h
    exact ⟨_, _, _, _, _, true, rfl, ⟨by rw [hs]; simp [hq], fun _ => ⟨rfl, b, (i : Nat), f, k, u, rfl, trivial, hgb, hc.below hb, rfl, hq.1, hq.2, rfl, rfl⟩⟩, hb⟩
  · rw [if_neg hq] at h
    subst h
    exact ⟨_, _, _, _, _, false, rfl, ⟨by rw [hs]; simp [hq], fun ht => by cases ht⟩, hb⟩
section
variable {w : World} {B ga : Nat} {N : List GN} {r : Nat} {Q : List Int} {n f k : Int} {u : Option Addr}
theorem chain_bd (hN : OkN N) (hwd : ∀ i, i < N.length → (gn N i).w ≤ 3000) (hr : r < N.length) {X : Nat → Prop} (hc : Chain X w ga N r Q n f k u) : ∃ i : Nat, n = i ∧ i < N.length ∧ 0 ≤ f ∧ f ≤ 1000000 := by
  obtain ⟨p0, p1, p2, p3, -⟩ := hc.ok hN hr
  obtain ⟨i, rfl⟩ := Int.eq_ofNat_of_zero_le p0
  have := hwd r hr
  exact ⟨i, rfl, by omega, p2, by omega⟩
theorem down_at (h : Arena w B ga N) (hN : OkN N) (hwd : ∀ i, i < N.length → (gn N i).w ≤ 3000) (hr : r < N.length) (hc : Chain (fun _ => True) w ga N r Q n f k u) (q : Int) :
    Calls Try.prog 40 #[.agg (cc (some ⟨ga, 0, none⟩) n f k u), .int .i64 q] w (CSaid ga N r (q :: Q) w) := by
  obtain ⟨i, rfl, hi, hf0, hf1⟩ := chain_bd hN hwd hr hc
  exact (down40 h hN i hi f k u q hf0 hf1 (Nat.le_trans (hwd i hi) (by omega))).mono fun e w' h => DownSaid.cs hN hr hc q h
theorem up_at {q : Int} (hc : Chain (fun _ => True) w ga N r (q :: Q) n f k u) :
    Calls Try.prog 41 #[.agg (cc (some ⟨ga, 0, none⟩) n f k u)] w fun e w' => ∃ n1 f1 k1 u1, e = .returned (.tuple #[.agg (cc (some ⟨ga, 0, none⟩) n1 f1 k1 u1), .bool true]) ∧ Chain (fun _ => True) w' ga N r Q n1 f1 k1 u1 ∧ Below w.heap.size w w' := by
  obtain ⟨b, n', f', k', u', rfl, -, hg, hc', -⟩ := hc
  refine (up41_kid _ n f k b _ n' f' k' u' w hg).mono ?_
  rintro e w' ⟨rfl, hb⟩
  exact ⟨n', f', k', u', rfl, hc'.below hb, hb⟩
theorem next_at {q : Int} (h : Arena w B ga N) (hN : OkN N) (hwd : ∀ i, i < N.length → (gn N i).w ≤ 3000) (hr : r < N.length) (hc : Chain (fun _ => True) w ga N r (q :: Q) n f k u) :
    Calls Try.prog 42 #[.agg (cc (some ⟨ga, 0, none⟩) n f k u)] w (CSaid ga N r ((q + 1) :: Q) w) := by
  obtain ⟨b, n', f', k', u', rfl, -, hg, hc', rfl, hq0, hq1, -⟩ := hc
  obtain ⟨i, rfl, hi, hf0, hf1⟩ := chain_bd hN hwd hr hc'
  have := hN.few i hi
  rw [show ((i : Nat) : Int).toNat = i from rfl] at hq1
  exact (next42 h hN n f k b i f' k' u' hg hi hf0 hf1 (Nat.le_trans (hwd i hi) (by omega)) hq0 (by omega)).mono fun e w' h => DownSaid.cs hN hr hc' _ h
theorem prev_at {q : Int} (h : Arena w B ga N) (hN : OkN N) (hwd : ∀ i, i < N.length → (gn N i).w ≤ 3000) (hr : r < N.length) (hc : Chain (fun _ => True) w ga N r (q :: Q) n f k u) :
    Calls Try.prog 43 #[.agg (cc (some ⟨ga, 0, none⟩) n f k u)] w (CSaid ga N r ((q - 1) :: Q) w) := by
  obtain ⟨b, n', f', k', u', rfl, -, hg, hc', rfl, hq0, hq1, -⟩ := hc
  obtain ⟨i, rfl, hi, hf0, hf1⟩ := chain_bd hN hwd hr hc'
  have := hN.few i hi
  rw [show ((i : Nat) : Int).toNat = i from rfl] at hq1
  exact (prev43 h hN n f k b i f' k' u' hg hi hf0 hf1 (Nat.le_trans (hwd i hi) (by omega)) hq0 (by omega)).mono fun e w' h => DownSaid.cs hN hr hc' _ h
/-- The one ahead stands there if this one is not the first. -/
theorem prev_ok {q : Int} (hN : OkN N) (hr : r < N.length) {X : Nat → Prop} (hc : Chain X w ga N r (q :: Q) n f k u) : (gatL N r ((q - 1) :: Q).reverse).isSome = decide (0 < q) := by
  obtain ⟨b, n', f', k', u', rfl, -, hg, hc', rfl, hq0, hq1, -⟩ := hc
  have hgl := (hc'.ok hN hr).2.2.2.2
  rw [List.reverse_cons, gatL_one hgl]
  rw [decide_eq_decide]
  omega
theorem to_at (h : Arena w B ga N) (hN : OkN N) (hwd : ∀ i, i < N.length → (gn N i).w ≤ 3000) (hr : r < N.length) (A : Option Addr) (m c : Nat) (P : List Int) (hP : Rd w w.heap.size 1 A m c (ints .i64 P)) (hm : m ≤ 4096) :
    Calls Try.prog 44 #[.agg (cc (some ⟨ga, 0, none⟩) (r : Nat) 0 0 none), .slice A m c] w (CSaid ga N r P.reverse w) := by
  refine (to44 h hN (fun i hi => Nat.le_trans (hwd i hi) (by omega)) r hr [] r 0 0 none ⟨rfl, rfl, rfl, rfl⟩ A m c P hP hm).mono ?_
  rintro e w' ⟨h, hb⟩
  by_cases hs : (gatL N r P).isSome
  · rw [if_pos hs] at h
    obtain ⟨n', f', k', u', rfl, hc⟩ := h
    exact ⟨_, _, _, _, _, true, rfl, ⟨by rw [List.reverse_reverse]; exact hs.symm, fun _ => ⟨rfl, by simpa using hc⟩⟩, hb⟩
  · rw [if_neg hs] at h
    subst h
    exact ⟨_, _, _, _, _, false, rfl, ⟨by rw [List.reverse_reverse]; simpa using hs, fun ht => by cases ht⟩, hb⟩
end
/-- What the law's walk keeps: both, and the path. -/
structure GSt (w wr : World) (V : Value) (N : List GN) (A : Option Addr) (m c : Nat) (P : List Int) : Prop where
  both : Both wr w.heap.size w.heap.size V N
  path : Rd wr wr.heap.size 1 A m c (ints .i64 P)
  bel : Below w.heap.size w wr
theorem GSt.on {w wr w' : World} {V : Value} {N : List GN} {A : Option Addr} {m c : Nat} {P : List Int} (h : GSt w wr V N A m c P) (hb : Below wr.heap.size wr w') : GSt w w' V N A m c P :=
  ⟨h.both.below hb, h.path.on hb, h.bel.trans (hb.mono h.bel.size)⟩
end Go.Proofs.Ytbmbiffhgdkpiaa
