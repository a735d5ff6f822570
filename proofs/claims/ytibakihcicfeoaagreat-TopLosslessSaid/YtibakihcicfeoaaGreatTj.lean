/- Nodes added, and replaced by a path, in plain words. No condition. -/
import Derived.Test.YtibakihcicfeoaaGreatTi
import Derived.Laws.OwnMore
namespace Go.Proofs.YtibakihcicfeoaaGreat
open Go.RowKit

/-- A node's width, by its number. -/
def wd (N : List GN) (z : Int) : Nat := (gn N z.toNat).w
theorem bW_sum (N : List GN) (ks : List Int) : ∀ k, k ≤ ks.length → bW N ks k = ((ks.take k).map (wd N)).sum := by
  intro k
  induction k with
  | zero => intro _; simp [bW]
  | succ k ih =>
    intro hk
    rw [List.take_succ_eq_append_getElem (by omega), List.map_append, List.sum_append, ← ih (by omega)]
    simp [bW, wd, gz_eq (show k < ks.length by omega)]
theorem bW_all (N : List GN) (ks : List Int) : bW N ks ks.length = (ks.map (wd N)).sum := by
  rw [bW_sum N ks _ (Nat.le_refl _), List.take_length]
/-- What holds of an arena's nodes. -/
structure OkN (N : List GN) : Prop where
  good : GoodN N
  wid : ∀ i, i < N.length → (gn N i).w = (gn N i).b.length + ((gn N i).kids.map (wd N)).sum
  leaf : ∀ i, i < N.length → (gn N i).leaf = true → (gn N i).kids = []
  bra : ∀ i, i < N.length → (gn N i).leaf = false → (gn N i).b = []
  cnt : ∀ i, i < N.length → (gn N i).cnt ≤ 2147483647
  few : ∀ i, i < N.length → (gn N i).kids.length ≤ 4096
theorem OkN.nil : OkN [] := ⟨fun i h => absurd h (by simp), fun i h => absurd h (by simp), fun i h => absurd h (by simp), fun i h => absurd h (by simp), fun i h => absurd h (by simp), fun i h => absurd h (by simp)⟩
theorem sum_ext {f g : Int → Nat} : ∀ (l : List Int), (∀ z ∈ l, f z = g z) → (l.map f).sum = (l.map g).sum
  | [], _ => rfl
  | a :: l, h => by
    rw [List.map_cons, List.map_cons, List.sum_cons, List.sum_cons, h a (List.mem_cons_self ..), sum_ext l (fun z hz => h z (List.mem_cons_of_mem _ hz))]
theorem flat_len (f : Int → List Int) (g : Int → Nat) : ∀ (l : List Int), (∀ z ∈ l, (f z).length = g z) → (l.flatMap f).length = (l.map g).sum
  | [], _ => rfl
  | a :: l, h => by
    rw [List.flatMap_cons, List.length_append, List.map_cons, List.sum_cons, h a (List.mem_cons_self ..), flat_len f g l (fun z hz => h z (List.mem_cons_of_mem _ hz))]
theorem OkN.wide {N : List GN} (h : OkN N) : WideN N := by
  intro i
  induction i using Nat.strongRecOn with
  | ind i ih =>
    intro hi
    rw [h.wid i hi, pr_eq h.good (z := (i : Int)) (by omega) (by omega), List.length_append]
    congr 1
    rw [flat_len (pr N) (wd N) _ (fun z hz => ?_)]
    · rfl
    · have hk := good_kid h.good hi (z := z) hz
      obtain ⟨j, rfl⟩ := Int.eq_ofNat_of_zero_le hk.1
      exact (ih j (by omega) (by omega)).symm
/-- A node more. -/
theorem prF_snoc {N : List GN} (hN : GoodN N) (x : GN) : ∀ (d : Nat) (z : Int), 0 ≤ z → z < N.length → prF (N ++ [x]) d z = prF N d z := by
  intro d
  induction d with
  | zero => intros; rfl
  | succ d ih =>
    intro z h0 h1
    show (gn (N ++ [x]) z.toNat).b ++ (gn (N ++ [x]) z.toNat).kids.flatMap (prF (N ++ [x]) d) = (gn N z.toNat).b ++ (gn N z.toNat).kids.flatMap (prF N d)
    rw [gn_snoc_lt N x (show z.toNat < N.length by omega)]
    congr 1
    refine flatMap_ext _ fun y hy => ?_
    have hk := good_kid hN (i := z.toNat) (by omega) hy
    exact ih y hk.1 (by omega)
theorem pr_snoc {N : List GN} (hN : GoodN N) (x : GN) {z : Int} (h0 : 0 ≤ z) (h1 : z < N.length) : pr (N ++ [x]) z = pr N z := by
  unfold pr
  rw [prF_snoc hN x _ z h0 h1, prF_stable hN N.length z h0 h1 h1 _ (by simp)]
theorem good_snoc {N : List GN} (hN : GoodN N) {x : GN} (hx : ∀ z ∈ x.kids, 0 ≤ z ∧ z < (N.length : Int)) : GoodN (N ++ [x]) := by
  intro i hi j hj
  rcases Nat.lt_or_ge i N.length with h | h
  · rw [gn_snoc_lt N x h] at hj ⊢
    exact hN i h j hj
  · rw [List.length_append, List.length_singleton] at hi
    obtain rfl : i = N.length := by omega
    rw [gn_snoc_at] at hj ⊢
    rw [gz_eq hj]
    exact hx _ (List.getElem_mem _)
theorem pr_snoc_at {N : List GN} (hN : GoodN N) {x : GN} (hx : ∀ z ∈ x.kids, 0 ≤ z ∧ z < (N.length : Int)) : pr (N ++ [x]) (N.length : Int) = x.b ++ x.kids.flatMap (pr N) := by
  rw [pr_eq (good_snoc hN hx) (by omega) (by simp; omega)]
  rw [show ((N.length : Nat) : Int).toNat = N.length from rfl, gn_snoc_at]
  congr 1
  exact flatMap_ext _ fun y hy => pr_snoc hN x (hx y hy).1 (hx y hy).2
theorem wd_snoc (N : List GN) (x : GN) {z : Int} (h0 : 0 ≤ z) (h1 : z < N.length) : wd (N ++ [x]) z = wd N z := by
  unfold wd
  rw [gn_snoc_lt N x (show z.toNat < N.length by omega)]
theorem OkN.snoc {N : List GN} (h : OkN N) {x : GN} (hx : ∀ z ∈ x.kids, 0 ≤ z ∧ z < (N.length : Int)) (hw : x.w = x.b.length + (x.kids.map (wd N)).sum) (hl : x.leaf = true → x.kids = []) (hb : x.leaf = false → x.b = [])
    (hc : x.cnt ≤ 2147483647) (hf : x.kids.length ≤ 4096) : OkN (N ++ [x]) := by
  have key : ∀ i, i < (N ++ [x]).length → (i < N.length ∧ gn (N ++ [x]) i = gn N i) ∨ (i = N.length ∧ gn (N ++ [x]) i = x) := fun i hi => by
    rcases Nat.lt_or_ge i N.length with h' | h'
    · exact .inl ⟨h', gn_snoc_lt N x h'⟩
    · rw [List.length_append, List.length_singleton] at hi
      obtain rfl : i = N.length := by omega
      exact .inr ⟨rfl, gn_snoc_at N x⟩
  refine ⟨good_snoc h.good hx, fun i hi => ?_, fun i hi => ?_, fun i hi => ?_, fun i hi => ?_, fun i hi => ?_⟩
  · rcases key i hi with ⟨h1, e⟩ | ⟨h1, e⟩
    · rw [e, h.wid i h1]
      congr 1
      exact sum_ext _ fun z hz => by
        have hk := good_kid h.good h1 hz
        exact (wd_snoc N x hk.1 (by omega)).symm
    · rw [e, hw]
      congr 1
      exact sum_ext _ fun z hz => (wd_snoc N x (hx z hz).1 (hx z hz).2).symm
  · rcases key i hi with ⟨h1, e⟩ | ⟨h1, e⟩
    · rw [e]; exact h.leaf i h1
    · rw [e]; exact hl
  · rcases key i hi with ⟨h1, e⟩ | ⟨h1, e⟩
    · rw [e]; exact h.bra i h1
    · rw [e]; exact hb
  · rcases key i hi with ⟨h1, e⟩ | ⟨h1, e⟩
    · rw [e]; exact h.cnt i h1
    · rw [e]; exact hc
  · rcases key i hi with ⟨h1, e⟩ | ⟨h1, e⟩
    · rw [e]; exact h.few i h1
    · rw [e]; exact hf

/-- The nodes, with a branch. -/
def gbr (N : List GN) (kind : Int) (ks : List Int) : List GN := N ++ [⟨kind, bW N ks ks.length, bC N ks ks.length, false, [], ks⟩]
theorem gbr_len (N : List GN) (kind : Int) (ks : List Int) : (gbr N kind ks).length = N.length + 1 := by simp [gbr]
theorem kidsOk_mem {N : List GN} {ks : List Int} (h : kidsOk N ks ks.length) {z : Int} (hz : z ∈ ks) : 0 ≤ z ∧ z < (N.length : Int) := by
  obtain ⟨j, hj, rfl⟩ := List.getElem_of_mem hz
  have := h j hj
  rw [gz_eq hj] at this
  exact this
theorem kidsOk_of {N : List GN} {ks : List Int} (h : ∀ z ∈ ks, 0 ≤ z ∧ z < (N.length : Int)) : kidsOk N ks ks.length := fun j hj => by
  rw [gz_eq hj]
  exact h _ (List.getElem_mem _)
theorem OkN.br {N : List GN} (h : OkN N) (kind : Int) {ks : List Int} (hk : kidsOk N ks ks.length) (hf : ks.length ≤ 4096) : OkN (gbr N kind ks) :=
  h.snoc (fun z hz => kidsOk_mem hk hz) (by simp [bW_all]) (by simp) (by simp) (bC_bd _ _ _) hf
theorem OkN.lf {N : List GN} (h : OkN N) (kind : Int) (b : List Int) : OkN (N ++ [⟨kind, b.length, 1, true, b, []⟩]) :=
  h.snoc (by simp) (by simp) (by simp) (by simp) (by simp) (by simp)

/-- The node that a path leads to. -/
def gatL (N : List GN) : Nat → List Int → Option Nat
  | root, [] => some root
  | root, p :: P => if 0 ≤ p ∧ p < (gn N root).kids.length then gatL N (gz (gn N root).kids p.toNat).toNat P else none
theorem gatL_append (N : List GN) : ∀ (P Q : List Int) (root : Nat), gatL N root (P ++ Q) = (gatL N root P).bind fun r => gatL N r Q
  | [], Q, root => rfl
  | p :: P, Q, root => by
    rw [List.cons_append]
    simp only [gatL]
    split
    · exact gatL_append N P Q _
    · rfl
theorem gat_take (N : List GN) (root : Nat) (P : List Int) : ∀ k, k ≤ P.length → gat N root P k = gatL N root (P.take k) := by
  intro k
  induction k with
  | zero => intro _; rfl
  | succ k ih =>
    intro hk
    rw [List.take_succ_eq_append_getElem (by omega), gatL_append, ← ih (by omega)]
    simp only [gat, gatL, gz_eq (show k < P.length by omega)]
theorem gat_all (N : List GN) (root : Nat) (P : List Int) : gat N root P P.length = gatL N root P := by rw [gat_take N root P _ (Nat.le_refl _), List.take_length]

/-- The nodes behind it, and the one that was asked for. -/
def repN (N : List GN) : Nat → List Int → Nat → List GN × Nat
  | _, [], wth => (N, wth)
  | root, p :: P, wth => (gbr (repN N (gz (gn N root).kids p.toNat).toNat P wth).1 (gn N root).kind ((gn N root).kids.set p.toNat (repN N (gz (gn N root).kids p.toNat).toNat P wth).2), (repN N (gz (gn N root).kids p.toNat).toNat P wth).1.length)
theorem repN_cons (N : List GN) (root : Nat) (p : Int) (P : List Int) (wth : Nat) : repN N root (p :: P) wth = (gbr (repN N (gz (gn N root).kids p.toNat).toNat P wth).1 (gn N root).kind ((gn N root).kids.set p.toNat (repN N (gz (gn N root).kids p.toNat).toNat P wth).2), (repN N (gz (gn N root).kids p.toNat).toNat P wth).1.length) := rfl
theorem sum_set (f : Int → Nat) : ∀ (ks : List Int) (p : Nat) (n : Int), p < ks.length → ((ks.set p n).map f).sum + f (gz ks p) = (ks.map f).sum + f n
  | [], p, n, h => absurd h (by simp)
  | a :: ks, 0, n, h => by simp [gz]; omega
  | a :: ks, p + 1, n, h => by
    have := sum_set f ks p n (by simpa using h)
    simp only [List.set_cons_succ, List.map_cons, List.sum_cons]
    have e : gz (a :: ks) (p + 1) = gz ks p := by simp [gz]
    rw [e]
    omega
theorem mem_set {ks : List Int} {p : Nat} {n z : Int} (h : z ∈ ks.set p n) : z ∈ ks ∨ z = n := List.mem_or_eq_of_mem_set h
/-- What holds of the nodes behind a replacement. -/
structure RepOk (N : List GN) (root : Nat) (P : List Int) (wth : Nat) (S : List GN × Nat) : Prop where
  len : S.1.length = N.length + P.length
  old : ∀ i, i < N.length → gn S.1 i = gn N i
  ok : OkN S.1
  lt : S.2 < S.1.length
  w : (gn S.1 S.2).w ≤ (gn N root).w + (gn N wth).w
  pr : ∀ i, i < N.length → pr S.1 i = pr N i
theorem rep_step {N : List GN} (hN : OkN N) {root : Nat} (hr : root < N.length) {p : Int} {P : List Int} {wth : Nat} {S : List GN × Nat} (hp : 0 ≤ p ∧ p < (gn N root).kids.length) (h : RepOk N (gz (gn N root).kids p.toNat).toNat P wth S) :
    kidsOk S.1 ((gn N root).kids.set p.toNat S.2) ((gn N root).kids.set p.toNat S.2).length ∧ bW S.1 ((gn N root).kids.set p.toNat S.2) ((gn N root).kids.set p.toNat S.2).length ≤ (gn N root).w + (gn N wth).w ∧
    RepOk N root (p :: P) wth (gbr S.1 (gn N root).kind ((gn N root).kids.set p.toNat S.2), S.1.length) := by
  have hlen := h.len
  have hk : ∀ z ∈ (gn N root).kids.set p.toNat S.2, 0 ≤ z ∧ z < (S.1.length : Int) := fun z hz => by
    rcases mem_set hz with h1 | h1
    · have := good_kid hN.good hr h1
      omega
    · have := h.lt
      omega
  have hko := kidsOk_of hk
  have hkid := good_kid hN.good hr (z := gz (gn N root).kids p.toNat) (by rw [gz_eq (by omega)]; exact List.getElem_mem _)
  have hw : bW S.1 ((gn N root).kids.set p.toNat S.2) ((gn N root).kids.set p.toNat S.2).length ≤ (gn N root).w + (gn N wth).w := by
    rw [bW_all]
    have h1 := sum_set (wd S.1) (gn N root).kids p.toNat S.2 (by omega)
    have h2 : ((gn N root).kids.map (wd S.1)).sum = ((gn N root).kids.map (wd N)).sum := sum_ext _ fun z hz => by
      have := good_kid hN.good hr hz
      unfold wd
      rw [h.old z.toNat (by omega)]
    have h3 := hN.wid root hr
    have h4 : wd S.1 (S.2 : Int) = (gn S.1 S.2).w := rfl
    have h5 := h.w
    have h6 : wd S.1 (gz (gn N root).kids p.toNat) = (gn N (gz (gn N root).kids p.toNat).toNat).w := by
      unfold wd
      rw [h.old _ (by omega)]
    omega
  have hf := hN.few root hr
  refine ⟨hko, hw, ?_⟩
  refine ⟨by simp only [gbr_len, List.length_cons]; omega, fun i hi => ?_, h.ok.br _ hko (by rw [List.length_set]; exact hf), by simp only [gbr_len]; omega, ?_, fun i hi => ?_⟩
  · show gn (gbr S.1 _ _) i = _
    unfold gbr
    rw [gn_snoc_lt _ _ (by omega), h.old i hi]
  · show (gn (gbr S.1 _ _) S.1.length).w ≤ _
    unfold gbr
    rw [gn_snoc_at]
    exact hw
  · show Go.Proofs.YtibakihcicfeoaaGreat.pr (gbr S.1 _ _) i = _
    unfold gbr
    rw [pr_snoc h.ok.good _ (by omega) (by omega), h.pr i hi]
theorem repN_ok {N : List GN} (hN : OkN N) : ∀ (P : List Int) (root wth : Nat), root < N.length → wth < N.length → (gatL N root P).isSome → RepOk N root P wth (repN N root P wth)
  | [], root, wth, hr, hw, _ => ⟨rfl, fun _ _ => rfl, hN, hw, Nat.le_add_left _ _, fun _ _ => rfl⟩
  | p :: P, root, wth, hr, hw, hg => by
    have hp : 0 ≤ p ∧ p < (gn N root).kids.length := by
      simp only [gatL] at hg
      split at hg
      · assumption
      · cases hg
    simp only [gatL, if_pos hp] at hg
    have hkid := good_kid hN.good hr (z := gz (gn N root).kids p.toNat) (by rw [gz_eq (by omega)]; exact List.getElem_mem _)
    exact (rep_step hN hr hp (repN_ok hN P _ wth (by omega) hw hg)).2.2
/-- What stands at the path behind it. -/
theorem repN_at {N : List GN} (hN : OkN N) : ∀ (P : List Int) (root wth : Nat), root < N.length → wth < N.length → (gatL N root P).isSome → ∀ (M : List GN), (∀ i, i < (repN N root P wth).1.length → gn M i = gn (repN N root P wth).1 i) → gatL M (repN N root P wth).2 P = some wth
  | [], root, wth, hr, hw, _, M, hM => rfl
  | p :: P, root, wth, hr, hw, hg, M, hM => by
    have hp : 0 ≤ p ∧ p < (gn N root).kids.length := by
      simp only [gatL] at hg
      split at hg
      · assumption
      · cases hg
    have hg' := hg
    simp only [gatL, if_pos hp] at hg'
    have hkid := good_kid hN.good hr (z := gz (gn N root).kids p.toNat) (by rw [gz_eq (by omega)]; exact List.getElem_mem _)
    have ih := repN_at hN P (gz (gn N root).kids p.toNat).toNat wth (by omega) hw hg'
    rw [repN_cons] at hM ⊢
    generalize repN N (gz (gn N root).kids p.toNat).toNat P wth = S at *
    have e : gn M S.1.length = ⟨(gn N root).kind, bW S.1 ((gn N root).kids.set p.toNat S.2) ((gn N root).kids.set p.toNat S.2).length, bC S.1 ((gn N root).kids.set p.toNat S.2) ((gn N root).kids.set p.toNat S.2).length, false, [], (gn N root).kids.set p.toNat S.2⟩ := by
      rw [hM _ (by simp only [gbr_len]; omega)]
      exact gn_snoc_at _ _
    show gatL M S.1.length (p :: P) = some wth
    rw [gatL, e]
    simp only [List.length_set, if_pos hp]
    have hz : gz ((gn N root).kids.set p.toNat S.2) p.toNat = S.2 := by
      rw [gz_eq (by rw [List.length_set]; omega)]
      simp
    rw [hz]
    refine ih M fun i hi => ?_
    rw [hM i (by simp only [gbr_len]; omega)]
    exact gn_snoc_lt _ _ hi

/-- What the walk of Replace is told of one step. -/
structure RepStep (N : List GN) (S : Nat → List GN × Nat) (wy : Nat → Nat) (P : List Int) (k : Nat) : Prop where
  p0 : 0 ≤ gz P k
  p1 : gz P k < (gn N (wy k)).kids.length
  lt : wy k < (S (k + 1)).1.length
  eq : gn (S (k + 1)).1 (wy k) = gn N (wy k)
  few : (gn N (wy k)).kids.length ≤ 4096
  ok : kidsOk (S (k + 1)).1 ((gn N (wy k)).kids.set (gz P k).toNat (S (k + 1)).2) (gn N (wy k)).kids.length
  bw : bW (S (k + 1)).1 ((gn N (wy k)).kids.set (gz P k).toNat (S (k + 1)).2) (gn N (wy k)).kids.length ≤ 2147483647
  cnt : ∀ i, i < (S (k + 1)).1.length → (gn (S (k + 1)).1 i).cnt ≤ 2147483647
  len : (S (k + 1)).1.length ≤ 65536
  e1 : (S k).1 = (S (k + 1)).1 ++ [⟨(gn N (wy k)).kind, bW (S (k + 1)).1 ((gn N (wy k)).kids.set (gz P k).toNat (S (k + 1)).2) (gn N (wy k)).kids.length, bC (S (k + 1)).1 ((gn N (wy k)).kids.set (gz P k).toNat (S (k + 1)).2) (gn N (wy k)).kids.length, false, [], (gn N (wy k)).kids.set (gz P k).toNat (S (k + 1)).2⟩]
  e2 : (S k).2 = (S (k + 1)).1.length
/-- The node k steps on; the nodes, and what stands there, when the path is done from its end down to its k-th step. -/
def wyS (N : List GN) (root : Nat) (P : List Int) (k : Nat) : Nat := (gat N root P k).getD 0
def repS (N : List GN) (root : Nat) (P : List Int) (wth k : Nat) : List GN × Nat := repN N (wyS N root P k) (P.drop k) wth
theorem repN_steps {N : List GN} (hN : OkN N) {P : List Int} {root wth : Nat} (hr : root < N.length) (hw : wth < N.length) (hg : (gatL N root P).isSome) (hl : N.length + P.length ≤ 65536) (hb : ∀ i, i < N.length → (gn N i).w ≤ 1000000000) :
    ∀ k, k < P.length → RepStep N (repS N root P wth) (wyS N root P) P k := by
  intro k hk
  have hat : ∀ j, j ≤ P.length → ∃ r, gat N root P j = some r ∧ r < N.length ∧ (gatL N r (P.drop j)).isSome := by
    intro j hj
    rw [gat_take N root P j hj]
    have h1 : gatL N root (P.take j ++ P.drop j) = _ := gatL_append N (P.take j) (P.drop j) root
    rw [List.take_append_drop] at h1
    rw [h1] at hg
    cases hq : gatL N root (P.take j) with
    | none => rw [hq] at hg; cases hg
    | some r =>
      rw [hq] at hg
      refine ⟨r, rfl, ?_, hg⟩
      refine gat_lt hN.good hr P (k := j) ?_
      rw [gat_take N root P j hj, hq]
  obtain ⟨r, h1, h2, h3⟩ := hat k (by omega)
  obtain ⟨r', h1', h2', h3'⟩ := hat (k + 1) (by omega)
  have hd : P.drop k = gz P k :: P.drop (k + 1) := by rw [List.drop_eq_getElem_cons hk, gz_eq hk]
  rw [hd] at h3
  have hp : 0 ≤ gz P k ∧ gz P k < (gn N r).kids.length := by
    simp only [gatL] at h3
    split at h3
    · assumption
    · cases h3
  have hr' : r' = (gz (gn N r).kids (gz P k).toNat).toNat := by
    simp only [gat, h1, Option.bind_some, if_pos hp, Option.some.injEq] at h1'
    exact h1'.symm
  have hok := repN_ok hN (P.drop (k + 1)) r' wth h2' hw h3'
  have hst := rep_step hN h2 hp (by rw [← hr']; exact hok)
  have hlen := hok.len
  rw [List.length_drop] at hlen
  have hbr := hb r h2
  have hbw := hb wth hw
  have q0 : wyS N root P k = r := by simp [wyS, h1]
  have q1 : repS N root P wth (k + 1) = repN N r' (P.drop (k + 1)) wth := by simp [repS, wyS, h1']
  have q2 : repS N root P wth k = repN N r (gz P k :: P.drop (k + 1)) wth := by rw [← hd]; simp [repS, wyS, h1]
  obtain ⟨s1, s2, _⟩ := hst
  rw [List.length_set] at s1 s2
  refine ⟨hp.1, ?_, ?_, ?_, ?_, ?_, ?_, ?_, ?_, ?_, ?_⟩
  · rw [q0]; exact hp.2
  · rw [q0, q1]; omega
  · rw [q0, q1]; exact hok.old r h2
  · rw [q0]; exact hN.few r h2
  · rw [q0, q1]; exact s1
  · rw [q0, q1]; omega
  · rw [q1]; exact hok.ok.cnt
  · rw [q1]; omega
  · rw [q0, q1, q2, repN_cons, ← hr']
    unfold gbr
    rw [List.length_set]
  · rw [q1, q2, repN_cons, ← hr']
end Go.Proofs.YtibakihcicfeoaaGreat
/- The walk of same. No condition. -/
namespace Go.Proofs.YtibakihcicfeoaaGreat
open Go.RowKit
theorem Kept9.drew {a b : World} (h : Kept9 a b) : Kept9 a b.drew := ⟨h.os, h.tape, h.output, h.size, h.blk⟩
theorem Arena.drew {w : World} {B ga : Nat} {N : List GN} (h : Arena w B ga N) : Arena w.drew B ga N := ⟨h.lo, h.ex⟩
theorem own_head {w : World} {B : Nat} {e : TypeId} {sz n c : Nat} {A : Option Addr} {xs : List Value} (h : w.ownsRow B e sz (.slice A n c) n xs) (hn : 0 < n) : ∃ g, A = some ⟨g, 0, none⟩ := by
  rcases h.2 with ⟨_, h0⟩ | ⟨g, cap, cur, hv, _⟩
  · omega
  · injection hv with h1 _ _
    exact ⟨g, h1⟩
theorem ints_set (k : IntKind) (l : List Int) (j : Nat) (z : Int) : (ints k l).set j (.int k z) = ints k (l.set j z) := by simp [ints, List.map_set]

theorem wpAnyH_mono {P : Program} {md : Region.Mode} {ops : Array Oper} {Q : Exit → Act → World → Prop} {S S' : World → Prop} (h : ∀ w, S' w → S w) :
    ∀ (fuel : Nat) (listed : Array Bool) (a : Act) (w : World), wpAnyH P md ops Q S' fuel listed a w → wpAnyH P md ops Q S fuel listed a w
  | 0, _, _, _, hw => hw
  | fuel + 1, _, _, _, hw => ⟨hw.1, fun i hi => wpOp_mono (fun a' w' hq => ⟨h _ hq.1, wpAnyH_mono h fuel _ a' w' hq.2⟩) (hw.2 i hi)⟩
theorem gq_in {N : List GN} {i : Nat} (h : i < N.length) : gq N (i : Nat) = gn N i := by
  unfold gq
  rw [if_pos ⟨by omega, by omega⟩]
  rfl
theorem gq_out {N : List GN} {z : Int} (h : ¬ (0 ≤ z ∧ z < N.length)) : gq N z = ⟨0, 0, 0, false, [], []⟩ := by
  unfold gq
  rw [if_neg h]
section
variable {w : World} {B ga k : Nat} {N : List GN} (h : Arena w B ga N) (hk : k < N.length)
include h hk
theorem kind23_at : Calls Tryz.prog 114 #[.pointer (some ⟨ga, 0, none⟩), .int .i64 (k : Nat)] w fun e w' => e = .returned (.int .i64 (gn N k).kind) ∧ Below w.heap.size w w' := by have := kind23 h (k : Nat); rwa [gq_in hk] at this
theorem width18_at : Calls Tryz.prog 8 #[.pointer (some ⟨ga, 0, none⟩), .int .i64 (k : Nat)] w fun e w' => e = .returned (.int .i64 (gn N k).w) ∧ Below w.heap.size w w' := by have := width18 h (k : Nat); rwa [gq_in hk] at this
theorem count30_at : Calls Tryz.prog 9 #[.pointer (some ⟨ga, 0, none⟩), .int .i64 (k : Nat)] w fun e w' => e = .returned (.int .i64 (gn N k).cnt) ∧ Below w.heap.size w w' := by have := count30 h (k : Nat); rwa [gq_in hk] at this
theorem kids28_at (hl : (gn N k).kids.length ≤ 65536) : Calls Tryz.prog 38 #[.pointer (some ⟨ga, 0, none⟩), .int .i64 (k : Nat)] w (OwnSaid 3 (gn N k).kids.length (ints .i64 (gn N k).kids) w) := by have := kids28 h (k : Nat) (by rw [gq_in hk]; exact hl); rwa [gq_in hk] at this
theorem print19_at (hN : OkN N) (hp : (pr N (k : Nat)).length ≤ 65536) : Calls Tryz.prog 16 #[.pointer (some ⟨ga, 0, none⟩), .int .i64 (k : Nat)] w (OwnSaid 5 (pr N (k : Nat)).length (ints .u8 (pr N (k : Nat))) w) :=
  print19_in h hN.good hN.wide k hk hp (fun i hi => Nat.le_trans (hN.few i hi) (by omega))
end
end Go.Proofs.YtibakihcicfeoaaGreat
