/- How many nodes are met below a node. No condition. -/
import Derived.Test.YtibakihcicfeoaaGreatTj
namespace Go.Proofs.YtibakihcicfeoaaGreat

def ndsF (N : List GN) : Nat → Nat → Nat
  | 0, _ => 0
  | d + 1, n => 1 + ((gn N n).kids.map fun z => ndsF N d z.toNat).sum
theorem ndsF_stable {N : List GN} (hN : GoodN N) : ∀ (n : Nat), n < N.length → ∀ (d e : Nat), n < d → n < e → ndsF N d n = ndsF N e n := by
  intro n
  induction n using Nat.strongRecOn with
  | ind n ih =>
    intro hn d e hd he
    obtain ⟨d, rfl⟩ : ∃ d', d = d' + 1 := ⟨d - 1, by omega⟩
    obtain ⟨e, rfl⟩ : ∃ e', e = e' + 1 := ⟨e - 1, by omega⟩
    simp only [ndsF]
    rw [sum_ext (f := fun z => ndsF N d z.toNat) (g := fun z => ndsF N e z.toNat) _ fun z hz => ?_]
    have hg := good_kid hN hn hz
    exact ih _ (by omega) (by omega) d e (by omega) (by omega)
def nds (N : List GN) (n : Nat) : Nat := ndsF N (n + 1) n
def ndk (N : List GN) (ks : List Int) : Nat := (ks.map fun z => nds N z.toNat).sum
theorem nds_eq {N : List GN} (hN : GoodN N) {n : Nat} (hn : n < N.length) : nds N n = 1 + ndk N (gn N n).kids := by
  unfold nds ndk
  simp only [ndsF]
  congr 1
  refine sum_ext _ fun z hz => ?_
  have hg := good_kid hN hn hz
  exact ndsF_stable hN _ (by omega) _ _ (by omega) (by omega)
theorem nds_pos (N : List GN) (n : Nat) : 1 ≤ nds N n := by unfold nds; simp only [ndsF]; omega
theorem ndsF_snoc {N : List GN} (hN : GoodN N) (x : GN) : ∀ (d n : Nat), n < N.length → ndsF (N ++ [x]) d n = ndsF N d n := by
  intro d
  induction d with
  | zero => intros; rfl
  | succ d ih =>
    intro n hn
    simp only [ndsF]
    rw [gn_snoc_lt N x hn]
    congr 1
    refine sum_ext _ fun z hz => ?_
    have hg := good_kid hN hn hz
    exact ih _ (by omega)
theorem nds_snoc {N : List GN} (hN : GoodN N) (x : GN) {n : Nat} (hn : n < N.length) : nds (N ++ [x]) n = nds N n := ndsF_snoc hN x _ n hn
theorem ndk_snoc {N : List GN} (hN : GoodN N) (x : GN) {ks : List Int} (h : ∀ z ∈ ks, 0 ≤ z ∧ z < (N.length : Int)) : ndk (N ++ [x]) ks = ndk N ks :=
  sum_ext ks fun z hz => nds_snoc hN x (by have := h z hz; omega)
theorem nds_snoc_at {N : List GN} (hN : GoodN N) {x : GN} (hx : ∀ z ∈ x.kids, 0 ≤ z ∧ z < (N.length : Int)) : nds (N ++ [x]) N.length = 1 + ndk N x.kids := by
  rw [nds_eq (good_snoc hN hx) (by simp), gn_snoc_at, ndk_snoc hN x hx]
theorem ndk_app (N : List GN) (a b : List Int) : ndk N (a ++ b) = ndk N a + ndk N b := by simp [ndk]
/-- Of the first kids. -/
theorem ndk_take (N : List GN) {ks : List Int} {k : Nat} (h : k < ks.length) : ndk N (ks.take (k + 1)) = ndk N (ks.take k) + nds N (gz ks k).toNat := by
  rw [List.take_succ_eq_append_getElem h, ndk_app, gz_eq h]
  simp [ndk]
theorem ndk_len (N : List GN) (ks : List Int) : ks.length ≤ ndk N ks := by
  unfold ndk
  induction ks with
  | nil => simp
  | cons a l ih =>
    have := nds_pos N a.toNat
    simp only [List.length_cons, List.map_cons, List.sum_cons]
    omega
end Go.Proofs.YtibakihcicfeoaaGreat
/- What stands on the stack of the parser: each open element's kids. No condition. -/
namespace Go.Proofs.YtibakihcicfeoaaGreat

/-- How many nodes kids have, all told. -/
def cs (N : List GN) (ks : List Int) : Nat := (ks.map fun z => (gn N z.toNat).cnt).sum
def prs (N : List GN) (ks : List Int) : List Int := ks.flatMap (pr N)
/-- The stack's kids, the root's first: they print 'done'; T bounds how many there are. -/
structure Forest (N : List GN) (K : List (List Int)) (done : List Int) (T : Nat) : Prop where
  ok : OkN N
  kids : ∀ ks ∈ K, ∀ z ∈ ks, 0 ≤ z ∧ z < (N.length : Int)
  pr : K.flatMap (prs N) = done
  one : 0 < K.length
  cnt : (K.map (cs N)).sum + 2 * (K.length - 1) ≤ T
  len : N.length + 2 * (K.length - 1) ≤ T
  few : (K.map List.length).sum + 2 * (K.length - 1) ≤ T
  siz : (K.map (ndk N)).sum + 2 * (K.length - 1) ≤ T
theorem Forest.start : Forest [] [[]] [] 0 := ⟨OkN.nil, fun ks hk z hz => (by simp at hk; subst hk; cases hz), rfl, by simp, by simp [cs], by simp, by simp, by simp [ndk]⟩
theorem Forest.more {N : List GN} {K : List (List Int)} {done : List Int} {T T' : Nat} (h : Forest N K done T) (ht : T ≤ T') : Forest N K done T' :=
  ⟨h.ok, h.kids, h.pr, h.one, Nat.le_trans h.cnt ht, Nat.le_trans h.len ht, Nat.le_trans h.few ht, Nat.le_trans h.siz ht⟩
theorem cs_snoc (N : List GN) (x : GN) {ks : List Int} (h : ∀ z ∈ ks, 0 ≤ z ∧ z < (N.length : Int)) : cs (N ++ [x]) ks = cs N ks := by
  unfold cs
  exact sum_ext ks fun z hz => by rw [gn_snoc_lt N x (by have := h z hz; omega)]
theorem prs_snoc {N : List GN} (hN : GoodN N) (x : GN) {ks : List Int} (h : ∀ z ∈ ks, 0 ≤ z ∧ z < (N.length : Int)) : prs (N ++ [x]) ks = prs N ks :=
  flatMap_ext ks fun z hz => pr_snoc hN x (h z hz).1 (h z hz).2
theorem cs_app (N : List GN) (a b : List Int) : cs N (a ++ b) = cs N a + cs N b := by simp [cs]
theorem prs_app (N : List GN) (a b : List Int) : prs N (a ++ b) = prs N a ++ prs N b := by simp [prs]
theorem flatL {α β : Type} (f g : α → List β) : ∀ (l : List α), (∀ z ∈ l, f z = g z) → l.flatMap f = l.flatMap g
  | [], _ => rfl
  | a :: l, h => by
    rw [List.flatMap_cons, List.flatMap_cons, h a (List.mem_cons_self ..), flatL f g l fun z hz => h z (List.mem_cons_of_mem _ hz)]
theorem sumL {α : Type} (f g : α → Nat) : ∀ (l : List α), (∀ z ∈ l, f z = g z) → (l.map f).sum = (l.map g).sum
  | [], _ => rfl
  | a :: l, h => by
    rw [List.map_cons, List.map_cons, List.sum_cons, List.sum_cons, h a (List.mem_cons_self ..), sumL f g l fun z hz => h z (List.mem_cons_of_mem _ hz)]
theorem kids_up {N : List GN} {x : GN} {z : Int} (h : 0 ≤ z ∧ z < (N.length : Int)) : 0 ≤ z ∧ z < ((N ++ [x]).length : Int) := by
  rw [List.length_append, List.length_singleton]; omega
theorem pr_lf {N : List GN} (h : OkN N) (kind : Int) (b : List Int) : pr (N ++ [⟨kind, b.length, 1, true, b, []⟩]) (N.length : Int) = b := by
  rw [pr_snoc_at h.good (by simp)]; simp
/-- A leaf, the innermost one's last kid. -/
theorem Forest.leaf {N : List GN} {P : List (List Int)} {ks done : List Int} {T : Nat} (h : Forest N (P ++ [ks]) done T) (kind : Int) (b : List Int) :
    Forest (N ++ [⟨kind, b.length, 1, true, b, []⟩]) (P ++ [ks ++ [(N.length : Int)]]) (done ++ b) (T + 1) := by
  have hP : ∀ l ∈ P, ∀ z ∈ l, 0 ≤ z ∧ z < (N.length : Int) := fun l hl => h.kids l (List.mem_append_left _ hl)
  have hk : ∀ z ∈ ks, 0 ≤ z ∧ z < (N.length : Int) := h.kids ks (by simp)
  have hpr := h.pr
  have hcnt := h.cnt
  have hlen := h.len
  have hfew := h.few
  have hsiz := h.siz
  simp only [List.flatMap_append, List.flatMap_cons, List.flatMap_nil, List.append_nil, List.map_append, List.map_cons, List.map_nil, List.sum_append, List.sum_cons, List.sum_nil, Nat.add_zero, List.length_append, List.length_singleton, Nat.add_sub_cancel] at hpr hcnt hlen hfew hsiz
  refine ⟨h.ok.lf kind b, fun l hl z hz => ?_, ?_, by simp, ?_, ?_, ?_, ?_⟩
  · rcases List.mem_append.1 hl with hl | hl
    · exact kids_up (hP l hl z hz)
    · rw [List.mem_singleton] at hl; subst hl
      rcases List.mem_append.1 hz with hz | hz
      · exact kids_up (hk z hz)
      · rw [List.mem_singleton] at hz; subst hz; simp; omega
  · simp only [List.flatMap_append, List.flatMap_cons, List.flatMap_nil, List.append_nil]
    rw [prs_app, prs_snoc h.ok.good _ hk, flatL _ (prs N) P fun l hl => prs_snoc h.ok.good _ (hP l hl), show prs (N ++ [⟨kind, b.length, 1, true, b, []⟩]) [(N.length : Int)] = b by simp [prs, pr_lf h.ok kind b], ← List.append_assoc, hpr]
  · simp only [List.map_append, List.map_cons, List.map_nil, List.sum_append, List.sum_cons, List.sum_nil, Nat.add_zero, List.length_append, List.length_singleton, Nat.add_sub_cancel]
    rw [cs_app, cs_snoc _ _ hk, sumL _ (cs N) P fun l hl => cs_snoc _ _ (hP l hl), show cs (N ++ [⟨kind, b.length, 1, true, b, []⟩]) [(N.length : Int)] = 1 by simp [cs, gn_snoc_at]]
    omega
  · simp only [List.length_append, List.length_singleton, Nat.add_sub_cancel]; omega
  · simp only [List.map_append, List.map_cons, List.map_nil, List.sum_append, List.sum_cons, List.sum_nil, Nat.add_zero, List.length_append, List.length_singleton, Nat.add_sub_cancel]
    omega
  · simp only [List.map_append, List.map_cons, List.map_nil, List.sum_append, List.sum_cons, List.sum_nil, Nat.add_zero, List.length_append, List.length_singleton, Nat.add_sub_cancel]
    rw [ndk_app, ndk_snoc h.ok.good _ hk, sumL _ (ndk N) P fun l hl => ndk_snoc h.ok.good _ (hP l hl), show ndk (N ++ [⟨kind, b.length, 1, true, b, []⟩]) [(N.length : Int)] = 1 by
      show (([(N.length : Int)] : List Int).map fun z => nds (N ++ [⟨kind, b.length, 1, true, b, []⟩]) z.toNat).sum = 1
      simp only [List.map_cons, List.map_nil, List.sum_cons, List.sum_nil, Nat.add_zero]
      rw [show ((N.length : Nat) : Int).toNat = N.length from rfl, nds_snoc_at h.ok.good (by simp)]
      rfl]
    omega
/-- One more is open. -/
theorem Forest.push {N : List GN} {K : List (List Int)} {done : List Int} {T : Nat} (h : Forest N K done T) : Forest N (K ++ [[]]) done (T + 2) := by
  have h1 := h.one
  have hpr := h.pr
  have hcnt := h.cnt
  have hlen := h.len
  have hfew := h.few
  have hsiz := h.siz
  refine ⟨h.ok, fun l hl z hz => ?_, ?_, by simp, ?_, ?_, ?_, ?_⟩
  · rcases List.mem_append.1 hl with hl | hl
    · exact h.kids l hl z hz
    · rw [List.mem_singleton] at hl; subst hl; cases hz
  · simp [hpr, prs]
  · simp only [List.map_append, List.map_cons, List.map_nil, List.sum_append, List.sum_cons, List.sum_nil, Nat.add_zero, List.length_append, List.length_singleton, Nat.add_sub_cancel]
    rw [show cs N [] = 0 from rfl]
    omega
  · simp only [List.length_append, List.length_singleton, Nat.add_sub_cancel]; omega
  · simp only [List.map_append, List.map_cons, List.map_nil, List.sum_append, List.sum_cons, List.sum_nil, Nat.add_zero, List.length_append, List.length_singleton, Nat.add_sub_cancel, List.length_nil]
    omega
  · simp only [List.map_append, List.map_cons, List.map_nil, List.sum_append, List.sum_cons, List.sum_nil, Nat.add_zero, List.length_append, List.length_singleton, Nat.add_sub_cancel]
    rw [show ndk N [] = 0 from rfl]
    omega
theorem bC_le (N : List GN) (ks : List Int) : bC N ks ks.length ≤ 1 + cs N ks := by
  have key : ∀ k, k ≤ ks.length → bC N ks k ≤ 1 + cs N (ks.take k) := fun k => by
    induction k with
    | zero => intro _; simp [bC]
    | succ k ih =>
      intro hk
      have := ih (by omega)
      have hlt : k < ks.length := by omega
      rw [List.take_succ_eq_append_getElem hlt, cs_app]
      have hg := gz_eq hlt
      simp only [bC, hg]
      have : cs N [ks[k]] = (gn N (ks[k]).toNat).cnt := by simp [cs]
      omega
  have := key ks.length (Nat.le_refl _)
  rwa [List.take_length] at this
/-- The innermost one is closed: it is one more kid of the one around it. -/
theorem Forest.shut {N : List GN} {P : List (List Int)} {ks up done : List Int} {T : Nat} (h : Forest N (P ++ [up, ks]) done T) (hf : ks.length ≤ 4096) (kind : Int) : kidsOk N ks ks.length ∧
    ∀ T', T ≤ T' + 1 → Forest (gbr N kind ks) (P ++ [up ++ [(N.length : Int)]]) done T' := by
  have hP : ∀ l ∈ P, ∀ z ∈ l, 0 ≤ z ∧ z < (N.length : Int) := fun l hl => h.kids l (List.mem_append_left _ hl)
  have hk : ∀ z ∈ ks, 0 ≤ z ∧ z < (N.length : Int) := h.kids ks (by simp)
  have hu : ∀ z ∈ up, 0 ≤ z ∧ z < (N.length : Int) := h.kids up (by simp)
  have hpr := h.pr
  have hcnt := h.cnt
  have hlen := h.len
  have hfew := h.few
  have hsiz := h.siz
  have hko := kidsOk_of hk
  refine ⟨hko, fun T' hT => ?_⟩
  simp only [List.flatMap_append, List.flatMap_cons, List.flatMap_nil, List.append_nil, List.map_append, List.map_cons, List.map_nil, List.sum_append, List.sum_cons, List.sum_nil, Nat.add_zero, List.length_append, List.length_cons, List.length_nil, Nat.zero_add] at hpr hcnt hlen hfew hsiz
  refine ⟨h.ok.br kind hko hf, fun l hl z hz => ?_, ?_, by simp, ?_, ?_, ?_, ?_⟩
  · rcases List.mem_append.1 hl with hl | hl
    · exact kids_up (hP l hl z hz)
    · rw [List.mem_singleton] at hl; subst hl
      rcases List.mem_append.1 hz with hz | hz
      · exact kids_up (hu z hz)
      · rw [List.mem_singleton] at hz; subst hz; simp [gbr]; omega
  · unfold gbr
    simp only [List.flatMap_append, List.flatMap_cons, List.flatMap_nil, List.append_nil]
    rw [prs_app, prs_snoc h.ok.good _ hu, flatL _ (prs N) P fun l hl => prs_snoc h.ok.good _ (hP l hl), show prs (N ++ [⟨kind, bW N ks ks.length, bC N ks ks.length, false, [], ks⟩]) [(N.length : Int)] = prs N ks by
      simp only [prs, List.flatMap_cons, List.flatMap_nil, List.append_nil]
      rw [pr_snoc_at h.ok.good hk]; rfl]
    exact hpr
  · unfold gbr
    simp only [List.map_append, List.map_cons, List.map_nil, List.sum_append, List.sum_cons, List.sum_nil, Nat.add_zero, List.length_append, List.length_singleton, Nat.add_sub_cancel]
    have hb := bC_le N ks
    rw [cs_app, cs_snoc _ _ hu, sumL _ (cs N) P fun l hl => cs_snoc _ _ (hP l hl), show cs (N ++ [⟨kind, bW N ks ks.length, bC N ks ks.length, false, [], ks⟩]) [(N.length : Int)] = bC N ks ks.length by simp [cs, gn_snoc_at]]
    omega
  · rw [gbr_len]
    simp only [List.length_append, List.length_singleton, Nat.add_sub_cancel]; omega
  · simp only [List.map_append, List.map_cons, List.map_nil, List.sum_append, List.sum_cons, List.sum_nil, Nat.add_zero, List.length_append, List.length_singleton, Nat.add_sub_cancel]
    omega
  · unfold gbr
    simp only [List.map_append, List.map_cons, List.map_nil, List.sum_append, List.sum_cons, List.sum_nil, Nat.add_zero, List.length_append, List.length_singleton, Nat.add_sub_cancel]
    rw [ndk_app, ndk_snoc h.ok.good _ hu, sumL _ (ndk N) P fun l hl => ndk_snoc h.ok.good _ (hP l hl), show ndk (N ++ [⟨kind, bW N ks ks.length, bC N ks ks.length, false, [], ks⟩]) [(N.length : Int)] = 1 + ndk N ks by
      show (([(N.length : Int)] : List Int).map fun z => nds (N ++ [⟨kind, bW N ks ks.length, bC N ks ks.length, false, [], ks⟩]) z.toNat).sum = _
      simp only [List.map_cons, List.map_nil, List.sum_cons, List.sum_nil, Nat.add_zero]
      rw [show ((N.length : Nat) : Int).toNat = N.length from rfl, nds_snoc_at h.ok.good hk]]
    omega
/-- Widths. -/
theorem Forest.width {N : List GN} {K : List (List Int)} {done : List Int} {T : Nat} (h : Forest N K done T) {ks : List Int} (hk : ks ∈ K) : bW N ks ks.length ≤ done.length := by
  have hw : bW N ks ks.length = (prs N ks).length := by
    rw [bW_all]
    unfold prs
    rw [List.length_flatMap]
    exact sum_ext ks fun z hz => by
      have hz := h.kids ks hk z hz
      obtain ⟨i, hi⟩ := Int.eq_ofNat_of_zero_le hz.1
      subst hi
      have := h.ok.wide i (by omega)
      simpa [wd] using this
  rw [hw, ← h.pr]
  obtain ⟨a, b, rfl⟩ := List.append_of_mem hk
  simp only [List.flatMap_append, List.flatMap_cons, List.length_append]
  omega
theorem Forest.fewK {N : List GN} {K : List (List Int)} {done : List Int} {T : Nat} (h : Forest N K done T) {ks : List Int} (hk : ks ∈ K) : ks.length ≤ T := by
  have := h.few
  obtain ⟨a, b, rfl⟩ := List.append_of_mem hk
  simp only [List.map_append, List.map_cons, List.sum_append, List.sum_cons] at this
  omega
/-- The whole tree. -/
theorem Forest.whole {N : List GN} {ks done : List Int} {T : Nat} (h : Forest N [ks] done T) (hf : ks.length ≤ 4096) (kind : Int) : kidsOk N ks ks.length ∧ OkN (gbr N kind ks) ∧ YtibakihcicfeoaaGreat.pr (gbr N kind ks) (N.length : Int) = done ∧
    (gn (gbr N kind ks) N.length).cnt ≤ T + 1 ∧ (gn (gbr N kind ks) N.length).w = done.length ∧ nds (gbr N kind ks) N.length ≤ T + 1 := by
  have hk : ∀ z ∈ ks, 0 ≤ z ∧ z < (N.length : Int) := h.kids ks (by simp)
  have hko := kidsOk_of hk
  have hok := h.ok.br kind hko hf
  have hpr : YtibakihcicfeoaaGreat.pr (gbr N kind ks) (N.length : Int) = done := by
    have h1 : prs N ks = done := by have := h.pr; simpa using this
    unfold gbr
    rw [pr_snoc_at h.ok.good hk, ← h1]; rfl
  refine ⟨hko, hok, hpr, ?_, ?_, ?_⟩
  · have hb := bC_le N ks
    have hc := h.cnt
    simp at hc
    unfold gbr
    rw [gn_snoc_at]
    show bC N ks ks.length ≤ _
    omega
  · rw [← hpr]
    exact hok.wide N.length (by rw [gbr_len]; omega)
  · unfold gbr
    rw [nds_snoc_at h.ok.good hk]
    show 1 + ndk N ks ≤ _
    have hc := h.siz
    simp at hc
    omega
end Go.Proofs.YtibakihcicfeoaaGreat
