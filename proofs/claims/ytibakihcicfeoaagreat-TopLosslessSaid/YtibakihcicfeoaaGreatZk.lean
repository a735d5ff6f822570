/- The evaluator's oracles against the model's: a text's String, a name's Lead; all oracles. No condition. -/
import Derived.Test.YtibakihcicfeoaaGreatZh
import Derived.Test.YtibakihcicfeoaaGreatTl
import Derived.Test.YtibakihcicfeoaaGreatZi
import Derived.Test.YtibakihcicfeoaaGreatZj
namespace Go.Proofs.YtibakihcicfeoaaGreat.Ev
open Go.RowKit
theorem mixedOk : Tryz.prog.follows .mixedOrders = true := by kernel_rfl
def toZ (l : List Nat) : List Int := l.map fun (x : Nat) => (x : Int)
theorem dropN_eq : ∀ (n : Nat) (l : List Nat), dropN n l = l.drop n
  | 0, l => by simp [dropN]
  | n + 1, [] => by simp [dropN]
  | n + 1, x :: l => by simp [dropN, dropN_eq n l]
theorem takeN_eq : ∀ (n : Nat) (l : List Nat), takeN n l = l.take n
  | 0, l => by simp [takeN]
  | n + 1, [] => by simp [takeN]
  | n + 1, x :: l => by simp [takeN, takeN_eq n l]
theorem natL_to {ρ : Pm} : ∀ {cs : List AV} {l : List Nat} {us : List Value}, natL cs = some l → VRs ρ cs us → us = ints .i32 (toZ l) ∧ ∀ x ∈ l, x < 128
  | [], l, us, h, hv => by
    simp only [natL] at h; injection h with h; subst h
    simp only [VRs] at hv; subst hv
    exact ⟨rfl, fun x hx => by cases hx⟩
  | c :: cs, l, us, h, hv => by
    unfold natL at h
    split at h
    · next heq => cases heq
    · next b r heq =>
      injection heq with h1 h2
      subst h1; subst h2
      split at h
      · next l' hl' =>
        cases hb : Nat.blt b 128 with
        | false => simp [hb] at h
        | true =>
          simp only [hb, cond_true] at h
          injection h with h; subst h
          simp only [VRs] at hv
          obtain ⟨d, r', rfl, h1, h2⟩ := hv
          obtain ⟨e1, e2⟩ := natL_to hl' h2
          simp only [VR] at h1
          obtain ⟨K, hK, rfl⟩ := h1
          have hK : K = .i32 := by cases K <;> first | rfl | (exact absurd hK (by decide))
          subst hK
          refine ⟨by rw [e1]; rfl, fun x hx => ?_⟩
          rcases List.mem_cons.1 hx with rfl | hx
          · exact bltT hb
          · exact e2 x hx
      · cases h
    · cases h
/-- Runes that the evaluator reads. -/
theorem runesOf_ok {ρ : Pm} {φ : Nat → Option Blk} {h : Hp} {w : World} {v : AV} {u : Value} {l : List Nat} (hr : runesOfV h v = some l) (hS : Sim ρ (h.on φ) w) (hv : VR ρ v u) :
    ∃ A c, u = .slice A l.length c ∧ Rd w w.heap.size 1 A l.length c (ints .i32 (toZ l)) ∧ ∀ x ∈ l, x < 128 := by
  unfold runesOfV at hr
  split at hr
  · next i o n =>
    unfold rdAt at hr
    split at hr
    · next cs hcs =>
      split at hcs
      · next bs hg =>
        simp only [VR] at hv
        obtain ⟨p, a, c, hp, rfl, hnc, hc⟩ := hv
        obtain ⟨us, u1, u2, u3⟩ := hS.sub (on_get hg) hp hcs
        obtain ⟨e1, e2⟩ := natL_to hr u2
        have hl : l.length = n := by rw [← u1, e1]; simp [toZ]
        rw [hl]
        refine ⟨some a, c, rfl, ⟨by rw [← e1]; omega, hnc.1, hnc.2, fun hn => ?_⟩, e2⟩
        rcases hc with h0 | ⟨rfl, _⟩
        · omega
        · refine ⟨p.b, p.o + o, rfl, hS.lt (on_get hg) rfl hp, fun j z hz => ?_⟩
          rw [← e1] at hz
          have := u3 j z hz
          rwa [addr_add] at this
      · cases hcs
    · cases hr
  · injection hr with hr; subst hr
    simp only [VR] at hv
    subst hv
    exact ⟨none, 0, rfl, Rd.nil_, fun x hx => by cases hx⟩
  · cases hr
theorem enc_small {x : Nat} (h : x < 128) : enc (x : Int) = [(x : Int)] := by
  have h1 : wdS (x : Int) ≠ 0 := by
    unfold wdS
    rw [if_neg (by omega)]
    repeat' split
    all_goals first | decide | omega
  unfold enc
  rw [if_neg h1, if_pos (by omega)]
theorem encs_small : ∀ {l : List Nat}, (∀ x ∈ l, x < 128) → encs (toZ l) = toZ l
  | [], _ => rfl
  | x :: l, h => by
    have ih := encs_small (l := l) fun y hy => h y (List.mem_cons_of_mem _ hy)
    show enc (x : Int) ++ encs (toZ l) = _
    rw [ih, enc_small (h x (List.mem_cons_self ..))]
    rfl
theorem str_small {l : List Nat} (h : ∀ x ∈ l, x < 128) : (strOfNums (toZ l)).data.toList.map UInt8.toNat = l := by
  induction l with
  | nil => rfl
  | cons x l ih =>
    have ih := ih fun y hy => h y (List.mem_cons_of_mem _ hy)
    have hx := h x (List.mem_cons_self ..)
    simp only [strOfNums, toZ, List.map_cons, List.map_map] at ih ⊢
    simp only [List.map_cons, List.cons.injEq]
    refine ⟨?_, by simpa using ih⟩
    simp
    omega
theorem toZ_drop (l : List Nat) (n : Nat) : (toZ l).drop n = toZ (l.drop n) := by simp [toZ, List.map_drop]
theorem toZ_take (l : List Nat) (n : Nat) : (toZ l).take n = toZ (l.take n) := by simp [toZ, List.map_take]
theorem toZ_len (l : List Nat) : (toZ l).length = l.length := by simp [toZ]
theorem ns_small : ∀ x : Nat, x < 128 → nsP (x : Int) = nsN x ∧ ncP (x : Int) = ncN x := by
  have h : ∀ x : Fin 128, nsP ((x : Nat) : Int) = nsN x ∧ ncP ((x : Nat) : Int) = ncN x := by decide +kernel
  exact fun x hx => h ⟨x, hx⟩
theorem run_small : ∀ {l : List Nat}, (∀ x ∈ l, x < 128) → ((toZ l).takeWhile ncP).length = runN l
  | [], _ => rfl
  | x :: l, h => by
    have ih := run_small (l := l) fun y hy => h y (List.mem_cons_of_mem _ hy)
    have hx := (ns_small x (h x (List.mem_cons_self ..))).2
    show (((x : Int) :: toZ l).takeWhile ncP).length = _
    rw [List.takeWhile_cons, hx]
    simp only [runN]
    cases ncN x with
    | true => simp [ih]
    | false => simp
theorem lead_small {l : List Nat} (h : ∀ x ∈ l, x < 128) (f : Nat) : leadL (toZ l) f = leadN (dropN f l) := by
  rw [dropN_eq]
  unfold leadL runL
  rw [toZ_drop, toZ_len]
  have hd : ∀ x ∈ l.drop f, x < 128 := fun x hx => h x (List.mem_of_mem_drop hx)
  rw [run_small hd]
  by_cases hf : f < l.length
  · have e1 := List.drop_eq_getElem_cons hf
    rw [e1]
    simp only [leadN]
    have hg : gz (toZ l) f = ((l[f] : Nat) : Int) := by
      rw [gz_eq (by rw [toZ_len]; exact hf)]
      simp [toZ]
    have hx := (ns_small l[f] (h _ (List.getElem_mem hf))).1
    rw [hg, hx]
    cases hb : nsN l[f] with
    | true => simp [hf]
    | false => simp
  · rw [List.drop_eq_nil_of_le (by omega)]
    simp [leadN, hf]
theorem isSlV_to {ρ : Pm} {x : AV} {u : Value} (h : isSlV x = true) (hv : VR ρ x u) : ∃ A n c, u = .slice A n c := by
  cases x <;> simp [isSlV] at h <;> simp only [VR] at hv
  case sl => obtain ⟨p, a, c, _, rfl, _⟩ := hv; exact ⟨_, _, _, rfl⟩
  case nils => subst hv; exact ⟨_, _, _, rfl⟩
theorem k3 {K : IntKind} (h : kN K = 3) : K = .i64 := by cases K <;> first | rfl | (exact absurd h (by decide))
theorem Sim.below {ρ : Pm} {F : Nat → Option Blk} {w w' : World} (h : Sim ρ F w) (hb : Below w.heap.size w w') : Sim ρ F w' := h.kept (fun b hb' => hb.block b hb') ⟨hb.os, hb.tape, hb.output, hb.size⟩
theorem orcStr_ok {args : List AV} {h h' : Hp} {v : AV} (hf : orcStr args h = some (v, h')) : h' = h ∧ ∀ (ρ : Pm) (φ : Nat → Option Blk) (w : World) (us : List Value), VRs ρ args us → Sim ρ (h.on φ) w →
    Calls Tryz.prog 116 us.toArray w fun e w' => ∃ u, e = .returned u ∧ Below w.heap.size w w' ∧ VR ρ v u := by
  unfold orcStr at hf
  split at hf
  · next _ _ r x fr te =>
    split at hf
    · next l hl =>
      cases hb : isSlV x && (Nat.ble fr te && (Nat.ble te l.length && Nat.ble l.length 4096)) with
      | false => simp [hb] at hf
      | true =>
        simp only [hb, cond_true] at hf
        injection hf with hf; injection hf with e1 e2
        subst e1; subst e2
        simp only [Bool.and_eq_true] at hb
        refine ⟨rfl, fun ρ φ w us hv hS => ?_⟩
        simp only [VRs, VR] at hv
        obtain ⟨u1, r1, rfl, ⟨ds, rfl, u2, r2, rfl, ⟨K1, k1, rfl⟩, u3, r3, rfl, ⟨K2, k2, rfl⟩, u4, r4, rfl, h4, u5, r5, rfl, h5, rfl⟩, u6, r6, rfl, ⟨K3, k3', rfl⟩, u7, r7, rfl, ⟨K4, k4, rfl⟩, rfl⟩ := hv
        obtain ⟨A, c, rfl, hR, hsm⟩ := runesOf_ok hl hS h4
        obtain ⟨A2, n2, c2, rfl⟩ := isSlV_to hb.1 h5
        have q1 := Nat.le_of_ble_eq_true hb.2.1
        have q2 := Nat.le_of_ble_eq_true hb.2.2.1
        have q3 := Nat.le_of_ble_eq_true hb.2.2.2
        rw [k3 k1, k3 k2, k3 k3', k3 k4]
        refine (string57 _ _ A A2 l.length c n2 c2 fr te (toZ l) w hR q1 q2 q3).mono ?_
        rintro e w' ⟨rfl, hbw⟩
        refine ⟨_, rfl, hbw, ?_⟩
        have hsub : ∀ x ∈ (l.drop fr).take (te - fr), x < 128 := fun x hx => hsm x (List.mem_of_mem_drop (List.mem_of_mem_take hx))
        simp only [VR]
        refine ⟨_, rfl, ?_⟩
        rw [toZ_drop, toZ_take, encs_small hsub, str_small hsub, takeN_eq, dropN_eq]
    · cases hf
  · cases hf
theorem orcLead_ok {args : List AV} {h h' : Hp} {v : AV} (hf : orcLead args h = some (v, h')) : h' = h ∧ ∀ (ρ : Pm) (φ : Nat → Option Blk) (w : World) (us : List Value), VRs ρ args us → Sim ρ (h.on φ) w →
    Calls Tryz.prog 156 us.toArray w fun e w' => ∃ u, e = .returned u ∧ Below w.heap.size w w' ∧ VR ρ v u := by
  unfold orcLead at hf
  split at hf
  · next r f =>
    split at hf
    · next l hl =>
      cases hb : Nat.ble l.length 4096 && Nat.ble f 4096 with
      | false => simp [hb] at hf
      | true =>
        simp only [hb, cond_true] at hf
        injection hf with hf; injection hf with e1 e2
        subst e1; subst e2
        simp only [Bool.and_eq_true] at hb
        refine ⟨rfl, fun ρ φ w us hv hS => ?_⟩
        simp only [VRs, VR] at hv
        obtain ⟨u4, r4, rfl, h4, u6, r6, rfl, ⟨K3, k3', rfl⟩, rfl⟩ := hv
        obtain ⟨A, c, rfl, hR, hsm⟩ := runesOf_ok hl hS h4
        have q2 := Nat.le_of_ble_eq_true hb.1
        have q3 := Nat.le_of_ble_eq_true hb.2
        rw [k3 k3']
        refine (lead156 A l.length c (toZ l) f hR (by omega) (by omega)).mono ?_
        rintro e w' ⟨rfl, hbw⟩
        refine ⟨_, rfl, hbw, ?_⟩
        rw [lead_small hsm]
        exact VR.int_to .i64 _
    · cases hf
  · cases hf
theorem enters116 : ∀ (args : Array Value) (w : World), (callFunc 116 args).run Tryz.prog w = .ok (.enter 116 args) w := enters_of Tryz.func116 (by kernel_rfl) rfl
theorem enters156 : ∀ (args : Array Value) (w : World), (callFunc 156 args).run Tryz.prog w = .ok (.enter 156 args) w := enters_of Tryz.func156 (by kernel_rfl) rfl
theorem enters289 : ∀ (args : Array Value) (w : World), (callFunc 289 args).run Tryz.prog w = .ok (.enter 289 args) w := enters_of Tryz.func289 (by kernel_rfl) rfl
theorem orcOk : OrcOk Tryz.prog Gx := by
  intro g f hg args h v h' hf
  have hg : orcG g = some f := hg
  unfold orcG at hg
  cases h1 : Nat.beq g 116 with
  | true =>
    rw [h1, cond_true] at hg; injection hg with hg; subst hg
    obtain rfl := beqT h1
    obtain ⟨rfl, H⟩ := orcStr_ok hf
    refine ⟨Good.refl _, fun _ ρ φ w us hv hS _ => ⟨enters116 _ _, (H ρ φ w us hv hS).mono ?_⟩⟩
    rintro e w' ⟨u, rfl, hb, hvr⟩
    exact ⟨u, ρ, rfl, Grow.refl _ _, hS.below hb, hvr⟩
  | false =>
    rw [h1, cond_false] at hg
    cases h2 : Nat.beq g 289 with
    | true =>
      rw [h2, cond_true] at hg; injection hg with hg; subst hg
      obtain rfl := beqT h2
      obtain ⟨rfl, H⟩ := orcIdx_ok hf
      refine ⟨Good.refl _, fun _ ρ φ w us hv hS _ => ⟨enters289 _ _, (H ρ w us hv).mono ?_⟩⟩
      rintro e w' ⟨u, rfl, rfl, hvr⟩
      exact ⟨u, ρ, rfl, Grow.refl _ _, hS, hvr⟩
    | false =>
      rw [h2, cond_false] at hg
      cases h3 : Nat.beq g 156 with
      | true =>
        rw [h3, cond_true] at hg; injection hg with hg; subst hg
        obtain rfl := beqT h3
        obtain ⟨rfl, H⟩ := orcLead_ok hf
        refine ⟨Good.refl _, fun _ ρ φ w us hv hS _ => ⟨enters156 _ _, (H ρ φ w us hv hS).mono ?_⟩⟩
        rintro e w' ⟨u, rfl, hb, hvr⟩
        exact ⟨u, ρ, rfl, Grow.refl _ _, hS.below hb, hvr⟩
      | false => rw [h3] at hg; simp at hg
/-- **The evaluator's calls are this program's.** -/
theorem ev_ok (d : Nat) : ClOk Tryz.prog (evF Gx dfrG d) := (evF_ok tysOk fnsOk orcOk dfrOk mixedOk d).2
end Go.Proofs.YtibakihcicfeoaaGreat.Ev
