/- stringslite.IndexByte (289) of this program. No condition. -/
import Derived.Test.YtibakihcicfeoaaGreatZg
import Derived.Test.YtibakihcicfeoaaGreatProg
import Derived.Shelf.Strings.Search1
namespace Go.Proofs.YtibakihcicfeoaaGreat.Ev
open Go.Proofs Go.Shelf
set_option maxHeartbeats 1000000 in
set_option maxRecDepth 100000 in
theorem index289 (s : ByteArray) (c : Int) (w : World) :
    Calls Tryz.prog 289 #[.string s, .int .u8 c] w fun e w' => e = .returned (.int .i64 (Lib.indexByte s.data.toList c.toNat.toUInt8)) ∧ w' = w := by
  go_enter Tryz.func289, Tryz.ntmps289
  go_wp2
  rw [run_callFunc_extern Tryz.func330 (by kernel_rfl) (by kernel_rfl) (by kernel_rfl) (e := Extern.BytealgIndexByte.indexByte) (by kernel_rfl), Lib.run_indexByteString]
  simp only [Result.andThen]
  rw [Oper.upon_value]
  go_wp2
  go_ret
  exact ⟨rfl, rfl⟩
end Go.Proofs.YtibakihcicfeoaaGreat.Ev
/- The evaluator's oracles against the model's. No condition. -/
namespace Go.Proofs.YtibakihcicfeoaaGreat.Ev
theorem idxB_ok (c : Nat) (hc : c < 256) : ∀ (l : List UInt8) (k : Nat), idxB c (l.map UInt8.toNat) k = if Lib.indexByte l c.toUInt8 = -1 then none else some (k + (Lib.indexByte l c.toUInt8).toNat)
  | [], k => rfl
  | b :: l, k => by
    have ih := idxB_ok c hc l (k + 1)
    have hge := Lib.indexByte_ge l c.toUInt8
    have hb : (b == c.toUInt8) = Nat.beq b.toNat c := by
      rw [Bool.eq_iff_iff]
      simp only [beq_iff_eq, Nat.beq_eq_true_eq]
      constructor
      · intro h; rw [h]; simp [Nat.mod_eq_of_lt hc, Nat.beq_refl]
      · intro h; apply UInt8.toNat_inj.1; rw [beqT h]; simp [Nat.mod_eq_of_lt hc]
    simp only [List.map_cons, idxB, Lib.indexByte, hb]
    cases Nat.beq b.toNat c with
    | true => simp
    | false =>
      simp only [cond_false, ih, Bool.false_eq_true, if_false, beq_iff_eq]
      by_cases h1 : Lib.indexByte l c.toUInt8 = -1
      · simp [h1]
      · have h2 : ¬ (Lib.indexByte l c.toUInt8 + 1 = -1) := by omega
        simp only [h1, h2, if_false]
        congr 1
        omega
theorem orcIdx_ok {args : List AV} {h h' : Hp} {v : AV} (hf : orcIdx args h = some (v, h')) : h' = h ∧ ∀ (ρ : Pm) (w : World) (us : List Value), VRs ρ args us → Calls Tryz.prog 289 us.toArray w fun e w' => ∃ u, e = .returned u ∧ w' = w ∧ VR ρ v u := by
  unfold orcIdx at hf
  split at hf
  · next _ s b =>
    cases hb : Nat.blt b 256 with
    | false => simp [hb] at hf
    | true =>
      simp only [hb, cond_true] at hf
      have hb := bltT hb
      have hh : h' = h := by
        split at hf
        · injection hf with hf; injection hf with _ e; exact e.symm
        · injection hf with hf; injection hf with _ e; exact e.symm
      refine ⟨hh, fun ρ w us hv => ?_⟩
      simp only [VRs, VR] at hv
      obtain ⟨u1, r1, rfl, ⟨t, rfl, ht⟩, u2, r2, rfl, ⟨K, hK, rfl⟩, rfl⟩ := hv
      have hK : K = .u8 := by cases K <;> first | rfl | (exact absurd hK (by decide))
      subst hK
      refine (index289 t (Int.ofNat b) w).mono fun e w' he => ?_
      obtain ⟨rfl, rfl⟩ := he
      refine ⟨_, rfl, rfl, ?_⟩
      have hi := idxB_ok b hb t.data.toList 0
      rw [ht] at hi
      have hge := Lib.indexByte_ge t.data.toList b.toUInt8
      have e1 : (Int.ofNat b).toNat.toUInt8 = b.toUInt8 := rfl
      rw [e1]
      rw [hi] at hf
      by_cases h1 : Lib.indexByte t.data.toList b.toUInt8 = -1
      · rw [if_pos h1] at hf
        injection hf with hf; injection hf with e2 _; subst e2
        rw [h1]
        exact VR.int_to .i64 _
      · rw [if_neg h1] at hf
        injection hf with hf; injection hf with e2 _; subst e2
        obtain ⟨m, hm⟩ := Int.eq_ofNat_of_zero_le (show 0 ≤ Lib.indexByte t.data.toList b.toUInt8 by omega)
        rw [hm]
        have e3 : Int.ofNat (0 + ((m : Nat) : Int).toNat) = (m : Int) := by rw [Nat.zero_add]; rfl
        rw [e3]
        exact VR.int_to .i64 _
  · cases hf
end Go.Proofs.YtibakihcicfeoaaGreat.Ev
