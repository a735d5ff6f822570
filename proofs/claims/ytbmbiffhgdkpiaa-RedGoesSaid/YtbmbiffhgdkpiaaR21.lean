/- The walk of the law RedGoes. No condition. -/
import Derived.Test.YtbmbiffhgdkpiaaR20
import Derived.Deep.CutRange
namespace Go.Proofs.Ytbmbiffhgdkpiaa
open Go.RowKit

theorem Rd.cellz {w : World} {B n c b o : Nat} {k : IntKind} {zs : List Int} (h : Rd w B 1 (some ⟨b, o, none⟩) n c (ints k zs)) {j : Nat} (hj : j < n) : w.cell? ⟨b, o + j, none⟩ = some (.int k (gz zs j)) ∧ b < B := by
  obtain ⟨b', o', e, hb, hc⟩ := h.int_form (by omega)
  simp only [Option.some.injEq, Addr.mk.injEq, and_true] at e
  obtain ⟨rfl, rfl⟩ := e
  exact ⟨hc j hj, hb⟩
theorem gz_last (P : List Int) (q : Int) {m : Nat} (h : P.length = m) : gz (P ++ [q]) m = q := by subst h; simp [gz, List.getD_eq_getElem?_getD]
theorem Rd.front {w : World} {B m c : Nat} {A : Option Addr} {k : IntKind} {P : List Int} {q : Int} (h : Rd w B 1 A (m + 1) c (ints k (P ++ [q]))) : Rd w B 1 A m c (ints k P) := by
  have hl := h.int_len
  have := h.take (k := m) (by omega)
  rw [Nat.mul_one, ← List.map_take, List.take_append_of_le_length (by simp at hl; omega), List.take_of_length_le (by simp at hl; omega)] at this
  exact this
set_option maxRecDepth 100000 in
set_option maxHeartbeats 8000000 in
theorem walk11 (A : Option Addr) (n c : Nat) (w : World) (h : OpsIn w w.heap.size A n) (root : Int) (A2 : Option Addr) (m2 c2 : Nat) (P0 : List Int) (hP0 : Rd w w.heap.size 1 A2 m2 c2 (ints .i64 P0)) (kq : Int) : Calls Try.prog 11 #[.slice A n c, .int .i64 root, .slice A2 m2 c2, .int .i64 kq] w fun e w' => e = .returned (.bool true) ∧ Below w.heap.size w w' := by
  go_enter Try.func11, Try.ntmps11
  go_wp2_with (first
    | (go_at_call 31; refine (made31 A n c w h).mono ?_; rintro e w1 ⟨A1, c1, N, rfl, hB1, hl1, b1⟩)
    | (go_at_call 49; refine (short49 A2 m2 c2 P0 (hP0.on b1)).mono ?_; rintro e w9 ⟨m, P, rfl, hm, hP, rfl⟩))
  have C32 := root32 hB1.arena root
  have C24 := has24 A1 N.length c1 root
  have HG1 : Hid (GSt w w1 (.slice A1 N.length c1) N A2 m c2 P) := Lib.hid ⟨hB1, hP, b1⟩
  have HPL := Lib.hid hP.int_len
  clear hB1 b1 h hP0 hP
  by_cases hroot : 0 ≤ root ∧ root < N.length
  · obtain ⟨r, rfl⟩ := Int.eq_ofNat_of_zero_le hroot.1
    have hr : r < N.length := by omega
    have C32' : Calls Try.prog 32 #[.pointer (some ⟨w.heap.size, 0, none⟩), .int .i64 (r : Nat)] w1 fun e w' => e = .returned (.tuple #[.agg (cc (some ⟨w.heap.size, 0, none⟩) (r : Nat) 0 0 none), .int .i64 0]) ∧ Below w1.heap.size w1 w' := C32.mono fun e w' ⟨hx, hb⟩ => ⟨by rw [if_pos hroot] at hx; exact hx, hb⟩
    rw [show decide (0 ≤ (r : Int) ∧ (r : Int) < (N.length : Nat)) = true from decide_eq_true hroot] at C24
    have HN := Lib.hid HG1.out.both.ok
    have HWD := Lib.hid HG1.out.both.wd
    have C21 := Lib.hid (fun (W : World) (hW : GSt w W (.slice A1 N.length c1) N A2 m c2 P) => at21 hW.both.doc HN.out.good (r : Nat) A2 m c2 P hW.path (by omega))
    have hz := atZ_ok hr P
    generalize atZ N (r : Nat) P = z at hz C21
    clear C32
    cases hs : (gatL N r P).isSome with
    | false =>
      rw [hs] at hz
      have HS := Lib.hid hs
      clear hs
      go_wp2_with (first
        | (go_at_call 32; refine C32'.mono ?_; rintro e w2 ⟨rfl, b2⟩; have hR := heap_alloc_new w2 (.cells (cc none 0 0 0 none) 59); have HG2 := Lib.hid (HG1.out.on b2); clear C32' b2 HG1)
        | (refine wpList_putc rfl _ _ rfl w2.heap.size (some ⟨w.heap.size, 0, none⟩) (r : Nat) 0 0 none rfl rfl hR ?_; intro w3 hR3 hg3; have HG3 := Lib.hid (HG2.out.on (below_put hg3)); have d0 := (cells5 hR3).1; have d1 := (cells5 hR3).2.1; have d2 := (cells5 hR3).2.2.1; have d3 := (cells5 hR3).2.2.2.1; have d4 := (cells5 hR3).2.2.2.2; clear hR hR3 hg3 HG2)
        | (go_at_call 24; refine (C24 _).mono ?_; rintro e w4 ⟨rfl, rfl⟩; clear C24)
        | (go_at_call 44; refine (to_at HG3.out.both.arena HN.out HWD.out hr A2 m c2 P HG3.out.path (by omega)).mono ?_; rintro e w4 ⟨a1, n1, f1, k1, u1, ok1, rfl, hc4, b4⟩; have hok : ok1 = false := (by have := hc4.1; rw [List.reverse_reverse, HS.out] at this; exact this); subst hok; have HG4 := Lib.hid (HG3.out.on b4); have hR := heap_alloc_new w4 (.cells (cc none 0 0 0 none) 59); clear b4 hc4 HG3 d0 d1 d2 d3 d4)
        | (refine wpList_putc rfl _ _ rfl w4.heap.size a1 n1 f1 k1 u1 rfl rfl hR ?_; intro w5 hR5 hg5; have HG5 := Lib.hid (HG4.out.on (below_put hg5)); clear hR hR5 hg5 HG4)
        | (go_at_call 21; refine (C21.out _ HG5.out).mono ?_; rintro e w6 ⟨rfl, rfl⟩)
        | (go_at_call 33; refine (awake33 _).mono ?_; rintro e w9 ⟨rfl, b9⟩; have B9 := Lib.hid (HG5.out.on b9).bel; clear b9))
      go_ret
      exact ⟨rfl, B9.out⟩
    | true =>
      rw [hs] at hz
      have HS := Lib.hid hs
      clear hs
      go_upto_region 17 with (first
        | (go_at_call 32; refine C32'.mono ?_; rintro e w2 ⟨rfl, b2⟩; have hR := heap_alloc_new w2 (.cells (cc none 0 0 0 none) 59); have HG2 := Lib.hid (HG1.out.on b2); clear C32' b2 HG1)
        | (refine wpList_putc rfl _ _ rfl w2.heap.size (some ⟨w.heap.size, 0, none⟩) (r : Nat) 0 0 none rfl rfl hR ?_; intro w3 hR3 hg3; have HG3 := Lib.hid (HG2.out.on (below_put hg3)); have d0 := (cells5 hR3).1; have d1 := (cells5 hR3).2.1; have d2 := (cells5 hR3).2.2.1; have d3 := (cells5 hR3).2.2.2.1; have d4 := (cells5 hR3).2.2.2.2; clear hR hR3 hg3 HG2)
        | (go_at_call 24; refine (C24 _).mono ?_; rintro e w4 ⟨rfl, rfl⟩; clear C24)
        | (go_at_call 44; refine (to_at HG3.out.both.arena HN.out HWD.out hr A2 m c2 P HG3.out.path (by omega)).mono ?_; rintro e w4 ⟨a1, n1, f1, k1, u1, ok1, rfl, hc4, b4⟩; have hok : ok1 = true := (by have := hc4.1; rw [List.reverse_reverse, HS.out] at this; exact this); subst hok; obtain ⟨rfl, hd4⟩ := hc4.2 rfl; have HG4 := Lib.hid (HG3.out.on b4); have HD4 := Lib.hid hd4; have hR := heap_alloc_new w4 (.cells (cc none 0 0 0 none) 59); clear b4 hc4 hd4 HG3 d0 d1 d2 d3 d4)
        | (refine wpList_putc rfl _ _ rfl w4.heap.size (some ⟨w.heap.size, 0, none⟩) n1 f1 k1 u1 rfl rfl hR ?_; intro w5 hR5 hg5; have b5 := below_put hg5; have HG5 := Lib.hid (HG4.out.on b5); have HD5 := Lib.hid (HD4.out.below b5); have HX5 := Lib.hid hR5; have d0 := (cells5 hR5).1; have d1 := (cells5 hR5).2.1; have d2 := (cells5 hR5).2.2.1; have d3 := (cells5 hR5).2.2.2.1; have d4 := (cells5 hR5).2.2.2.2; clear hR b5 hR5 hg5 HG4 HD4)
        | (go_at_call 21; refine (C21.out _ HG5.out).mono ?_; rintro e w6 ⟨rfl, rfl⟩; clear C21)
        | (go_at_call 38; refine (stands38 HG5.out.both (by omega) hr HD5.out (by rw [List.length_reverse, HPL.out]; omega) A2 m c2 (by rw [List.reverse_reverse]; exact HG5.out.path)).mono ?_; rintro e w6 ⟨rfl, b6⟩; have HG6 := Lib.hid (HG5.out.on b6); have HD6 := Lib.hid (HD5.out.below b6); have h6 := kept_at b6 HX5.out; have HX6 := Lib.hid h6; have d0 := (cells5 h6).1; have d1 := (cells5 h6).2.1; have d2 := (cells5 h6).2.2.1; have d3 := (cells5 h6).2.2.2.1; have d4 := (cells5 h6).2.2.2.2; clear b6 h6 HG5 HD5 HX5)
        | (go_at_call 40; refine (down_at HG6.out.both.arena HN.out HWD.out hr HD6.out kq).mono ?_; rintro e w7 ⟨a2, n2, f2, k2, u2, ok2, rfl, hc7, b7⟩; have HG7 := Lib.hid (HG6.out.on b7); have HD7 := Lib.hid (HD6.out.below b7); have HX7 := Lib.hid (kept_at b7 HX6.out); have HC7 := Lib.hid hc7; have hR := heap_alloc_new w7 (.cells (cc none 0 0 0 none) 59); clear b7 hc7 HG6 HD6 HX6 d0 d1 d2 d3 d4)
        | (refine wpList_putc rfl _ _ rfl w7.heap.size a2 n2 f2 k2 u2 rfl rfl hR ?_; intro w8 hR8 hg8; have b8 := below_put hg8; have HG8 := Lib.hid (HG7.out.on b8); have HD8 := Lib.hid (HD7.out.below b8); have HX8 := Lib.hid (kept_at b8 HX7.out); have HC8 := Lib.hid (HC7.out.below b8); have HY8 := Lib.hid hR8; have hr8 := HG8.out.path.alloc (Nat.le_refl _) (.cells #[] 3); have he8 := own_empty w8 3 1 w8.heap.size (Nat.le_refl _); have hl8 := (Below.refl w8.heap.size w8).alloc (Nat.le_refl _) (.cells #[] 3); clear hR b8 hR8 hg8 HG7 HD7 HX7 HC7)
        | (at_builtin; refine wpList_pushesG st27 rfl _ _ rfl _ rfl he8 rfl hr8 (ints_cells _ _) (by omega) (by omega) hl8.size ?_; intro v9 w9 ho9 hg9; have b9 := hl8.grown hg9 hl8.size (fun k hk => (he8.lt k hk).1); rw [Nat.zero_add, List.nil_append] at ho9; obtain ⟨A9, c9, rfl, -⟩ := own_form ho9; clear hg9 he8 hr8 hl8)
        | (at_builtin; refine wpList_pushG st27 rfl _ _ rfl _ rfl ho9 [.int .i64 kq] _ rfl rfl rfl (by simp [Value.oneCell']) (by omega) (by omega) b9.size ?_; intro v10 w10 ho10 hg10; have b10 := b9.grown hg10 b9.size (fun k hk => (ho9.lt k hk).1); obtain ⟨A10, c10, rfl, ho10⟩ := own_form ho10; have HG10 := Lib.hid (HG8.out.on b10); have HD10 := Lib.hid (HD8.out.below b10); have HX10 := Lib.hid (kept_at b10 HX8.out); have HC10 := Lib.hid (HC8.out.below b10); have hy10 := kept_at b10 HY8.out; have HR10 : Hid (Rd w10 w10.heap.size 1 (A10) (m + 1) c10 (ints .i64 (P ++ [kq]))) := Lib.hid (by rw [ints_snoc]; exact Rd.of_own ho10); clear b9 b10 ho9 ho10 hg10 HG8 HD8 HX8 HC8 HY8))
      have e0 := (cells5 hy10).1; have e1 := (cells5 hy10).2.1; have e2 := (cells5 hy10).2.2.1; have e3 := (cells5 hy10).2.2.2.1; have e4 := (cells5 hy10).2.2.2.2
      clear hy10 hz
      go_cut [122] from 105 to 121 (fun v wx => v = .bool false ∧ Hid (Below w10.heap.size w10 wx))
      case first =>
        have C21 := at21 HG10.out.both.doc HN.out.good (r : Nat) A10 (m + 1) c10 (P ++ [kq]) HR10.out (by omega)
        have hz := atZ_ok hr (P ++ [kq])
        have hok := HC10.out.1
        rw [List.reverse_cons, List.reverse_reverse] at hok
        rw [← hok] at hz
        clear hok
        generalize atZ N (r : Nat) (P ++ [kq]) = z at hz C21
        cases ok2 with
        | false =>
          go_wp2_with (go_at_call 21; refine C21.mono ?_; rintro e w11 ⟨rfl, rfl⟩; clear C21)
          go_meet
          exact ⟨rfl, Lib.hid (Below.refl _ _)⟩
        | true =>
          obtain ⟨rfl, hx⟩ := HC10.out.2 rfl
          have C38 := stands38 HG10.out.both (by omega) hr hx (by rw [List.length_cons, List.length_reverse, HPL.out]; omega) A10 (m + 1) c10 (by rw [List.reverse_cons, List.reverse_reverse]; exact HR10.out)
          clear hx
          go_wp2_with (first
            | (go_at_call 21; refine C21.mono ?_; rintro e w11 ⟨rfl, rfl⟩; clear C21)
            | (go_at_call 38; refine C38.mono ?_; rintro e w11 ⟨rfl, b11⟩; clear C38))
          go_meet
          exact ⟨rfl, Lib.hid b11⟩
      case rest =>
        obtain ⟨rfl, HB⟩ := hcut
        have HGc := Lib.hid (HG10.out.on HB.out)
        have HDc := Lib.hid (HD10.out.below HB.out)
        have HXc := Lib.hid (kept_at HB.out HX10.out)
        have hx := HXc.out
        have d0 := (cells5 hx).1; have d1 := (cells5 hx).2.1; have d2 := (cells5 hx).2.2.1; have d3 := (cells5 hx).2.2.2.1; have d4 := (cells5 hx).2.2.2.2
        clear hx HG10 HD10 HX10 HC10 HR10 HB
        rcases List.eq_nil_or_concat P with rfl | ⟨P', q, rfl⟩
        · have hd : Chain (fun _ => True) wc w.heap.size N r [] n1 f1 k1 u1 := HDc.out
          obtain ⟨rfl, rfl, rfl, rfl⟩ := hd
          obtain rfl : m = 0 := HPL.out.symm
          go_wp2_with (first
            | (go_at_call 41; refine (up41_root _ _ _ _ _).mono ?_; rintro e w12 ⟨rfl, b12⟩; have HG12 := Lib.hid (HGc.out.on b12); have HX12 := Lib.hid (kept_at b12 HXc.out); have hR := heap_alloc_new w12 (.cells (cc none 0 0 0 none) 59); clear b12 HXc HGc d0 d1 d2 d3 d4)
            | (refine wpList_putc rfl _ _ rfl w12.heap.size none 0 0 0 none rfl rfl hR ?_; intro w13 hR13 hg13; have HG13 := Lib.hid (HG12.out.on (below_put hg13)); have h13 := kept_at (below_put hg13) HX12.out; have HX13 := Lib.hid h13; have d0 := (cells5 h13).1; have d1 := (cells5 h13).2.1; have d2 := (cells5 h13).2.2.1; have d3 := (cells5 h13).2.2.2.1; have d4 := (cells5 h13).2.2.2.2; clear hR hR13 hg13 h13 HG12 HX12)
            | (go_at_call 42; refine (next42_root _ _ _ _ _).mono ?_; rintro e w14 ⟨rfl, b14⟩; have HG14 := Lib.hid (HG13.out.on b14); have HX14 := Lib.hid (kept_at b14 HX13.out); have hR := heap_alloc_new w14 (.cells (cc none 0 0 0 none) 59); clear b14 HX13 HG13 d0 d1 d2 d3 d4)
            | (refine wpList_putc rfl _ _ rfl w14.heap.size none 0 0 0 none rfl rfl hR ?_; intro w15 hR15 hg15; have HG15 := Lib.hid (HG14.out.on (below_put hg15)); have h15 := kept_at (below_put hg15) HX14.out; have d0 := (cells5 h15).1; have d1 := (cells5 h15).2.1; have d2 := (cells5 h15).2.2.1; have d3 := (cells5 h15).2.2.2.1; have d4 := (cells5 h15).2.2.2.2; clear hR hR15 hg15 h15 HG14 HX14)
            | (go_at_call 43; refine (prev43_root _ _ _ _ _).mono ?_; rintro e w16 ⟨rfl, b16⟩; have HG16 := Lib.hid (HG15.out.on b16); have hR := heap_alloc_new w16 (.cells (cc none 0 0 0 none) 59); clear b16 HG15 d0 d1 d2 d3 d4)
            | (refine wpList_putc rfl _ _ rfl w16.heap.size none 0 0 0 none rfl rfl hR ?_; intro w17 hR17 hg17; have HG17 := Lib.hid (HG16.out.on (below_put hg17)); clear hR hR17 hg17 HG16)
            | (go_at_call 33; refine (awake33 _).mono ?_; rintro e w18 ⟨rfl, b18⟩; have B9 := Lib.hid (HG17.out.on b18).bel; clear b18))
          go_ret
          exact ⟨rfl, B9.out⟩
        · rw [List.concat_eq_append] at HGc HDc HPL HS
          have hml : m = P'.length + 1 := by have := HPL.out; simp at this; omega
          obtain ⟨m', hm'⟩ : ∃ m', P'.length = m' := ⟨_, rfl⟩
          rw [hm'] at hml
          have HML := Lib.hid hm'
          subst hml
          clear hm'
          have HDc : Hid (Chain (fun _ => True) wc w.heap.size N r (q :: P'.reverse) n1 f1 k1 u1) := Lib.hid (by have := HDc.out; rw [List.reverse_append] at this; exact this)
          obtain ⟨b2, o2, rfl, -, -⟩ := HGc.out.path.int_form (by omega)
          have hc2 := HGc.out.path.cap
          have t9 : ¬ ((m' : Int) + 1 = 0) := by omega
          have u9 : IntKind.i64.wrap ((m' : Int) + 1 - 1) = (m' : Int) := by rw [show (m' : Int) + 1 - 1 = m' by omega]; exact IntWalk.i64_in _ (by omega)
          go_upto_region 25 with (first
            | (go_at_call 41; refine (up_at HDc.out).mono ?_; rintro e w12 ⟨n3, f3, k3, u3, rfl, hc12, b12⟩; have HG12 := Lib.hid (HGc.out.on b12); have HD12 := Lib.hid (HDc.out.below b12); have HX12 := Lib.hid (kept_at b12 HXc.out); have HU12 := Lib.hid hc12; have hR := heap_alloc_new w12 (.cells (cc none 0 0 0 none) 59); clear b12 hc12 HXc HGc HDc d0 d1 d2 d3 d4)
            | (refine wpList_putc rfl _ _ rfl w12.heap.size (some ⟨w.heap.size, 0, none⟩) n3 f3 k3 u3 rfl rfl hR ?_; intro w13 hR13 hg13; have b13 := below_put hg13; have HG13 := Lib.hid (HG12.out.on b13); have HD13 := Lib.hid (HD12.out.below b13); have HU13 := Lib.hid (HU12.out.below b13); have h13 := kept_at b13 HX12.out; have HX13 := Lib.hid h13; have HA13 := Lib.hid hR13; have d0 := (cells5 h13).1; have d1 := (cells5 h13).2.1; have d2 := (cells5 h13).2.2.1; have d3 := (cells5 h13).2.2.2.1; have d4 := (cells5 h13).2.2.2.2; clear b13 hR hR13 hg13 h13 HG12 HX12 HD12 HU12)
            | (go_at_call 42; refine (next_at HG13.out.both.arena HN.out HWD.out hr HD13.out).mono ?_; rintro e w14 ⟨a4, n4, f4, k4, u4, ok4, rfl, hc14, b14⟩; have HG14 := Lib.hid (HG13.out.on b14); have HD14 := Lib.hid (HD13.out.below b14); have HU14 := Lib.hid (HU13.out.below b14); have HN14 := Lib.hid hc14; have HX14 := Lib.hid (kept_at b14 HX13.out); have HA14 := Lib.hid (kept_at b14 HA13.out); have hR := heap_alloc_new w14 (.cells (cc none 0 0 0 none) 59); clear b14 hc14 HX13 HG13 HD13 HU13 HA13 d0 d1 d2 d3 d4)
            | (refine wpList_putc rfl _ _ rfl w14.heap.size a4 n4 f4 k4 u4 rfl rfl hR ?_; intro w15 hR15 hg15; have b15 := below_put hg15; have HG15 := Lib.hid (HG14.out.on b15); have HD15 := Lib.hid (HD14.out.below b15); have HU15 := Lib.hid (HU14.out.below b15); have HN15 := Lib.hid (HN14.out.below b15); have h15 := kept_at b15 HX14.out; have HA15 := Lib.hid (kept_at b15 HA14.out); have HE15 := Lib.hid hR15; have d0 := (cells5 h15).1; have d1 := (cells5 h15).2.1; have d2 := (cells5 h15).2.2.1; have d3 := (cells5 h15).2.2.2.1; have d4 := (cells5 h15).2.2.2.2; clear b15 hR hR15 hg15 h15 HG14 HX14 HD14 HU14 HN14 HA14)
            | (go_at_call 43; refine (prev_at HG15.out.both.arena HN.out HWD.out hr HD15.out).mono ?_; rintro e w16 ⟨a5, n5, f5, k5, u5, ok5, rfl, hc16, b16⟩; have HG16 := Lib.hid (HG15.out.on b16); have HD16 := Lib.hid (HD15.out.below b16); have HU16 := Lib.hid (HU15.out.below b16); have HN16 := Lib.hid (HN15.out.below b16); have HP16 := Lib.hid hc16; have HA16 := Lib.hid (kept_at b16 HA15.out); have HE16 := Lib.hid (kept_at b16 HE15.out); have hR := heap_alloc_new w16 (.cells (cc none 0 0 0 none) 59); clear b16 hc16 HG15 HD15 HU15 HN15 HA15 HE15 d0 d1 d2 d3 d4)
            | (refine wpList_putc rfl _ _ rfl w16.heap.size a5 n5 f5 k5 u5 rfl rfl hR ?_; intro w17 hR17 hg17; have b17 := below_put hg17; have HG17 := Lib.hid (HG16.out.on b17); have HDZ := Lib.hid HD16.out; have HOK5 := Lib.hid (HP16.out.1.trans (prev_ok HN.out hr HD16.out)); have HU17 := Lib.hid (HU16.out.below b17); have HN17 := Lib.hid (HN16.out.below b17); have HP17 := Lib.hid (HP16.out.below b17); have HA17 := Lib.hid (kept_at b17 HA16.out); have HE17 := Lib.hid (kept_at b17 HE16.out); have HF17 := Lib.hid hR17; clear b17 hR hR17 hg17 HG16 HD16 HU16 HN16 HP16 HA16 HE16))
          have t7 : m' ≤ c2 := by omega
          have t8 : (m' : Int) < (m' : Int) + 1 := by omega
          have hqb : 0 ≤ q ∧ q ≤ 64 := by
            obtain ⟨_, _, _, _, _, _, _, _, hcx, _, h0, h1, _⟩ := HDZ.out
            obtain ⟨i9, rfl, hi9, -, -⟩ := chain_bd HN.out HWD.out hr hcx
            have := HN.out.few i9 hi9
            rw [show ((i9 : Nat) : Int).toNat = i9 from rfl] at h1
            omega
          have HU1 := Lib.hid (show IntKind.i64.wrap (q + 1) = q + 1 from IntWalk.i64_in _ (by omega))
          have HU2 := Lib.hid (show IntKind.i64.wrap (q - 1) = q - 1 from IntWalk.i64_in _ (by omega))
          go_cut [25] from 157 to 168 (fun v wx => ∃ A' c', v = .slice A' (m' + 1) c' ∧ Hid (Rd wx wx.heap.size 1 A' (m' + 1) c' (ints .i64 (P' ++ [q + 1]))) ∧ Hid (Below w17.heap.size w17 wx))
          case first =>
            refine wp_region_held_drew (S := fun W => Below w17.drew.heap.size w17.drew W) (by kernel_rfl) (Below.refl _ _) (fun hHeld => ?_)
            change wpAnyH _ _ _ _ _ 13 #[false, false, false, false, false, false, false, false, false, false, false, false, false] _ _
            have ra_p := HG17.out.path.drew
            have ra_x := (ra_p.cellz (j := m') (by omega)).1
            rw [gz_last P' q HML.out] at ra_x
            have ra_l : b2 < w17.drew.heap.size := (ra_p.cellz (j := m') (by omega)).2
            have ra_t : Rd w17.drew w17.drew.heap.size 1 (some ⟨b2, o2, none⟩) m' c2 (ints .i64 P') := ra_p.front
            have ra_b : Below w17.heap.size w17 w17.drew := (Below.refl _ _).drew
            clear ra_p
            generalize w17.drew = ra at *
            refine wpAnyH_take (i := 1) (oi := _) (v := ?_) rfl (by kernel_rfl) (by kernel_rfl) (by kernel_rfl) (fun _ _ _ h => h) (Or.inl ⟨by rfl, ?_⟩) hHeld ?_
            rotate_left
            · intro w9 hSw; go_simp; (try with_reducible rfl)
            simp only [List.getElem_toArray, List.getElem_cons_zero, List.getElem_cons_succ, Act.put, List.setIfInBounds_toArray, List.set_cons_zero, List.set_cons_succ]
            refine wpAnyH_take (i := 2) (oi := _) (v := ?_) rfl (by kernel_rfl) (by kernel_rfl) (by kernel_rfl) (fun _ _ _ h => h) (Or.inl ⟨by rfl, ?_⟩) hHeld ?_
            rotate_left
            · intro w9 hSw; go_simp; (try with_reducible rfl)
            simp only [List.getElem_toArray, List.getElem_cons_zero, List.getElem_cons_succ, Act.put, List.setIfInBounds_toArray, List.set_cons_zero, List.set_cons_succ]
            refine wpAnyH_take (i := 3) (oi := _) (v := ?_) rfl (by kernel_rfl) (by kernel_rfl) (by kernel_rfl) (fun _ _ _ h => h) (Or.inl ⟨by rfl, ?_⟩) hHeld ?_
            rotate_left
            · intro w9 hSw; go_simp; (try with_reducible rfl)
            simp only [List.getElem_toArray, List.getElem_cons_zero, List.getElem_cons_succ, Act.put, List.setIfInBounds_toArray, List.set_cons_zero, List.set_cons_succ]
            refine wpAnyH_take (i := 5) (oi := _) (v := ?_) rfl (by kernel_rfl) (by kernel_rfl) (by kernel_rfl) (fun _ _ _ h => h) (Or.inl ⟨by rfl, ?_⟩) hHeld ?_
            rotate_left
            · intro w9 hSw; go_simp; (try with_reducible rfl)
            simp only [List.getElem_toArray, List.getElem_cons_zero, List.getElem_cons_succ, Act.put, List.setIfInBounds_toArray, List.set_cons_zero, List.set_cons_succ]
            refine wpAnyH_take (i := 6) (oi := _) (v := ?_) rfl (by kernel_rfl) (by kernel_rfl) (by kernel_rfl) (fun _ _ _ h => h) (Or.inl ⟨by rfl, ?_⟩) hHeld ?_
            rotate_left
            · intro w9 hSw; go_simp; (try with_reducible rfl)
            simp only [List.getElem_toArray, List.getElem_cons_zero, List.getElem_cons_succ, Act.put, List.setIfInBounds_toArray, List.set_cons_zero, List.set_cons_succ]
            refine wpAnyH_take (i := 7) (oi := _) (v := ?_) rfl (by kernel_rfl) (by kernel_rfl) (by kernel_rfl) (fun _ _ _ h => h) (Or.inl ⟨by rfl, ?_⟩) hHeld ?_
            rotate_left
            · intro w9 hSw; go_simp; (try with_reducible rfl)
            simp only [List.getElem_toArray, List.getElem_cons_zero, List.getElem_cons_succ, Act.put, List.setIfInBounds_toArray, List.set_cons_zero, List.set_cons_succ]
            refine wpAnyH_take (i := 8) (oi := _) (v := ?_) rfl (by kernel_rfl) (by kernel_rfl) (by kernel_rfl) (fun _ _ _ h => h) (Or.inl ⟨by rfl, ?_⟩) hHeld ?_
            rotate_left
            · intro w9 hSw; have s0 := (hSw.cell (p := ⟨b2, o2 + m', none⟩) ra_l).trans ra_x; go_simp; (try with_reducible rfl)
            simp only [List.getElem_toArray, List.getElem_cons_zero, List.getElem_cons_succ, Act.put, List.setIfInBounds_toArray, List.set_cons_zero, List.set_cons_succ]
            refine wpAnyH_take (i := 9) (oi := _) (v := ?_) rfl (by kernel_rfl) (by kernel_rfl) (by kernel_rfl) (fun _ _ _ h => h) (Or.inl ⟨by rfl, ?_⟩) hHeld ?_
            rotate_left
            · intro w9 hSw; have s0 := HU1.out; go_simp; (try with_reducible rfl)
            simp only [List.getElem_toArray, List.getElem_cons_zero, List.getElem_cons_succ, Act.put, List.setIfInBounds_toArray, List.set_cons_zero, List.set_cons_succ]
            refine wpAnyH_ready (rs := [0, 10]) (by kernel_rfl) (by simp) ?_
            refine AllReadyH.cons (o := _) rfl (fun K hK => ?_) (AllReadyH.cons (o := _) rfl (fun K hK => ?_) AllReadyH.nil)
            · go_simp
              refine hK.out _ _ ((Below.refl _ _).alloc (Nat.le_refl _) _) (fun _ => ?_)
              clear hK
              refine wpAnyH_ready (rs := [4, 10]) (by kernel_rfl) (by simp) ?_
              refine AllReadyH.cons (o := _) rfl (fun K hK => ?_) (AllReadyH.cons (o := _) rfl (fun K hK => ?_) AllReadyH.nil)
              · obtain ⟨v1, x1, hrun, hb1, hb2, A3, c3, x3, hrun2, hb3, hr3⟩ := app2_a1 ra_t (by omega) (q + 1)
                refine step_append_run rfl 27 27 _ _ ⟨rfl, rfl⟩ _ _ rfl rfl _ _ hrun ?_
                refine hK.out _ _ hb1 (fun _ => ?_)
                clear hK
                refine wpAnyH_ready (rs := [10]) (by kernel_rfl) (by simp) ?_
                refine AllReadyH.cons (o := _) rfl (fun K hK => ?_) AllReadyH.nil
                go_simp
                refine hK.out _ _ hb2 (fun _ => ?_)
                clear hK
                refine wpAnyH_ready (rs := [11]) (by kernel_rfl) (by simp) ?_
                refine AllReadyH.cons (o := _) rfl (fun K hK => ?_) AllReadyH.nil
                refine step_append_run rfl 27 27 _ _ ⟨rfl, rfl⟩ _ _ rfl rfl _ _ hrun2 ?_
                refine hK.out _ _ hb3 (fun hHeldX => ?_)
                clear hK
                refine wpAnyH_take (i := 12) (oi := _) (v := ?_) rfl (by kernel_rfl) (by kernel_rfl) (by kernel_rfl) (fun _ _ _ h => h) (Or.inl ⟨by rfl, ?_⟩) hHeldX ?_
                rotate_left
                · intro w9 hSw; go_simp; (try with_reducible rfl)
                simp only [List.getElem_toArray, List.getElem_cons_zero, List.getElem_cons_succ, Act.put, List.setIfInBounds_toArray, List.set_cons_zero, List.set_cons_succ]
                refine wpAnyH_done (by kernel_rfl) ?_ _
                go_wp2_with fail
                go_meet
                exact ⟨A3, c3, rfl, Lib.hid hr3, Lib.hid (ra_b.trans (hb3.mono ra_b.size))⟩
              · obtain ⟨hb0, v1, x1, hrun, hb1, A3, c3, x3, hrun2, hb3, hr3⟩ := app2_a2 ra_t (by omega) (q + 1)
                go_simp
                refine hK.out _ _ hb0 (fun _ => ?_)
                clear hK
                refine wpAnyH_ready (rs := [4]) (by kernel_rfl) (by simp) ?_
                refine AllReadyH.cons (o := _) rfl (fun K hK => ?_) AllReadyH.nil
                refine step_append_run rfl 27 27 _ _ ⟨rfl, rfl⟩ _ _ rfl rfl _ _ hrun ?_
                refine hK.out _ _ hb1 (fun _ => ?_)
                clear hK
                refine wpAnyH_ready (rs := [11]) (by kernel_rfl) (by simp) ?_
                refine AllReadyH.cons (o := _) rfl (fun K hK => ?_) AllReadyH.nil
                refine step_append_run rfl 27 27 _ _ ⟨rfl, rfl⟩ _ _ rfl rfl _ _ hrun2 ?_
                refine hK.out _ _ hb3 (fun hHeldX => ?_)
                clear hK
                refine wpAnyH_take (i := 12) (oi := _) (v := ?_) rfl (by kernel_rfl) (by kernel_rfl) (by kernel_rfl) (fun _ _ _ h => h) (Or.inl ⟨by rfl, ?_⟩) hHeldX ?_
                rotate_left
                · intro w9 hSw; go_simp; (try with_reducible rfl)
                simp only [List.getElem_toArray, List.getElem_cons_zero, List.getElem_cons_succ, Act.put, List.setIfInBounds_toArray, List.set_cons_zero, List.set_cons_succ]
                refine wpAnyH_done (by kernel_rfl) ?_ _
                go_wp2_with fail
                go_meet
                exact ⟨A3, c3, rfl, Lib.hid hr3, Lib.hid (ra_b.trans (hb3.mono ra_b.size))⟩
            · obtain ⟨hb0, hb1, v1, x1, hrun, hb2, A3, c3, x3, hrun2, hb3, hr3⟩ := app2_b ra_t (by omega) (q + 1)
              go_simp
              refine hK.out _ _ hb0 (fun _ => ?_)
              clear hK
              refine wpAnyH_ready (rs := [0]) (by kernel_rfl) (by simp) ?_
              refine AllReadyH.cons (o := _) rfl (fun K hK => ?_) AllReadyH.nil
              go_simp
              refine hK.out _ _ hb1 (fun _ => ?_)
              clear hK
              refine wpAnyH_ready (rs := [4]) (by kernel_rfl) (by simp) ?_
              refine AllReadyH.cons (o := _) rfl (fun K hK => ?_) AllReadyH.nil
              refine step_append_run rfl 27 27 _ _ ⟨rfl, rfl⟩ _ _ rfl rfl _ _ hrun ?_
              refine hK.out _ _ hb2 (fun _ => ?_)
              clear hK
              refine wpAnyH_ready (rs := [11]) (by kernel_rfl) (by simp) ?_
              refine AllReadyH.cons (o := _) rfl (fun K hK => ?_) AllReadyH.nil
              refine step_append_run rfl 27 27 _ _ ⟨rfl, rfl⟩ _ _ rfl rfl _ _ hrun2 ?_
              refine hK.out _ _ hb3 (fun hHeldX => ?_)
              clear hK
              refine wpAnyH_take (i := 12) (oi := _) (v := ?_) rfl (by kernel_rfl) (by kernel_rfl) (by kernel_rfl) (fun _ _ _ h => h) (Or.inl ⟨by rfl, ?_⟩) hHeldX ?_
              rotate_left
              · intro w9 hSw; go_simp; (try with_reducible rfl)
              simp only [List.getElem_toArray, List.getElem_cons_zero, List.getElem_cons_succ, Act.put, List.setIfInBounds_toArray, List.set_cons_zero, List.set_cons_succ]
              refine wpAnyH_done (by kernel_rfl) ?_ _
              go_wp2_with fail
              go_meet
              exact ⟨A3, c3, rfl, Lib.hid hr3, Lib.hid (ra_b.trans (hb3.mono ra_b.size))⟩
          case rest =>
            obtain ⟨A25, c25, rfl, HR25, HB25⟩ := hcut
            obtain ⟨w25, rfl⟩ : ∃ w25, wc = w25 := ⟨_, rfl⟩
            have HG25 := Lib.hid (HG17.out.on HB25.out)
            have HU25 := Lib.hid (HU17.out.below HB25.out)
            have HN25 := Lib.hid (HN17.out.below HB25.out)
            have HP25 := Lib.hid (HP17.out.below HB25.out)
            have HA25 := Lib.hid (kept_at HB25.out HA17.out)
            have HE25 := Lib.hid (kept_at HB25.out HE17.out)
            have HF25 := Lib.hid (kept_at HB25.out HF17.out)
            clear HG17 HU17 HN17 HP17 HA17 HE17 HF17
            go_upto_region 26 with fail
            go_cut [26] from 169 to 180 (fun v wx => ∃ A' c', v = .slice A' (m' + 1) c' ∧ Hid (Rd wx wx.heap.size 1 A' (m' + 1) c' (ints .i64 (P' ++ [q - 1]))) ∧ Hid (Below wc.heap.size wc wx))
            case first =>
              refine wp_region_held_drew (S := fun W => Below wc.drew.heap.size wc.drew W) (by kernel_rfl) (Below.refl _ _) (fun hHeld => ?_)
              change wpAnyH _ _ _ _ _ 13 #[false, false, false, false, false, false, false, false, false, false, false, false, false] _ _
              have rb_p := HG25.out.path.drew
              have rb_x := (rb_p.cellz (j := m') (by omega)).1
              rw [gz_last P' q HML.out] at rb_x
              have rb_l : b2 < wc.drew.heap.size := (rb_p.cellz (j := m') (by omega)).2
              have rb_t : Rd wc.drew wc.drew.heap.size 1 (some ⟨b2, o2, none⟩) m' c2 (ints .i64 P') := rb_p.front
              have rb_b : Below wc.heap.size wc wc.drew := (Below.refl _ _).drew
              clear rb_p
              generalize wc.drew = rb at *
              refine wpAnyH_take (i := 1) (oi := _) (v := ?_) rfl (by kernel_rfl) (by kernel_rfl) (by kernel_rfl) (fun _ _ _ h => h) (Or.inl ⟨by rfl, ?_⟩) hHeld ?_
              rotate_left
              · intro w9 hSw; go_simp; (try with_reducible rfl)
              simp only [List.getElem_toArray, List.getElem_cons_zero, List.getElem_cons_succ, Act.put, List.setIfInBounds_toArray, List.set_cons_zero, List.set_cons_succ]
              refine wpAnyH_take (i := 2) (oi := _) (v := ?_) rfl (by kernel_rfl) (by kernel_rfl) (by kernel_rfl) (fun _ _ _ h => h) (Or.inl ⟨by rfl, ?_⟩) hHeld ?_
              rotate_left
              · intro w9 hSw; go_simp; (try with_reducible rfl)
              simp only [List.getElem_toArray, List.getElem_cons_zero, List.getElem_cons_succ, Act.put, List.setIfInBounds_toArray, List.set_cons_zero, List.set_cons_succ]
              refine wpAnyH_take (i := 3) (oi := _) (v := ?_) rfl (by kernel_rfl) (by kernel_rfl) (by kernel_rfl) (fun _ _ _ h => h) (Or.inl ⟨by rfl, ?_⟩) hHeld ?_
              rotate_left
              · intro w9 hSw; go_simp; (try with_reducible rfl)
              simp only [List.getElem_toArray, List.getElem_cons_zero, List.getElem_cons_succ, Act.put, List.setIfInBounds_toArray, List.set_cons_zero, List.set_cons_succ]
              refine wpAnyH_take (i := 5) (oi := _) (v := ?_) rfl (by kernel_rfl) (by kernel_rfl) (by kernel_rfl) (fun _ _ _ h => h) (Or.inl ⟨by rfl, ?_⟩) hHeld ?_
              rotate_left
              · intro w9 hSw; go_simp; (try with_reducible rfl)
              simp only [List.getElem_toArray, List.getElem_cons_zero, List.getElem_cons_succ, Act.put, List.setIfInBounds_toArray, List.set_cons_zero, List.set_cons_succ]
              refine wpAnyH_take (i := 6) (oi := _) (v := ?_) rfl (by kernel_rfl) (by kernel_rfl) (by kernel_rfl) (fun _ _ _ h => h) (Or.inl ⟨by rfl, ?_⟩) hHeld ?_
              rotate_left
              · intro w9 hSw; go_simp; (try with_reducible rfl)
              simp only [List.getElem_toArray, List.getElem_cons_zero, List.getElem_cons_succ, Act.put, List.setIfInBounds_toArray, List.set_cons_zero, List.set_cons_succ]
              refine wpAnyH_take (i := 7) (oi := _) (v := ?_) rfl (by kernel_rfl) (by kernel_rfl) (by kernel_rfl) (fun _ _ _ h => h) (Or.inl ⟨by rfl, ?_⟩) hHeld ?_
              rotate_left
              · intro w9 hSw; go_simp; (try with_reducible rfl)
              simp only [List.getElem_toArray, List.getElem_cons_zero, List.getElem_cons_succ, Act.put, List.setIfInBounds_toArray, List.set_cons_zero, List.set_cons_succ]
              refine wpAnyH_take (i := 8) (oi := _) (v := ?_) rfl (by kernel_rfl) (by kernel_rfl) (by kernel_rfl) (fun _ _ _ h => h) (Or.inl ⟨by rfl, ?_⟩) hHeld ?_
              rotate_left
              · intro w9 hSw; have s0 := (hSw.cell (p := ⟨b2, o2 + m', none⟩) rb_l).trans rb_x; go_simp; (try with_reducible rfl)
              simp only [List.getElem_toArray, List.getElem_cons_zero, List.getElem_cons_succ, Act.put, List.setIfInBounds_toArray, List.set_cons_zero, List.set_cons_succ]
              refine wpAnyH_take (i := 9) (oi := _) (v := ?_) rfl (by kernel_rfl) (by kernel_rfl) (by kernel_rfl) (fun _ _ _ h => h) (Or.inl ⟨by rfl, ?_⟩) hHeld ?_
              rotate_left
              · intro w9 hSw; have s0 := HU2.out; go_simp; (try with_reducible rfl)
              simp only [List.getElem_toArray, List.getElem_cons_zero, List.getElem_cons_succ, Act.put, List.setIfInBounds_toArray, List.set_cons_zero, List.set_cons_succ]
              refine wpAnyH_ready (rs := [0, 10]) (by kernel_rfl) (by simp) ?_
              refine AllReadyH.cons (o := _) rfl (fun K hK => ?_) (AllReadyH.cons (o := _) rfl (fun K hK => ?_) AllReadyH.nil)
              · go_simp
                refine hK.out _ _ ((Below.refl _ _).alloc (Nat.le_refl _) _) (fun _ => ?_)
                clear hK
                refine wpAnyH_ready (rs := [4, 10]) (by kernel_rfl) (by simp) ?_
                refine AllReadyH.cons (o := _) rfl (fun K hK => ?_) (AllReadyH.cons (o := _) rfl (fun K hK => ?_) AllReadyH.nil)
                · obtain ⟨v1, x1, hrun, hb1, hb2, A3, c3, x3, hrun2, hb3, hr3⟩ := app2_a1 rb_t (by omega) (q - 1)
                  refine step_append_run rfl 27 27 _ _ ⟨rfl, rfl⟩ _ _ rfl rfl _ _ hrun ?_
                  refine hK.out _ _ hb1 (fun _ => ?_)
                  clear hK
                  refine wpAnyH_ready (rs := [10]) (by kernel_rfl) (by simp) ?_
                  refine AllReadyH.cons (o := _) rfl (fun K hK => ?_) AllReadyH.nil
                  go_simp
                  refine hK.out _ _ hb2 (fun _ => ?_)
                  clear hK
                  refine wpAnyH_ready (rs := [11]) (by kernel_rfl) (by simp) ?_
                  refine AllReadyH.cons (o := _) rfl (fun K hK => ?_) AllReadyH.nil
                  refine step_append_run rfl 27 27 _ _ ⟨rfl, rfl⟩ _ _ rfl rfl _ _ hrun2 ?_
                  refine hK.out _ _ hb3 (fun hHeldX => ?_)
                  clear hK
                  refine wpAnyH_take (i := 12) (oi := _) (v := ?_) rfl (by kernel_rfl) (by kernel_rfl) (by kernel_rfl) (fun _ _ _ h => h) (Or.inl ⟨by rfl, ?_⟩) hHeldX ?_
                  rotate_left
                  · intro w9 hSw; go_simp; (try with_reducible rfl)
                  simp only [List.getElem_toArray, List.getElem_cons_zero, List.getElem_cons_succ, Act.put, List.setIfInBounds_toArray, List.set_cons_zero, List.set_cons_succ]
                  refine wpAnyH_done (by kernel_rfl) ?_ _
                  go_wp2_with fail
                  go_meet
                  exact ⟨A3, c3, rfl, Lib.hid hr3, Lib.hid (rb_b.trans (hb3.mono rb_b.size))⟩
                · obtain ⟨hb0, v1, x1, hrun, hb1, A3, c3, x3, hrun2, hb3, hr3⟩ := app2_a2 rb_t (by omega) (q - 1)
                  go_simp
                  refine hK.out _ _ hb0 (fun _ => ?_)
                  clear hK
                  refine wpAnyH_ready (rs := [4]) (by kernel_rfl) (by simp) ?_
                  refine AllReadyH.cons (o := _) rfl (fun K hK => ?_) AllReadyH.nil
                  refine step_append_run rfl 27 27 _ _ ⟨rfl, rfl⟩ _ _ rfl rfl _ _ hrun ?_
                  refine hK.out _ _ hb1 (fun _ => ?_)
                  clear hK
                  refine wpAnyH_ready (rs := [11]) (by kernel_rfl) (by simp) ?_
                  refine AllReadyH.cons (o := _) rfl (fun K hK => ?_) AllReadyH.nil
                  refine step_append_run rfl 27 27 _ _ ⟨rfl, rfl⟩ _ _ rfl rfl _ _ hrun2 ?_
                  refine hK.out _ _ hb3 (fun hHeldX => ?_)
                  clear hK
                  refine wpAnyH_take (i := 12) (oi := _) (v := ?_) rfl (by kernel_rfl) (by kernel_rfl) (by kernel_rfl) (fun _ _ _ h => h) (Or.inl ⟨by rfl, ?_⟩) hHeldX ?_
                  rotate_left
                  · intro w9 hSw; go_simp; (try with_reducible rfl)
                  simp only [List.getElem_toArray, List.getElem_cons_zero, List.getElem_cons_succ, Act.put, List.setIfInBounds_toArray, List.set_cons_zero, List.set_cons_succ]
                  refine wpAnyH_done (by kernel_rfl) ?_ _
                  go_wp2_with fail
                  go_meet
                  exact ⟨A3, c3, rfl, Lib.hid hr3, Lib.hid (rb_b.trans (hb3.mono rb_b.size))⟩
              · obtain ⟨hb0, hb1, v1, x1, hrun, hb2, A3, c3, x3, hrun2, hb3, hr3⟩ := app2_b rb_t (by omega) (q - 1)
                go_simp
                refine hK.out _ _ hb0 (fun _ => ?_)
                clear hK
                refine wpAnyH_ready (rs := [0]) (by kernel_rfl) (by simp) ?_
                refine AllReadyH.cons (o := _) rfl (fun K hK => ?_) AllReadyH.nil
                go_simp
                refine hK.out _ _ hb1 (fun _ => ?_)
                clear hK
                refine wpAnyH_ready (rs := [4]) (by kernel_rfl) (by simp) ?_
                refine AllReadyH.cons (o := _) rfl (fun K hK => ?_) AllReadyH.nil
                refine step_append_run rfl 27 27 _ _ ⟨rfl, rfl⟩ _ _ rfl rfl _ _ hrun ?_
                refine hK.out _ _ hb2 (fun _ => ?_)
                clear hK
                refine wpAnyH_ready (rs := [11]) (by kernel_rfl) (by simp) ?_
                refine AllReadyH.cons (o := _) rfl (fun K hK => ?_) AllReadyH.nil
                refine step_append_run rfl 27 27 _ _ ⟨rfl, rfl⟩ _ _ rfl rfl _ _ hrun2 ?_
                refine hK.out _ _ hb3 (fun hHeldX => ?_)
                clear hK
                refine wpAnyH_take (i := 12) (oi := _) (v := ?_) rfl (by kernel_rfl) (by kernel_rfl) (by kernel_rfl) (fun _ _ _ h => h) (Or.inl ⟨by rfl, ?_⟩) hHeldX ?_
                rotate_left
                · intro w9 hSw; go_simp; (try with_reducible rfl)
                simp only [List.getElem_toArray, List.getElem_cons_zero, List.getElem_cons_succ, Act.put, List.setIfInBounds_toArray, List.set_cons_zero, List.set_cons_succ]
                refine wpAnyH_done (by kernel_rfl) ?_ _
                go_wp2_with fail
                go_meet
                exact ⟨A3, c3, rfl, Lib.hid hr3, Lib.hid (rb_b.trans (hb3.mono rb_b.size))⟩
            case rest =>
              obtain ⟨A26, c26, rfl, HR26, HB26⟩ := hcut
              have HG26 := Lib.hid (HG25.out.on HB26.out)
              have HU26 := Lib.hid (HU25.out.below HB26.out)
              have HN26 := Lib.hid (HN25.out.below HB26.out)
              have HP26 := Lib.hid (HP25.out.below HB26.out)
              have HA26 := Lib.hid (kept_at HB26.out HA25.out)
              have HE26 := Lib.hid (kept_at HB26.out HE25.out)
              have HF26 := Lib.hid (kept_at HB26.out HF25.out)
              clear HG25 HU25 HN25 HP25 HA25 HE25 HF25
              have HR25' := Lib.hid (HR25.out.on HB26.out)
              clear HR25
              go_upto_region 27 with fail
              go_cut [218] from 181 to 217 (fun v wx => v = .bool false ∧ Hid (Below wc.heap.size wc wx))
              case first =>
                have C21 := at21 HG26.out.both.doc HN.out.good (r : Nat) A25 (m' + 1) c25 (P' ++ [q + 1]) HR25'.out (by omega)
                have hz := atZ_ok hr (P' ++ [q + 1])
                have hok := HN26.out.1
                rw [List.reverse_cons, List.reverse_reverse] at hok
                rw [← hok] at hz
                clear hok
                generalize atZ N (r : Nat) (P' ++ [q + 1]) = z at hz C21
                have hq := HOK5.out.symm
                have hx27 := (HG26.out.path.cellz (j := m') (by omega)).1
                rw [gz_last P' q HML.out] at hx27
                have e0 := (cells5 HE26.out).1
                have e1 := (cells5 HE26.out).2.1
                have e2 := (cells5 HE26.out).2.2.1
                have e3 := (cells5 HE26.out).2.2.2.1
                have e4 := (cells5 HE26.out).2.2.2.2
                have f0 := (cells5 HF26.out).1
                have f1 := (cells5 HF26.out).2.1
                have f2 := (cells5 HF26.out).2.2.1
                have f3 := (cells5 HF26.out).2.2.2.1
                have f4 := (cells5 HF26.out).2.2.2.2
                have hcase : (ok4 = false ∧ ok5 = false) ∨ (ok4 = false ∧ ok5 = true) ∨ (ok4 = true ∧ ok5 = false) ∨ (ok4 = true ∧ ok5 = true) := by cases ok4 <;> cases ok5 <;> simp
                rcases hcase with ⟨h4, h5⟩ | ⟨h4, h5⟩ | ⟨h4, h5⟩ | ⟨h4, h5⟩
                · have h45 : ok4 = false ∧ ok5 = false := ⟨h4, h5⟩
                  obtain ⟨rfl, rfl⟩ := h45
                  clear e0 e1 e2 e3 e4
                  go_wp2_with (first
                    | (go_at_call 21; refine C21.mono ?_; rintro e w28 ⟨rfl, rfl⟩; clear C21))
                  go_meet
                  exact ⟨rfl, Lib.hid (Below.refl _ _)⟩
                · have h45 : ok4 = false ∧ ok5 = true := ⟨h4, h5⟩
                  obtain ⟨rfl, rfl⟩ := h45
                  clear e0 e1 e2 e3 e4
                  obtain ⟨rfl, hy⟩ := HP26.out.2 rfl
                  have C38p := Lib.hid (fun (W : World) (hW : Below wc.heap.size wc W) => stands38 (HG26.out.both.below hW) (by omega) hr (hy.below hW) (by rw [List.length_cons, List.length_reverse, HML.out]; omega) A26 (m' + 1) c26 (by rw [List.reverse_cons, List.reverse_reverse]; exact HR26.out.on hW))
                  clear hy
                  go_wp2_with (first
                    | (go_at_call 21; refine C21.mono ?_; rintro e w28 ⟨rfl, rfl⟩; clear C21)
                    | (go_at_call 38; refine (C38p.out _ (Below.refl _ _)).mono ?_; rintro e w29 ⟨rfl, b29⟩; have B29 := Lib.hid b29; clear C38p b29))
                  go_meet
                  exact ⟨rfl, Lib.hid (B29.out)⟩
                · have h45 : ok4 = true ∧ ok5 = false := ⟨h4, h5⟩
                  obtain ⟨rfl, rfl⟩ := h45
                  obtain ⟨rfl, hx⟩ := HN26.out.2 rfl
                  have C38n := stands38 HG26.out.both (by omega) hr hx (by rw [List.length_cons, List.length_reverse, HML.out]; omega) A25 (m' + 1) c25 (by rw [List.reverse_cons, List.reverse_reverse]; exact HR25'.out)
                  clear hx
                  go_wp2_with (first
                    | (go_at_call 21; refine C21.mono ?_; rintro e w28 ⟨rfl, rfl⟩; clear C21)
                    | (go_at_call 38; refine C38n.mono ?_; rintro e w28 ⟨rfl, b28⟩; have h28 := kept_at b28 HF26.out; have B28 := Lib.hid b28; clear C38n b28 f0 f1 f2 f3 f4; have f0 := (cells5 h28).1; have f1 := (cells5 h28).2.1; have f2 := (cells5 h28).2.2.1; have f3 := (cells5 h28).2.2.2.1; have f4 := (cells5 h28).2.2.2.2; clear h28))
                  go_meet
                  exact ⟨rfl, Lib.hid (B28.out)⟩
                · have h45 : ok4 = true ∧ ok5 = true := ⟨h4, h5⟩
                  obtain ⟨rfl, rfl⟩ := h45
                  obtain ⟨rfl, hx⟩ := HN26.out.2 rfl
                  have C38n := stands38 HG26.out.both (by omega) hr hx (by rw [List.length_cons, List.length_reverse, HML.out]; omega) A25 (m' + 1) c25 (by rw [List.reverse_cons, List.reverse_reverse]; exact HR25'.out)
                  clear hx
                  obtain ⟨rfl, hy⟩ := HP26.out.2 rfl
                  have C38p := Lib.hid (fun (W : World) (hW : Below wc.heap.size wc W) => stands38 (HG26.out.both.below hW) (by omega) hr (hy.below hW) (by rw [List.length_cons, List.length_reverse, HML.out]; omega) A26 (m' + 1) c26 (by rw [List.reverse_cons, List.reverse_reverse]; exact HR26.out.on hW))
                  clear hy
                  go_wp2_with (first
                    | (go_at_call 21; refine C21.mono ?_; rintro e w28 ⟨rfl, rfl⟩; clear C21)
                    | (go_at_call 38; refine C38n.mono ?_; rintro e w28 ⟨rfl, b28⟩; have h28 := kept_at b28 HF26.out; have B28 := Lib.hid b28; clear C38n b28 f0 f1 f2 f3 f4; have f0 := (cells5 h28).1; have f1 := (cells5 h28).2.1; have f2 := (cells5 h28).2.2.1; have f3 := (cells5 h28).2.2.2.1; have f4 := (cells5 h28).2.2.2.2; clear h28)
                    | (go_at_call 38; refine (C38p.out _ B28.out).mono ?_; rintro e w29 ⟨rfl, b29⟩; have B29 := Lib.hid (B28.out.trans (b29.mono B28.out.size)); clear C38p b29))
                  go_meet
                  exact ⟨rfl, Lib.hid (B29.out)⟩
              case rest =>
                obtain ⟨rfl, HB27⟩ := hcut
                have HG27 := Lib.hid (HG26.out.on HB27.out)
                have HU27 := Lib.hid (HU26.out.below HB27.out)
                have HA27 := Lib.hid (kept_at HB27.out HA26.out)
                have hs27 := (Array.getElem?_eq_some_iff.1 HA27.out).1
                clear HG26 HU26 HA26 HN26 HP26 HE26 HF26 HR26 HR25'
                go_upto_region 29 with fail
                refine wp_region_held_drew (S := fun W => Below wc.drew.heap.size wc.drew W) (by kernel_rfl) (Below.refl _ _) (fun hHeld => ?_)
                change wpAnyH _ _ _ _ _ 14 #[false, false, false, false, false, false, false, false, false, false, false, false, false, false] _ _
                have wz_g : Hid (GSt w wc.drew (.slice A1 N.length c1) N (some ⟨b2, o2, none⟩) (m' + 1) c2 (P' ++ [q])) := Lib.hid (HG27.out.on ⟨rfl, rfl, rfl, Nat.le_refl _, fun _ _ => rfl⟩)
                have wz_u : Hid (Chain (fun _ => True) wc.drew w.heap.size N r P'.reverse n3 f3 k3 u3) := Lib.hid (Chain.keep (w := wc) (w' := wc.drew) (X := fun _ => True) (X' := fun _ => True) (fun _ _ hx hg => ⟨hx, hg⟩) HU27.out)
                have wz_x : Hid (wc.drew.heap[w12.heap.size]? = some (.cells (cc (some ⟨w.heap.size, 0, none⟩) n3 f3 k3 u3) 59 (0, 0))) := Lib.hid HA27.out
                have wz_s : w12.heap.size < wc.drew.heap.size := hs27
                generalize wc.drew = wz at *
                refine wpAnyH_take (i := 0) (oi := _) (v := ?_) rfl (by kernel_rfl) (by kernel_rfl) (by kernel_rfl) (fun _ _ _ h => h) (Or.inl ⟨by rfl, ?_⟩) hHeld ?_
                rotate_left
                · intro w9 hSw; go_simp; (try with_reducible rfl)
                simp only [List.getElem_toArray, List.getElem_cons_zero, Act.put, List.setIfInBounds_toArray, List.set_cons_zero, List.set_cons_succ]
                refine wpAnyH_take (i := 1) (oi := _) (v := ?_) rfl (by kernel_rfl) (by kernel_rfl) (by kernel_rfl) (fun _ _ _ h => h) (Or.inl ⟨by rfl, ?_⟩) hHeld ?_
                rotate_left
                · intro w9 hSw; go_simp; (try with_reducible rfl)
                simp only [List.getElem_toArray, List.getElem_cons_zero, List.getElem_cons_succ, Act.put, List.setIfInBounds_toArray, List.set_cons_zero, List.set_cons_succ]
                refine wpAnyH_take (i := 3) (oi := _) (v := ?_) rfl (by kernel_rfl) (by kernel_rfl) (by kernel_rfl) (fun _ _ _ h => h) (Or.inl ⟨by rfl, ?_⟩) hHeld ?_
                rotate_left
                · intro w9 hSw; go_simp; (try with_reducible rfl)
                simp only [List.getElem_toArray, List.getElem_cons_zero, List.getElem_cons_succ, Act.put, List.setIfInBounds_toArray, List.set_cons_zero, List.set_cons_succ]
                refine wpAnyH_take (i := 4) (oi := _) (v := ?_) rfl (by kernel_rfl) (by kernel_rfl) (by kernel_rfl) (fun _ _ _ h => h) (Or.inl ⟨by rfl, ?_⟩) hHeld ?_
                rotate_left
                · intro w9 hSw; go_simp; (try with_reducible rfl)
                simp only [List.getElem_toArray, List.getElem_cons_zero, List.getElem_cons_succ, Act.put, List.setIfInBounds_toArray, List.set_cons_zero, List.set_cons_succ]
                refine wpAnyH_take (i := 5) (oi := _) (v := ?_) rfl (by kernel_rfl) (by kernel_rfl) (by kernel_rfl) (fun _ _ _ h => h) (Or.inl ⟨by rfl, ?_⟩) hHeld ?_
                rotate_left
                · intro w9 hSw; go_simp; (try with_reducible rfl)
                simp only [List.getElem_toArray, List.getElem_cons_zero, List.getElem_cons_succ, Act.put, List.setIfInBounds_toArray, List.set_cons_zero, List.set_cons_succ]
                refine wpAnyH_take (i := 6) (oi := _) (v := ?_) rfl (by kernel_rfl) (by kernel_rfl) (by kernel_rfl) (fun _ _ _ h => h) (Or.inl ⟨by rfl, ?_⟩) hHeld ?_
                rotate_left
                · intro w9 hSw; go_simp; (try with_reducible rfl)
                simp only [List.getElem_toArray, List.getElem_cons_zero, List.getElem_cons_succ, Act.put, List.setIfInBounds_toArray, List.set_cons_zero, List.set_cons_succ]
                refine wpAnyH_take (i := 7) (oi := _) (v := ?_) rfl (by kernel_rfl) (by kernel_rfl) (by kernel_rfl) (fun _ _ _ h => h) (Or.inl ⟨by rfl, ?_⟩) hHeld ?_
                rotate_left
                · intro w9 hSw; go_simp; (try with_reducible rfl)
                simp only [List.getElem_toArray, List.getElem_cons_zero, List.getElem_cons_succ, Act.put, List.setIfInBounds_toArray, List.set_cons_zero, List.set_cons_succ]
                refine wpAnyH_take (i := 2) (oi := _) (v := ?_) rfl (by kernel_rfl) (by kernel_rfl) (by kernel_rfl) (fun _ _ _ h => h) (Or.inl ⟨by rfl, ?_⟩) hHeld ?_
                rotate_left
                · intro w9 hSw; have s0 := (hSw.block w12.heap.size wz_s).trans wz_x.out; have s1 := (cells5 s0).1; have s2 := (cells5 s0).2.1; have s3 := (cells5 s0).2.2.1; have s4 := (cells5 s0).2.2.2.1; have s5 := (cells5 s0).2.2.2.2; clear s0; go_simp; (try with_reducible rfl)
                simp only [List.getElem_toArray, List.getElem_cons_zero, List.getElem_cons_succ, Act.put, List.setIfInBounds_toArray, List.set_cons_zero, List.set_cons_succ]
                refine wpAnyH_ready (rs := [8]) (by kernel_rfl) (by simp) ?_
                refine AllReadyH.cons (o := _) rfl (fun K hK => ?_) AllReadyH.nil
                go_simp
                refine (stands38 wz_g.out.both (by omega) hr wz_u.out (by rw [List.length_reverse, HML.out]; omega) (some ⟨b2, o2, none⟩) m' c2 (by rw [List.reverse_reverse]; exact wz_g.out.path.front)).mono ?_
                rintro e wy ⟨rfl, hb_wy⟩
                refine hK.out _ _ hb_wy (fun _ => ?_)
                clear hK
                refine wpAnyH_mono (S' := fun W => Below wy.heap.size wy W) (fun W h => Below.trans hb_wy (h.mono hb_wy.size)) _ _ _ _ ?_
                have hHeld1 : (fun W => Below wy.heap.size wy W) wy := Below.refl _ _
                have wy_g := Lib.hid (wz_g.out.on hb_wy)
                refine wpAnyH_take (i := 9) (oi := _) (v := ?_) rfl (by kernel_rfl) (by kernel_rfl) (by kernel_rfl) (fun _ _ _ h => h) (Or.inl ⟨by rfl, ?_⟩) hHeld1 ?_
                rotate_left
                · intro w9 hSw; go_simp; (try with_reducible rfl)
                simp only [List.getElem_toArray, List.getElem_cons_zero, List.getElem_cons_succ, Act.put, List.setIfInBounds_toArray, List.set_cons_zero, List.set_cons_succ]
                refine wpAnyH_take (i := 10) (oi := _) (v := ?_) rfl (by kernel_rfl) (by kernel_rfl) (by kernel_rfl) (fun _ _ _ h => h) (Or.inl ⟨by rfl, ?_⟩) hHeld1 ?_
                rotate_left
                · intro w9 hSw; go_simp; (try with_reducible rfl)
                simp only [List.getElem_toArray, List.getElem_cons_zero, List.getElem_cons_succ, Act.put, List.setIfInBounds_toArray, List.set_cons_zero, List.set_cons_succ]
                refine wpAnyH_ready (rs := [11]) (by kernel_rfl) (by simp) ?_
                refine AllReadyH.cons (o := _) rfl (fun K hK => ?_) AllReadyH.nil
                go_simp
                refine (awake33 _).mono ?_
                rintro e wx ⟨rfl, hb_wx⟩
                refine hK.out _ _ hb_wx (fun _ => ?_)
                clear hK
                refine wpAnyH_mono (S' := fun W => Below wx.heap.size wx W) (fun W h => Below.trans hb_wx (h.mono hb_wx.size)) _ _ _ _ ?_
                have hHeld2 : (fun W => Below wx.heap.size wx W) wx := Below.refl _ _
                have wx_g := Lib.hid (wy_g.out.on hb_wx)
                refine wpAnyH_take (i := 12) (oi := _) (v := ?_) rfl (by kernel_rfl) (by kernel_rfl) (by kernel_rfl) (fun _ _ _ h => h) (Or.inl ⟨by rfl, ?_⟩) hHeld2 ?_
                rotate_left
                · intro w9 hSw; go_simp; (try with_reducible rfl)
                simp only [List.getElem_toArray, List.getElem_cons_zero, List.getElem_cons_succ, Act.put, List.setIfInBounds_toArray, List.set_cons_zero, List.set_cons_succ]
                refine wpAnyH_take (i := 13) (oi := _) (v := ?_) rfl (by kernel_rfl) (by kernel_rfl) (by kernel_rfl) (fun _ _ _ h => h) (Or.inl ⟨by rfl, ?_⟩) hHeld2 ?_
                rotate_left
                · intro w9 hSw; go_simp; (try with_reducible rfl)
                simp only [List.getElem_toArray, List.getElem_cons_zero, List.getElem_cons_succ, Act.put, List.setIfInBounds_toArray, List.set_cons_zero, List.set_cons_succ]
                refine wpAnyH_done (by kernel_rfl) ?_ _
                go_wp2_with fail
                go_ret
                exact ⟨rfl, wx_g.out.bel⟩
  · have C32' : Calls Try.prog 32 #[.pointer (some ⟨w.heap.size, 0, none⟩), .int .i64 root] w1 fun e w' => e = .returned (.tuple #[.agg (cc none 0 0 0 none), .int .i64 6]) ∧ Below w1.heap.size w1 w' := C32.mono fun e w' ⟨hx, hb⟩ => ⟨by rw [if_neg hroot] at hx; exact hx, hb⟩
    rw [show decide (0 ≤ root ∧ root < (N.length : Nat)) = false from decide_eq_false hroot] at C24
    clear C32 hroot
    go_wp2_with (first
      | (go_at_call 32; refine C32'.mono ?_; rintro e w4 ⟨rfl, b4⟩; have hR := heap_alloc_new w4 (.cells (cc none 0 0 0 none) 59); have B4 := Lib.hid (HG1.out.on b4).bel; clear C32' b4)
      | (refine wpList_putc rfl _ _ rfl w4.heap.size none 0 0 0 none rfl rfl hR ?_; intro w5 hR5 hg5; have b5 := below_put hg5; have B5 := Lib.hid (B4.out.trans (b5.mono B4.out.size)); have h5 := hR5; have d0 := (cells5 h5).1; have d1 := (cells5 h5).2.1; have d2 := (cells5 h5).2.2.1; have d3 := (cells5 h5).2.2.2.1; have d4 := (cells5 h5).2.2.2.2; have H5 := Lib.hid h5; clear hR b5 hR5 hg5 h5)
      | (go_at_call 24; refine (C24 _).mono ?_; rintro e w6 ⟨rfl, rfl⟩; clear C24)
      | (go_at_call 35; refine (node35 none 0 0 0 none _).mono ?_; rintro e w6 ⟨rfl, b6⟩; have B6 := Lib.hid (B5.out.trans (b6.mono B5.out.size)); have h6 := kept_at b6 H5.out; have H6 := Lib.hid h6; clear d0 d1 d2 d3 d4; have d0 := (cells5 h6).1; have d1 := (cells5 h6).2.1; have d2 := (cells5 h6).2.2.1; have d3 := (cells5 h6).2.2.2.1; have d4 := (cells5 h6).2.2.2.2; clear b6 h6)
      | (go_at_call 36; refine (kind36 none 0 0 0 none _ 0 (fun W _ => kind23_nil 0 W)).mono ?_; rintro e w7 ⟨rfl, b7⟩; have B7 := Lib.hid (B6.out.trans (b7.mono B6.out.size)); have h7 := kept_at b7 H6.out; have H7 := Lib.hid h7; clear d0 d1 d2 d3 d4; have d0 := (cells5 h7).1; have d1 := (cells5 h7).2.1; have d2 := (cells5 h7).2.2.1; have d3 := (cells5 h7).2.2.2.1; have d4 := (cells5 h7).2.2.2.2; clear b7 h7)
      | (go_at_call 37; refine (path37 (X := fun _ => True) (ga := 0) (N := []) (root := 0) (Q := []) (a := none) (n := 0) (f := 0) (k := 0) (u := none) ⟨rfl, rfl, rfl, rfl⟩ (by simp)).mono ?_; rintro e w8 ⟨A8, c8, rfl, -, b8⟩; have B8 := Lib.hid (B7.out.trans (b8.mono B7.out.size)); clear b8 d0 d1 d2 d3 d4)
      | (go_at_call 33; refine (awake33 _).mono ?_; rintro e w9 ⟨rfl, b9⟩; have B9 := Lib.hid (B8.out.trans (b9.mono B8.out.size)); clear b9))
    go_ret
    exact ⟨rfl, B9.out⟩
end Go.Proofs.Ytbmbiffhgdkpiaa
