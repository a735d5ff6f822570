/- The tables of the evaluator: the functions that alive() runs, the types that they name (printed by gen_v3.py). No condition. -/
import Derived.Test.YtibakihcicfeoaaGreatZa
import Derived.Test.YtibakihcicfeoaaGreatProg
namespace Go.Proofs.YtibakihcicfeoaaGreat.Ev
noncomputable def fnL0 : List (Nat × Func) := [(5, Tryz.f5), (6, Tryz.f6), (7, Tryz.f7), (8, Tryz.f8), (10, Tryz.f10), (11, Tryz.f11), (12, Tryz.f12), (13, Tryz.f13), (14, Tryz.f14), (15, Tryz.f15), (16, Tryz.f16), (17, Tryz.f17), (18, Tryz.f18), (19, Tryz.f19), (20, Tryz.f20), (21, Tryz.f21), (22, Tryz.f22), (23, Tryz.f23), (24, Tryz.f24), (25, Tryz.f25), (26, Tryz.f26), (27, Tryz.f27), (28, Tryz.f28), (29, Tryz.f29), (30, Tryz.f30)]
noncomputable def fnL1 : List (Nat × Func) := [(31, Tryz.f31), (32, Tryz.f32), (33, Tryz.f33), (35, Tryz.f35), (36, Tryz.f36), (37, Tryz.f37), (38, Tryz.f38), (39, Tryz.f39), (40, Tryz.f40), (41, Tryz.f41), (42, Tryz.f42), (43, Tryz.f43), (44, Tryz.f44), (45, Tryz.f45), (46, Tryz.f46), (47, Tryz.f47), (48, Tryz.f48), (49, Tryz.f49), (50, Tryz.f50), (51, Tryz.f51), (53, Tryz.f53), (55, Tryz.f55), (56, Tryz.f56), (57, Tryz.f57), (58, Tryz.f58)]
noncomputable def fnL2 : List (Nat × Func) := [(59, Tryz.f59), (60, Tryz.f60), (61, Tryz.f61), (62, Tryz.f62), (63, Tryz.f63), (64, Tryz.f64), (65, Tryz.f65), (66, Tryz.f66), (67, Tryz.f67), (68, Tryz.f68), (69, Tryz.f69), (71, Tryz.f71), (72, Tryz.f72), (73, Tryz.f73), (74, Tryz.f74), (75, Tryz.f75), (76, Tryz.f76), (77, Tryz.f77), (79, Tryz.f79), (80, Tryz.f80), (81, Tryz.f81), (82, Tryz.f82), (83, Tryz.f83), (84, Tryz.f84), (85, Tryz.f85)]
noncomputable def fnL3 : List (Nat × Func) := [(87, Tryz.f87), (88, Tryz.f88), (89, Tryz.f89), (90, Tryz.f90), (91, Tryz.f91), (92, Tryz.f92), (93, Tryz.f93), (96, Tryz.f96), (97, Tryz.f97), (98, Tryz.f98), (99, Tryz.f99), (101, Tryz.f101), (103, Tryz.f103), (104, Tryz.f104), (105, Tryz.f105), (106, Tryz.f106), (107, Tryz.f107), (108, Tryz.f108), (109, Tryz.f109), (110, Tryz.f110), (111, Tryz.f111), (112, Tryz.f112), (113, Tryz.f113), (114, Tryz.f114), (115, Tryz.f115)]
noncomputable def fnL4 : List (Nat × Func) := [(123, Tryz.f123), (125, Tryz.f125), (126, Tryz.f126), (127, Tryz.f127), (128, Tryz.f128), (129, Tryz.f129), (132, Tryz.f132), (133, Tryz.f133), (134, Tryz.f134), (135, Tryz.f135), (136, Tryz.f136), (138, Tryz.f138), (141, Tryz.f141), (142, Tryz.f142), (143, Tryz.f143), (144, Tryz.f144), (145, Tryz.f145), (146, Tryz.f146), (147, Tryz.f147), (148, Tryz.f148), (149, Tryz.f149), (152, Tryz.f152), (155, Tryz.f155), (156, Tryz.f156), (157, Tryz.f157)]
noncomputable def fnL5 : List (Nat × Func) := [(161, Tryz.f161), (162, Tryz.f162), (163, Tryz.f163), (169, Tryz.f169), (170, Tryz.f170), (171, Tryz.f171), (185, Tryz.f185), (186, Tryz.f186), (187, Tryz.f187), (188, Tryz.f188), (189, Tryz.f189), (190, Tryz.f190), (192, Tryz.f192), (193, Tryz.f193), (194, Tryz.f194), (195, Tryz.f195), (196, Tryz.f196), (197, Tryz.f197), (202, Tryz.f202), (203, Tryz.f203), (204, Tryz.f204), (205, Tryz.f205), (206, Tryz.f206), (208, Tryz.f208), (209, Tryz.f209)]
noncomputable def fnL6 : List (Nat × Func) := [(211, Tryz.f211), (212, Tryz.f212), (213, Tryz.f213), (216, Tryz.f216), (217, Tryz.f217), (218, Tryz.f218), (226, Tryz.f226), (227, Tryz.f227), (228, Tryz.f228), (229, Tryz.f229), (243, Tryz.f243), (244, Tryz.f244), (245, Tryz.f245), (246, Tryz.f246), (247, Tryz.f247), (248, Tryz.f248), (249, Tryz.f249), (250, Tryz.f250), (253, Tryz.f253), (254, Tryz.f254), (255, Tryz.f255), (259, Tryz.f259), (266, Tryz.f266), (267, Tryz.f267), (268, Tryz.f268)]
noncomputable def fnL7 : List (Nat × Func) := [(269, Tryz.f269), (279, Tryz.f279), (280, Tryz.f280), (281, Tryz.f281), (282, Tryz.f282), (283, Tryz.f283), (284, Tryz.f284), (285, Tryz.f285), (286, Tryz.f286), (297, Tryz.f297), (298, Tryz.f298), (299, Tryz.f299), (300, Tryz.f300), (301, Tryz.f301), (302, Tryz.f302), (314, Tryz.f314), (315, Tryz.f315), (316, Tryz.f316), (333, Tryz.f333), (334, Tryz.f334), (335, Tryz.f335), (337, Tryz.f337), (352, Tryz.f352), (359, Tryz.f359), (361, Tryz.f361)]
noncomputable def fnL8 : List (Nat × Func) := [(375, Tryz.f375), (378, Tryz.f378)]
noncomputable def fnL : List (Nat × Func) := fnL0 ++ (fnL1 ++ (fnL2 ++ (fnL3 ++ (fnL4 ++ (fnL5 ++ (fnL6 ++ (fnL7 ++ (fnL8))))))))
def tyL : List (Nat × TI) := [
  (3, ⟨.int .i64, 1, 8, [.int 3 0]⟩),
  (4, ⟨.bool, 1, 1, [.bool false]⟩),
  (5, ⟨.int .u8, 1, 1, [.int 4 0]⟩),
  (9, ⟨.str, 1, 16, [.str []]⟩),
  (20, ⟨.iface, 1, 16, [.nili]⟩),
  (21, ⟨.int .i32, 1, 4, [.int 2 0]⟩),
  (22, ⟨.slice 5, 1, 24, [.nils]⟩),
  (24, ⟨.slice 21, 1, 24, [.nils]⟩),
  (25, ⟨.slice 3, 1, 24, [.nils]⟩),
  (27, ⟨.strct [(3, 0), (3, 1), (24, 2), (25, 3)], 4, 64, [.int 3 0, .int 3 0, .nils, .nils]⟩),
  (28, ⟨.ptr, 1, 8, [.nilp]⟩),
  (29, ⟨.slice 191, 1, 24, [.nils]⟩),
  (31, ⟨.strct [(27, 0), (28, 4), (3, 5), (29, 6)], 7, 104, [.int 3 0, .int 3 0, .nils, .nils, .nilp, .int 3 0, .nils]⟩),
  (37, ⟨.ptr, 1, 8, [.nilp]⟩),
  (40, ⟨.ptr, 1, 8, [.nilp]⟩),
  (42, ⟨.strct [(24, 0), (25, 1)], 2, 48, [.nils, .nils]⟩),
  (43, ⟨.slice 42, 1, 24, [.nils]⟩),
  (45, ⟨.strct [(22, 0), (37, 1), (43, 2)], 3, 56, [.nils, .nilp, .nils]⟩),
  (51, ⟨.slice 54, 1, 24, [.nils]⟩),
  (52, ⟨.ptr, 1, 8, [.nilp]⟩),
  (54, ⟨.strct [(28, 0), (3, 1), (3, 2), (3, 3), (52, 4)], 5, 40, [.nilp, .int 3 0, .int 3 0, .int 3 0, .nilp]⟩),
  (58, ⟨.strct [(3, 0), (3, 1)], 2, 16, [.int 3 0, .int 3 0]⟩),
  (62, ⟨.strct [(3, 0), (3, 1), (3, 2), (4, 3), (22, 4), (25, 5)], 6, 80, [.int 3 0, .int 3 0, .int 3 0, .bool false, .nils, .nils]⟩),
  (67, ⟨.strct [(3, 0), (3, 1), (3, 2), (3, 3), (3, 4), (4, 5), (4, 6)], 7, 48, [.int 3 0, .int 3 0, .int 3 0, .int 3 0, .int 3 0, .bool false, .bool false]⟩),
  (69, ⟨.slice 163, 1, 24, [.nils]⟩),
  (70, ⟨.int .i64, 1, 8, [.int 3 0]⟩),
  (75, ⟨.slice 78, 1, 24, [.nils]⟩),
  (78, ⟨.strct [(21, 0), (3, 1), (3, 2)], 3, 24, [.int 2 0, .int 3 0, .int 3 0]⟩),
  (79, ⟨.slice 62, 1, 24, [.nils]⟩),
  (81, ⟨.strct [(79, 0)], 1, 24, [.nils]⟩),
  (84, ⟨.slice 87, 1, 24, [.nils]⟩),
  (87, ⟨.strct [(3, 0), (3, 1), (3, 2), (4, 3)], 4, 32, [.int 3 0, .int 3 0, .int 3 0, .bool false]⟩),
  (97, ⟨.strct [(9, 0), (9, 1), (9, 2)], 3, 48, [.str [], .str [], .str []]⟩),
  (98, ⟨.slice 334, 1, 24, [.nils]⟩),
  (99, ⟨.slice 177, 1, 24, [.nils]⟩),
  (100, ⟨.slice 102, 1, 24, [.nils]⟩),
  (102, ⟨.strct [(3, 0), (97, 1), (98, 4), (99, 5), (9, 6), (9, 7), (100, 8)], 9, 160, [.int 3 0, .str [], .str [], .str [], .nils, .nils, .str [], .str [], .nils]⟩),
  (104, ⟨.strct [(3, 0), (3, 1), (102, 2), (3, 11), (4, 12)], 13, 192, [.int 3 0, .int 3 0, .int 3 0, .str [], .str [], .str [], .nils, .nils, .str [], .str [], .nils, .int 3 0, .bool false]⟩),
  (106, ⟨.ptr, 1, 8, [.nilp]⟩),
  (109, ⟨.strct [(67, 0), (31, 7), (24, 14)], 15, 176, [.int 3 0, .int 3 0, .int 3 0, .int 3 0, .int 3 0, .bool false, .bool false, .int 3 0, .int 3 0, .nils, .nils, .nilp, .int 3 0, .nils, .nils]⟩),
  (116, ⟨.func, 1, 8, [.nilf]⟩),
  (118, ⟨.strct [(9, 0), (3, 1), (3, 2)], 3, 32, [.str [], .int 3 0, .int 3 0]⟩),
  (119, ⟨.arr 5 118, 15, 160, [.str [], .int 3 0, .int 3 0, .str [], .int 3 0, .int 3 0, .str [], .int 3 0, .int 3 0, .str [], .int 3 0, .int 3 0, .str [], .int 3 0, .int 3 0]⟩),
  (127, ⟨.strct [(3, 0), (3, 1), (3, 2)], 3, 24, [.int 3 0, .int 3 0, .int 3 0]⟩),
  (128, ⟨.slice 199, 1, 24, [.nils]⟩),
  (130, ⟨.strct [(127, 0), (128, 3), (4, 4), (4, 5)], 6, 56, [.int 3 0, .int 3 0, .int 3 0, .nils, .bool false, .bool false]⟩),
  (136, ⟨.strct [(3, 0), (3, 1)], 2, 16, [.int 3 0, .int 3 0]⟩),
  (138, ⟨.ptr, 1, 8, [.nilp]⟩),
  (139, ⟨.ptr, 1, 8, [.nilp]⟩),
  (141, ⟨.ptr, 1, 8, [.nilp]⟩),
  (143, ⟨.strct [(22, 0), (31, 1), (3, 8), (141, 9), (139, 10), (4, 11), (4, 12), (4, 13), (102, 14)], 23, 320, [.nils, .int 3 0, .int 3 0, .nils, .nils, .nilp, .int 3 0, .nils, .int 3 0, .nilp, .nilp, .bool false, .bool false, .bool false, .int 3 0, .str [], .str [], .str [], .nils, .nils, .str [], .str [], .nils]⟩),
  (145, ⟨.slice 9, 1, 24, [.nils]⟩),
  (153, ⟨.slice 22, 1, 24, [.nils]⟩),
  (163, ⟨.strct [(58, 0), (22, 2)], 3, 40, [.int 3 0, .int 3 0, .nils]⟩),
  (166, ⟨.func, 1, 8, [.nilf]⟩),
  (167, ⟨.slice 170, 1, 24, [.nils]⟩),
  (170, ⟨.strct [(58, 0), (9, 2), (4, 3)], 4, 40, [.int 3 0, .int 3 0, .str [], .bool false]⟩),
  (177, ⟨.strct [(97, 0), (9, 3), (4, 4)], 5, 72, [.str [], .str [], .str [], .str [], .bool false]⟩),
  (179, ⟨.func, 1, 8, [.nilf]⟩),
  (186, ⟨.int .u64, 1, 8, [.int 7 0]⟩),
  (189, ⟨.func, 1, 8, [.nilf]⟩),
  (191, ⟨.strct [(58, 0), (3, 2)], 3, 24, [.int 3 0, .int 3 0, .int 3 0]⟩),
  (192, ⟨.ptr, 1, 8, [.nilp]⟩),
  (193, ⟨.slice 127, 1, 24, [.nils]⟩),
  (196, ⟨.strct [(193, 0), (3, 1)], 2, 32, [.nils, .int 3 0]⟩),
  (199, ⟨.strct [(127, 0), (127, 3), (127, 6)], 9, 72, [.int 3 0, .int 3 0, .int 3 0, .int 3 0, .int 3 0, .int 3 0, .int 3 0, .int 3 0, .int 3 0]⟩),
  (205, ⟨.strct [(141, 0), (145, 1), (3, 2), (3, 3)], 4, 48, [.nilp, .nils, .int 3 0, .int 3 0]⟩),
  (215, ⟨.strct [(3, 0), (3, 1), (3, 2)], 3, 24, [.int 3 0, .int 3 0, .int 3 0]⟩),
  (217, ⟨.strct [(215, 0), (215, 3), (215, 6), (215, 9), (4, 12)], 13, 104, [.int 3 0, .int 3 0, .int 3 0, .int 3 0, .int 3 0, .int 3 0, .int 3 0, .int 3 0, .int 3 0, .int 3 0, .int 3 0, .int 3 0, .bool false]⟩),
  (220, ⟨.strct [(3, 0), (3, 1)], 2, 16, [.int 3 0, .int 3 0]⟩),
  (225, ⟨.slice 227, 1, 24, [.nils]⟩),
  (227, ⟨.strct [(9, 0), (9, 1), (145, 2), (3, 3), (24, 4)], 5, 88, [.str [], .str [], .nils, .int 3 0, .nils]⟩),
  (232, ⟨.slice 24, 1, 24, [.nils]⟩),
  (233, ⟨.arr 3 9, 3, 48, [.str [], .str [], .str []]⟩),
  (239, ⟨.func, 1, 8, [.nilf]⟩),
  (240, ⟨.func, 1, 8, [.nilf]⟩),
  (247, ⟨.func, 1, 8, [.nilf]⟩),
  (251, ⟨.func, 1, 8, [.nilf]⟩),
  (264, ⟨.strct [(31, 0), (3, 7), (4, 8)], 9, 120, [.int 3 0, .int 3 0, .nils, .nils, .nilp, .int 3 0, .nils, .int 3 0, .bool false]⟩),
  (265, ⟨.ptr, 1, 8, [.nilp]⟩),
  (269, ⟨.ptr, 1, 8, [.nilp]⟩),
  (271, ⟨.strct [(269, 0), (22, 1)], 2, 32, [.nilp, .nils]⟩),
  (319, ⟨.strct [(21, 0), (21, 1)], 2, 8, [.int 2 0, .int 2 0]⟩),
  (320, ⟨.slice 319, 1, 24, [.nils]⟩),
  (334, ⟨.strct [(9, 0), (9, 1)], 2, 32, [.str [], .str []]⟩),
  (336, ⟨.strct [(265, 0), (98, 1)], 2, 32, [.nilp, .nils]⟩),
  (361, ⟨.slice 364, 1, 24, [.nils]⟩),
  (364, ⟨.strct [(9, 0), (24, 1), (4, 2)], 3, 48, [.str [], .nils, .bool false]⟩),
  (403, ⟨.int .u32, 1, 4, [.int 6 0]⟩),
  (406, ⟨.int .u64, 1, 8, [.int 7 0]⟩),
  (429, ⟨.func, 1, 8, [.nilf]⟩),
  (439, ⟨.slice 442, 1, 24, [.nils]⟩),
  (442, ⟨.strct [(3, 0), (3, 1), (3, 2), (21, 3), (9, 4)], 5, 48, [.int 3 0, .int 3 0, .int 3 0, .int 2 0, .str []]⟩)]
def ofL {α : Type} : List (Nat × α) → Tr α → Tr α
  | [], t => t
  | (n, x) :: l, t => ofL l (Tr.put 14 t n x)
def natL : List AV → Option (List Nat)
  | [] => some []
  | .int 2 (.ofNat b) :: r => (match natL r with
    | some l => bif Nat.blt b 128 then some (b :: l) else none
    | none => none)
  | _ => none
def isSlV : AV → Bool
  | .sl _ _ _ _ => true
  | .nils => true
  | _ => false
/-- The runes of a slice, all below 128. -/
def runesOfV (h : Hp) : AV → Option (List Nat)
  | .sl 1 i o n => (match rdAt h i o n with
    | some cs => natL cs
    | none => none)
  | .nils => some []
  | _ => none
def dropN : Nat → List Nat → List Nat
  | 0, l => l
  | _ + 1, [] => []
  | n + 1, _ :: l => dropN n l
def takeN : Nat → List Nat → List Nat
  | 0, _ => []
  | _ + 1, [] => []
  | n + 1, x :: l => x :: takeN n l
def orcStr : List AV → Hp → Option (AV × Hp)
  | [.agg [.int 3 _, .int 3 _, r, x], .int 3 (.ofNat fr), .int 3 (.ofNat te)], h => (match runesOfV h r with
    | some l => bif isSlV x && (Nat.ble fr te && (Nat.ble te l.length && Nat.ble l.length 4096)) then some (.str (takeN (te - fr) (dropN fr l)), h) else none
    | none => none)
  | _, _ => none
def nsN (m : Nat) : Bool := (Nat.ble 97 m && Nat.ble m 122) || ((Nat.ble 65 m && Nat.ble m 90) || (Nat.beq m 58 || Nat.beq m 95))
def ncN (m : Nat) : Bool := nsN m || ((Nat.ble 48 m && Nat.ble m 57) || (Nat.beq m 45 || Nat.beq m 46))
def runN : List Nat → Nat
  | [] => 0
  | x :: l => bif ncN x then Nat.succ (runN l) else 0
def leadN : List Nat → Nat
  | [] => 0
  | x :: l => bif nsN x then runN (x :: l) else 0
def orcLead : List AV → Hp → Option (AV × Hp)
  | [r, .int 3 (.ofNat f)], h => (match runesOfV h r with
    | some l => bif Nat.ble l.length 4096 && Nat.ble f 4096 then some (.int 3 (.ofNat (leadN (dropN f l))), h) else none
    | none => none)
  | _, _ => none
def idxB (b : Nat) : List Nat → Nat → Option Nat
  | [], _ => none
  | x :: l, k => bif Nat.beq x b then some k else idxB b l (k + 1)
def orcIdx : List AV → Hp → Option (AV × Hp)
  | [.str s, .int 4 (.ofNat b)], h => bif Nat.blt b 256 then (match idxB b s 0 with
    | some k => some (.int 3 (.ofNat k), h)
    | none => some (.int 3 (.negSucc 0), h)) else none
  | _, _ => none
def orcG (g : Nat) : Option (List AV → Hp → Option (AV × Hp)) := bif Nat.beq g 116 then some orcStr else bif Nat.beq g 289 then some orcIdx else bif Nat.beq g 156 then some orcLead else none
noncomputable def Gx : Cx := { fns := ofL fnL .nil, tys := ofL tyL .nil, orc := orcG }
def dfrG (g : Nat) : Bool := Nat.beq g 62
def h0 : Hp := .mk .nil 0
def okB : RA → Bool
  | .ok (.bool b) _ => b
  | _ => false
def isOk : RA → Bool
  | .ok _ _ => true
  | .no => false
end Go.Proofs.YtibakihcicfeoaaGreat.Ev
