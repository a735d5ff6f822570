/- The functions that alive() runs: each row of the table, checked (printed by gen_v26.py). No condition. -/
import Derived.Test.YtibakihcicfeoaaGreatZg
import Derived.Test.YtibakihcicfeoaaGreatProg
namespace Go.Proofs.YtibakihcicfeoaaGreat.Ev
theorem rows_cons {P : Program} {G : Cx} {p : Nat × Func} {l : List (Nat × Func)} (h : RowOk P G p) (t : ∀ q ∈ l, RowOk P G q) : ∀ q ∈ p :: l, RowOk P G q := List.forall_mem_cons.2 ⟨h, t⟩
theorem rows_nil {P : Program} {G : Cx} : ∀ q ∈ ([] : List (Nat × Func)), RowOk P G q := fun _ h => by cases h
theorem row5 : RowOk Tryz.prog Gx (5, Tryz.f5) := ⟨Tryz.func5, by kernel_rfl, by decide +kernel, rfl⟩
theorem row6 : RowOk Tryz.prog Gx (6, Tryz.f6) := ⟨Tryz.func6, by kernel_rfl, by decide +kernel, rfl⟩
theorem row7 : RowOk Tryz.prog Gx (7, Tryz.f7) := ⟨Tryz.func7, by kernel_rfl, by decide +kernel, rfl⟩
theorem row8 : RowOk Tryz.prog Gx (8, Tryz.f8) := ⟨Tryz.func8, by kernel_rfl, by decide +kernel, rfl⟩
theorem row10 : RowOk Tryz.prog Gx (10, Tryz.f10) := ⟨Tryz.func10, by kernel_rfl, by decide +kernel, rfl⟩
theorem row11 : RowOk Tryz.prog Gx (11, Tryz.f11) := ⟨Tryz.func11, by kernel_rfl, by decide +kernel, rfl⟩
theorem row12 : RowOk Tryz.prog Gx (12, Tryz.f12) := ⟨Tryz.func12, by kernel_rfl, by decide +kernel, rfl⟩
theorem row13 : RowOk Tryz.prog Gx (13, Tryz.f13) := ⟨Tryz.func13, by kernel_rfl, by decide +kernel, rfl⟩
theorem row14 : RowOk Tryz.prog Gx (14, Tryz.f14) := ⟨Tryz.func14, by kernel_rfl, by decide +kernel, rfl⟩
theorem row15 : RowOk Tryz.prog Gx (15, Tryz.f15) := ⟨Tryz.func15, by kernel_rfl, by decide +kernel, rfl⟩
theorem row16 : RowOk Tryz.prog Gx (16, Tryz.f16) := ⟨Tryz.func16, by kernel_rfl, by decide +kernel, rfl⟩
theorem row17 : RowOk Tryz.prog Gx (17, Tryz.f17) := ⟨Tryz.func17, by kernel_rfl, by decide +kernel, rfl⟩
theorem row18 : RowOk Tryz.prog Gx (18, Tryz.f18) := ⟨Tryz.func18, by kernel_rfl, by decide +kernel, rfl⟩
theorem row19 : RowOk Tryz.prog Gx (19, Tryz.f19) := ⟨Tryz.func19, by kernel_rfl, by decide +kernel, rfl⟩
theorem row20 : RowOk Tryz.prog Gx (20, Tryz.f20) := ⟨Tryz.func20, by kernel_rfl, by decide +kernel, rfl⟩
theorem row21 : RowOk Tryz.prog Gx (21, Tryz.f21) := ⟨Tryz.func21, by kernel_rfl, by decide +kernel, rfl⟩
theorem row22 : RowOk Tryz.prog Gx (22, Tryz.f22) := ⟨Tryz.func22, by kernel_rfl, by decide +kernel, rfl⟩
theorem row23 : RowOk Tryz.prog Gx (23, Tryz.f23) := ⟨Tryz.func23, by kernel_rfl, by decide +kernel, rfl⟩
theorem row24 : RowOk Tryz.prog Gx (24, Tryz.f24) := ⟨Tryz.func24, by kernel_rfl, by decide +kernel, rfl⟩
theorem row25 : RowOk Tryz.prog Gx (25, Tryz.f25) := ⟨Tryz.func25, by kernel_rfl, by decide +kernel, rfl⟩
theorem row26 : RowOk Tryz.prog Gx (26, Tryz.f26) := ⟨Tryz.func26, by kernel_rfl, by decide +kernel, rfl⟩
theorem row27 : RowOk Tryz.prog Gx (27, Tryz.f27) := ⟨Tryz.func27, by kernel_rfl, by decide +kernel, rfl⟩
theorem row28 : RowOk Tryz.prog Gx (28, Tryz.f28) := ⟨Tryz.func28, by kernel_rfl, by decide +kernel, rfl⟩
theorem row29 : RowOk Tryz.prog Gx (29, Tryz.f29) := ⟨Tryz.func29, by kernel_rfl, by decide +kernel, rfl⟩
theorem row30 : RowOk Tryz.prog Gx (30, Tryz.f30) := ⟨Tryz.func30, by kernel_rfl, by decide +kernel, rfl⟩
theorem row31 : RowOk Tryz.prog Gx (31, Tryz.f31) := ⟨Tryz.func31, by kernel_rfl, by decide +kernel, rfl⟩
theorem row32 : RowOk Tryz.prog Gx (32, Tryz.f32) := ⟨Tryz.func32, by kernel_rfl, by decide +kernel, rfl⟩
theorem row33 : RowOk Tryz.prog Gx (33, Tryz.f33) := ⟨Tryz.func33, by kernel_rfl, by decide +kernel, rfl⟩
theorem row35 : RowOk Tryz.prog Gx (35, Tryz.f35) := ⟨Tryz.func35, by kernel_rfl, by decide +kernel, rfl⟩
theorem row36 : RowOk Tryz.prog Gx (36, Tryz.f36) := ⟨Tryz.func36, by kernel_rfl, by decide +kernel, rfl⟩
theorem row37 : RowOk Tryz.prog Gx (37, Tryz.f37) := ⟨Tryz.func37, by kernel_rfl, by decide +kernel, rfl⟩
theorem row38 : RowOk Tryz.prog Gx (38, Tryz.f38) := ⟨Tryz.func38, by kernel_rfl, by decide +kernel, rfl⟩
theorem row39 : RowOk Tryz.prog Gx (39, Tryz.f39) := ⟨Tryz.func39, by kernel_rfl, by decide +kernel, rfl⟩
theorem row40 : RowOk Tryz.prog Gx (40, Tryz.f40) := ⟨Tryz.func40, by kernel_rfl, by decide +kernel, rfl⟩
theorem row41 : RowOk Tryz.prog Gx (41, Tryz.f41) := ⟨Tryz.func41, by kernel_rfl, by decide +kernel, rfl⟩
theorem row42 : RowOk Tryz.prog Gx (42, Tryz.f42) := ⟨Tryz.func42, by kernel_rfl, by decide +kernel, rfl⟩
theorem row43 : RowOk Tryz.prog Gx (43, Tryz.f43) := ⟨Tryz.func43, by kernel_rfl, by decide +kernel, rfl⟩
theorem row44 : RowOk Tryz.prog Gx (44, Tryz.f44) := ⟨Tryz.func44, by kernel_rfl, by decide +kernel, rfl⟩
theorem row45 : RowOk Tryz.prog Gx (45, Tryz.f45) := ⟨Tryz.func45, by kernel_rfl, by decide +kernel, rfl⟩
theorem row46 : RowOk Tryz.prog Gx (46, Tryz.f46) := ⟨Tryz.func46, by kernel_rfl, by decide +kernel, rfl⟩
theorem row47 : RowOk Tryz.prog Gx (47, Tryz.f47) := ⟨Tryz.func47, by kernel_rfl, by decide +kernel, rfl⟩
theorem row48 : RowOk Tryz.prog Gx (48, Tryz.f48) := ⟨Tryz.func48, by kernel_rfl, by decide +kernel, rfl⟩
theorem row49 : RowOk Tryz.prog Gx (49, Tryz.f49) := ⟨Tryz.func49, by kernel_rfl, by decide +kernel, rfl⟩
theorem row50 : RowOk Tryz.prog Gx (50, Tryz.f50) := ⟨Tryz.func50, by kernel_rfl, by decide +kernel, rfl⟩
theorem row51 : RowOk Tryz.prog Gx (51, Tryz.f51) := ⟨Tryz.func51, by kernel_rfl, by decide +kernel, rfl⟩
theorem row53 : RowOk Tryz.prog Gx (53, Tryz.f53) := ⟨Tryz.func53, by kernel_rfl, by decide +kernel, rfl⟩
theorem row55 : RowOk Tryz.prog Gx (55, Tryz.f55) := ⟨Tryz.func55, by kernel_rfl, by decide +kernel, rfl⟩
theorem row56 : RowOk Tryz.prog Gx (56, Tryz.f56) := ⟨Tryz.func56, by kernel_rfl, by decide +kernel, rfl⟩
theorem row57 : RowOk Tryz.prog Gx (57, Tryz.f57) := ⟨Tryz.func57, by kernel_rfl, by decide +kernel, rfl⟩
theorem row58 : RowOk Tryz.prog Gx (58, Tryz.f58) := ⟨Tryz.func58, by kernel_rfl, by decide +kernel, rfl⟩
theorem row59 : RowOk Tryz.prog Gx (59, Tryz.f59) := ⟨Tryz.func59, by kernel_rfl, by decide +kernel, rfl⟩
theorem row60 : RowOk Tryz.prog Gx (60, Tryz.f60) := ⟨Tryz.func60, by kernel_rfl, by decide +kernel, rfl⟩
theorem row61 : RowOk Tryz.prog Gx (61, Tryz.f61) := ⟨Tryz.func61, by kernel_rfl, by decide +kernel, rfl⟩
theorem row62 : RowOk Tryz.prog Gx (62, Tryz.f62) := ⟨Tryz.func62, by kernel_rfl, by decide +kernel, rfl⟩
theorem row63 : RowOk Tryz.prog Gx (63, Tryz.f63) := ⟨Tryz.func63, by kernel_rfl, by decide +kernel, rfl⟩
theorem row64 : RowOk Tryz.prog Gx (64, Tryz.f64) := ⟨Tryz.func64, by kernel_rfl, by decide +kernel, rfl⟩
theorem row65 : RowOk Tryz.prog Gx (65, Tryz.f65) := ⟨Tryz.func65, by kernel_rfl, by decide +kernel, rfl⟩
theorem row66 : RowOk Tryz.prog Gx (66, Tryz.f66) := ⟨Tryz.func66, by kernel_rfl, by decide +kernel, rfl⟩
theorem row67 : RowOk Tryz.prog Gx (67, Tryz.f67) := ⟨Tryz.func67, by kernel_rfl, by decide +kernel, rfl⟩
theorem row68 : RowOk Tryz.prog Gx (68, Tryz.f68) := ⟨Tryz.func68, by kernel_rfl, by decide +kernel, rfl⟩
theorem row69 : RowOk Tryz.prog Gx (69, Tryz.f69) := ⟨Tryz.func69, by kernel_rfl, by decide +kernel, rfl⟩
theorem row71 : RowOk Tryz.prog Gx (71, Tryz.f71) := ⟨Tryz.func71, by kernel_rfl, by decide +kernel, rfl⟩
theorem row72 : RowOk Tryz.prog Gx (72, Tryz.f72) := ⟨Tryz.func72, by kernel_rfl, by decide +kernel, rfl⟩
theorem row73 : RowOk Tryz.prog Gx (73, Tryz.f73) := ⟨Tryz.func73, by kernel_rfl, by decide +kernel, rfl⟩
theorem row74 : RowOk Tryz.prog Gx (74, Tryz.f74) := ⟨Tryz.func74, by kernel_rfl, by decide +kernel, rfl⟩
theorem row75 : RowOk Tryz.prog Gx (75, Tryz.f75) := ⟨Tryz.func75, by kernel_rfl, by decide +kernel, rfl⟩
theorem row76 : RowOk Tryz.prog Gx (76, Tryz.f76) := ⟨Tryz.func76, by kernel_rfl, by decide +kernel, rfl⟩
theorem row77 : RowOk Tryz.prog Gx (77, Tryz.f77) := ⟨Tryz.func77, by kernel_rfl, by decide +kernel, rfl⟩
theorem row79 : RowOk Tryz.prog Gx (79, Tryz.f79) := ⟨Tryz.func79, by kernel_rfl, by decide +kernel, rfl⟩
theorem row80 : RowOk Tryz.prog Gx (80, Tryz.f80) := ⟨Tryz.func80, by kernel_rfl, by decide +kernel, rfl⟩
theorem row81 : RowOk Tryz.prog Gx (81, Tryz.f81) := ⟨Tryz.func81, by kernel_rfl, by decide +kernel, rfl⟩
theorem row82 : RowOk Tryz.prog Gx (82, Tryz.f82) := ⟨Tryz.func82, by kernel_rfl, by decide +kernel, rfl⟩
theorem row83 : RowOk Tryz.prog Gx (83, Tryz.f83) := ⟨Tryz.func83, by kernel_rfl, by decide +kernel, rfl⟩
theorem row84 : RowOk Tryz.prog Gx (84, Tryz.f84) := ⟨Tryz.func84, by kernel_rfl, by decide +kernel, rfl⟩
theorem row85 : RowOk Tryz.prog Gx (85, Tryz.f85) := ⟨Tryz.func85, by kernel_rfl, by decide +kernel, rfl⟩
theorem row87 : RowOk Tryz.prog Gx (87, Tryz.f87) := ⟨Tryz.func87, by kernel_rfl, by decide +kernel, rfl⟩
theorem row88 : RowOk Tryz.prog Gx (88, Tryz.f88) := ⟨Tryz.func88, by kernel_rfl, by decide +kernel, rfl⟩
theorem row89 : RowOk Tryz.prog Gx (89, Tryz.f89) := ⟨Tryz.func89, by kernel_rfl, by decide +kernel, rfl⟩
theorem row90 : RowOk Tryz.prog Gx (90, Tryz.f90) := ⟨Tryz.func90, by kernel_rfl, by decide +kernel, rfl⟩
theorem row91 : RowOk Tryz.prog Gx (91, Tryz.f91) := ⟨Tryz.func91, by kernel_rfl, by decide +kernel, rfl⟩
theorem row92 : RowOk Tryz.prog Gx (92, Tryz.f92) := ⟨Tryz.func92, by kernel_rfl, by decide +kernel, rfl⟩
theorem row93 : RowOk Tryz.prog Gx (93, Tryz.f93) := ⟨Tryz.func93, by kernel_rfl, by decide +kernel, rfl⟩
theorem row96 : RowOk Tryz.prog Gx (96, Tryz.f96) := ⟨Tryz.func96, by kernel_rfl, by decide +kernel, rfl⟩
theorem row97 : RowOk Tryz.prog Gx (97, Tryz.f97) := ⟨Tryz.func97, by kernel_rfl, by decide +kernel, rfl⟩
theorem row98 : RowOk Tryz.prog Gx (98, Tryz.f98) := ⟨Tryz.func98, by kernel_rfl, by decide +kernel, rfl⟩
theorem row99 : RowOk Tryz.prog Gx (99, Tryz.f99) := ⟨Tryz.func99, by kernel_rfl, by decide +kernel, rfl⟩
theorem row101 : RowOk Tryz.prog Gx (101, Tryz.f101) := ⟨Tryz.func101, by kernel_rfl, by decide +kernel, rfl⟩
theorem row103 : RowOk Tryz.prog Gx (103, Tryz.f103) := ⟨Tryz.func103, by kernel_rfl, by decide +kernel, rfl⟩
theorem row104 : RowOk Tryz.prog Gx (104, Tryz.f104) := ⟨Tryz.func104, by kernel_rfl, by decide +kernel, rfl⟩
theorem row105 : RowOk Tryz.prog Gx (105, Tryz.f105) := ⟨Tryz.func105, by kernel_rfl, by decide +kernel, rfl⟩
theorem row106 : RowOk Tryz.prog Gx (106, Tryz.f106) := ⟨Tryz.func106, by kernel_rfl, by decide +kernel, rfl⟩
theorem row107 : RowOk Tryz.prog Gx (107, Tryz.f107) := ⟨Tryz.func107, by kernel_rfl, by decide +kernel, rfl⟩
theorem row108 : RowOk Tryz.prog Gx (108, Tryz.f108) := ⟨Tryz.func108, by kernel_rfl, by decide +kernel, rfl⟩
theorem row109 : RowOk Tryz.prog Gx (109, Tryz.f109) := ⟨Tryz.func109, by kernel_rfl, by decide +kernel, rfl⟩
theorem row110 : RowOk Tryz.prog Gx (110, Tryz.f110) := ⟨Tryz.func110, by kernel_rfl, by decide +kernel, rfl⟩
theorem row111 : RowOk Tryz.prog Gx (111, Tryz.f111) := ⟨Tryz.func111, by kernel_rfl, by decide +kernel, rfl⟩
theorem row112 : RowOk Tryz.prog Gx (112, Tryz.f112) := ⟨Tryz.func112, by kernel_rfl, by decide +kernel, rfl⟩
theorem row113 : RowOk Tryz.prog Gx (113, Tryz.f113) := ⟨Tryz.func113, by kernel_rfl, by decide +kernel, rfl⟩
theorem row114 : RowOk Tryz.prog Gx (114, Tryz.f114) := ⟨Tryz.func114, by kernel_rfl, by decide +kernel, rfl⟩
theorem row115 : RowOk Tryz.prog Gx (115, Tryz.f115) := ⟨Tryz.func115, by kernel_rfl, by decide +kernel, rfl⟩
theorem row123 : RowOk Tryz.prog Gx (123, Tryz.f123) := ⟨Tryz.func123, by kernel_rfl, by decide +kernel, rfl⟩
theorem row125 : RowOk Tryz.prog Gx (125, Tryz.f125) := ⟨Tryz.func125, by kernel_rfl, by decide +kernel, rfl⟩
theorem row126 : RowOk Tryz.prog Gx (126, Tryz.f126) := ⟨Tryz.func126, by kernel_rfl, by decide +kernel, rfl⟩
theorem row127 : RowOk Tryz.prog Gx (127, Tryz.f127) := ⟨Tryz.func127, by kernel_rfl, by decide +kernel, rfl⟩
theorem row128 : RowOk Tryz.prog Gx (128, Tryz.f128) := ⟨Tryz.func128, by kernel_rfl, by decide +kernel, rfl⟩
theorem row129 : RowOk Tryz.prog Gx (129, Tryz.f129) := ⟨Tryz.func129, by kernel_rfl, by decide +kernel, rfl⟩
theorem row132 : RowOk Tryz.prog Gx (132, Tryz.f132) := ⟨Tryz.func132, by kernel_rfl, by decide +kernel, rfl⟩
theorem row133 : RowOk Tryz.prog Gx (133, Tryz.f133) := ⟨Tryz.func133, by kernel_rfl, by decide +kernel, rfl⟩
theorem row134 : RowOk Tryz.prog Gx (134, Tryz.f134) := ⟨Tryz.func134, by kernel_rfl, by decide +kernel, rfl⟩
theorem row135 : RowOk Tryz.prog Gx (135, Tryz.f135) := ⟨Tryz.func135, by kernel_rfl, by decide +kernel, rfl⟩
theorem row136 : RowOk Tryz.prog Gx (136, Tryz.f136) := ⟨Tryz.func136, by kernel_rfl, by decide +kernel, rfl⟩
theorem row138 : RowOk Tryz.prog Gx (138, Tryz.f138) := ⟨Tryz.func138, by kernel_rfl, by decide +kernel, rfl⟩
theorem row141 : RowOk Tryz.prog Gx (141, Tryz.f141) := ⟨Tryz.func141, by kernel_rfl, by decide +kernel, rfl⟩
theorem row142 : RowOk Tryz.prog Gx (142, Tryz.f142) := ⟨Tryz.func142, by kernel_rfl, by decide +kernel, rfl⟩
theorem row143 : RowOk Tryz.prog Gx (143, Tryz.f143) := ⟨Tryz.func143, by kernel_rfl, by decide +kernel, rfl⟩
theorem row144 : RowOk Tryz.prog Gx (144, Tryz.f144) := ⟨Tryz.func144, by kernel_rfl, by decide +kernel, rfl⟩
theorem row145 : RowOk Tryz.prog Gx (145, Tryz.f145) := ⟨Tryz.func145, by kernel_rfl, by decide +kernel, rfl⟩
theorem row146 : RowOk Tryz.prog Gx (146, Tryz.f146) := ⟨Tryz.func146, by kernel_rfl, by decide +kernel, rfl⟩
theorem row147 : RowOk Tryz.prog Gx (147, Tryz.f147) := ⟨Tryz.func147, by kernel_rfl, by decide +kernel, rfl⟩
theorem row148 : RowOk Tryz.prog Gx (148, Tryz.f148) := ⟨Tryz.func148, by kernel_rfl, by decide +kernel, rfl⟩
theorem row149 : RowOk Tryz.prog Gx (149, Tryz.f149) := ⟨Tryz.func149, by kernel_rfl, by decide +kernel, rfl⟩
theorem row152 : RowOk Tryz.prog Gx (152, Tryz.f152) := ⟨Tryz.func152, by kernel_rfl, by decide +kernel, rfl⟩
theorem row155 : RowOk Tryz.prog Gx (155, Tryz.f155) := ⟨Tryz.func155, by kernel_rfl, by decide +kernel, rfl⟩
theorem row156 : RowOk Tryz.prog Gx (156, Tryz.f156) := ⟨Tryz.func156, by kernel_rfl, by decide +kernel, rfl⟩
theorem row157 : RowOk Tryz.prog Gx (157, Tryz.f157) := ⟨Tryz.func157, by kernel_rfl, by decide +kernel, rfl⟩
theorem row161 : RowOk Tryz.prog Gx (161, Tryz.f161) := ⟨Tryz.func161, by kernel_rfl, by decide +kernel, rfl⟩
theorem row162 : RowOk Tryz.prog Gx (162, Tryz.f162) := ⟨Tryz.func162, by kernel_rfl, by decide +kernel, rfl⟩
theorem row163 : RowOk Tryz.prog Gx (163, Tryz.f163) := ⟨Tryz.func163, by kernel_rfl, by decide +kernel, rfl⟩
theorem row169 : RowOk Tryz.prog Gx (169, Tryz.f169) := ⟨Tryz.func169, by kernel_rfl, by decide +kernel, rfl⟩
theorem row170 : RowOk Tryz.prog Gx (170, Tryz.f170) := ⟨Tryz.func170, by kernel_rfl, by decide +kernel, rfl⟩
theorem row171 : RowOk Tryz.prog Gx (171, Tryz.f171) := ⟨Tryz.func171, by kernel_rfl, by decide +kernel, rfl⟩
theorem row185 : RowOk Tryz.prog Gx (185, Tryz.f185) := ⟨Tryz.func185, by kernel_rfl, by decide +kernel, rfl⟩
theorem row186 : RowOk Tryz.prog Gx (186, Tryz.f186) := ⟨Tryz.func186, by kernel_rfl, by decide +kernel, rfl⟩
theorem row187 : RowOk Tryz.prog Gx (187, Tryz.f187) := ⟨Tryz.func187, by kernel_rfl, by decide +kernel, rfl⟩
theorem row188 : RowOk Tryz.prog Gx (188, Tryz.f188) := ⟨Tryz.func188, by kernel_rfl, by decide +kernel, rfl⟩
theorem row189 : RowOk Tryz.prog Gx (189, Tryz.f189) := ⟨Tryz.func189, by kernel_rfl, by decide +kernel, rfl⟩
theorem row190 : RowOk Tryz.prog Gx (190, Tryz.f190) := ⟨Tryz.func190, by kernel_rfl, by decide +kernel, rfl⟩
theorem row192 : RowOk Tryz.prog Gx (192, Tryz.f192) := ⟨Tryz.func192, by kernel_rfl, by decide +kernel, rfl⟩
theorem row193 : RowOk Tryz.prog Gx (193, Tryz.f193) := ⟨Tryz.func193, by kernel_rfl, by decide +kernel, rfl⟩
theorem row194 : RowOk Tryz.prog Gx (194, Tryz.f194) := ⟨Tryz.func194, by kernel_rfl, by decide +kernel, rfl⟩
theorem row195 : RowOk Tryz.prog Gx (195, Tryz.f195) := ⟨Tryz.func195, by kernel_rfl, by decide +kernel, rfl⟩
theorem row196 : RowOk Tryz.prog Gx (196, Tryz.f196) := ⟨Tryz.func196, by kernel_rfl, by decide +kernel, rfl⟩
theorem row197 : RowOk Tryz.prog Gx (197, Tryz.f197) := ⟨Tryz.func197, by kernel_rfl, by decide +kernel, rfl⟩
theorem row202 : RowOk Tryz.prog Gx (202, Tryz.f202) := ⟨Tryz.func202, by kernel_rfl, by decide +kernel, rfl⟩
theorem row203 : RowOk Tryz.prog Gx (203, Tryz.f203) := ⟨Tryz.func203, by kernel_rfl, by decide +kernel, rfl⟩
theorem row204 : RowOk Tryz.prog Gx (204, Tryz.f204) := ⟨Tryz.func204, by kernel_rfl, by decide +kernel, rfl⟩
theorem row205 : RowOk Tryz.prog Gx (205, Tryz.f205) := ⟨Tryz.func205, by kernel_rfl, by decide +kernel, rfl⟩
theorem row206 : RowOk Tryz.prog Gx (206, Tryz.f206) := ⟨Tryz.func206, by kernel_rfl, by decide +kernel, rfl⟩
theorem row208 : RowOk Tryz.prog Gx (208, Tryz.f208) := ⟨Tryz.func208, by kernel_rfl, by decide +kernel, rfl⟩
theorem row209 : RowOk Tryz.prog Gx (209, Tryz.f209) := ⟨Tryz.func209, by kernel_rfl, by decide +kernel, rfl⟩
theorem row211 : RowOk Tryz.prog Gx (211, Tryz.f211) := ⟨Tryz.func211, by kernel_rfl, by decide +kernel, rfl⟩
theorem row212 : RowOk Tryz.prog Gx (212, Tryz.f212) := ⟨Tryz.func212, by kernel_rfl, by decide +kernel, rfl⟩
theorem row213 : RowOk Tryz.prog Gx (213, Tryz.f213) := ⟨Tryz.func213, by kernel_rfl, by decide +kernel, rfl⟩
theorem row216 : RowOk Tryz.prog Gx (216, Tryz.f216) := ⟨Tryz.func216, by kernel_rfl, by decide +kernel, rfl⟩
theorem row217 : RowOk Tryz.prog Gx (217, Tryz.f217) := ⟨Tryz.func217, by kernel_rfl, by decide +kernel, rfl⟩
theorem row218 : RowOk Tryz.prog Gx (218, Tryz.f218) := ⟨Tryz.func218, by kernel_rfl, by decide +kernel, rfl⟩
theorem row226 : RowOk Tryz.prog Gx (226, Tryz.f226) := ⟨Tryz.func226, by kernel_rfl, by decide +kernel, rfl⟩
theorem row227 : RowOk Tryz.prog Gx (227, Tryz.f227) := ⟨Tryz.func227, by kernel_rfl, by decide +kernel, rfl⟩
theorem row228 : RowOk Tryz.prog Gx (228, Tryz.f228) := ⟨Tryz.func228, by kernel_rfl, by decide +kernel, rfl⟩
theorem row229 : RowOk Tryz.prog Gx (229, Tryz.f229) := ⟨Tryz.func229, by kernel_rfl, by decide +kernel, rfl⟩
theorem row243 : RowOk Tryz.prog Gx (243, Tryz.f243) := ⟨Tryz.func243, by kernel_rfl, by decide +kernel, rfl⟩
theorem row244 : RowOk Tryz.prog Gx (244, Tryz.f244) := ⟨Tryz.func244, by kernel_rfl, by decide +kernel, rfl⟩
theorem row245 : RowOk Tryz.prog Gx (245, Tryz.f245) := ⟨Tryz.func245, by kernel_rfl, by decide +kernel, rfl⟩
theorem row246 : RowOk Tryz.prog Gx (246, Tryz.f246) := ⟨Tryz.func246, by kernel_rfl, by decide +kernel, rfl⟩
theorem row247 : RowOk Tryz.prog Gx (247, Tryz.f247) := ⟨Tryz.func247, by kernel_rfl, by decide +kernel, rfl⟩
theorem row248 : RowOk Tryz.prog Gx (248, Tryz.f248) := ⟨Tryz.func248, by kernel_rfl, by decide +kernel, rfl⟩
theorem row249 : RowOk Tryz.prog Gx (249, Tryz.f249) := ⟨Tryz.func249, by kernel_rfl, by decide +kernel, rfl⟩
theorem row250 : RowOk Tryz.prog Gx (250, Tryz.f250) := ⟨Tryz.func250, by kernel_rfl, by decide +kernel, rfl⟩
theorem row253 : RowOk Tryz.prog Gx (253, Tryz.f253) := ⟨Tryz.func253, by kernel_rfl, by decide +kernel, rfl⟩
theorem row254 : RowOk Tryz.prog Gx (254, Tryz.f254) := ⟨Tryz.func254, by kernel_rfl, by decide +kernel, rfl⟩
theorem row255 : RowOk Tryz.prog Gx (255, Tryz.f255) := ⟨Tryz.func255, by kernel_rfl, by decide +kernel, rfl⟩
theorem row259 : RowOk Tryz.prog Gx (259, Tryz.f259) := ⟨Tryz.func259, by kernel_rfl, by decide +kernel, rfl⟩
theorem row266 : RowOk Tryz.prog Gx (266, Tryz.f266) := ⟨Tryz.func266, by kernel_rfl, by decide +kernel, rfl⟩
theorem row267 : RowOk Tryz.prog Gx (267, Tryz.f267) := ⟨Tryz.func267, by kernel_rfl, by decide +kernel, rfl⟩
theorem row268 : RowOk Tryz.prog Gx (268, Tryz.f268) := ⟨Tryz.func268, by kernel_rfl, by decide +kernel, rfl⟩
theorem row269 : RowOk Tryz.prog Gx (269, Tryz.f269) := ⟨Tryz.func269, by kernel_rfl, by decide +kernel, rfl⟩
theorem row279 : RowOk Tryz.prog Gx (279, Tryz.f279) := ⟨Tryz.func279, by kernel_rfl, by decide +kernel, rfl⟩
theorem row280 : RowOk Tryz.prog Gx (280, Tryz.f280) := ⟨Tryz.func280, by kernel_rfl, by decide +kernel, rfl⟩
theorem row281 : RowOk Tryz.prog Gx (281, Tryz.f281) := ⟨Tryz.func281, by kernel_rfl, by decide +kernel, rfl⟩
theorem row282 : RowOk Tryz.prog Gx (282, Tryz.f282) := ⟨Tryz.func282, by kernel_rfl, by decide +kernel, rfl⟩
theorem row283 : RowOk Tryz.prog Gx (283, Tryz.f283) := ⟨Tryz.func283, by kernel_rfl, by decide +kernel, rfl⟩
theorem row284 : RowOk Tryz.prog Gx (284, Tryz.f284) := ⟨Tryz.func284, by kernel_rfl, by decide +kernel, rfl⟩
theorem row285 : RowOk Tryz.prog Gx (285, Tryz.f285) := ⟨Tryz.func285, by kernel_rfl, by decide +kernel, rfl⟩
theorem row286 : RowOk Tryz.prog Gx (286, Tryz.f286) := ⟨Tryz.func286, by kernel_rfl, by decide +kernel, rfl⟩
theorem row297 : RowOk Tryz.prog Gx (297, Tryz.f297) := ⟨Tryz.func297, by kernel_rfl, by decide +kernel, rfl⟩
theorem row298 : RowOk Tryz.prog Gx (298, Tryz.f298) := ⟨Tryz.func298, by kernel_rfl, by decide +kernel, rfl⟩
theorem row299 : RowOk Tryz.prog Gx (299, Tryz.f299) := ⟨Tryz.func299, by kernel_rfl, by decide +kernel, rfl⟩
theorem row300 : RowOk Tryz.prog Gx (300, Tryz.f300) := ⟨Tryz.func300, by kernel_rfl, by decide +kernel, rfl⟩
theorem row301 : RowOk Tryz.prog Gx (301, Tryz.f301) := ⟨Tryz.func301, by kernel_rfl, by decide +kernel, rfl⟩
theorem row302 : RowOk Tryz.prog Gx (302, Tryz.f302) := ⟨Tryz.func302, by kernel_rfl, by decide +kernel, rfl⟩
theorem row314 : RowOk Tryz.prog Gx (314, Tryz.f314) := ⟨Tryz.func314, by kernel_rfl, by decide +kernel, rfl⟩
theorem row315 : RowOk Tryz.prog Gx (315, Tryz.f315) := ⟨Tryz.func315, by kernel_rfl, by decide +kernel, rfl⟩
theorem row316 : RowOk Tryz.prog Gx (316, Tryz.f316) := ⟨Tryz.func316, by kernel_rfl, by decide +kernel, rfl⟩
theorem row333 : RowOk Tryz.prog Gx (333, Tryz.f333) := ⟨Tryz.func333, by kernel_rfl, by decide +kernel, rfl⟩
theorem row334 : RowOk Tryz.prog Gx (334, Tryz.f334) := ⟨Tryz.func334, by kernel_rfl, by decide +kernel, rfl⟩
theorem row335 : RowOk Tryz.prog Gx (335, Tryz.f335) := ⟨Tryz.func335, by kernel_rfl, by decide +kernel, rfl⟩
theorem row337 : RowOk Tryz.prog Gx (337, Tryz.f337) := ⟨Tryz.func337, by kernel_rfl, by decide +kernel, rfl⟩
theorem row352 : RowOk Tryz.prog Gx (352, Tryz.f352) := ⟨Tryz.func352, by kernel_rfl, by decide +kernel, rfl⟩
theorem row359 : RowOk Tryz.prog Gx (359, Tryz.f359) := ⟨Tryz.func359, by kernel_rfl, by decide +kernel, rfl⟩
theorem row361 : RowOk Tryz.prog Gx (361, Tryz.f361) := ⟨Tryz.func361, by kernel_rfl, by decide +kernel, rfl⟩
theorem row375 : RowOk Tryz.prog Gx (375, Tryz.f375) := ⟨Tryz.func375, by kernel_rfl, by decide +kernel, rfl⟩
theorem row378 : RowOk Tryz.prog Gx (378, Tryz.f378) := ⟨Tryz.func378, by kernel_rfl, by decide +kernel, rfl⟩
theorem rows_ok0 : ∀ p ∈ fnL0, RowOk Tryz.prog Gx p :=
  rows_cons row5 <|
  rows_cons row6 <|
  rows_cons row7 <|
  rows_cons row8 <|
  rows_cons row10 <|
  rows_cons row11 <|
  rows_cons row12 <|
  rows_cons row13 <|
  rows_cons row14 <|
  rows_cons row15 <|
  rows_cons row16 <|
  rows_cons row17 <|
  rows_cons row18 <|
  rows_cons row19 <|
  rows_cons row20 <|
  rows_cons row21 <|
  rows_cons row22 <|
  rows_cons row23 <|
  rows_cons row24 <|
  rows_cons row25 <|
  rows_cons row26 <|
  rows_cons row27 <|
  rows_cons row28 <|
  rows_cons row29 <|
  rows_cons row30 rows_nil
theorem rows_ok1 : ∀ p ∈ fnL1, RowOk Tryz.prog Gx p :=
  rows_cons row31 <|
  rows_cons row32 <|
  rows_cons row33 <|
  rows_cons row35 <|
  rows_cons row36 <|
  rows_cons row37 <|
  rows_cons row38 <|
  rows_cons row39 <|
  rows_cons row40 <|
  rows_cons row41 <|
  rows_cons row42 <|
  rows_cons row43 <|
  rows_cons row44 <|
  rows_cons row45 <|
  rows_cons row46 <|
  rows_cons row47 <|
  rows_cons row48 <|
  rows_cons row49 <|
  rows_cons row50 <|
  rows_cons row51 <|
  rows_cons row53 <|
  rows_cons row55 <|
  rows_cons row56 <|
  rows_cons row57 <|
  rows_cons row58 rows_nil
theorem rows_ok2 : ∀ p ∈ fnL2, RowOk Tryz.prog Gx p :=
  rows_cons row59 <|
  rows_cons row60 <|
  rows_cons row61 <|
  rows_cons row62 <|
  rows_cons row63 <|
  rows_cons row64 <|
  rows_cons row65 <|
  rows_cons row66 <|
  rows_cons row67 <|
  rows_cons row68 <|
  rows_cons row69 <|
  rows_cons row71 <|
  rows_cons row72 <|
  rows_cons row73 <|
  rows_cons row74 <|
  rows_cons row75 <|
  rows_cons row76 <|
  rows_cons row77 <|
  rows_cons row79 <|
  rows_cons row80 <|
  rows_cons row81 <|
  rows_cons row82 <|
  rows_cons row83 <|
  rows_cons row84 <|
  rows_cons row85 rows_nil
theorem rows_ok3 : ∀ p ∈ fnL3, RowOk Tryz.prog Gx p :=
  rows_cons row87 <|
  rows_cons row88 <|
  rows_cons row89 <|
  rows_cons row90 <|
  rows_cons row91 <|
  rows_cons row92 <|
  rows_cons row93 <|
  rows_cons row96 <|
  rows_cons row97 <|
  rows_cons row98 <|
  rows_cons row99 <|
  rows_cons row101 <|
  rows_cons row103 <|
  rows_cons row104 <|
  rows_cons row105 <|
  rows_cons row106 <|
  rows_cons row107 <|
  rows_cons row108 <|
  rows_cons row109 <|
  rows_cons row110 <|
  rows_cons row111 <|
  rows_cons row112 <|
  rows_cons row113 <|
  rows_cons row114 <|
  rows_cons row115 rows_nil
theorem rows_ok4 : ∀ p ∈ fnL4, RowOk Tryz.prog Gx p :=
  rows_cons row123 <|
  rows_cons row125 <|
  rows_cons row126 <|
  rows_cons row127 <|
  rows_cons row128 <|
  rows_cons row129 <|
  rows_cons row132 <|
  rows_cons row133 <|
  rows_cons row134 <|
  rows_cons row135 <|
  rows_cons row136 <|
  rows_cons row138 <|
  rows_cons row141 <|
  rows_cons row142 <|
  rows_cons row143 <|
  rows_cons row144 <|
  rows_cons row145 <|
  rows_cons row146 <|
  rows_cons row147 <|
  rows_cons row148 <|
  rows_cons row149 <|
  rows_cons row152 <|
  rows_cons row155 <|
  rows_cons row156 <|
  rows_cons row157 rows_nil
theorem rows_ok5 : ∀ p ∈ fnL5, RowOk Tryz.prog Gx p :=
  rows_cons row161 <|
  rows_cons row162 <|
  rows_cons row163 <|
  rows_cons row169 <|
  rows_cons row170 <|
  rows_cons row171 <|
  rows_cons row185 <|
  rows_cons row186 <|
  rows_cons row187 <|
  rows_cons row188 <|
  rows_cons row189 <|
  rows_cons row190 <|
  rows_cons row192 <|
  rows_cons row193 <|
  rows_cons row194 <|
  rows_cons row195 <|
  rows_cons row196 <|
  rows_cons row197 <|
  rows_cons row202 <|
  rows_cons row203 <|
  rows_cons row204 <|
  rows_cons row205 <|
  rows_cons row206 <|
  rows_cons row208 <|
  rows_cons row209 rows_nil
theorem rows_ok6 : ∀ p ∈ fnL6, RowOk Tryz.prog Gx p :=
  rows_cons row211 <|
  rows_cons row212 <|
  rows_cons row213 <|
  rows_cons row216 <|
  rows_cons row217 <|
  rows_cons row218 <|
  rows_cons row226 <|
  rows_cons row227 <|
  rows_cons row228 <|
  rows_cons row229 <|
  rows_cons row243 <|
  rows_cons row244 <|
  rows_cons row245 <|
  rows_cons row246 <|
  rows_cons row247 <|
  rows_cons row248 <|
  rows_cons row249 <|
  rows_cons row250 <|
  rows_cons row253 <|
  rows_cons row254 <|
  rows_cons row255 <|
  rows_cons row259 <|
  rows_cons row266 <|
  rows_cons row267 <|
  rows_cons row268 rows_nil
theorem rows_ok7 : ∀ p ∈ fnL7, RowOk Tryz.prog Gx p :=
  rows_cons row269 <|
  rows_cons row279 <|
  rows_cons row280 <|
  rows_cons row281 <|
  rows_cons row282 <|
  rows_cons row283 <|
  rows_cons row284 <|
  rows_cons row285 <|
  rows_cons row286 <|
  rows_cons row297 <|
  rows_cons row298 <|
  rows_cons row299 <|
  rows_cons row300 <|
  rows_cons row301 <|
  rows_cons row302 <|
  rows_cons row314 <|
  rows_cons row315 <|
  rows_cons row316 <|
  rows_cons row333 <|
  rows_cons row334 <|
  rows_cons row335 <|
  rows_cons row337 <|
  rows_cons row352 <|
  rows_cons row359 <|
  rows_cons row361 rows_nil
theorem rows_ok8 : ∀ p ∈ fnL8, RowOk Tryz.prog Gx p :=
  rows_cons row375 <|
  rows_cons row378 rows_nil
theorem rows_ok : ∀ p ∈ fnL, RowOk Tryz.prog Gx p :=
  List.forall_mem_append.2 ⟨rows_ok0, List.forall_mem_append.2 ⟨rows_ok1, List.forall_mem_append.2 ⟨rows_ok2, List.forall_mem_append.2 ⟨rows_ok3, List.forall_mem_append.2 ⟨rows_ok4, List.forall_mem_append.2 ⟨rows_ok5, List.forall_mem_append.2 ⟨rows_ok6, List.forall_mem_append.2 ⟨rows_ok7, rows_ok8⟩⟩⟩⟩⟩⟩⟩⟩
theorem fnsOk : FnsOk Tryz.prog Gx := fns_ok (by rw [Gx]) rows_ok
end Go.Proofs.YtibakihcicfeoaaGreat.Ev
/- The types that alive() names: each row of the table, checked. No condition. -/
namespace Go.Proofs.YtibakihcicfeoaaGreat.Ev

def kB (P : Program) (t : TypeId) : TK → Bool
  | .int K => match P.underlying t with
    | some (.int K') => decide (K = K')
    | _ => false
  | .bool => match P.underlying t with
    | some .bool => true
    | _ => false
  | .str => match P.underlying t with
    | some .string => true
    | _ => false
  | .ptr => match P.underlying t with
    | some (.pointer _) => true
    | _ => false
  | .slice e => match P.underlying t with
    | some (.slice e') => decide (e' = e)
    | _ => false
  | .arr n e => match P.underlying t with
    | some (.array n' e') => decide (n' = n) && decide (e' = e)
    | _ => false
  | .strct fs => match P.underlying t with
    | some (.struct Fs) => decide (Fs.toList.map (fun f => (f.type, f.offset)) = fs) && (Fs.toList.mapM (fun f => (P.info? f.type).map fun i => (f.offset, i.size))).isSome
    | _ => false
  | .func => match P.underlying t with
    | some (.func _ _ _) => true
    | _ => false
  | .iface => match P.underlying t with
    | some (.interface _) => true
    | _ => false
  | .other => false
theorem kB_to {P : Program} {t : TypeId} : ∀ {k : TK}, kB P t k = true → KOk P t k := by
  intro k
  cases k with
  | other => intro h; cases h
  | int K =>
    intro h
    simp only [kB] at h
    split at h
    · next K' hu => have := of_decide_eq_true h; subst this; exact hu
    · cases h
  | slice e =>
    intro h
    simp only [kB] at h
    split at h
    · next K' hu => have := of_decide_eq_true h; subst this; exact hu
    · cases h
  | arr n e =>
    intro h
    simp only [kB] at h
    split at h
    · next n' e' hu =>
      rw [Bool.and_eq_true] at h
      have h1 := of_decide_eq_true h.1
      have h2 := of_decide_eq_true h.2
      subst h1; subst h2; exact hu
    · cases h
  | strct fs =>
    intro h
    simp only [kB] at h
    split at h
    · next Fs hu =>
      rw [Bool.and_eq_true] at h
      exact ⟨Fs, hu, of_decide_eq_true h.1, Option.isSome_iff_exists.1 h.2⟩
    · cases h
  | ptr =>
    intro h
    simp only [kB] at h
    split at h
    · next e hu => exact ⟨e, hu⟩
    · cases h
  | func =>
    intro h
    simp only [kB] at h
    split at h
    · next a b c hu => exact ⟨a, b, c, hu⟩
    · cases h
  | iface =>
    intro h
    simp only [kB] at h
    split at h
    · next ms hu => exact ⟨ms, hu⟩
    · cases h
  | _ =>
    intro h
    simp only [kB] at h
    split at h
    · next hu => exact hu
    · cases h
def tyB (P : Program) (t : TypeId) (ti : TI) : Bool := match P.info? t with
  | some inf => Nat.beq inf.size ti.size && (Nat.beq inf.bytes ti.bytes && ((match inf.zero with
    | some z => (match mapO cv1 z.cells.toList with
      | some l => eqAVs l ti.zero
      | none => false)
    | none => false) && (Nat.beq ti.zero.length ti.size && (ti.zero.all one && kB P t ti.k))))
  | none => false
theorem tyB_to {P : Program} {t : TypeId} {ti : TI} (h : tyB P t ti = true) : ∃ inf z, TyOk P t ti inf z := by
  unfold tyB at h
  split at h
  · next inf hi =>
    simp only [Bool.and_eq_true] at h
    obtain ⟨h1, h2, h3, h4, h5, h6⟩ := h
    split at h3
    · next z hz =>
      split at h3
      · next l hl =>
        have he := eqAVs_to h3
        subst he
        obtain ⟨m1, m2⟩ := mapO_some hl
        exact ⟨inf, z, hi, beqT h1, beqT h2, hz, fun ρ => VRs.of m1.symm fun j c d hc hd => cv1_ok (m2 j d c hd hc), beqT h4, h5, kB_to h6⟩
      · cases h3
    · cases h3
  · cases h
theorem tys_ok {P : Program} {G : Cx} {l : List (Nat × TI)} (hG : G.tys = ofL l .nil) (h : l.all (fun p => Nat.blt p.1 16000 && tyB P p.1 p.2) = true) : TysOk P G.tys := by
  rw [List.all_eq_true] at h
  intro t ti ht
  rw [hG] at ht
  rcases ofL_get (fun p hp => by have := h p hp; rw [Bool.and_eq_true] at this; exact this.1) ht with hm | hm
  · have := h _ hm
    rw [Bool.and_eq_true] at this
    exact tyB_to this.2
  · cases t <;> cases hm
theorem tysOk : TysOk Tryz.prog Gx.tys := tys_ok (l := tyL) (by rw [Gx]) (by decide +kernel)
end Go.Proofs.YtibakihcicfeoaaGreat.Ev
