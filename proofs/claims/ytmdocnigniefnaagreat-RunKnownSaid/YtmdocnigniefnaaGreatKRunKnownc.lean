/- the program's code, spelled out by a program of ours (lift2.lean) -/
import Derived.Test.YtmdocnigniefnaaGreatKRunKnownb
namespace Go.Proofs.YtmdocnigniefnaaGreat.Lift
open Go Go.Proofs.YtmdocnigniefnaaGreat.Gh Go.Proofs
set_option linter.unusedVariables false
set_option maxRecDepth 100000
noncomputable def b284_0 (q : Bool) (e : Ex) (lp : Env → GS → Option (Exit × Env × GS)) (τ : Env) (G : GS) : Option (Exit × Env × GS) :=
  bV q (τ 0) fun a0_ =>
  bV q (τ 1) fun a1_ =>
  bP (pNil a0_) fun x0 =>
  bP (fa Q q 193 0 0 x0) fun x1 =>
  bP (fa Q q 190 2 17 x1) fun x2 =>
  bP (ld Q q 3 x2 G) fun x3 =>
  bP (bn Q q .eql 3 (.tmp 17) (.const (.int .i64 1)) x3 (.int .i64 1)) fun x4 =>
  ifV x4 (
  bP (pNil a0_) fun x5 =>
  bP (fa Q q 193 0 0 x5) fun x6 =>
  bS (e.ev.cl 287 [x6, a1_] G) fun x7 G8 =>
  some ((.exit 0), clq q 162 (tu τ [(0, a0_), (1, a1_), (13, a0_), (14, x0), (15, x1), (16, x2), (17, x3), (18, x4), (19, x4), (36, a0_), (37, x5), (38, x6), (39, a1_), (40, x7)]), G8)) (
  bP (bn Q q .eql 3 (.tmp 17) (.const (.int .i64 2)) x3 (.int .i64 2)) fun x9 =>
  ifV x9 (
  bP (pNil a0_) fun x10 =>
  bP (fa Q q 193 0 0 x10) fun x11 =>
  bS (e.ev.cl 287 [x11, a1_] G) fun x12 G13 =>
  some ((.exit 0), clq q 162 (tu τ [(0, a0_), (1, a1_), (13, a0_), (14, x0), (15, x1), (16, x2), (17, x3), (18, x4), (19, x4), (20, x9), (21, x9), (36, a0_), (37, x10), (38, x11), (39, a1_), (40, x12)]), G13)) (
  bP (bn Q q .eql 3 (.tmp 17) (.const (.int .i64 3)) x3 (.int .i64 3)) fun x14 =>
  ifV x14 (
  bP (pNil a0_) fun x15 =>
  bP (fa Q q 193 0 0 x15) fun x16 =>
  bS (e.ev.cl 287 [x16, a1_] G) fun x17 G18 =>
  some ((.exit 0), clq q 162 (tu τ [(0, a0_), (1, a1_), (13, a0_), (14, x0), (15, x1), (16, x2), (17, x3), (18, x4), (19, x4), (20, x9), (21, x9), (22, x14), (23, x14), (36, a0_), (37, x15), (38, x16), (39, a1_), (40, x17)]), G18)) (
  bP (bn Q q .eql 3 (.tmp 17) (.const (.int .i64 4)) x3 (.int .i64 4)) fun x19 =>
  ifV x19 (
  ifV x19 (
  bS (e.ev.cl 288 [a0_, a1_] G) fun x20 G21 =>
  some ((.exit 0), clq q 162 (tu τ [(0, a0_), (1, a1_), (13, a0_), (14, x0), (15, x1), (16, x2), (17, x3), (18, x4), (19, x4), (20, x9), (21, x9), (22, x14), (23, x14), (24, x19), (25, x19), (41, a0_), (42, a1_), (43, x20)]), G21)) (
  bP (bn Q q .eql 3 (.tmp 17) (.const (.int .i64 7)) x3 (.int .i64 7)) fun x22 =>
  ifV x22 (
  bP (pNil a0_) fun x23 =>
  bP (fa Q q 193 0 0 x23) fun x24 =>
  bS (e.ev.cl 289 [x24, a1_, (.int .i64 4)] G) fun x25 G26 =>
  bP (pNil a0_) fun x27 =>
  bP (fa Q q 193 0 0 x27) fun x28 =>
  bP (fa Q q 190 5 20 x28) fun x29 =>
  bP (st Q q 188 1 x29 x25 G26) fun G30 =>
  bP (pNil a0_) fun x31 =>
  bP (fa Q q 193 0 0 x31) fun x32 =>
  bP (fa Q q 190 2 17 x32) fun x33 =>
  bP (st Q q 3 1 x33 (.int .i64 8) G30) fun G34 =>
  bP (pNil a0_) fun x35 =>
  bP (fa Q q 193 0 0 x35) fun x36 =>
  bP (fa Q q 190 5 20 x36) fun x37 =>
  bP (ld Q q 188 x37 G34) fun x38 =>
  bS (e.ev.cl 290 [x38] G34) fun x39 G40 =>
  ifV x39 (
  bP (pNil a0_) fun x41 =>
  bP (fa Q q 193 0 0 x41) fun x42 =>
  bP (fa Q q 190 2 17 x42) fun x43 =>
  bP (st Q q 3 1 x43 (.int .i64 3) G40) fun G44 =>
  some ((.exit 0), clq q 162 (tu τ [(0, a0_), (1, a1_), (13, a0_), (14, x0), (15, x1), (16, x2), (17, x3), (18, x4), (19, x4), (20, x9), (21, x9), (22, x14), (23, x14), (24, x19), (25, x19), (28, x22), (29, x22), (44, a0_), (45, a0_), (46, x23), (47, x24), (48, a1_), (49, x25), (50, x27), (51, x28), (52, x29), (53, a0_), (54, x31), (55, x32), (56, x33), (57, a0_), (58, x35), (59, x36), (60, x37), (61, x38), (62, x39), (63, a0_), (64, x41), (65, x42), (66, x43)]), G44)) (
  some ((.exit 0), clq q 162 (tu τ [(0, a0_), (1, a1_), (13, a0_), (14, x0), (15, x1), (16, x2), (17, x3), (18, x4), (19, x4), (20, x9), (21, x9), (22, x14), (23, x14), (24, x19), (25, x19), (28, x22), (29, x22), (44, a0_), (45, a0_), (46, x23), (47, x24), (48, a1_), (49, x25), (50, x27), (51, x28), (52, x29), (53, a0_), (54, x31), (55, x32), (56, x33), (57, a0_), (58, x35), (59, x36), (60, x37), (61, x38), (62, x39)]), G40))) (
  bP (bn Q q .eql 3 (.tmp 17) (.const (.int .i64 8)) x3 (.int .i64 8)) fun x45 =>
  ifV x45 (
  bP (pNil a0_) fun x46 =>
  bP (fa Q q 193 0 0 x46) fun x47 =>
  bP (fa Q q 190 3 18 x47) fun x48 =>
  bP (ld Q q 38 x48 G) fun x49 =>
  bP (pNil a0_) fun x50 =>
  bP (fa Q q 193 0 0 x50) fun x51 =>
  bP (fa Q q 190 7 23 x51) fun x52 =>
  bP (st Q q 38 1 x52 x49 G) fun G53 =>
  bP (pNil a0_) fun x54 =>
  bP (fa Q q 193 0 0 x54) fun x55 =>
  bP (fa Q q 190 2 17 x55) fun x56 =>
  bP (st Q q 3 1 x56 (.int .i64 7) G53) fun G57 =>
  bP (pNil a0_) fun x58 =>
  bP (fa Q q 193 0 0 x58) fun x59 =>
  bP (fa Q q 190 0 0 x59) fun x60 =>
  bP (lda Q q 36 13 x60 (G57.room 24)) fun x61 =>
  bP (pNil a0_) fun x62 =>
  bP (fa Q q 193 0 0 x62) fun x63 =>
  bP (fa Q q 190 4 19 x63) fun x64 =>
  bP (ld Q q 3 x64 (G57.room 24)) fun x65 =>
  bS (e.ev.cl 100 [x61, x65, (.int .i64 0)] (G57.room 24)) fun x67 G66 =>
  bP (pNil a0_) fun x68 =>
  bP (fa Q q 193 0 0 x68) fun x69 =>
  bP (fa Q q 190 5 20 x69) fun x70 =>
  bP (ld Q q 188 x70 G66) fun x71 =>
  chk ((sameO (ld Q q 188 x70 (G57.room 24)) x71 && true)) <|
  bP (pNil a0_) fun x72 =>
  bP (fa Q q 193 0 0 x72) fun x73 =>
  bP (fa Q q 190 5 20 x73) fun x74 =>
  bP (ld Q q 188 x74 G66) fun x75 =>
  chk ((sameO (ld Q q 188 x74 (G57.room 24)) x75 && true)) <|
  bS (e.ev.cl 291 [x75, (.bool true)] G66) fun x77 G76 =>
  chk ((sameO (ld Q q 188 x70 G76) x71 && true)) <|
  bS (e.ev.cl 242 [a1_, x67, x71, x77] G76) fun x79 G78 =>
  ifV x79 (
  bP (pNil a0_) fun x80 =>
  bP (fa Q q 193 0 0 x80) fun x81 =>
  bP (fa Q q 190 1 13 x81) fun x82 =>
  bP (fa Q q 187 1 1 x82) fun x83 =>
  bP (st Q q 4 1 x83 (.bool true) G78) fun G84 =>
  bP (pNil a0_) fun x85 =>
  bP (fa Q q 193 0 0 x85) fun x86 =>
  bP (fa Q q 190 2 17 x86) fun x87 =>
  bP (st Q q 3 1 x87 (.int .i64 9) G84) fun G88 =>
  some ((.exit 0), clq q 162 (tu τ [(0, a0_), (1, a1_), (13, a0_), (14, x0), (15, x1), (16, x2), (17, x3), (18, x4), (19, x4), (20, x9), (21, x9), (22, x14), (23, x14), (24, x19), (25, x19), (28, x22), (29, x22), (30, x45), (31, x45), (67, a0_), (68, a0_), (69, a0_), (70, x46), (71, x47), (72, x48), (73, x49), (74, x50), (75, x51), (76, x52), (77, x54), (78, x55), (79, x56), (80, a1_), (81, a0_), (82, x58), (83, x59), (84, x60), (85, x61), (86, a0_), (87, x62), (88, x63), (89, x64), (90, x65), (91, x67), (92, a0_), (93, x68), (94, x69), (95, x70), (96, x71), (97, a0_), (98, x72), (99, x73), (100, x74), (101, x75), (102, x77), (103, x79), (104, a0_), (105, a0_), (106, x80), (107, x81), (108, x82), (109, x83), (110, x85), (111, x86), (112, x87)]), G88)) (
  some ((.exit 0), clq q 162 (tu τ [(0, a0_), (1, a1_), (13, a0_), (14, x0), (15, x1), (16, x2), (17, x3), (18, x4), (19, x4), (20, x9), (21, x9), (22, x14), (23, x14), (24, x19), (25, x19), (28, x22), (29, x22), (30, x45), (31, x45), (67, a0_), (68, a0_), (69, a0_), (70, x46), (71, x47), (72, x48), (73, x49), (74, x50), (75, x51), (76, x52), (77, x54), (78, x55), (79, x56), (80, a1_), (81, a0_), (82, x58), (83, x59), (84, x60), (85, x61), (86, a0_), (87, x62), (88, x63), (89, x64), (90, x65), (91, x67), (92, a0_), (93, x68), (94, x69), (95, x70), (96, x71), (97, a0_), (98, x72), (99, x73), (100, x74), (101, x75), (102, x77), (103, x79)]), G78))) (
  bP (bn Q q .eql 3 (.tmp 17) (.const (.int .i64 9)) x3 (.int .i64 9)) fun x89 =>
  ifV x89 (
  bP (pNil a0_) fun x90 =>
  bP (fa Q q 193 0 0 x90) fun x91 =>
  bS (e.ev.cl 289 [x91, a1_, (.int .i64 0)] G) fun x92 G93 =>
  bP (pNil a0_) fun x94 =>
  bP (fa Q q 193 0 0 x94) fun x95 =>
  bP (fa Q q 190 6 21 x95) fun x96 =>
  bP (fa Q q 46 0 0 x96) fun x97 =>
  bP (st Q q 38 1 x97 x92 G93) fun G98 =>
  bP (pNil a0_) fun x99 =>
  bP (fa Q q 193 0 0 x99) fun x100 =>
  bP (fa Q q 190 2 17 x100) fun x101 =>
  bP (st Q q 3 1 x101 (.int .i64 91) G98) fun G102 =>
  some ((.exit 0), clq q 162 (tu τ [(0, a0_), (1, a1_), (13, a0_), (14, x0), (15, x1), (16, x2), (17, x3), (18, x4), (19, x4), (20, x9), (21, x9), (22, x14), (23, x14), (24, x19), (25, x19), (28, x22), (29, x22), (30, x45), (31, x45), (32, x89), (33, x89), (113, a0_), (114, a0_), (115, a0_), (116, x90), (117, x91), (118, a1_), (119, x92), (120, x94), (121, x95), (122, x96), (123, x97), (124, x99), (125, x100), (126, x101)]), G102)) (
  bP (bn Q q .eql 3 (.tmp 17) (.const (.int .i64 91)) x3 (.int .i64 91)) fun x103 =>
  ifV x103 (
  bP (pNil a0_) fun x104 =>
  bP (fa Q q 193 0 0 x104) fun x105 =>
  bS (e.ev.cl 292 [x105, a1_] G) fun x106 G107 =>
  bP (pNil a0_) fun x108 =>
  bP (fa Q q 193 0 0 x108) fun x109 =>
  bP (fa Q q 190 0 0 x109) fun x110 =>
  bP (lda Q q 36 13 x110 (G107.room 23)) fun x111 =>
  bP (pNil a0_) fun x112 =>
  bP (fa Q q 193 0 0 x112) fun x113 =>
  bP (fa Q q 190 6 21 x113) fun x114 =>
  bP (fa Q q 46 0 0 x114) fun x115 =>
  bP (ld Q q 38 x115 (G107.room 23)) fun x116 =>
  bS (e.ev.cl 228 [x111, x116] (G107.room 23)) fun x118 G117 =>
  bP (pNil a0_) fun x119 =>
  bP (fa Q q 193 0 0 x119) fun x120 =>
  bP (fa Q q 190 1 13 x120) fun x121 =>
  bP (fa Q q 187 2 2 x121) fun x122 =>
  bP (st Q q 184 1 x122 x118 G117) fun G123 =>
  bP (pNil a0_) fun x124 =>
  bP (fa Q q 193 0 0 x124) fun x125 =>
  bP (fa Q q 190 2 17 x125) fun x126 =>
  bP (st Q q 3 1 x126 (.int .i64 10) G123) fun G127 =>
  some ((.exit 0), clq q 162 (tu τ [(0, a0_), (1, a1_), (13, a0_), (14, x0), (15, x1), (16, x2), (17, x3), (18, x4), (19, x4), (20, x9), (21, x9), (22, x14), (23, x14), (24, x19), (25, x19), (28, x22), (29, x22), (30, x45), (31, x45), (32, x89), (33, x89), (34, x103), (35, x103), (127, a0_), (128, x104), (129, x105), (130, a1_), (131, x106), (132, a0_), (133, a0_), (134, a0_), (135, x108), (136, x109), (137, x110), (138, x111), (139, a0_), (140, x112), (141, x113), (142, x114), (143, x115), (144, x116), (145, x118), (146, x119), (147, x120), (148, x121), (149, x122), (150, x124), (151, x125), (152, x126)]), G127)) (
  bS (e.ev.cl 293 [a0_, a1_] G) fun x128 G129 =>
  some ((.exit 0), clq q 162 (tu τ [(0, a0_), (1, a1_), (13, a0_), (14, x0), (15, x1), (16, x2), (17, x3), (18, x4), (19, x4), (20, x9), (21, x9), (22, x14), (23, x14), (24, x19), (25, x19), (28, x22), (29, x22), (30, x45), (31, x45), (32, x89), (33, x89), (34, x103), (35, x103), (153, a0_), (154, a1_), (155, x128)]), G129))))))) (
  bP (bn Q q .eql 3 (.tmp 17) (.const (.int .i64 5)) x3 (.int .i64 5)) fun x130 =>
  ifV x130 (
  ifV x130 (
  bS (e.ev.cl 288 [a0_, a1_] G) fun x131 G132 =>
  some ((.exit 0), clq q 162 (tu τ [(0, a0_), (1, a1_), (13, a0_), (14, x0), (15, x1), (16, x2), (17, x3), (18, x4), (19, x4), (20, x9), (21, x9), (22, x14), (23, x14), (24, x130), (25, x19), (26, x130), (41, a0_), (42, a1_), (43, x131)]), G132)) (
  bP (bn Q q .eql 3 (.tmp 17) (.const (.int .i64 7)) x3 (.int .i64 7)) fun x133 =>
  ifV x133 (
  bP (pNil a0_) fun x134 =>
  bP (fa Q q 193 0 0 x134) fun x135 =>
  bS (e.ev.cl 289 [x135, a1_, (.int .i64 4)] G) fun x136 G137 =>
  bP (pNil a0_) fun x138 =>
  bP (fa Q q 193 0 0 x138) fun x139 =>
  bP (fa Q q 190 5 20 x139) fun x140 =>
  bP (st Q q 188 1 x140 x136 G137) fun G141 =>
  bP (pNil a0_) fun x142 =>
  bP (fa Q q 193 0 0 x142) fun x143 =>
  bP (fa Q q 190 2 17 x143) fun x144 =>
  bP (st Q q 3 1 x144 (.int .i64 8) G141) fun G145 =>
  bP (pNil a0_) fun x146 =>
  bP (fa Q q 193 0 0 x146) fun x147 =>
  bP (fa Q q 190 5 20 x147) fun x148 =>
  bP (ld Q q 188 x148 G145) fun x149 =>
  bS (e.ev.cl 290 [x149] G145) fun x150 G151 =>
  ifV x150 (
  bP (pNil a0_) fun x152 =>
  bP (fa Q q 193 0 0 x152) fun x153 =>
  bP (fa Q q 190 2 17 x153) fun x154 =>
  bP (st Q q 3 1 x154 (.int .i64 3) G151) fun G155 =>
  some ((.exit 0), clq q 162 (tu τ [(0, a0_), (1, a1_), (13, a0_), (14, x0), (15, x1), (16, x2), (17, x3), (18, x4), (19, x4), (20, x9), (21, x9), (22, x14), (23, x14), (24, x130), (25, x19), (26, x130), (28, x133), (29, x133), (44, a0_), (45, a0_), (46, x134), (47, x135), (48, a1_), (49, x136), (50, x138), (51, x139), (52, x140), (53, a0_), (54, x142), (55, x143), (56, x144), (57, a0_), (58, x146), (59, x147), (60, x148), (61, x149), (62, x150), (63, a0_), (64, x152), (65, x153), (66, x154)]), G155)) (
  some ((.exit 0), clq q 162 (tu τ [(0, a0_), (1, a1_), (13, a0_), (14, x0), (15, x1), (16, x2), (17, x3), (18, x4), (19, x4), (20, x9), (21, x9), (22, x14), (23, x14), (24, x130), (25, x19), (26, x130), (28, x133), (29, x133), (44, a0_), (45, a0_), (46, x134), (47, x135), (48, a1_), (49, x136), (50, x138), (51, x139), (52, x140), (53, a0_), (54, x142), (55, x143), (56, x144), (57, a0_), (58, x146), (59, x147), (60, x148), (61, x149), (62, x150)]), G151))) (
  bP (bn Q q .eql 3 (.tmp 17) (.const (.int .i64 8)) x3 (.int .i64 8)) fun x156 =>
  ifV x156 (
  bP (pNil a0_) fun x157 =>
  bP (fa Q q 193 0 0 x157) fun x158 =>
  bP (fa Q q 190 3 18 x158) fun x159 =>
  bP (ld Q q 38 x159 G) fun x160 =>
  bP (pNil a0_) fun x161 =>
  bP (fa Q q 193 0 0 x161) fun x162 =>
  bP (fa Q q 190 7 23 x162) fun x163 =>
  bP (st Q q 38 1 x163 x160 G) fun G164 =>
  bP (pNil a0_) fun x165 =>
  bP (fa Q q 193 0 0 x165) fun x166 =>
  bP (fa Q q 190 2 17 x166) fun x167 =>
  bP (st Q q 3 1 x167 (.int .i64 7) G164) fun G168 =>
  bP (pNil a0_) fun x169 =>
  bP (fa Q q 193 0 0 x169) fun x170 =>
  bP (fa Q q 190 0 0 x170) fun x171 =>
  bP (lda Q q 36 13 x171 (G168.room 24)) fun x172 =>
  bP (pNil a0_) fun x173 =>
  bP (fa Q q 193 0 0 x173) fun x174 =>
  bP (fa Q q 190 4 19 x174) fun x175 =>
  bP (ld Q q 3 x175 (G168.room 24)) fun x176 =>
  bS (e.ev.cl 100 [x172, x176, (.int .i64 0)] (G168.room 24)) fun x178 G177 =>
  bP (pNil a0_) fun x179 =>
  bP (fa Q q 193 0 0 x179) fun x180 =>
  bP (fa Q q 190 5 20 x180) fun x181 =>
  bP (ld Q q 188 x181 G177) fun x182 =>
  chk ((sameO (ld Q q 188 x181 (G168.room 24)) x182 && true)) <|
  bP (pNil a0_) fun x183 =>
  bP (fa Q q 193 0 0 x183) fun x184 =>
  bP (fa Q q 190 5 20 x184) fun x185 =>
  bP (ld Q q 188 x185 G177) fun x186 =>
  chk ((sameO (ld Q q 188 x185 (G168.room 24)) x186 && true)) <|
  bS (e.ev.cl 291 [x186, (.bool true)] G177) fun x188 G187 =>
  chk ((sameO (ld Q q 188 x181 G187) x182 && true)) <|
  bS (e.ev.cl 242 [a1_, x178, x182, x188] G187) fun x190 G189 =>
  ifV x190 (
  bP (pNil a0_) fun x191 =>
  bP (fa Q q 193 0 0 x191) fun x192 =>
  bP (fa Q q 190 1 13 x192) fun x193 =>
  bP (fa Q q 187 1 1 x193) fun x194 =>
  bP (st Q q 4 1 x194 (.bool true) G189) fun G195 =>
  bP (pNil a0_) fun x196 =>
  bP (fa Q q 193 0 0 x196) fun x197 =>
  bP (fa Q q 190 2 17 x197) fun x198 =>
  bP (st Q q 3 1 x198 (.int .i64 9) G195) fun G199 =>
  some ((.exit 0), clq q 162 (tu τ [(0, a0_), (1, a1_), (13, a0_), (14, x0), (15, x1), (16, x2), (17, x3), (18, x4), (19, x4), (20, x9), (21, x9), (22, x14), (23, x14), (24, x130), (25, x19), (26, x130), (28, x133), (29, x133), (30, x156), (31, x156), (67, a0_), (68, a0_), (69, a0_), (70, x157), (71, x158), (72, x159), (73, x160), (74, x161), (75, x162), (76, x163), (77, x165), (78, x166), (79, x167), (80, a1_), (81, a0_), (82, x169), (83, x170), (84, x171), (85, x172), (86, a0_), (87, x173), (88, x174), (89, x175), (90, x176), (91, x178), (92, a0_), (93, x179), (94, x180), (95, x181), (96, x182), (97, a0_), (98, x183), (99, x184), (100, x185), (101, x186), (102, x188), (103, x190), (104, a0_), (105, a0_), (106, x191), (107, x192), (108, x193), (109, x194), (110, x196), (111, x197), (112, x198)]), G199)) (
  some ((.exit 0), clq q 162 (tu τ [(0, a0_), (1, a1_), (13, a0_), (14, x0), (15, x1), (16, x2), (17, x3), (18, x4), (19, x4), (20, x9), (21, x9), (22, x14), (23, x14), (24, x130), (25, x19), (26, x130), (28, x133), (29, x133), (30, x156), (31, x156), (67, a0_), (68, a0_), (69, a0_), (70, x157), (71, x158), (72, x159), (73, x160), (74, x161), (75, x162), (76, x163), (77, x165), (78, x166), (79, x167), (80, a1_), (81, a0_), (82, x169), (83, x170), (84, x171), (85, x172), (86, a0_), (87, x173), (88, x174), (89, x175), (90, x176), (91, x178), (92, a0_), (93, x179), (94, x180), (95, x181), (96, x182), (97, a0_), (98, x183), (99, x184), (100, x185), (101, x186), (102, x188), (103, x190)]), G189))) (
  bP (bn Q q .eql 3 (.tmp 17) (.const (.int .i64 9)) x3 (.int .i64 9)) fun x200 =>
  ifV x200 (
  bP (pNil a0_) fun x201 =>
  bP (fa Q q 193 0 0 x201) fun x202 =>
  bS (e.ev.cl 289 [x202, a1_, (.int .i64 0)] G) fun x203 G204 =>
  bP (pNil a0_) fun x205 =>
  bP (fa Q q 193 0 0 x205) fun x206 =>
  bP (fa Q q 190 6 21 x206) fun x207 =>
  bP (fa Q q 46 0 0 x207) fun x208 =>
  bP (st Q q 38 1 x208 x203 G204) fun G209 =>
  bP (pNil a0_) fun x210 =>
  bP (fa Q q 193 0 0 x210) fun x211 =>
  bP (fa Q q 190 2 17 x211) fun x212 =>
  bP (st Q q 3 1 x212 (.int .i64 91) G209) fun G213 =>
  some ((.exit 0), clq q 162 (tu τ [(0, a0_), (1, a1_), (13, a0_), (14, x0), (15, x1), (16, x2), (17, x3), (18, x4), (19, x4), (20, x9), (21, x9), (22, x14), (23, x14), (24, x130), (25, x19), (26, x130), (28, x133), (29, x133), (30, x156), (31, x156), (32, x200), (33, x200), (113, a0_), (114, a0_), (115, a0_), (116, x201), (117, x202), (118, a1_), (119, x203), (120, x205), (121, x206), (122, x207), (123, x208), (124, x210), (125, x211), (126, x212)]), G213)) (
  bP (bn Q q .eql 3 (.tmp 17) (.const (.int .i64 91)) x3 (.int .i64 91)) fun x214 =>
  ifV x214 (
  bP (pNil a0_) fun x215 =>
  bP (fa Q q 193 0 0 x215) fun x216 =>
  bS (e.ev.cl 292 [x216, a1_] G) fun x217 G218 =>
  bP (pNil a0_) fun x219 =>
  bP (fa Q q 193 0 0 x219) fun x220 =>
  bP (fa Q q 190 0 0 x220) fun x221 =>
  bP (lda Q q 36 13 x221 (G218.room 23)) fun x222 =>
  bP (pNil a0_) fun x223 =>
  bP (fa Q q 193 0 0 x223) fun x224 =>
  bP (fa Q q 190 6 21 x224) fun x225 =>
  bP (fa Q q 46 0 0 x225) fun x226 =>
  bP (ld Q q 38 x226 (G218.room 23)) fun x227 =>
  bS (e.ev.cl 228 [x222, x227] (G218.room 23)) fun x229 G228 =>
  bP (pNil a0_) fun x230 =>
  bP (fa Q q 193 0 0 x230) fun x231 =>
  bP (fa Q q 190 1 13 x231) fun x232 =>
  bP (fa Q q 187 2 2 x232) fun x233 =>
  bP (st Q q 184 1 x233 x229 G228) fun G234 =>
  bP (pNil a0_) fun x235 =>
  bP (fa Q q 193 0 0 x235) fun x236 =>
  bP (fa Q q 190 2 17 x236) fun x237 =>
  bP (st Q q 3 1 x237 (.int .i64 10) G234) fun G238 =>
  some ((.exit 0), clq q 162 (tu τ [(0, a0_), (1, a1_), (13, a0_), (14, x0), (15, x1), (16, x2), (17, x3), (18, x4), (19, x4), (20, x9), (21, x9), (22, x14), (23, x14), (24, x130), (25, x19), (26, x130), (28, x133), (29, x133), (30, x156), (31, x156), (32, x200), (33, x200), (34, x214), (35, x214), (127, a0_), (128, x215), (129, x216), (130, a1_), (131, x217), (132, a0_), (133, a0_), (134, a0_), (135, x219), (136, x220), (137, x221), (138, x222), (139, a0_), (140, x223), (141, x224), (142, x225), (143, x226), (144, x227), (145, x229), (146, x230), (147, x231), (148, x232), (149, x233), (150, x235), (151, x236), (152, x237)]), G238)) (
  bS (e.ev.cl 293 [a0_, a1_] G) fun x239 G240 =>
  some ((.exit 0), clq q 162 (tu τ [(0, a0_), (1, a1_), (13, a0_), (14, x0), (15, x1), (16, x2), (17, x3), (18, x4), (19, x4), (20, x9), (21, x9), (22, x14), (23, x14), (24, x130), (25, x19), (26, x130), (28, x133), (29, x133), (30, x156), (31, x156), (32, x200), (33, x200), (34, x214), (35, x214), (153, a0_), (154, a1_), (155, x239)]), G240))))))) (
  bP (bn Q q .eql 3 (.tmp 17) (.const (.int .i64 6)) x3 (.int .i64 6)) fun x241 =>
  ifV x241 (
  bS (e.ev.cl 288 [a0_, a1_] G) fun x242 G243 =>
  some ((.exit 0), clq q 162 (tu τ [(0, a0_), (1, a1_), (13, a0_), (14, x0), (15, x1), (16, x2), (17, x3), (18, x4), (19, x4), (20, x9), (21, x9), (22, x14), (23, x14), (24, x241), (25, x19), (26, x130), (27, x241), (41, a0_), (42, a1_), (43, x242)]), G243)) (
  bP (bn Q q .eql 3 (.tmp 17) (.const (.int .i64 7)) x3 (.int .i64 7)) fun x244 =>
  ifV x244 (
  bP (pNil a0_) fun x245 =>
  bP (fa Q q 193 0 0 x245) fun x246 =>
  bS (e.ev.cl 289 [x246, a1_, (.int .i64 4)] G) fun x247 G248 =>
  bP (pNil a0_) fun x249 =>
  bP (fa Q q 193 0 0 x249) fun x250 =>
  bP (fa Q q 190 5 20 x250) fun x251 =>
  bP (st Q q 188 1 x251 x247 G248) fun G252 =>
  bP (pNil a0_) fun x253 =>
  bP (fa Q q 193 0 0 x253) fun x254 =>
  bP (fa Q q 190 2 17 x254) fun x255 =>
  bP (st Q q 3 1 x255 (.int .i64 8) G252) fun G256 =>
  bP (pNil a0_) fun x257 =>
  bP (fa Q q 193 0 0 x257) fun x258 =>
  bP (fa Q q 190 5 20 x258) fun x259 =>
  bP (ld Q q 188 x259 G256) fun x260 =>
  bS (e.ev.cl 290 [x260] G256) fun x261 G262 =>
  ifV x261 (
  bP (pNil a0_) fun x263 =>
  bP (fa Q q 193 0 0 x263) fun x264 =>
  bP (fa Q q 190 2 17 x264) fun x265 =>
  bP (st Q q 3 1 x265 (.int .i64 3) G262) fun G266 =>
  some ((.exit 0), clq q 162 (tu τ [(0, a0_), (1, a1_), (13, a0_), (14, x0), (15, x1), (16, x2), (17, x3), (18, x4), (19, x4), (20, x9), (21, x9), (22, x14), (23, x14), (24, x241), (25, x19), (26, x130), (27, x241), (28, x244), (29, x244), (44, a0_), (45, a0_), (46, x245), (47, x246), (48, a1_), (49, x247), (50, x249), (51, x250), (52, x251), (53, a0_), (54, x253), (55, x254), (56, x255), (57, a0_), (58, x257), (59, x258), (60, x259), (61, x260), (62, x261), (63, a0_), (64, x263), (65, x264), (66, x265)]), G266)) (
  some ((.exit 0), clq q 162 (tu τ [(0, a0_), (1, a1_), (13, a0_), (14, x0), (15, x1), (16, x2), (17, x3), (18, x4), (19, x4), (20, x9), (21, x9), (22, x14), (23, x14), (24, x241), (25, x19), (26, x130), (27, x241), (28, x244), (29, x244), (44, a0_), (45, a0_), (46, x245), (47, x246), (48, a1_), (49, x247), (50, x249), (51, x250), (52, x251), (53, a0_), (54, x253), (55, x254), (56, x255), (57, a0_), (58, x257), (59, x258), (60, x259), (61, x260), (62, x261)]), G262))) (
  bP (bn Q q .eql 3 (.tmp 17) (.const (.int .i64 8)) x3 (.int .i64 8)) fun x267 =>
  ifV x267 (
  bP (pNil a0_) fun x268 =>
  bP (fa Q q 193 0 0 x268) fun x269 =>
  bP (fa Q q 190 3 18 x269) fun x270 =>
  bP (ld Q q 38 x270 G) fun x271 =>
  bP (pNil a0_) fun x272 =>
  bP (fa Q q 193 0 0 x272) fun x273 =>
  bP (fa Q q 190 7 23 x273) fun x274 =>
  bP (st Q q 38 1 x274 x271 G) fun G275 =>
  bP (pNil a0_) fun x276 =>
  bP (fa Q q 193 0 0 x276) fun x277 =>
  bP (fa Q q 190 2 17 x277) fun x278 =>
  bP (st Q q 3 1 x278 (.int .i64 7) G275) fun G279 =>
  bP (pNil a0_) fun x280 =>
  bP (fa Q q 193 0 0 x280) fun x281 =>
  bP (fa Q q 190 0 0 x281) fun x282 =>
  bP (lda Q q 36 13 x282 (G279.room 24)) fun x283 =>
  bP (pNil a0_) fun x284 =>
  bP (fa Q q 193 0 0 x284) fun x285 =>
  bP (fa Q q 190 4 19 x285) fun x286 =>
  bP (ld Q q 3 x286 (G279.room 24)) fun x287 =>
  bS (e.ev.cl 100 [x283, x287, (.int .i64 0)] (G279.room 24)) fun x289 G288 =>
  bP (pNil a0_) fun x290 =>
  bP (fa Q q 193 0 0 x290) fun x291 =>
  bP (fa Q q 190 5 20 x291) fun x292 =>
  bP (ld Q q 188 x292 G288) fun x293 =>
  chk ((sameO (ld Q q 188 x292 (G279.room 24)) x293 && true)) <|
  bP (pNil a0_) fun x294 =>
  bP (fa Q q 193 0 0 x294) fun x295 =>
  bP (fa Q q 190 5 20 x295) fun x296 =>
  bP (ld Q q 188 x296 G288) fun x297 =>
  chk ((sameO (ld Q q 188 x296 (G279.room 24)) x297 && true)) <|
  bS (e.ev.cl 291 [x297, (.bool true)] G288) fun x299 G298 =>
  chk ((sameO (ld Q q 188 x292 G298) x293 && true)) <|
  bS (e.ev.cl 242 [a1_, x289, x293, x299] G298) fun x301 G300 =>
  ifV x301 (
  bP (pNil a0_) fun x302 =>
  bP (fa Q q 193 0 0 x302) fun x303 =>
  bP (fa Q q 190 1 13 x303) fun x304 =>
  bP (fa Q q 187 1 1 x304) fun x305 =>
  bP (st Q q 4 1 x305 (.bool true) G300) fun G306 =>
  bP (pNil a0_) fun x307 =>
  bP (fa Q q 193 0 0 x307) fun x308 =>
  bP (fa Q q 190 2 17 x308) fun x309 =>
  bP (st Q q 3 1 x309 (.int .i64 9) G306) fun G310 =>
  some ((.exit 0), clq q 162 (tu τ [(0, a0_), (1, a1_), (13, a0_), (14, x0), (15, x1), (16, x2), (17, x3), (18, x4), (19, x4), (20, x9), (21, x9), (22, x14), (23, x14), (24, x241), (25, x19), (26, x130), (27, x241), (28, x244), (29, x244), (30, x267), (31, x267), (67, a0_), (68, a0_), (69, a0_), (70, x268), (71, x269), (72, x270), (73, x271), (74, x272), (75, x273), (76, x274), (77, x276), (78, x277), (79, x278), (80, a1_), (81, a0_), (82, x280), (83, x281), (84, x282), (85, x283), (86, a0_), (87, x284), (88, x285), (89, x286), (90, x287), (91, x289), (92, a0_), (93, x290), (94, x291), (95, x292), (96, x293), (97, a0_), (98, x294), (99, x295), (100, x296), (101, x297), (102, x299), (103, x301), (104, a0_), (105, a0_), (106, x302), (107, x303), (108, x304), (109, x305), (110, x307), (111, x308), (112, x309)]), G310)) (
  some ((.exit 0), clq q 162 (tu τ [(0, a0_), (1, a1_), (13, a0_), (14, x0), (15, x1), (16, x2), (17, x3), (18, x4), (19, x4), (20, x9), (21, x9), (22, x14), (23, x14), (24, x241), (25, x19), (26, x130), (27, x241), (28, x244), (29, x244), (30, x267), (31, x267), (67, a0_), (68, a0_), (69, a0_), (70, x268), (71, x269), (72, x270), (73, x271), (74, x272), (75, x273), (76, x274), (77, x276), (78, x277), (79, x278), (80, a1_), (81, a0_), (82, x280), (83, x281), (84, x282), (85, x283), (86, a0_), (87, x284), (88, x285), (89, x286), (90, x287), (91, x289), (92, a0_), (93, x290), (94, x291), (95, x292), (96, x293), (97, a0_), (98, x294), (99, x295), (100, x296), (101, x297), (102, x299), (103, x301)]), G300))) (
  bP (bn Q q .eql 3 (.tmp 17) (.const (.int .i64 9)) x3 (.int .i64 9)) fun x311 =>
  ifV x311 (
  bP (pNil a0_) fun x312 =>
  bP (fa Q q 193 0 0 x312) fun x313 =>
  bS (e.ev.cl 289 [x313, a1_, (.int .i64 0)] G) fun x314 G315 =>
  bP (pNil a0_) fun x316 =>
  bP (fa Q q 193 0 0 x316) fun x317 =>
  bP (fa Q q 190 6 21 x317) fun x318 =>
  bP (fa Q q 46 0 0 x318) fun x319 =>
  bP (st Q q 38 1 x319 x314 G315) fun G320 =>
  bP (pNil a0_) fun x321 =>
  bP (fa Q q 193 0 0 x321) fun x322 =>
  bP (fa Q q 190 2 17 x322) fun x323 =>
  bP (st Q q 3 1 x323 (.int .i64 91) G320) fun G324 =>
  some ((.exit 0), clq q 162 (tu τ [(0, a0_), (1, a1_), (13, a0_), (14, x0), (15, x1), (16, x2), (17, x3), (18, x4), (19, x4), (20, x9), (21, x9), (22, x14), (23, x14), (24, x241), (25, x19), (26, x130), (27, x241), (28, x244), (29, x244), (30, x267), (31, x267), (32, x311), (33, x311), (113, a0_), (114, a0_), (115, a0_), (116, x312), (117, x313), (118, a1_), (119, x314), (120, x316), (121, x317), (122, x318), (123, x319), (124, x321), (125, x322), (126, x323)]), G324)) (
  bP (bn Q q .eql 3 (.tmp 17) (.const (.int .i64 91)) x3 (.int .i64 91)) fun x325 =>
  ifV x325 (
  bP (pNil a0_) fun x326 =>
  bP (fa Q q 193 0 0 x326) fun x327 =>
  bS (e.ev.cl 292 [x327, a1_] G) fun x328 G329 =>
  bP (pNil a0_) fun x330 =>
  bP (fa Q q 193 0 0 x330) fun x331 =>
  bP (fa Q q 190 0 0 x331) fun x332 =>
  bP (lda Q q 36 13 x332 (G329.room 23)) fun x333 =>
  bP (pNil a0_) fun x334 =>
  bP (fa Q q 193 0 0 x334) fun x335 =>
  bP (fa Q q 190 6 21 x335) fun x336 =>
  bP (fa Q q 46 0 0 x336) fun x337 =>
  bP (ld Q q 38 x337 (G329.room 23)) fun x338 =>
  bS (e.ev.cl 228 [x333, x338] (G329.room 23)) fun x340 G339 =>
  bP (pNil a0_) fun x341 =>
  bP (fa Q q 193 0 0 x341) fun x342 =>
  bP (fa Q q 190 1 13 x342) fun x343 =>
  bP (fa Q q 187 2 2 x343) fun x344 =>
  bP (st Q q 184 1 x344 x340 G339) fun G345 =>
  bP (pNil a0_) fun x346 =>
  bP (fa Q q 193 0 0 x346) fun x347 =>
  bP (fa Q q 190 2 17 x347) fun x348 =>
  bP (st Q q 3 1 x348 (.int .i64 10) G345) fun G349 =>
  some ((.exit 0), clq q 162 (tu τ [(0, a0_), (1, a1_), (13, a0_), (14, x0), (15, x1), (16, x2), (17, x3), (18, x4), (19, x4), (20, x9), (21, x9), (22, x14), (23, x14), (24, x241), (25, x19), (26, x130), (27, x241), (28, x244), (29, x244), (30, x267), (31, x267), (32, x311), (33, x311), (34, x325), (35, x325), (127, a0_), (128, x326), (129, x327), (130, a1_), (131, x328), (132, a0_), (133, a0_), (134, a0_), (135, x330), (136, x331), (137, x332), (138, x333), (139, a0_), (140, x334), (141, x335), (142, x336), (143, x337), (144, x338), (145, x340), (146, x341), (147, x342), (148, x343), (149, x344), (150, x346), (151, x347), (152, x348)]), G349)) (
  bS (e.ev.cl 293 [a0_, a1_] G) fun x350 G351 =>
  some ((.exit 0), clq q 162 (tu τ [(0, a0_), (1, a1_), (13, a0_), (14, x0), (15, x1), (16, x2), (17, x3), (18, x4), (19, x4), (20, x9), (21, x9), (22, x14), (23, x14), (24, x241), (25, x19), (26, x130), (27, x241), (28, x244), (29, x244), (30, x267), (31, x267), (32, x311), (33, x311), (34, x325), (35, x325), (153, a0_), (154, a1_), (155, x350)]), G351)))))))))))
theorem mb284_0 {e : Ex} {E : Ev} (h : ExLe Q e E) {lp lp' : Env → GS → Option (Exit × Env × GS)} (hlp : LpLe lp lp') (τ : Env) (G : GS) : Ref (b284_0 true e lp τ G) (b284_0 false (Ex.of E) lp' τ G) := by
  unfold b284_0
  exact Ref.go
set_option maxHeartbeats 8000000 in
theorem l284_0 {orc : FuncId → Bool} {e : Ex} (h : ExLe Q e (E orc)) (lp : Env → GS → Option (Exit × Env × GS)) (hlp : ∀ τ G, Ref (lp τ G) (mapE ((E orc).lp (subAt [1, 0, 1, 1, 0, 0, 0] (bodyOf Tryz.f284)) (lst 162 τ) G))) (T : List Value) (G : GS) (hT : T.length = 162) : Ref (b284_0 true e lp (nth undef T) G) (mapE ((E orc).lp (subAt [1, 0, 1, 1, 0, 0, 0] (bodyOf Tryz.f284)) T G)) :=
  fun r hr => lp_sxM Q orc G hT (by kernel_rfl) (mb284_0 h ⟨hlp⟩ _ _ r hr)
/-- (*coxswain/claim.Claim).Step -/
noncomputable def s284 (q : Bool) (e : Ex) (v0 v1 : Value) (G : GS) : Option (Value × GS) :=
  bP (ep Q q false 123 (.tmp 5) (.const (.pointer none)) v0 (.pointer none)) fun x0 =>
  bS (gd x0 false (some (v0, G)) G) fun x1 G2 =>
  bS (gd x0 false (bP (pNil x1) fun y => some (y, G2)) G2) fun x3 G4 =>
  bS (gd x0 false (bP (fa Q q 193 0 0 x3) fun y => some (y, G4)) G4) fun x5 G6 =>
  bS (gd x0 false (bS (e.ev.cl 286 [x5] G6) fun y G => some (y, G)) G6) fun x7 G8 =>
  bP (pickV x0 (.bool true) x7) fun x9 =>
  ifV x9 (
  some ((.bool true), G8)) (
  bL q e 284 0 (subAt [1, 0, 1, 1, 0, 0, 0] (bodyOf Tryz.f284)) 162 (tu (nth undef [v0, v1]) [(4, (.bool false)), (5, v0), (6, x0), (7, x0), (8, x1), (9, x3), (10, x5), (11, x7), (12, x9)]) G8 fun e10 t11 G12 =>
  bV q (t11 0) fun t11x0_ =>
  ifE e10 (.exit 0) (
  bP (pNil t11x0_) fun x13 =>
  bP (fa Q q 193 0 0 x13) fun x14 =>
  bP (fa Q q 190 2 17 x14) fun x15 =>
  bP (ld Q q 3 x15 G12) fun x16 =>
  bP (bn Q q .eql 3 (.tmp 160) (.const (.int .i64 99)) x16 (.int .i64 99)) fun x17 =>
  some (x17, G12)) (none))
theorem m284 {e : Ex} {E : Ev} (h : ExLe Q e E) (v0 v1 : Value) (G : GS) : Ref (s284 true e v0 v1 G) (s284 false (Ex.of E) v0 v1 G) := by
  unfold s284
  exact Ref.go
set_option maxHeartbeats 8000000 in
theorem f284 {orc : FuncId → Bool} {e : Ex} (h : ExLe Q e (E orc)) (v0 v1 : Value) (G : GS) : Ref (s284 true e v0 v1 G) ((E orc).cl 284 [v0, v1] G) :=
  fun r hr => cl_sxE_some Q orc (vs := [v0, v1]) G Tryz.func284 (by kernel_rfl) (by kernel_rfl) (by kernel_rfl) (by kernel_rfl) (by kernel_rfl) (by kernel_rfl) (m284 h v0 v1 G r hr)
/-- (*coxswain/claim.Claim).below -/
noncomputable def s285 (q : Bool) (e : Ex) (v0 : Value) (G : GS) : Option (Value × GS) :=
  bP (pNil v0) fun x0 =>
  bP (fa Q q 193 0 0 x0) fun x1 =>
  bP (fa Q q 190 1 13 x1) fun x2 =>
  bP (fa Q q 187 0 0 x2) fun x3 =>
  bP (ld Q q 3 x3 G) fun x4 =>
  bP (bn Q q .sub 3 (.tmp 7) (.const (.int .i64 1)) x4 (.int .i64 1)) fun x5 =>
  bP (pNil v0) fun x6 =>
  bP (fa Q q 193 0 0 x6) fun x7 =>
  bP (fa Q q 190 1 13 x7) fun x8 =>
  bP (fa Q q 187 0 0 x8) fun x9 =>
  bP (st Q q 3 1 x9 x5 G) fun G10 =>
  bP (pNil v0) fun x11 =>
  bP (fa Q q 193 0 0 x11) fun x12 =>
  bP (fa Q q 190 2 17 x12) fun x13 =>
  bP (st Q q 3 1 x13 (.int .i64 5) G10) fun G14 =>
  bP (pNil v0) fun x15 =>
  bP (fa Q q 193 0 0 x15) fun x16 =>
  bP (fa Q q 190 1 13 x16) fun x17 =>
  bP (fa Q q 187 0 0 x17) fun x18 =>
  bP (ld Q q 3 x18 G14) fun x19 =>
  bP (bn Q q .lss 3 (.tmp 22) (.const (.int .i64 1)) x19 (.int .i64 1)) fun x20 =>
  ifV x20 (
  bP (pNil v0) fun x21 =>
  bP (fa Q q 193 0 0 x21) fun x22 =>
  bP (fa Q q 190 2 17 x22) fun x23 =>
  bP (st Q q 3 1 x23 (.int .i64 7) G14) fun G24 =>
  some (.tuple #[], G24)) (
  some (.tuple #[], G14))
theorem m285 {e : Ex} {E : Ev} (h : ExLe Q e E) (v0 : Value) (G : GS) : Ref (s285 true e v0 G) (s285 false (Ex.of E) v0 G) := by
  unfold s285
  exact Ref.go
theorem f285 {orc : FuncId → Bool} {e : Ex} (h : ExLe Q e (E orc)) (v0 : Value) (G : GS) : Ref (s285 true e v0 G) ((E orc).cl 285 [v0] G) :=
  fun r hr => cl_sxE_some Q orc (vs := [v0]) G Tryz.func285 (by kernel_rfl) (by kernel_rfl) (by kernel_rfl) (by kernel_rfl) (by kernel_rfl) (by kernel_rfl) (m285 h v0 G r hr)
/-- (*coxswain/claim.seeker[coxswain/claim.taking]).done -/
noncomputable def s286 (q : Bool) (e : Ex) (v0 : Value) (G : GS) : Option (Value × GS) :=
  bP (pNil v0) fun x0 =>
  bP (fa Q q 190 8 24 x0) fun x1 =>
  bP (ld Q q 4 x1 G) fun x2 =>
  bP (un Q q .not x2) fun x3 =>
  bS (gd x3 false (some (v0, G)) G) fun x4 G5 =>
  bS (gd x3 false (bP (pNil x4) fun y => some (y, G5)) G5) fun x6 G7 =>
  bS (gd x3 false (bP (fa Q q 190 2 17 x6) fun y => some (y, G7)) G7) fun x8 G9 =>
  bS (gd x3 false (bP (ld Q q 3 x8 G9) fun y => some (y, G9)) G9) fun x10 G11 =>
  bS (gd x3 false (bP (bn Q q .eql 3 (.tmp 12) (.const (.int .i64 99)) x10 (.int .i64 99)) fun y => some (y, G11)) G11) fun x12 G13 =>
  bP (pickV x3 (.bool true) x12) fun x14 =>
  some (x14, G13)
theorem m286 {e : Ex} {E : Ev} (h : ExLe Q e E) (v0 : Value) (G : GS) : Ref (s286 true e v0 G) (s286 false (Ex.of E) v0 G) := by
  unfold s286
  exact Ref.go
theorem f286 {orc : FuncId → Bool} {e : Ex} (h : ExLe Q e (E orc)) (v0 : Value) (G : GS) : Ref (s286 true e v0 G) ((E orc).cl 286 [v0] G) :=
  fun r hr => cl_sxE_some Q orc (vs := [v0]) G Tryz.func286 (by kernel_rfl) (by kernel_rfl) (by kernel_rfl) (by kernel_rfl) (by kernel_rfl) (by kernel_rfl) (m286 h v0 G r hr)
/-- (*coxswain/claim.seeker[coxswain/claim.taking]).first -/
noncomputable def s287 (q : Bool) (e : Ex) (v0 v1 : Value) (G : GS) : Option (Value × GS) :=
  bP (pNil v0) fun x0 =>
  bP (fa Q q 190 2 17 x0) fun x1 =>
  bP (ld Q q 3 x1 G) fun x2 =>
  bP (bn Q q .eql 3 (.tmp 9) (.const (.int .i64 1)) x2 (.int .i64 1)) fun x3 =>
  ifV x3 (
  bP (pNil v0) fun x4 =>
  bP (fa Q q 190 7 23 x4) fun x5 =>
  bP (st Q q 38 1 x5 (.int .u64 0) G) fun G6 =>
  bP (pNil v0) fun x7 =>
  bP (fa Q q 190 0 0 x7) fun x8 =>
  bP (lda Q q 36 13 x8 G6) fun x9 =>
  bS (e.ev.cl 100 [x9, (.int .i64 (-1)), (.int .i64 0)] G6) fun x10 G11 =>
  bS (e.ev.cl 120 [v1, x10] G11) fun x12 G13 =>
  bP (pNil v0) fun x14 =>
  bP (fa Q q 190 3 18 x14) fun x15 =>
  bP (st Q q 38 1 x15 x12 G13) fun G16 =>
  bP (pNil v0) fun x17 =>
  bP (fa Q q 190 3 18 x17) fun x18 =>
  bP (ld Q q 38 x18 G16) fun x19 =>
  bS (e.ev.cl 221 [x19] G16) fun x20 G21 =>
  bP (pExtract x20 0) fun x22 =>
  bP (pExtract x20 1) fun x23 =>
  bS (al Q q 357 z357 G21) fun x24 G25 =>
  bP (st Q q 357 2 x24 x22 G25) fun G26 =>
  bP (fa Q q 357 0 0 x24) fun x27 =>
  bP (ld Q q 3 x27 G26) fun x28 =>
  bP (pNil v0) fun x29 =>
  bP (fa Q q 190 4 19 x29) fun x30 =>
  bP (st Q q 3 1 x30 x28 G26) fun G31 =>
  bP (pNil v0) fun x32 =>
  bP (fa Q q 190 2 17 x32) fun x33 =>
  bP (st Q q 3 1 x33 (.int .i64 2) G31) fun G34 =>
  bP (pNil v0) fun x35 =>
  bP (fa Q q 190 4 19 x35) fun x36 =>
  bP (ld Q q 3 x36 (G34.room 20)) fun x37 =>
  bP (bn Q q .lss 3 (.tmp 44) (.const (.int .i64 0)) x37 (.int .i64 0)) fun x38 =>
  bS (gd x38 false (some (v0, (G34.room 20))) (G34.room 20)) fun x39 _ =>
  bS (gd x38 false (bP (pNil x39) fun y => some (y, (G34.room 20))) (G34.room 20)) fun x40 _ =>
  bS (gd x38 false (bP (fa Q q 190 4 19 x40) fun y => some (y, (G34.room 20))) (G34.room 20)) fun x41 _ =>
  bS (gd x38 false (bP (ld Q q 3 x41 (G34.room 20)) fun y => some (y, (G34.room 20))) (G34.room 20)) fun x42 _ =>
  bS (gd x38 false (some (v0, (G34.room 20))) (G34.room 20)) fun x43 _ =>
  bS (gd x38 false (bP (pNil x43) fun y => some (y, (G34.room 20))) (G34.room 20)) fun x44 _ =>
  bS (gd x38 false (bP (fa Q q 190 0 0 x44) fun y => some (y, (G34.room 20))) (G34.room 20)) fun x45 _ =>
  bS (gd x38 false (bP (fa Q q 36 3 3 x45) fun y => some (y, (G34.room 20))) (G34.room 20)) fun x46 _ =>
  bS (gd x38 false (bP (fa Q q 34 0 0 x46) fun y => some (y, (G34.room 20))) (G34.room 20)) fun x47 _ =>
  bS (gd x38 false (bP (fa Q q 30 0 0 x47) fun y => some (y, (G34.room 20))) (G34.room 20)) fun x48 _ =>
  bS (gd x38 false (bP (fa Q q 28 2 2 x48) fun y => some (y, (G34.room 20))) (G34.room 20)) fun x49 _ =>
  bS (gd x38 false (bP (ld Q q 3 x49 (G34.room 20)) fun y => some (y, (G34.room 20))) (G34.room 20)) fun x50 _ =>
  bS (gd x38 false (bP (bn Q q .geq 3 (.tmp 50) (.tmp 58) x42 x50) fun y => some (y, (G34.room 20))) (G34.room 20)) fun x51 _ =>
  bP (pickV x38 (.bool true) x51) fun x52 =>
  ifV x52 (
  bP (pNil v0) fun x53 =>
  bP (fa Q q 190 2 17 x53) fun x54 =>
  bP (st Q q 3 1 x54 (.int .i64 99) (G34.room 20)) fun G55 =>
  bP (pNil v0) fun x56 =>
  bP (fa Q q 190 9 25 x56) fun x57 =>
  bP (st Q q 23 1 x57 (.int .i64 15) G55) fun G58 =>
  some (.tuple #[], G58)) (
  some (.tuple #[], (G34.room 20)))) (
  bP (bn Q q .eql 3 (.tmp 9) (.const (.int .i64 2)) x2 (.int .i64 2)) fun x59 =>
  ifV x59 (
  bS (e.ev.cl 289 [v0, v1, (.int .i64 4)] G) fun x60 G61 =>
  bP (pNil v0) fun x62 =>
  bP (fa Q q 190 5 20 x62) fun x63 =>
  bP (st Q q 188 1 x63 x60 G61) fun G64 =>
  bP (pNil v0) fun x65 =>
  bP (fa Q q 190 2 17 x65) fun x66 =>
  bP (st Q q 3 1 x66 (.int .i64 4) G64) fun G67 =>
  bP (pNil v0) fun x68 =>
  bP (fa Q q 190 5 20 x68) fun x69 =>
  bP (ld Q q 188 x69 G67) fun x70 =>
  bS (e.ev.cl 290 [x70] G67) fun x71 G72 =>
  ifV x71 (
  bP (pNil v0) fun x73 =>
  bP (fa Q q 190 2 17 x73) fun x74 =>
  bP (st Q q 3 1 x74 (.int .i64 3) G72) fun G75 =>
  some (.tuple #[], G75)) (
  some (.tuple #[], G72))) (
  bP (bn Q q .eql 3 (.tmp 9) (.const (.int .i64 3)) x2 (.int .i64 3)) fun x76 =>
  ifV x76 (
  bP (pNil v0) fun x77 =>
  bP (fa Q q 190 7 23 x77) fun x78 =>
  bP (st Q q 38 1 x78 (.int .u64 0) G) fun G79 =>
  bP (pNil v0) fun x80 =>
  bP (fa Q q 190 0 0 x80) fun x81 =>
  bP (lda Q q 36 13 x81 (G79.room 16)) fun x82 =>
  bS (e.ev.cl 100 [x82, (.int .i64 (-1)), (.int .i64 0)] (G79.room 16)) fun x84 G83 =>
  bP (pNil v0) fun x85 =>
  bP (fa Q q 190 3 18 x85) fun x86 =>
  bP (ld Q q 38 x86 G83) fun x87 =>
  chk ((sameO (ld Q q 38 x86 (G79.room 16)) x87 && true)) <|
  bP (pNil v0) fun x88 =>
  bP (fa Q q 190 5 20 x88) fun x89 =>
  bP (ld Q q 188 x89 G83) fun x90 =>
  chk ((sameO (ld Q q 188 x89 (G79.room 16)) x90 && true)) <|
  bS (e.ev.cl 291 [x90, (.bool false)] G83) fun x92 G91 =>
  chk ((sameO (ld Q q 38 x86 G91) x87 && true)) <|
  bS (e.ev.cl 242 [v1, x84, x87, x92] G91) fun x94 G93 =>
  bP (pNil v0) fun x95 =>
  bP (fa Q q 190 2 17 x95) fun x96 =>
  bP (st Q q 3 1 x96 (.int .i64 1) G93) fun G97 =>
  some (.tuple #[], G97)) (
  some (.tuple #[], G))))
theorem m287 {e : Ex} {E : Ev} (h : ExLe Q e E) (v0 v1 : Value) (G : GS) : Ref (s287 true e v0 v1 G) (s287 false (Ex.of E) v0 v1 G) := by
  unfold s287
  exact Ref.go
set_option maxHeartbeats 8000000 in
theorem f287 {orc : FuncId → Bool} {e : Ex} (h : ExLe Q e (E orc)) (v0 v1 : Value) (G : GS) : Ref (s287 true e v0 v1 G) ((E orc).cl 287 [v0, v1] G) :=
  fun r hr => cl_sxE_some Q orc (vs := [v0, v1]) G Tryz.func287 (by kernel_rfl) (by kernel_rfl) (by kernel_rfl) (by kernel_rfl) (by kernel_rfl) (by kernel_rfl) (m287 h v0 v1 G r hr)
/-- (*coxswain/claim.Claim).mark -/
noncomputable def s288 (q : Bool) (e : Ex) (v0 v1 : Value) (G : GS) : Option (Value × GS) :=
  bP (pNil v0) fun x0 =>
  bP (fa Q q 193 0 0 x0) fun x1 =>
  bP (fa Q q 190 2 17 x1) fun x2 =>
  bP (ld Q q 3 x2 G) fun x3 =>
  bP (bn Q q .eql 3 (.tmp 9) (.const (.int .i64 4)) x3 (.int .i64 4)) fun x4 =>
  ifV x4 (
  bP (pNil v0) fun x5 =>
  bP (fa Q q 193 0 0 x5) fun x6 =>
  bP (fa Q q 190 0 0 x6) fun x7 =>
  bP (fa Q q 36 2 2 x7) fun x8 =>
  bP (ld Q q 3 x8 G) fun x9 =>
  bP (pNil v0) fun x10 =>
  bP (fa Q q 193 0 0 x10) fun x11 =>
  bP (fa Q q 190 1 13 x11) fun x12 =>
  bP (fa Q q 187 0 0 x12) fun x13 =>
  bP (st Q q 3 1 x13 x9 G) fun G14 =>
  bP (pNil v0) fun x15 =>
  bP (fa Q q 193 0 0 x15) fun x16 =>
  bS (e.ev.cl 289 [x16, v1, (.int .i64 2)] G14) fun x17 G18 =>
  bP (pNil v0) fun x19 =>
  bP (fa Q q 193 0 0 x19) fun x20 =>
  bP (fa Q q 190 0 0 x20) fun x21 =>
  bP (fa Q q 36 2 2 x21) fun x22 =>
  bP (ld Q q 3 x22 G18) fun x23 =>
  bP (cv Q q 3 38 .i64 .u64 x23) fun x24 =>
  bP (bn Q q .lss 38 (.tmp 28) (.tmp 35) x17 x24) fun x25 =>
  ifV x25 (
  bP (cv Q q 38 3 .u64 .i64 x17) fun x26 =>
  bP (pNil v0) fun x27 =>
  bP (fa Q q 193 0 0 x27) fun x28 =>
  bP (fa Q q 190 1 13 x28) fun x29 =>
  bP (fa Q q 187 0 0 x29) fun x30 =>
  bP (st Q q 3 1 x30 x26 G18) fun G31 =>
  bS (e.ev.cl 285 [v0] G31) fun x32 G33 =>
  some (.tuple #[], G33)) (
  bS (e.ev.cl 285 [v0] G18) fun x34 G35 =>
  some (.tuple #[], G35))) (
  bP (bn Q q .eql 3 (.tmp 9) (.const (.int .i64 5)) x3 (.int .i64 5)) fun x36 =>
  ifV x36 (
  bP (pNil v0) fun x37 =>
  bP (fa Q q 193 0 0 x37) fun x38 =>
  bP (pNil v0) fun x39 =>
  bP (fa Q q 193 0 0 x39) fun x40 =>
  bP (fa Q q 190 1 13 x40) fun x41 =>
  bP (fa Q q 187 0 0 x41) fun x42 =>
  bP (ld Q q 3 x42 (G.room 17)) fun x43 =>
  bP (bn Q q .add 3 (.const (.int .i64 4)) (.tmp 58) (.int .i64 4) x43) fun x44 =>
  bS (e.ev.cl 289 [x38, v1, x44] (G.room 17)) fun x46 G45 =>
  bP (pNil v0) fun x47 =>
  bP (fa Q q 193 0 0 x47) fun x48 =>
  bP (fa Q q 190 5 20 x48) fun x49 =>
  bP (st Q q 188 1 x49 x46 G45) fun G50 =>
  bP (pNil v0) fun x51 =>
  bP (fa Q q 193 0 0 x51) fun x52 =>
  bP (fa Q q 190 2 17 x52) fun x53 =>
  bP (st Q q 3 1 x53 (.int .i64 6) G50) fun G54 =>
  bP (pNil v0) fun x55 =>
  bP (fa Q q 193 0 0 x55) fun x56 =>
  bP (fa Q q 190 5 20 x56) fun x57 =>
  bP (ld Q q 188 x57 G54) fun x58 =>
  bS (e.ev.cl 290 [x58] G54) fun x59 G60 =>
  ifV x59 (
  bS (e.ev.cl 285 [v0] G60) fun x61 G62 =>
  some (.tuple #[], G62)) (
  some (.tuple #[], G60))) (
  bP (bn Q q .eql 3 (.tmp 9) (.const (.int .i64 6)) x3 (.int .i64 6)) fun x63 =>
  ifV x63 (
  bP (pNil v0) fun x64 =>
  bP (fa Q q 193 0 0 x64) fun x65 =>
  bP (fa Q q 190 3 18 x65) fun x66 =>
  bP (ld Q q 38 x66 G) fun x67 =>
  bP (pNil v0) fun x68 =>
  bP (fa Q q 193 0 0 x68) fun x69 =>
  bP (fa Q q 190 7 23 x69) fun x70 =>
  bP (st Q q 38 1 x70 x67 G) fun G71 =>
  bP (pNil v0) fun x72 =>
  bP (fa Q q 193 0 0 x72) fun x73 =>
  bP (fa Q q 190 2 17 x73) fun x74 =>
  bP (st Q q 3 1 x74 (.int .i64 5) G71) fun G75 =>
  bP (pNil v0) fun x76 =>
  bP (fa Q q 193 0 0 x76) fun x77 =>
  bP (fa Q q 190 0 0 x77) fun x78 =>
  bP (lda Q q 36 13 x78 (G75.room 30)) fun x79 =>
  bP (pNil v0) fun x80 =>
  bP (fa Q q 193 0 0 x80) fun x81 =>
  bP (fa Q q 190 4 19 x81) fun x82 =>
  bP (ld Q q 3 x82 (G75.room 30)) fun x83 =>
  bP (pNil v0) fun x84 =>
  bP (fa Q q 193 0 0 x84) fun x85 =>
  bP (fa Q q 190 1 13 x85) fun x86 =>
  bP (fa Q q 187 0 0 x86) fun x87 =>
  bP (ld Q q 3 x87 (G75.room 30)) fun x88 =>
  bS (e.ev.cl 100 [x79, x83, x88] (G75.room 30)) fun x90 G89 =>
  bP (pNil v0) fun x91 =>
  bP (fa Q q 193 0 0 x91) fun x92 =>
  bP (fa Q q 190 5 20 x92) fun x93 =>
  bP (ld Q q 188 x93 G89) fun x94 =>
  chk ((sameO (ld Q q 188 x93 (G75.room 30)) x94 && true)) <|
  bP (pNil v0) fun x95 =>
  bP (fa Q q 193 0 0 x95) fun x96 =>
  bP (fa Q q 190 5 20 x96) fun x97 =>
  bP (ld Q q 188 x97 G89) fun x98 =>
  chk ((sameO (ld Q q 188 x97 (G75.room 30)) x98 && true)) <|
  bS (e.ev.cl 291 [x98, (.bool true)] G89) fun x100 G99 =>
  chk ((sameO (ld Q q 188 x93 G99) x94 && true)) <|
  bS (e.ev.cl 242 [v1, x90, x94, x100] G99) fun x102 G101 =>
  ifV x102 (
  bS (e.ev.cl 285 [v0] G101) fun x103 G104 =>
  some (.tuple #[], G104)) (
  some (.tuple #[], G101))) (
  some (.tuple #[], G))))
theorem m288 {e : Ex} {E : Ev} (h : ExLe Q e E) (v0 v1 : Value) (G : GS) : Ref (s288 true e v0 v1 G) (s288 false (Ex.of E) v0 v1 G) := by
  unfold s288
  exact Ref.go
set_option maxHeartbeats 8000000 in
theorem f288 {orc : FuncId → Bool} {e : Ex} (h : ExLe Q e (E orc)) (v0 v1 : Value) (G : GS) : Ref (s288 true e v0 v1 G) ((E orc).cl 288 [v0, v1] G) :=
  fun r hr => cl_sxE_some Q orc (vs := [v0, v1]) G Tryz.func288 (by kernel_rfl) (by kernel_rfl) (by kernel_rfl) (by kernel_rfl) (by kernel_rfl) (by kernel_rfl) (m288 h v0 v1 G r hr)
/-- (*coxswain/claim.seeker[coxswain/claim.taking]).load -/
noncomputable def s289 (q : Bool) (e : Ex) (v0 v1 v2 : Value) (G : GS) : Option (Value × GS) :=
  bP (pNil v0) fun x0 =>
  bP (fa Q q 190 3 18 x0) fun x1 =>
  bP (ld Q q 38 x1 G) fun x2 =>
  bP (pNil v0) fun x3 =>
  bP (fa Q q 190 7 23 x3) fun x4 =>
  bP (st Q q 38 1 x4 x2 G) fun G5 =>
  bP (pNil v0) fun x6 =>
  bP (fa Q q 190 0 0 x6) fun x7 =>
  bP (lda Q q 36 13 x7 (G5.room 13)) fun x8 =>
  bP (pNil v0) fun x9 =>
  bP (fa Q q 190 4 19 x9) fun x10 =>
  bP (ld Q q 3 x10 (G5.room 13)) fun x11 =>
  bS (e.ev.cl 87 [x8, x11, v2] (G5.room 13)) fun x13 G12 =>
  bS (e.ev.cl 120 [v1, x13] G12) fun x15 G14 =>
  some (x15, G14)
theorem m289 {e : Ex} {E : Ev} (h : ExLe Q e E) (v0 v1 v2 : Value) (G : GS) : Ref (s289 true e v0 v1 v2 G) (s289 false (Ex.of E) v0 v1 v2 G) := by
  unfold s289
  exact Ref.go
theorem f289 {orc : FuncId → Bool} {e : Ex} (h : ExLe Q e (E orc)) (v0 v1 v2 : Value) (G : GS) : Ref (s289 true e v0 v1 v2 G) ((E orc).cl 289 [v0, v1, v2] G) :=
  fun r hr => cl_sxE_some Q orc (vs := [v0, v1, v2]) G Tryz.func289 (by kernel_rfl) (by kernel_rfl) (by kernel_rfl) (by kernel_rfl) (by kernel_rfl) (by kernel_rfl) (m289 h v0 v1 v2 G r hr)
/-- (coxswain/claim.link).marked -/
noncomputable def s290 (q : Bool) (e : Ex) (v0 : Value) (G : GS) : Option (Value × GS) :=
  bS (e.ev.cl 197 [v0] G) fun x0 G1 =>
  some (x0, G1)
theorem m290 {e : Ex} {E : Ev} (h : ExLe Q e E) (v0 : Value) (G : GS) : Ref (s290 true e v0 G) (s290 false (Ex.of E) v0 G) := by
  unfold s290
  exact Ref.go
theorem f290 {orc : FuncId → Bool} {e : Ex} (h : ExLe Q e (E orc)) (v0 : Value) (G : GS) : Ref (s290 true e v0 G) ((E orc).cl 290 [v0] G) :=
  fun r hr => cl_sxE_some Q orc (vs := [v0]) G Tryz.func290 (by kernel_rfl) (by kernel_rfl) (by kernel_rfl) (by kernel_rfl) (by kernel_rfl) (by kernel_rfl) (m290 h v0 G r hr)
/-- (coxswain/claim.link).marks -/
noncomputable def s291 (q : Bool) (e : Ex) (v0 v1 : Value) (G : GS) : Option (Value × GS) :=
  bS (e.ev.cl 223 [v0, v1] G) fun x0 G1 =>
  some (x0, G1)
theorem m291 {e : Ex} {E : Ev} (h : ExLe Q e E) (v0 v1 : Value) (G : GS) : Ref (s291 true e v0 v1 G) (s291 false (Ex.of E) v0 v1 G) := by
  unfold s291
  exact Ref.go
theorem f291 {orc : FuncId → Bool} {e : Ex} (h : ExLe Q e (E orc)) (v0 v1 : Value) (G : GS) : Ref (s291 true e v0 v1 G) ((E orc).cl 291 [v0, v1] G) :=
  fun r hr => cl_sxE_some Q orc (vs := [v0, v1]) G Tryz.func291 (by kernel_rfl) (by kernel_rfl) (by kernel_rfl) (by kernel_rfl) (by kernel_rfl) (by kernel_rfl) (m291 h v0 v1 G r hr)
/-- (*coxswain/claim.seeker[coxswain/claim.taking]).job -/
noncomputable def s292 (q : Bool) (e : Ex) (v0 v1 : Value) (G : GS) : Option (Value × GS) :=
  bS (e.ev.cl 289 [v0, v1, (.int .i64 1)] G) fun x0 G1 =>
  bP (bn Q q .and 38 (.tmp 7) (.const (.int .u64 65535)) x0 (.int .u64 65535)) fun x2 =>
  bP (cv Q q 38 3 .u64 .i64 x2) fun x3 =>
  bP (pNil v0) fun x4 =>
  bP (fa Q q 190 6 21 x4) fun x5 =>
  bP (fa Q q 46 1 1 x5) fun x6 =>
  bP (st Q q 3 1 x6 x3 G1) fun G7 =>
  some (.tuple #[], G7)
theorem m292 {e : Ex} {E : Ev} (h : ExLe Q e E) (v0 v1 : Value) (G : GS) : Ref (s292 true e v0 v1 G) (s292 false (Ex.of E) v0 v1 G) := by
  unfold s292
  exact Ref.go
theorem f292 {orc : FuncId → Bool} {e : Ex} (h : ExLe Q e (E orc)) (v0 v1 : Value) (G : GS) : Ref (s292 true e v0 v1 G) ((E orc).cl 292 [v0, v1] G) :=
  fun r hr => cl_sxE_some Q orc (vs := [v0, v1]) G Tryz.func292 (by kernel_rfl) (by kernel_rfl) (by kernel_rfl) (by kernel_rfl) (by kernel_rfl) (by kernel_rfl) (m292 h v0 v1 G r hr)
/-- (*coxswain/claim.Claim).leave -/
noncomputable def s293 (q : Bool) (e : Ex) (v0 v1 : Value) (G : GS) : Option (Value × GS) :=
  bP (pNil v0) fun x0 =>
  bP (fa Q q 193 0 0 x0) fun x1 =>
  bP (fa Q q 190 2 17 x1) fun x2 =>
  bP (ld Q q 3 x2 G) fun x3 =>
  bP (bn Q q .eql 3 (.tmp 8) (.const (.int .i64 10)) x3 (.int .i64 10)) fun x4 =>
  ifV x4 (
  bP (pNil v0) fun x5 =>
  bP (fa Q q 193 0 0 x5) fun x6 =>
  bP (fa Q q 190 1 13 x6) fun x7 =>
  bP (fa Q q 187 2 2 x7) fun x8 =>
  bP (ld Q q 184 x8 G) fun x9 =>
  bS (e.ev.cl 294 [x9, v1] G) fun x10 G11 =>
  ifV x10 (
  bP (pNil v0) fun x12 =>
  bP (fa Q q 193 0 0 x12) fun x13 =>
  bP (fa Q q 190 2 17 x13) fun x14 =>
  bP (st Q q 3 1 x14 (.int .i64 11) G11) fun G15 =>
  bP (pNil v0) fun x16 =>
  bP (fa Q q 193 0 0 x16) fun x17 =>
  bP (fa Q q 190 1 13 x17) fun x18 =>
  bP (fa Q q 187 2 2 x18) fun x19 =>
  bP (ld Q q 184 x19 G15) fun x20 =>
  bS (e.ev.cl 295 [x20] G15) fun x21 G22 =>
  bP (pNil v0) fun x23 =>
  bP (fa Q q 193 0 0 x23) fun x24 =>
  bP (fa Q q 190 7 23 x24) fun x25 =>
  bP (st Q q 38 1 x25 x21 G22) fun G26 =>
  some (.tuple #[], G26)) (
  bP (pNil v0) fun x27 =>
  bP (fa Q q 193 0 0 x27) fun x28 =>
  bP (fa Q q 190 1 13 x28) fun x29 =>
  bP (fa Q q 187 2 2 x29) fun x30 =>
  bP (ld Q q 184 x30 G11) fun x31 =>
  bS (e.ev.cl 295 [x31] G11) fun x32 G33 =>
  bP (pNil v0) fun x34 =>
  bP (fa Q q 193 0 0 x34) fun x35 =>
  bP (fa Q q 190 7 23 x35) fun x36 =>
  bP (st Q q 38 1 x36 x32 G33) fun G37 =>
  some (.tuple #[], G37))) (
  bP (bn Q q .eql 3 (.tmp 8) (.const (.int .i64 11)) x3 (.int .i64 11)) fun x38 =>
  ifV x38 (
  bP (pNil v0) fun x39 =>
  bP (fa Q q 193 0 0 x39) fun x40 =>
  bP (fa Q q 190 3 18 x40) fun x41 =>
  bP (ld Q q 38 x41 G) fun x42 =>
  bP (pNil v0) fun x43 =>
  bP (fa Q q 193 0 0 x43) fun x44 =>
  bP (fa Q q 190 7 23 x44) fun x45 =>
  bP (st Q q 38 1 x45 x42 G) fun G46 =>
  bP (pNil v0) fun x47 =>
  bP (fa Q q 193 0 0 x47) fun x48 =>
  bP (fa Q q 190 2 17 x48) fun x49 =>
  bP (st Q q 3 1 x49 (.int .i64 99) G46) fun G50 =>
  bP (pNil v0) fun x51 =>
  bP (fa Q q 193 0 0 x51) fun x52 =>
  bP (fa Q q 190 0 0 x52) fun x53 =>
  bP (lda Q q 36 13 x53 (G50.room 14)) fun x54 =>
  bP (pNil v0) fun x55 =>
  bP (fa Q q 193 0 0 x55) fun x56 =>
  bP (fa Q q 190 4 19 x56) fun x57 =>
  bP (ld Q q 3 x57 (G50.room 14)) fun x58 =>
  bS (e.ev.cl 87 [x54, x58, (.int .i64 3)] (G50.room 14)) fun x60 G59 =>
  bS (e.ev.cl 262 [v1, x60, (.int .u64 18446744073709551615)] G59) fun x62 G61 =>
  bP (bn Q q .eql 38 (.tmp 61) (.const (.int .u64 0)) x62 (.int .u64 0)) fun x63 =>
  ifV x63 (
  bP (pNil v0) fun x64 =>
  bP (fa Q q 193 0 0 x64) fun x65 =>
  bP (fa Q q 190 0 0 x65) fun x66 =>
  bP (fa Q q 36 3 3 x66) fun x67 =>
  bP (lda Q q 34 10 x67 (G61.room 23)) fun x68 =>
  bP (pNil v0) fun x69 =>
  bP (fa Q q 193 0 0 x69) fun x70 =>
  bP (fa Q q 190 4 19 x70) fun x71 =>
  bP (ld Q q 3 x71 (G61.room 23)) fun x72 =>
  bS (e.ev.cl 296 [x68, x72] (G61.room 23)) fun x74 G73 =>
  bP (pNil v0) fun x75 =>
  bP (fa Q q 193 0 0 x75) fun x76 =>
  bP (fa Q q 190 1 13 x76) fun x77 =>
  bP (fa Q q 187 3 3 x77) fun x78 =>
  bP (st Q q 185 1 x78 x74 G73) fun G79 =>
  bP (pNil v0) fun x80 =>
  bP (fa Q q 193 0 0 x80) fun x81 =>
  bP (fa Q q 190 2 17 x81) fun x82 =>
  bP (st Q q 3 1 x82 (.int .i64 12) G79) fun G83 =>
  some (.tuple #[], G83)) (
  some (.tuple #[], G61))) (
  bP (bn Q q .eql 3 (.tmp 8) (.const (.int .i64 12)) x3 (.int .i64 12)) fun x84 =>
  ifV x84 (
  bP (pNil v0) fun x85 =>
  bP (fa Q q 193 0 0 x85) fun x86 =>
  bP (fa Q q 190 7 23 x86) fun x87 =>
  bP (st Q q 38 1 x87 (.int .u64 0) G) fun G88 =>
  bP (pNil v0) fun x89 =>
  bP (fa Q q 193 0 0 x89) fun x90 =>
  bP (fa Q q 190 1 13 x90) fun x91 =>
  bP (fa Q q 187 3 3 x91) fun x92 =>
  bP (ld Q q 185 x92 G88) fun x93 =>
  bS (e.ev.cl 297 [x93, v1] G88) fun x94 G95 =>
  ifV x94 (
  bP (pNil v0) fun x96 =>
  bP (fa Q q 193 0 0 x96) fun x97 =>
  bP (fa Q q 190 2 17 x97) fun x98 =>
  bP (st Q q 3 1 x98 (.int .i64 99) G95) fun G99 =>
  some (.tuple #[], G99)) (
  some (.tuple #[], G95))) (
  some (.tuple #[], G))))
theorem m293 {e : Ex} {E : Ev} (h : ExLe Q e E) (v0 v1 : Value) (G : GS) : Ref (s293 true e v0 v1 G) (s293 false (Ex.of E) v0 v1 G) := by
  unfold s293
  exact Ref.go
set_option maxHeartbeats 8000000 in
theorem f293 {orc : FuncId → Bool} {e : Ex} (h : ExLe Q e (E orc)) (v0 v1 : Value) (G : GS) : Ref (s293 true e v0 v1 G) ((E orc).cl 293 [v0, v1] G) :=
  fun r hr => cl_sxE_some Q orc (vs := [v0, v1]) G Tryz.func293 (by kernel_rfl) (by kernel_rfl) (by kernel_rfl) (by kernel_rfl) (by kernel_rfl) (by kernel_rfl) (m293 h v0 v1 G r hr)
noncomputable def b294_0 (q : Bool) (e : Ex) (lp : Env → GS → Option (Exit × Env × GS)) (τ : Env) (G : GS) : Option (Exit × Env × GS) :=
  bV q (τ 0) fun a0_ =>
  bV q (τ 1) fun a1_ =>
  bV q (τ 5) fun a5_ =>
  bV q (τ 6) fun a6_ =>
  bP (pNil a0_) fun x0 =>
  bP (fa Q q 384 2 14 x0) fun x1 =>
  bP (ld Q q 3 x1 G) fun x2 =>
  bP (bn Q q .eql 3 (.tmp 56) (.const (.int .i64 1)) x2 (.int .i64 1)) fun x3 =>
  ifV x3 (
  bS (e.ev.cl 120 [a1_, a5_] G) fun x4 G5 =>
  bP (pNil a0_) fun x6 =>
  bP (fa Q q 384 3 15 x6) fun x7 =>
  bP (fa Q q 381 3 3 x7) fun x8 =>
  bP (st Q q 38 1 x8 x4 G5) fun G9 =>
  bP (pNil a0_) fun x10 =>
  bP (fa Q q 384 3 15 x10) fun x11 =>
  bP (fa Q q 381 3 3 x11) fun x12 =>
  bP (ld Q q 38 x12 G9) fun x13 =>
  bS (e.ev.cl 197 [x13] G9) fun x14 G15 =>
  ifV x14 (
  bS (e.ev.cl 240 [a0_] G15) fun x16 G17 =>
  some ((.exit 0), clq q 195 (tu τ [(0, a0_), (1, a1_), (5, a5_), (6, a6_), (53, a0_), (54, x0), (55, x1), (56, x2), (60, x3), (61, x3), (62, a0_), (63, a1_), (64, a5_), (65, x4), (66, x6), (67, x7), (68, x8), (69, a0_), (70, x10), (71, x11), (72, x12), (73, x13), (74, x14), (75, a0_), (76, x16)]), G17)) (
  bS (e.ev.cl 300 [a0_] G15) fun x18 G19 =>
  some ((.exit 0), clq q 195 (tu τ [(0, a0_), (1, a1_), (5, a5_), (6, a6_), (53, a0_), (54, x0), (55, x1), (56, x2), (60, x3), (61, x3), (62, a0_), (63, a1_), (64, a5_), (65, x4), (66, x6), (67, x7), (68, x8), (69, a0_), (70, x10), (71, x11), (72, x12), (73, x13), (74, x14), (188, a0_), (189, x18)]), G19))) (
  bP (bn Q q .eql 3 (.tmp 56) (.const (.int .i64 2)) x2 (.int .i64 2)) fun x20 =>
  ifV x20 (
  bP (pNil a0_) fun x21 =>
  bP (fa Q q 384 3 15 x21) fun x22 =>
  bP (fa Q q 381 3 3 x22) fun x23 =>
  bP (ld Q q 38 x23 G) fun x24 =>
  bP (pNil a0_) fun x25 =>
  bP (fa Q q 384 6 21 x25) fun x26 =>
  bP (st Q q 38 1 x26 x24 G) fun G27 =>
  bP (pNil a0_) fun x28 =>
  bP (fa Q q 384 0 0 x28) fun x29 =>
  bP (lda Q q 36 13 x29 (G27.room 17)) fun x30 =>
  bP (pNil a0_) fun x31 =>
  bP (fa Q q 384 3 15 x31) fun x32 =>
  bP (fa Q q 381 0 0 x32) fun x33 =>
  bP (ld Q q 3 x33 (G27.room 17)) fun x34 =>
  bS (e.ev.cl 100 [x30, a6_, x34] (G27.room 17)) fun x36 G35 =>
  bS (e.ev.cl 120 [a1_, x36] G35) fun x38 G37 =>
  bP (pNil a0_) fun x39 =>
  bP (fa Q q 384 4 19 x39) fun x40 =>
  bP (st Q q 38 1 x40 x38 G37) fun G41 =>
  bP (pNil a0_) fun x42 =>
  bP (fa Q q 384 2 14 x42) fun x43 =>
  bP (st Q q 3 1 x43 (.int .i64 4) G41) fun G44 =>
  bP (pNil a0_) fun x45 =>
  bP (fa Q q 384 4 19 x45) fun x46 =>
  bP (ld Q q 38 x46 G44) fun x47 =>
  bS (e.ev.cl 197 [x47] G44) fun x48 G49 =>
  ifV x48 (
  bP (pNil a0_) fun x50 =>
  bP (fa Q q 384 2 14 x50) fun x51 =>
  bP (st Q q 3 1 x51 (.int .i64 3) G49) fun G52 =>
  some ((.exit 0), clq q 195 (tu τ [(0, a0_), (1, a1_), (5, a5_), (6, a6_), (53, a0_), (54, x0), (55, x1), (56, x2), (60, x3), (61, x3), (77, x20), (78, x20), (79, a0_), (80, a0_), (81, x21), (82, x22), (83, x23), (84, x24), (85, x25), (86, x26), (87, a0_), (88, a1_), (89, a0_), (90, x28), (91, x29), (92, x30), (93, a6_), (94, a0_), (95, x31), (96, x32), (97, x33), (98, x34), (99, x36), (100, x38), (101, x39), (102, x40), (103, a0_), (104, x42), (105, x43), (106, a0_), (107, x45), (108, x46), (109, x47), (110, x48), (111, a0_), (112, x50), (113, x51)]), G52)) (
  some ((.exit 0), clq q 195 (tu τ [(0, a0_), (1, a1_), (5, a5_), (6, a6_), (53, a0_), (54, x0), (55, x1), (56, x2), (60, x3), (61, x3), (77, x20), (78, x20), (79, a0_), (80, a0_), (81, x21), (82, x22), (83, x23), (84, x24), (85, x25), (86, x26), (87, a0_), (88, a1_), (89, a0_), (90, x28), (91, x29), (92, x30), (93, a6_), (94, a0_), (95, x31), (96, x32), (97, x33), (98, x34), (99, x36), (100, x38), (101, x39), (102, x40), (103, a0_), (104, x42), (105, x43), (106, a0_), (107, x45), (108, x46), (109, x47), (110, x48)]), G49))) (
  bP (bn Q q .eql 3 (.tmp 56) (.const (.int .i64 3)) x2 (.int .i64 3)) fun x53 =>
  ifV x53 (
  bP (pNil a0_) fun x54 =>
  bP (fa Q q 384 3 15 x54) fun x55 =>
  bP (fa Q q 381 3 3 x55) fun x56 =>
  bP (ld Q q 38 x56 (G.room 14)) fun x57 =>
  bP (pNil a0_) fun x58 =>
  bP (fa Q q 384 4 19 x58) fun x59 =>
  bP (ld Q q 38 x59 (G.room 14)) fun x60 =>
  bS (e.ev.cl 223 [x60, (.bool false)] (G.room 14)) fun x62 G61 =>
  chk ((sameO (ld Q q 38 x56 G61) x57 && true)) <|
  bS (e.ev.cl 242 [a1_, a5_, x57, x62] G61) fun x64 G63 =>
  bP (un Q q .not x64) fun x65 =>
  ifV x65 (
  bS (e.ev.cl 240 [a0_] G63) fun x66 G67 =>
  some ((.exit 0), clq q 195 (tu τ [(0, a0_), (1, a1_), (5, a5_), (6, a6_), (53, a0_), (54, x0), (55, x1), (56, x2), (60, x3), (61, x3), (77, x20), (78, x20), (114, x53), (115, x53), (116, a1_), (117, a5_), (118, a0_), (119, x54), (120, x55), (121, x56), (122, x57), (123, a0_), (124, x58), (125, x59), (126, x60), (127, x62), (128, x64), (129, x65), (130, a0_), (131, x66)]), G67)) (
  bP (pNil a0_) fun x68 =>
  bP (fa Q q 384 4 19 x68) fun x69 =>
  bP (ld Q q 38 x69 G63) fun x70 =>
  bS (e.ev.cl 223 [x70, (.bool false)] G63) fun x71 G72 =>
  bP (pNil a0_) fun x73 =>
  bP (fa Q q 384 3 15 x73) fun x74 =>
  bP (fa Q q 381 3 3 x74) fun x75 =>
  bP (st Q q 38 1 x75 x71 G72) fun G76 =>
  bS (e.ev.cl 300 [a0_] G76) fun x77 G78 =>
  some ((.exit 0), clq q 195 (tu τ [(0, a0_), (1, a1_), (5, a5_), (6, a6_), (53, a0_), (54, x0), (55, x1), (56, x2), (60, x3), (61, x3), (77, x20), (78, x20), (114, x53), (115, x53), (116, a1_), (117, a5_), (118, a0_), (119, x54), (120, x55), (121, x56), (122, x57), (123, a0_), (124, x58), (125, x59), (126, x60), (127, x62), (128, x64), (129, x65), (132, a0_), (133, a0_), (134, x68), (135, x69), (136, x70), (137, x71), (138, x73), (139, x74), (140, x75), (188, a0_), (189, x77)]), G78))) (
  bP (bn Q q .eql 3 (.tmp 56) (.const (.int .i64 4)) x2 (.int .i64 4)) fun x79 =>
  ifV x79 (
  bP (pNil a0_) fun x80 =>
  bP (fa Q q 384 3 15 x80) fun x81 =>
  bP (fa Q q 381 3 3 x81) fun x82 =>
  bP (ld Q q 38 x82 G) fun x83 =>
  bP (pNil a0_) fun x84 =>
  bP (fa Q q 384 6 21 x84) fun x85 =>
  bP (st Q q 38 1 x85 x83 G) fun G86 =>
  bP (pNil a0_) fun x87 =>
  bP (fa Q q 384 0 0 x87) fun x88 =>
  bP (lda Q q 36 13 x88 (G86.room 13)) fun x89 =>
  bS (e.ev.cl 87 [x89, a6_, (.int .i64 0)] (G86.room 13)) fun x91 G90 =>
  bS (e.ev.cl 120 [a1_, x91] G90) fun x93 G92 =>
  bP (pNil a0_) fun x94 =>
  bP (fa Q q 384 1 13 x94) fun x95 =>
  bP (ld Q q 38 x95 G92) fun x96 =>
  chk ((sameO (ld Q q 38 x95 G90) x96 && (sameO (ld Q q 38 x95 (G86.room 13)) x96 && true))) <|
  bP (bn Q q .geq 38 (.tmp 158) (.tmp 162) x93 x96) fun x97 =>
  ifV x97 (
  bS (e.ev.cl 299 [a0_] G92) fun x98 G99 =>
  some ((.exit 0), clq q 195 (tu τ [(0, a0_), (1, a1_), (5, a5_), (6, a6_), (53, a0_), (54, x0), (55, x1), (56, x2), (60, x3), (61, x3), (77, x20), (78, x20), (114, x53), (115, x53), (141, x79), (142, x79), (143, a0_), (144, a0_), (145, x80), (146, x81), (147, x82), (148, x83), (149, x84), (150, x85), (151, a1_), (152, a0_), (153, x87), (154, x88), (155, x89), (156, a6_), (157, x91), (158, x93), (159, a0_), (160, x94), (161, x95), (162, x96), (163, x97), (164, a0_), (165, x98)]), G99)) (
  bP (pNil a0_) fun x100 =>
  bP (fa Q q 384 3 15 x100) fun x101 =>
  bP (fa Q q 381 3 3 x101) fun x102 =>
  bP (ld Q q 38 x102 (G92.room 25)) fun x103 =>
  bP (pNil a0_) fun x104 =>
  bP (fa Q q 384 4 19 x104) fun x105 =>
  bP (ld Q q 38 x105 (G92.room 25)) fun x106 =>
  bP (pNil a0_) fun x107 =>
  bP (fa Q q 384 3 15 x107) fun x108 =>
  bP (fa Q q 381 1 1 x108) fun x109 =>
  bP (st Q q 3 1 x109 a6_ (G92.room 25)) fun G110 =>
  bP (pNil a0_) fun x111 =>
  bP (fa Q q 384 3 15 x111) fun x112 =>
  bP (fa Q q 381 2 2 x112) fun x113 =>
  bP (st Q q 38 1 x113 x103 G110) fun G114 =>
  bP (pNil a0_) fun x115 =>
  bP (fa Q q 384 3 15 x115) fun x116 =>
  bP (fa Q q 381 3 3 x116) fun x117 =>
  bP (st Q q 38 1 x117 x106 G114) fun G118 =>
  bS (e.ev.cl 300 [a0_] G118) fun x119 G120 =>
  some ((.exit 0), clq q 195 (tu τ [(0, a0_), (1, a1_), (5, a5_), (6, a6_), (53, a0_), (54, x0), (55, x1), (56, x2), (60, x3), (61, x3), (77, x20), (78, x20), (114, x53), (115, x53), (141, x79), (142, x79), (143, a0_), (144, a0_), (145, x80), (146, x81), (147, x82), (148, x83), (149, x84), (150, x85), (151, a1_), (152, a0_), (153, x87), (154, x88), (155, x89), (156, a6_), (157, x91), (158, x93), (159, a0_), (160, x94), (161, x95), (162, x96), (163, x97), (166, a0_), (167, a0_), (168, a0_), (169, a6_), (170, a0_), (171, x100), (172, x101), (173, x102), (174, x103), (175, a0_), (176, x104), (177, x105), (178, x106), (179, x107), (180, x108), (181, x109), (182, x111), (183, x112), (184, x113), (185, x115), (186, x116), (187, x117), (188, a0_), (189, x119)]), G120))) (
  bP (pNil a0_) fun x121 =>
  bP (fa Q q 384 2 14 x121) fun x122 =>
  bP (st Q q 3 1 x122 (.int .i64 1) G) fun G123 =>
  lp (tu τ [(0, a0_), (1, a1_), (5, a5_), (6, a6_), (53, a0_), (54, x0), (55, x1), (56, x2), (57, a0_), (58, x121), (59, x122), (60, x3), (61, x3), (77, x20), (78, x20), (114, x53), (115, x53), (141, x79), (142, x79)]) G123))))
theorem mb294_0 {e : Ex} {E : Ev} (h : ExLe Q e E) {lp lp' : Env → GS → Option (Exit × Env × GS)} (hlp : LpLe lp lp') (τ : Env) (G : GS) : Ref (b294_0 true e lp τ G) (b294_0 false (Ex.of E) lp' τ G) := by
  unfold b294_0
  exact Ref.go
set_option maxHeartbeats 8000000 in
theorem l294_0 {orc : FuncId → Bool} {e : Ex} (h : ExLe Q e (E orc)) (lp : Env → GS → Option (Exit × Env × GS)) (hlp : ∀ τ G, Ref (lp τ G) (mapE ((E orc).lp (subAt [1, 0, 1, 1, 1, 1, 1, 0, 0, 0] (bodyOf Tryz.f294)) (lst 195 τ) G))) (T : List Value) (G : GS) (hT : T.length = 195) : Ref (b294_0 true e lp (nth undef T) G) (mapE ((E orc).lp (subAt [1, 0, 1, 1, 1, 1, 1, 0, 0, 0] (bodyOf Tryz.f294)) T G)) :=
  fun r hr => lp_sxM Q orc G hT (by kernel_rfl) (mb294_0 h ⟨hlp⟩ _ _ r hr)
/-- (*coxswain/find.Find).Step -/
noncomputable def s294 (q : Bool) (e : Ex) (v0 v1 : Value) (G : GS) : Option (Value × GS) :=
  bP (ep Q q false 184 (.tmp 7) (.const (.pointer none)) v0 (.pointer none)) fun x0 =>
  bS (gd x0 false (some (v0, G)) G) fun x1 G2 =>
  bS (gd x0 false (bP (pNil x1) fun y => some (y, G2)) G2) fun x3 G4 =>
  bS (gd x0 false (bP (fa Q q 384 7 22 x3) fun y => some (y, G4)) G4) fun x5 G6 =>
  bS (gd x0 false (bP (ld Q q 4 x5 G6) fun y => some (y, G6)) G6) fun x7 G8 =>
  bS (gd x0 false (bP (un Q q .not x7) fun y => some (y, G8)) G8) fun x9 G10 =>
  bP (pickV x0 (.bool true) x9) fun x11 =>
  bS (gd x11 false (some (v0, G10)) G10) fun x12 G13 =>
  bS (gd x11 false (bP (pNil x12) fun y => some (y, G13)) G13) fun x14 G15 =>
  bS (gd x11 false (bP (fa Q q 384 2 14 x14) fun y => some (y, G15)) G15) fun x16 G17 =>
  bS (gd x11 false (bP (ld Q q 3 x16 G17) fun y => some (y, G17)) G17) fun x18 G19 =>
  bS (gd x11 false (bP (bn Q q .eql 3 (.tmp 20) (.const (.int .i64 9)) x18 (.int .i64 9)) fun y => some (y, G19)) G19) fun x20 G21 =>
  bP (pickV x11 (.bool true) x20) fun x22 =>
  ifV x22 (
  some ((.bool true), G21)) (
  bP (pNil v0) fun x23 =>
  bP (fa Q q 384 0 0 x23) fun x24 =>
  bP (lda Q q 36 13 x24 (G21.room 16)) fun x25 =>
  bP (pNil v0) fun x26 =>
  bP (fa Q q 384 3 15 x26) fun x27 =>
  bP (fa Q q 381 1 1 x27) fun x28 =>
  bP (ld Q q 3 x28 (G21.room 16)) fun x29 =>
  bP (pNil v0) fun x30 =>
  bP (fa Q q 384 3 15 x30) fun x31 =>
  bP (fa Q q 381 0 0 x31) fun x32 =>
  bP (ld Q q 3 x32 (G21.room 16)) fun x33 =>
  bS (e.ev.cl 100 [x25, x29, x33] (G21.room 16)) fun x35 G34 =>
  bP (pNil v0) fun x36 =>
  bP (fa Q q 384 3 15 x36) fun x37 =>
  bP (fa Q q 381 3 3 x37) fun x38 =>
  bP (ld Q q 38 x38 G34) fun x39 =>
  bS (e.ev.cl 298 [v0, x39] G34) fun x40 G41 =>
  bP (pNil v0) fun x42 =>
  bP (fa Q q 384 3 15 x42) fun x43 =>
  bP (fa Q q 381 2 2 x43) fun x44 =>
  bP (ld Q q 38 x44 G41) fun x45 =>
  bP (pNil v0) fun x46 =>
  bP (fa Q q 384 6 21 x46) fun x47 =>
  bP (st Q q 38 1 x47 x45 G41) fun G48 =>
  bL q e 294 0 (subAt [1, 0, 1, 1, 1, 1, 1, 0, 0, 0] (bodyOf Tryz.f294)) 195 (tu (nth undef [v0, v1]) [(4, (.bool false)), (5, x35), (6, x40), (7, v0), (8, x0), (9, x0), (10, x1), (11, x3), (12, x5), (13, x7), (14, x9), (15, x11), (16, x11), (17, x12), (18, x14), (19, x16), (20, x18), (21, x20), (22, x22), (23, v0), (24, x23), (25, x24), (26, x25), (27, v0), (28, x26), (29, x27), (30, x28), (31, x29), (32, v0), (33, x30), (34, x31), (35, x32), (36, x33), (37, x35), (38, v0), (39, v0), (40, x36), (41, x37), (42, x38), (43, x39), (44, x40), (45, v0), (46, v0), (47, x42), (48, x43), (49, x44), (50, x45), (51, x46), (52, x47)]) G48 fun e49 t50 G51 =>
  bV q (t50 0) fun t50x0_ =>
  ifE e49 (.exit 0) (
  bP (pNil t50x0_) fun x52 =>
  bP (fa Q q 384 2 14 x52) fun x53 =>
  bP (ld Q q 3 x53 G51) fun x54 =>
  bP (bn Q q .eql 3 (.tmp 193) (.const (.int .i64 9)) x54 (.int .i64 9)) fun x55 =>
  some (x55, G51)) (none))
theorem m294 {e : Ex} {E : Ev} (h : ExLe Q e E) (v0 v1 : Value) (G : GS) : Ref (s294 true e v0 v1 G) (s294 false (Ex.of E) v0 v1 G) := by
  unfold s294
  exact Ref.go
set_option maxHeartbeats 8000000 in
theorem f294 {orc : FuncId → Bool} {e : Ex} (h : ExLe Q e (E orc)) (v0 v1 : Value) (G : GS) : Ref (s294 true e v0 v1 G) ((E orc).cl 294 [v0, v1] G) :=
  fun r hr => cl_sxE_some Q orc (vs := [v0, v1]) G Tryz.func294 (by kernel_rfl) (by kernel_rfl) (by kernel_rfl) (by kernel_rfl) (by kernel_rfl) (by kernel_rfl) (m294 h v0 v1 G r hr)
/-- (*coxswain/find.Find).By -/
noncomputable def s295 (q : Bool) (e : Ex) (v0 : Value) (G : GS) : Option (Value × GS) :=
  bP (ep Q q false 184 (.tmp 3) (.const (.pointer none)) v0 (.pointer none)) fun x0 =>
  ifV x0 (
  some ((.int .u64 0), G)) (
  bP (pNil v0) fun x1 =>
  bP (fa Q q 384 6 21 x1) fun x2 =>
  bP (ld Q q 38 x2 G) fun x3 =>
  some (x3, G))
theorem m295 {e : Ex} {E : Ev} (h : ExLe Q e E) (v0 : Value) (G : GS) : Ref (s295 true e v0 G) (s295 false (Ex.of E) v0 G) := by
  unfold s295
  exact Ref.go
theorem f295 {orc : FuncId → Bool} {e : Ex} (h : ExLe Q e (E orc)) (v0 : Value) (G : GS) : Ref (s295 true e v0 G) ((E orc).cl 295 [v0] G) :=
  fun r hr => cl_sxE_some Q orc (vs := [v0]) G Tryz.func295 (by kernel_rfl) (by kernel_rfl) (by kernel_rfl) (by kernel_rfl) (by kernel_rfl) (by kernel_rfl) (m295 h v0 G r hr)
/-- coxswain/limbo.NewRetire -/
noncomputable def s296 (q : Bool) (e : Ex) (v0 v1 : Value) (G : GS) : Option (Value × GS) :=
  bS (bx q v0 G) fun x0 G1 =>
  bP (bd Q q 345 z345 [(1, 1, 1)] [(.bool true)]) fun x2 =>
  bP (lda Q q 34 10 x0 G1) fun x3 =>
  bP (bd Q q 419 z419 [(0, 0, 3), (1, 3, 10), (2, 13, 1)] [x2, x3, v1]) fun x4 =>
  bS (bx q x4 G1) fun x5 G6 =>
  bP (bn Q q .lss 3 (.tmp 11) (.const (.int .i64 0)) v1 (.int .i64 0)) fun x7 =>
  bS (gd x7 false (some (v1, G6)) G6) fun x8 G9 =>
  bS (gd x7 false (bP (fa Q q 34 0 0 x0) fun y => some (y, G9)) G9) fun x10 G11 =>
  bS (gd x7 false (bP (fa Q q 30 0 0 x10) fun y => some (y, G11)) G11) fun x12 G13 =>
  bS (gd x7 false (bP (fa Q q 28 2 2 x12) fun y => some (y, G13)) G13) fun x14 G15 =>
  bS (gd x7 false (bP (ld Q q 3 x14 G15) fun y => some (y, G15)) G15) fun x16 G17 =>
  bS (gd x7 false (bP (bn Q q .geq 3 (.tmp 14) (.tmp 18) x8 x16) fun y => some (y, G17)) G17) fun x18 G19 =>
  bP (pickV x7 (.bool true) x18) fun x20 =>
  ifV x20 (
  bP (pNil x5) fun x21 =>
  bP (fa Q q 419 0 0 x21) fun x22 =>
  bP (fa Q q 345 2 2 x22) fun x23 =>
  bP (st Q q 23 1 x23 (.int .i64 3) G19) fun G24 =>
  some (x5, G24)) (
  bP (pNil x5) fun x25 =>
  bP (fa Q q 419 0 0 x25) fun x26 =>
  bP (fa Q q 345 0 0 x26) fun x27 =>
  bP (st Q q 343 1 x27 (.func (.func 301) #[x5] #[]) G19) fun G28 =>
  some (x5, G28))
theorem m296 {e : Ex} {E : Ev} (h : ExLe Q e E) (v0 v1 : Value) (G : GS) : Ref (s296 true e v0 v1 G) (s296 false (Ex.of E) v0 v1 G) := by
  unfold s296
  exact Ref.go
theorem f296 {orc : FuncId → Bool} {e : Ex} (h : ExLe Q e (E orc)) (v0 v1 : Value) (G : GS) : Ref (s296 true e v0 v1 G) ((E orc).cl 296 [v0, v1] G) :=
  fun r hr => cl_sxE_some Q orc (vs := [v0, v1]) G Tryz.func296 (by kernel_rfl) (by kernel_rfl) (by kernel_rfl) (by kernel_rfl) (by kernel_rfl) (by kernel_rfl) (m296 h v0 v1 G r hr)
/-- (*coxswain/limbo.Retire).Step -/
noncomputable def s297 (q : Bool) (e : Ex) (v0 v1 : Value) (G : GS) : Option (Value × GS) :=
  bP (ep Q q false 185 (.tmp 5) (.const (.pointer none)) v0 (.pointer none)) fun x0 =>
  bS (gd x0 false (some (v0, G)) G) fun x1 G2 =>
  bS (gd x0 false (bP (pNil x1) fun y => some (y, G2)) G2) fun x3 G4 =>
  bS (gd x0 false (bP (fa Q q 419 0 0 x3) fun y => some (y, G4)) G4) fun x5 G6 =>
  bS (gd x0 false (some (v1, G6)) G6) fun x7 G8 =>
  bS (gd x0 false (bS (e.ev.cl 302 [x5, x7] G8) fun y G => some (y, G)) G8) fun x9 G10 =>
  bP (pickV x0 (.bool true) x9) fun x11 =>
  some (x11, G10)
theorem m297 {e : Ex} {E : Ev} (h : ExLe Q e E) (v0 v1 : Value) (G : GS) : Ref (s297 true e v0 v1 G) (s297 false (Ex.of E) v0 v1 G) := by
  unfold s297
  exact Ref.go
theorem f297 {orc : FuncId → Bool} {e : Ex} (h : ExLe Q e (E orc)) (v0 v1 : Value) (G : GS) : Ref (s297 true e v0 v1 G) ((E orc).cl 297 [v0, v1] G) :=
  fun r hr => cl_sxE_some Q orc (vs := [v0, v1]) G Tryz.func297 (by kernel_rfl) (by kernel_rfl) (by kernel_rfl) (by kernel_rfl) (by kernel_rfl) (by kernel_rfl) (m297 h v0 v1 G r hr)
/-- (*coxswain/find.Find).index -/
noncomputable def s298 (q : Bool) (e : Ex) (v0 v1 : Value) (G : GS) : Option (Value × GS) :=
  bS (e.ev.cl 221 [v1] G) fun x0 G1 =>
  bP (pExtract x0 0) fun x2 =>
  bP (pExtract x0 1) fun x3 =>
  bS (al Q q 357 z357 G1) fun x4 G5 =>
  bP (st Q q 357 2 x4 x2 G5) fun G6 =>
  bP (fa Q q 357 0 0 x4) fun x7 =>
  bP (ld Q q 3 x7 (G6.room 11)) fun x8 =>
  bP (pNil v0) fun x9 =>
  bP (fa Q q 384 0 0 x9) fun x10 =>
  bP (fa Q q 36 3 3 x10) fun x11 =>
  bP (fa Q q 34 0 0 x11) fun x12 =>
  bP (fa Q q 30 0 0 x12) fun x13 =>
  bP (fa Q q 28 2 2 x13) fun x14 =>
  bP (ld Q q 3 x14 (G6.room 11)) fun x15 =>
  bP (bn Q q .geq 3 (.tmp 13) (.tmp 21) x8 x15) fun x16 =>
  ifV x16 (
  some ((.int .i64 (-1)), (G6.room 11))) (
  bP (fa Q q 357 0 0 x4) fun x17 =>
  bP (ld Q q 3 x17 (G6.room 11)) fun x18 =>
  some (x18, (G6.room 11)))
theorem m298 {e : Ex} {E : Ev} (h : ExLe Q e E) (v0 v1 : Value) (G : GS) : Ref (s298 true e v0 v1 G) (s298 false (Ex.of E) v0 v1 G) := by
  unfold s298
  exact Ref.go
theorem f298 {orc : FuncId → Bool} {e : Ex} (h : ExLe Q e (E orc)) (v0 v1 : Value) (G : GS) : Ref (s298 true e v0 v1 G) ((E orc).cl 298 [v0, v1] G) :=
  fun r hr => cl_sxE_some Q orc (vs := [v0, v1]) G Tryz.func298 (by kernel_rfl) (by kernel_rfl) (by kernel_rfl) (by kernel_rfl) (by kernel_rfl) (by kernel_rfl) (m298 h v0 v1 G r hr)
/-- (*coxswain/find.Find).done -/
noncomputable def s299 (q : Bool) (e : Ex) (v0 : Value) (G : GS) : Option (Value × GS) :=
  bP (pNil v0) fun x0 =>
  bP (fa Q q 384 5 20 x0) fun x1 =>
  bP (ld Q q 382 x1 (G.room 15)) fun x2 =>
  bP (pNil v0) fun x3 =>
  bP (fa Q q 384 3 15 x3) fun x4 =>
  bP (fa Q q 381 0 0 x4) fun x5 =>
  bP (ld Q q 3 x5 (G.room 15)) fun x6 =>
  bP (pNil v0) fun x7 =>
  bP (fa Q q 384 3 15 x7) fun x8 =>
  bP (lda Q q 381 4 x8 (G.room 15)) fun x9 =>
  bP (ias Q q 382 4 x2 x6) fun x10 =>
  bP (st Q q 381 4 x10 x9 (G.room 15)) fun G11 =>
  bP (pNil v0) fun x12 =>
  bP (fa Q q 384 3 15 x12) fun x13 =>
  bP (fa Q q 381 0 0 x13) fun x14 =>
  bP (ld Q q 3 x14 G11) fun x15 =>
  bP (bn Q q .sub 3 (.tmp 21) (.const (.int .i64 1)) x15 (.int .i64 1)) fun x16 =>
  bS (e.ev.cl 248 [v0, x16] G11) fun x17 G18 =>
  some (.tuple #[], G18)
theorem m299 {e : Ex} {E : Ev} (h : ExLe Q e E) (v0 : Value) (G : GS) : Ref (s299 true e v0 G) (s299 false (Ex.of E) v0 G) := by
  unfold s299
  exact Ref.go
theorem f299 {orc : FuncId → Bool} {e : Ex} (h : ExLe Q e (E orc)) (v0 : Value) (G : GS) : Ref (s299 true e v0 G) ((E orc).cl 299 [v0] G) :=
  fun r hr => cl_sxE_some Q orc (vs := [v0]) G Tryz.func299 (by kernel_rfl) (by kernel_rfl) (by kernel_rfl) (by kernel_rfl) (by kernel_rfl) (by kernel_rfl) (m299 h v0 G r hr)
/-- (*coxswain/find.Find).looks -/
noncomputable def s300 (q : Bool) (e : Ex) (v0 : Value) (G : GS) : Option (Value × GS) :=
  bP (pNil v0) fun x0 =>
  bP (fa Q q 384 2 14 x0) fun x1 =>
  bP (st Q q 3 1 x1 (.int .i64 2) G) fun G2 =>
  bP (pNil v0) fun x3 =>
  bP (fa Q q 384 3 15 x3) fun x4 =>
  bP (fa Q q 381 3 3 x4) fun x5 =>
  bP (ld Q q 38 x5 G2) fun x6 =>
  bS (e.ev.cl 298 [v0, x6] G2) fun x7 G8 =>
  bP (bn Q q .lss 3 (.tmp 11) (.const (.int .i64 0)) x7 (.int .i64 0)) fun x9 =>
  ifV x9 (
  bS (e.ev.cl 299 [v0] G8) fun x10 G11 =>
  some (.tuple #[], G11)) (
  some (.tuple #[], G8))
theorem m300 {e : Ex} {E : Ev} (h : ExLe Q e E) (v0 : Value) (G : GS) : Ref (s300 true e v0 G) (s300 false (Ex.of E) v0 G) := by
  unfold s300
  exact Ref.go
theorem f300 {orc : FuncId → Bool} {e : Ex} (h : ExLe Q e (E orc)) (v0 : Value) (G : GS) : Ref (s300 true e v0 G) ((E orc).cl 300 [v0] G) :=
  fun r hr => cl_sxE_some Q orc (vs := [v0]) G Tryz.func300 (by kernel_rfl) (by kernel_rfl) (by kernel_rfl) (by kernel_rfl) (by kernel_rfl) (by kernel_rfl) (m300 h v0 G r hr)
/-- (*coxswain/limbo.Retire).looks -/
noncomputable def s301 (q : Bool) (e : Ex) (v0 v1 : Value) (G : GS) : Option (Value × GS) :=
  bP (pNil v0) fun x0 =>
  bP (fa Q q 419 1 3 x0) fun x1 =>
  bP (fa Q q 34 1 6 x1) fun x2 =>
  bP (fa Q q 32 0 0 x2) fun x3 =>
  bP (ld Q q 3 x3 G) fun x4 =>
  bS (e.ev.cl 120 [v1, x4] G) fun x5 G6 =>
  bP (bn Q q .and 38 (.tmp 13) (.const (.int .u64 4294967295)) x5 (.int .u64 4294967295)) fun x7 =>
  bP (bn Q q .rem 38 (.tmp 16) (.const (.int .u64 3)) x7 (.int .u64 3)) fun x8 =>
  bP (cv Q q 38 248 .u64 .i64 x8) fun x9 =>
  bP (pNil v0) fun x10 =>
  bP (fa Q q 419 1 3 x10) fun x11 =>
  bP (lda Q q 34 10 x11 (G6.room 17)) fun x12 =>
  bS (e.ev.cl 149 [x9, x12] (G6.room 17)) fun x14 G13 =>
  bP (pNil v0) fun x15 =>
  bP (fa Q q 419 2 13 x15) fun x16 =>
  bP (ld Q q 3 x16 G13) fun x17 =>
  chk ((sameO (ld Q q 3 x16 (G6.room 17)) x17 && true)) <|
  bS (e.ev.cl 253 [x14, x17] G13) fun x19 G18 =>
  bP (pNil v0) fun x20 =>
  bP (fa Q q 419 3 14 x20) fun x21 =>
  bP (st Q q 391 1 x21 x19 G18) fun G22 =>
  some ((.func (.func 303) #[v0] #[]), G22)
theorem m301 {e : Ex} {E : Ev} (h : ExLe Q e E) (v0 v1 : Value) (G : GS) : Ref (s301 true e v0 v1 G) (s301 false (Ex.of E) v0 v1 G) := by
  unfold s301
  exact Ref.go
theorem f301 {orc : FuncId → Bool} {e : Ex} (h : ExLe Q e (E orc)) (v0 v1 : Value) (G : GS) : Ref (s301 true e v0 v1 G) ((E orc).cl 301 [v0, v1] G) :=
  fun r hr => cl_sxE_some Q orc (vs := [v0, v1]) G Tryz.func301 (by kernel_rfl) (by kernel_rfl) (by kernel_rfl) (by kernel_rfl) (by kernel_rfl) (by kernel_rfl) (m301 h v0 v1 G r hr)
/-- (*coxswain/limbo.machine).step -/
noncomputable def s302 (q : Bool) (e : Ex) (v0 v1 : Value) (G : GS) : Option (Value × GS) :=
  bP (pNil v0) fun x0 =>
  bP (fa Q q 345 0 0 x0) fun x1 =>
  bP (ld Q q 343 x1 G) fun x2 =>
  bP (ef Q q true 343 (.tmp 8) (.const .nilFunc) x2 .nilFunc) fun x3 =>
  ifV x3 (
  bP (pNil v0) fun x4 =>
  bP (fa Q q 345 0 0 x4) fun x5 =>
  bP (ld Q q 343 x5 G) fun x6 =>
  bS (cValue e.ev x6 [v1] G) fun x7 G8 =>
  bP (pNil v0) fun x9 =>
  bP (fa Q q 345 0 0 x9) fun x10 =>
  bP (st Q q 343 1 x10 x7 G8) fun G11 =>
  bP (pNil v0) fun x12 =>
  bP (fa Q q 345 0 0 x12) fun x13 =>
  bP (ld Q q 343 x13 G11) fun x14 =>
  bP (ef Q q false 343 (.tmp 22) (.const .nilFunc) x14 .nilFunc) fun x15 =>
  some (x15, G11)) (
  bP (pNil v0) fun x16 =>
  bP (fa Q q 345 0 0 x16) fun x17 =>
  bP (ld Q q 343 x17 G) fun x18 =>
  bP (ef Q q false 343 (.tmp 22) (.const .nilFunc) x18 .nilFunc) fun x19 =>
  some (x19, G))
theorem m302 {e : Ex} {E : Ev} (h : ExLe Q e E) (v0 v1 : Value) (G : GS) : Ref (s302 true e v0 v1 G) (s302 false (Ex.of E) v0 v1 G) := by
  unfold s302
  exact Ref.go
theorem f302 {orc : FuncId → Bool} {e : Ex} (h : ExLe Q e (E orc)) (v0 v1 : Value) (G : GS) : Ref (s302 true e v0 v1 G) ((E orc).cl 302 [v0, v1] G) :=
  fun r hr => cl_sxE_some Q orc (vs := [v0, v1]) G Tryz.func302 (by kernel_rfl) (by kernel_rfl) (by kernel_rfl) (by kernel_rfl) (by kernel_rfl) (by kernel_rfl) (m302 h v0 v1 G r hr)
/-- (*coxswain/limbo.Retire).pushes -/
noncomputable def s303 (q : Bool) (e : Ex) (v0 v1 : Value) (G : GS) : Option (Value × GS) :=
  bP (pNil v0) fun x0 =>
  bP (fa Q q 419 3 14 x0) fun x1 =>
  bP (ld Q q 391 x1 G) fun x2 =>
  bS (e.ev.cl 264 [x2, v1] G) fun x3 G4 =>
  ifV x3 (
  some (.nilFunc, G4)) (
  some ((.func (.func 303) #[v0] #[]), G4))
theorem m303 {e : Ex} {E : Ev} (h : ExLe Q e E) (v0 v1 : Value) (G : GS) : Ref (s303 true e v0 v1 G) (s303 false (Ex.of E) v0 v1 G) := by
  unfold s303
  exact Ref.go
theorem f303 {orc : FuncId → Bool} {e : Ex} (h : ExLe Q e (E orc)) (v0 v1 : Value) (G : GS) : Ref (s303 true e v0 v1 G) ((E orc).cl 303 [v0, v1] G) :=
  fun r hr => cl_sxE_some Q orc (vs := [v0, v1]) G Tryz.func303 (by kernel_rfl) (by kernel_rfl) (by kernel_rfl) (by kernel_rfl) (by kernel_rfl) (by kernel_rfl) (m303 h v0 v1 G r hr)
/-- (*coxswain/ready.part[*coxswain/epoch.Pin]).run -/
noncomputable def s304 (q : Bool) (e : Ex) (v0 v1 : Value) (G : GS) : Option (Value × GS) :=
  bP (pNil v0) fun x0 =>
  bP (fa Q q 164 4 4 x0) fun x1 =>
  bP (ld Q q 4 x1 G) fun x2 =>
  bP (un Q q .not x2) fun x3 =>
  ifV x3 (
  bP (pNil v0) fun x4 =>
  bP (fa Q q 164 0 0 x4) fun x5 =>
  bP (ld Q q 160 x5 G) fun x6 =>
  bS (cValue e.ev x6 [] G) fun x7 G8 =>
  bP (pNil v0) fun x9 =>
  bP (fa Q q 164 3 3 x9) fun x10 =>
  bP (st Q q 158 1 x10 x7 G8) fun G11 =>
  bP (pNil v0) fun x12 =>
  bP (fa Q q 164 4 4 x12) fun x13 =>
  bP (st Q q 4 1 x13 (.bool true) G11) fun G14 =>
  bP (pNil v0) fun x15 =>
  bP (fa Q q 164 3 3 x15) fun x16 =>
  bP (ld Q q 158 x16 G14) fun x17 =>
  bP (ifc Q q 158 x17) fun x18 =>
  bS (cInvoke Q e.ev x18 "Step" [v1] G14) fun x19 G20 =>
  bP (pNil v0) fun x21 =>
  bP (fa Q q 164 1 1 x21) fun x22 =>
  bP (ld Q q 162 x22 G20) fun x23 =>
  bP (ef Q q true 162 (.tmp 34) (.const .nilFunc) x23 .nilFunc) fun x24 =>
  ifV x24 (
  bP (pNil v0) fun x25 =>
  bP (fa Q q 164 1 1 x25) fun x26 =>
  bP (ld Q q 162 x26 (G20.room 10)) fun x27 =>
  bP (pNil v0) fun x28 =>
  bP (fa Q q 164 3 3 x28) fun x29 =>
  bP (ld Q q 158 x29 (G20.room 10)) fun x30 =>
  bS (cValue e.ev x27 [x30] (G20.room 10)) fun x32 G31 =>
  bS (gd x19 true (some (v0, G31)) G31) fun x33 G34 =>
  bS (gd x19 true (bP (pNil x33) fun y => some (y, G34)) G34) fun x35 G36 =>
  bS (gd x19 true (bP (fa Q q 164 2 2 x35) fun y => some (y, G36)) G36) fun x37 G38 =>
  bS (gd x19 true (bP (ld Q q 161 x37 G38) fun y => some (y, G38)) G38) fun x39 G40 =>
  bS (gd x19 true (bP (ef Q q true 161 (.tmp 50) (.const .nilFunc) x39 .nilFunc) fun y => some (y, G40)) G40) fun x41 G42 =>
  bP (pickV x19 x41 (.bool false)) fun x43 =>
  ifV x43 (
  bP (pNil v0) fun x44 =>
  bP (fa Q q 164 2 2 x44) fun x45 =>
  bP (ld Q q 161 x45 (G42.room 9)) fun x46 =>
  bP (pNil v0) fun x47 =>
  bP (fa Q q 164 3 3 x47) fun x48 =>
  bP (ld Q q 158 x48 (G42.room 9)) fun x49 =>
  bS (cValue e.ev x46 [x49] (G42.room 9)) fun x51 G50 =>
  some (.tuple #[x19, x32], G50)) (
  some (.tuple #[x19, x32], G42))) (
  bS (gd x19 true (some (v0, G20)) G20) fun x52 G53 =>
  bS (gd x19 true (bP (pNil x52) fun y => some (y, G53)) G53) fun x54 G55 =>
  bS (gd x19 true (bP (fa Q q 164 2 2 x54) fun y => some (y, G55)) G55) fun x56 G57 =>
  bS (gd x19 true (bP (ld Q q 161 x56 G57) fun y => some (y, G57)) G57) fun x58 G59 =>
  bS (gd x19 true (bP (ef Q q true 161 (.tmp 50) (.const .nilFunc) x58 .nilFunc) fun y => some (y, G59)) G59) fun x60 G61 =>
  bP (pickV x19 x60 (.bool false)) fun x62 =>
  ifV x62 (
  bP (pNil v0) fun x63 =>
  bP (fa Q q 164 2 2 x63) fun x64 =>
  bP (ld Q q 161 x64 (G61.room 9)) fun x65 =>
  bP (pNil v0) fun x66 =>
  bP (fa Q q 164 3 3 x66) fun x67 =>
  bP (ld Q q 158 x67 (G61.room 9)) fun x68 =>
  bS (cValue e.ev x65 [x68] (G61.room 9)) fun x70 G69 =>
  some (.tuple #[x19, (.int .u64 0)], G69)) (
  some (.tuple #[x19, (.int .u64 0)], G61)))) (
  bP (pNil v0) fun x71 =>
  bP (fa Q q 164 3 3 x71) fun x72 =>
  bP (ld Q q 158 x72 G) fun x73 =>
  bP (ifc Q q 158 x73) fun x74 =>
  bS (cInvoke Q e.ev x74 "Step" [v1] G) fun x75 G76 =>
  bP (pNil v0) fun x77 =>
  bP (fa Q q 164 1 1 x77) fun x78 =>
  bP (ld Q q 162 x78 G76) fun x79 =>
  bP (ef Q q true 162 (.tmp 34) (.const .nilFunc) x79 .nilFunc) fun x80 =>
  ifV x80 (
  bP (pNil v0) fun x81 =>
  bP (fa Q q 164 1 1 x81) fun x82 =>
  bP (ld Q q 162 x82 (G76.room 10)) fun x83 =>
  bP (pNil v0) fun x84 =>
  bP (fa Q q 164 3 3 x84) fun x85 =>
  bP (ld Q q 158 x85 (G76.room 10)) fun x86 =>
  bS (cValue e.ev x83 [x86] (G76.room 10)) fun x88 G87 =>
  bS (gd x75 true (some (v0, G87)) G87) fun x89 G90 =>
  bS (gd x75 true (bP (pNil x89) fun y => some (y, G90)) G90) fun x91 G92 =>
  bS (gd x75 true (bP (fa Q q 164 2 2 x91) fun y => some (y, G92)) G92) fun x93 G94 =>
  bS (gd x75 true (bP (ld Q q 161 x93 G94) fun y => some (y, G94)) G94) fun x95 G96 =>
  bS (gd x75 true (bP (ef Q q true 161 (.tmp 50) (.const .nilFunc) x95 .nilFunc) fun y => some (y, G96)) G96) fun x97 G98 =>
  bP (pickV x75 x97 (.bool false)) fun x99 =>
  ifV x99 (
  bP (pNil v0) fun x100 =>
  bP (fa Q q 164 2 2 x100) fun x101 =>
  bP (ld Q q 161 x101 (G98.room 9)) fun x102 =>
  bP (pNil v0) fun x103 =>
  bP (fa Q q 164 3 3 x103) fun x104 =>
  bP (ld Q q 158 x104 (G98.room 9)) fun x105 =>
  bS (cValue e.ev x102 [x105] (G98.room 9)) fun x107 G106 =>
  some (.tuple #[x75, x88], G106)) (
  some (.tuple #[x75, x88], G98))) (
  bS (gd x75 true (some (v0, G76)) G76) fun x108 G109 =>
  bS (gd x75 true (bP (pNil x108) fun y => some (y, G109)) G109) fun x110 G111 =>
  bS (gd x75 true (bP (fa Q q 164 2 2 x110) fun y => some (y, G111)) G111) fun x112 G113 =>
  bS (gd x75 true (bP (ld Q q 161 x112 G113) fun y => some (y, G113)) G113) fun x114 G115 =>
  bS (gd x75 true (bP (ef Q q true 161 (.tmp 50) (.const .nilFunc) x114 .nilFunc) fun y => some (y, G115)) G115) fun x116 G117 =>
  bP (pickV x75 x116 (.bool false)) fun x118 =>
  ifV x118 (
  bP (pNil v0) fun x119 =>
  bP (fa Q q 164 2 2 x119) fun x120 =>
  bP (ld Q q 161 x120 (G117.room 9)) fun x121 =>
  bP (pNil v0) fun x122 =>
  bP (fa Q q 164 3 3 x122) fun x123 =>
  bP (ld Q q 158 x123 (G117.room 9)) fun x124 =>
  bS (cValue e.ev x121 [x124] (G117.room 9)) fun x126 G125 =>
  some (.tuple #[x75, (.int .u64 0)], G125)) (
  some (.tuple #[x75, (.int .u64 0)], G117))))
theorem m304 {e : Ex} {E : Ev} (h : ExLe Q e E) (v0 v1 : Value) (G : GS) : Ref (s304 true e v0 v1 G) (s304 false (Ex.of E) v0 v1 G) := by
  unfold s304
  exact Ref.go
theorem f304 {orc : FuncId → Bool} {e : Ex} (h : ExLe Q e (E orc)) (v0 v1 : Value) (G : GS) : Ref (s304 true e v0 v1 G) ((E orc).cl 304 [v0, v1] G) :=
  fun r hr => cl_sxE_some Q orc (vs := [v0, v1]) G Tryz.func304 (by kernel_rfl) (by kernel_rfl) (by kernel_rfl) (by kernel_rfl) (by kernel_rfl) (by kernel_rfl) (m304 h v0 v1 G r hr)
/-- (*coxswain/epoch.Pin).Step -/
noncomputable def s305 (q : Bool) (e : Ex) (v0 v1 : Value) (G : GS) : Option (Value × GS) :=
  bP (ep Q q false 158 (.tmp 5) (.const (.pointer none)) v0 (.pointer none)) fun x0 =>
  bS (gd x0 false (some (v0, G)) G) fun x1 G2 =>
  bS (gd x0 false (bP (pNil x1) fun y => some (y, G2)) G2) fun x3 G4 =>
  bS (gd x0 false (bP (fa Q q 235 0 0 x3) fun y => some (y, G4)) G4) fun x5 G6 =>
  bS (gd x0 false (some (v1, G6)) G6) fun x7 G8 =>
  bS (gd x0 false (bS (e.ev.cl 244 [x5, x7] G8) fun y G => some (y, G)) G8) fun x9 G10 =>
  bP (pickV x0 (.bool true) x9) fun x11 =>
  some (x11, G10)
theorem m305 {e : Ex} {E : Ev} (h : ExLe Q e E) (v0 v1 : Value) (G : GS) : Ref (s305 true e v0 v1 G) (s305 false (Ex.of E) v0 v1 G) := by
  unfold s305
  exact Ref.go
theorem f305 {orc : FuncId → Bool} {e : Ex} (h : ExLe Q e (E orc)) (v0 v1 : Value) (G : GS) : Ref (s305 true e v0 v1 G) ((E orc).cl 305 [v0, v1] G) :=
  fun r hr => cl_sxE_some Q orc (vs := [v0, v1]) G Tryz.func305 (by kernel_rfl) (by kernel_rfl) (by kernel_rfl) (by kernel_rfl) (by kernel_rfl) (by kernel_rfl) (m305 h v0 v1 G r hr)
/-- (*coxswain/ready.part[*coxswain/arena.Alloc]).run -/
noncomputable def s306 (q : Bool) (e : Ex) (v0 v1 : Value) (G : GS) : Option (Value × GS) :=
  bP (pNil v0) fun x0 =>
  bP (fa Q q 172 4 4 x0) fun x1 =>
  bP (ld Q q 4 x1 G) fun x2 =>
  bP (un Q q .not x2) fun x3 =>
  ifV x3 (
  bP (pNil v0) fun x4 =>
  bP (fa Q q 172 0 0 x4) fun x5 =>
  bP (ld Q q 168 x5 G) fun x6 =>
  bS (cValue e.ev x6 [] G) fun x7 G8 =>
  bP (pNil v0) fun x9 =>
  bP (fa Q q 172 3 3 x9) fun x10 =>
  bP (st Q q 166 1 x10 x7 G8) fun G11 =>
  bP (pNil v0) fun x12 =>
  bP (fa Q q 172 4 4 x12) fun x13 =>
  bP (st Q q 4 1 x13 (.bool true) G11) fun G14 =>
  bP (pNil v0) fun x15 =>
  bP (fa Q q 172 3 3 x15) fun x16 =>
  bP (ld Q q 166 x16 G14) fun x17 =>
  bP (ifc Q q 166 x17) fun x18 =>
  bS (cInvoke Q e.ev x18 "Step" [v1] G14) fun x19 G20 =>
  bP (pNil v0) fun x21 =>
  bP (fa Q q 172 1 1 x21) fun x22 =>
  bP (ld Q q 170 x22 G20) fun x23 =>
  bP (ef Q q true 170 (.tmp 34) (.const .nilFunc) x23 .nilFunc) fun x24 =>
  ifV x24 (
  bP (pNil v0) fun x25 =>
  bP (fa Q q 172 1 1 x25) fun x26 =>
  bP (ld Q q 170 x26 (G20.room 10)) fun x27 =>
  bP (pNil v0) fun x28 =>
  bP (fa Q q 172 3 3 x28) fun x29 =>
  bP (ld Q q 166 x29 (G20.room 10)) fun x30 =>
  bS (cValue e.ev x27 [x30] (G20.room 10)) fun x32 G31 =>
  bS (gd x19 true (some (v0, G31)) G31) fun x33 G34 =>
  bS (gd x19 true (bP (pNil x33) fun y => some (y, G34)) G34) fun x35 G36 =>
  bS (gd x19 true (bP (fa Q q 172 2 2 x35) fun y => some (y, G36)) G36) fun x37 G38 =>
  bS (gd x19 true (bP (ld Q q 169 x37 G38) fun y => some (y, G38)) G38) fun x39 G40 =>
  bS (gd x19 true (bP (ef Q q true 169 (.tmp 50) (.const .nilFunc) x39 .nilFunc) fun y => some (y, G40)) G40) fun x41 G42 =>
  bP (pickV x19 x41 (.bool false)) fun x43 =>
  ifV x43 (
  bP (pNil v0) fun x44 =>
  bP (fa Q q 172 2 2 x44) fun x45 =>
  bP (ld Q q 169 x45 (G42.room 9)) fun x46 =>
  bP (pNil v0) fun x47 =>
  bP (fa Q q 172 3 3 x47) fun x48 =>
  bP (ld Q q 166 x48 (G42.room 9)) fun x49 =>
  bS (cValue e.ev x46 [x49] (G42.room 9)) fun x51 G50 =>
  some (.tuple #[x19, x32], G50)) (
  some (.tuple #[x19, x32], G42))) (
  bS (gd x19 true (some (v0, G20)) G20) fun x52 G53 =>
  bS (gd x19 true (bP (pNil x52) fun y => some (y, G53)) G53) fun x54 G55 =>
  bS (gd x19 true (bP (fa Q q 172 2 2 x54) fun y => some (y, G55)) G55) fun x56 G57 =>
  bS (gd x19 true (bP (ld Q q 169 x56 G57) fun y => some (y, G57)) G57) fun x58 G59 =>
  bS (gd x19 true (bP (ef Q q true 169 (.tmp 50) (.const .nilFunc) x58 .nilFunc) fun y => some (y, G59)) G59) fun x60 G61 =>
  bP (pickV x19 x60 (.bool false)) fun x62 =>
  ifV x62 (
  bP (pNil v0) fun x63 =>
  bP (fa Q q 172 2 2 x63) fun x64 =>
  bP (ld Q q 169 x64 (G61.room 9)) fun x65 =>
  bP (pNil v0) fun x66 =>
  bP (fa Q q 172 3 3 x66) fun x67 =>
  bP (ld Q q 166 x67 (G61.room 9)) fun x68 =>
  bS (cValue e.ev x65 [x68] (G61.room 9)) fun x70 G69 =>
  some (.tuple #[x19, (.int .u64 0)], G69)) (
  some (.tuple #[x19, (.int .u64 0)], G61)))) (
  bP (pNil v0) fun x71 =>
  bP (fa Q q 172 3 3 x71) fun x72 =>
  bP (ld Q q 166 x72 G) fun x73 =>
  bP (ifc Q q 166 x73) fun x74 =>
  bS (cInvoke Q e.ev x74 "Step" [v1] G) fun x75 G76 =>
  bP (pNil v0) fun x77 =>
  bP (fa Q q 172 1 1 x77) fun x78 =>
  bP (ld Q q 170 x78 G76) fun x79 =>
  bP (ef Q q true 170 (.tmp 34) (.const .nilFunc) x79 .nilFunc) fun x80 =>
  ifV x80 (
  bP (pNil v0) fun x81 =>
  bP (fa Q q 172 1 1 x81) fun x82 =>
  bP (ld Q q 170 x82 (G76.room 10)) fun x83 =>
  bP (pNil v0) fun x84 =>
  bP (fa Q q 172 3 3 x84) fun x85 =>
  bP (ld Q q 166 x85 (G76.room 10)) fun x86 =>
  bS (cValue e.ev x83 [x86] (G76.room 10)) fun x88 G87 =>
  bS (gd x75 true (some (v0, G87)) G87) fun x89 G90 =>
  bS (gd x75 true (bP (pNil x89) fun y => some (y, G90)) G90) fun x91 G92 =>
  bS (gd x75 true (bP (fa Q q 172 2 2 x91) fun y => some (y, G92)) G92) fun x93 G94 =>
  bS (gd x75 true (bP (ld Q q 169 x93 G94) fun y => some (y, G94)) G94) fun x95 G96 =>
  bS (gd x75 true (bP (ef Q q true 169 (.tmp 50) (.const .nilFunc) x95 .nilFunc) fun y => some (y, G96)) G96) fun x97 G98 =>
  bP (pickV x75 x97 (.bool false)) fun x99 =>
  ifV x99 (
  bP (pNil v0) fun x100 =>
  bP (fa Q q 172 2 2 x100) fun x101 =>
  bP (ld Q q 169 x101 (G98.room 9)) fun x102 =>
  bP (pNil v0) fun x103 =>
  bP (fa Q q 172 3 3 x103) fun x104 =>
  bP (ld Q q 166 x104 (G98.room 9)) fun x105 =>
  bS (cValue e.ev x102 [x105] (G98.room 9)) fun x107 G106 =>
  some (.tuple #[x75, x88], G106)) (
  some (.tuple #[x75, x88], G98))) (
  bS (gd x75 true (some (v0, G76)) G76) fun x108 G109 =>
  bS (gd x75 true (bP (pNil x108) fun y => some (y, G109)) G109) fun x110 G111 =>
  bS (gd x75 true (bP (fa Q q 172 2 2 x110) fun y => some (y, G111)) G111) fun x112 G113 =>
  bS (gd x75 true (bP (ld Q q 169 x112 G113) fun y => some (y, G113)) G113) fun x114 G115 =>
  bS (gd x75 true (bP (ef Q q true 169 (.tmp 50) (.const .nilFunc) x114 .nilFunc) fun y => some (y, G115)) G115) fun x116 G117 =>
  bP (pickV x75 x116 (.bool false)) fun x118 =>
  ifV x118 (
  bP (pNil v0) fun x119 =>
  bP (fa Q q 172 2 2 x119) fun x120 =>
  bP (ld Q q 169 x120 (G117.room 9)) fun x121 =>
  bP (pNil v0) fun x122 =>
  bP (fa Q q 172 3 3 x122) fun x123 =>
  bP (ld Q q 166 x123 (G117.room 9)) fun x124 =>
  bS (cValue e.ev x121 [x124] (G117.room 9)) fun x126 G125 =>
  some (.tuple #[x75, (.int .u64 0)], G125)) (
  some (.tuple #[x75, (.int .u64 0)], G117))))
theorem m306 {e : Ex} {E : Ev} (h : ExLe Q e E) (v0 v1 : Value) (G : GS) : Ref (s306 true e v0 v1 G) (s306 false (Ex.of E) v0 v1 G) := by
  unfold s306
  exact Ref.go
theorem f306 {orc : FuncId → Bool} {e : Ex} (h : ExLe Q e (E orc)) (v0 v1 : Value) (G : GS) : Ref (s306 true e v0 v1 G) ((E orc).cl 306 [v0, v1] G) :=
  fun r hr => cl_sxE_some Q orc (vs := [v0, v1]) G Tryz.func306 (by kernel_rfl) (by kernel_rfl) (by kernel_rfl) (by kernel_rfl) (by kernel_rfl) (by kernel_rfl) (m306 h v0 v1 G r hr)
/-- (*coxswain/arena.Alloc).Step -/
noncomputable def s307 (q : Bool) (e : Ex) (v0 v1 : Value) (G : GS) : Option (Value × GS) :=
  bP (ep Q q false 166 (.tmp 5) (.const (.pointer none)) v0 (.pointer none)) fun x0 =>
  bS (gd x0 false (some (v0, G)) G) fun x1 G2 =>
  bS (gd x0 false (bP (pNil x1) fun y => some (y, G2)) G2) fun x3 G4 =>
  bS (gd x0 false (bP (fa Q q 241 3 8 x3) fun y => some (y, G4)) G4) fun x5 G6 =>
  bS (gd x0 false (bP (ld Q q 239 x5 G6) fun y => some (y, G6)) G6) fun x7 G8 =>
  bS (gd x0 false (bP (ef Q q false 239 (.tmp 11) (.const .nilFunc) x7 .nilFunc) fun y => some (y, G8)) G8) fun x9 G10 =>
  bP (pickV x0 (.bool true) x9) fun x11 =>
  ifV x11 (
  some ((.bool true), G10)) (
  bP (pNil v0) fun x12 =>
  bP (fa Q q 241 3 8 x12) fun x13 =>
  bP (ld Q q 239 x13 G10) fun x14 =>
  bS (cValue e.ev x14 [v0, v1] G10) fun x15 G16 =>
  bP (pNil v0) fun x17 =>
  bP (fa Q q 241 3 8 x17) fun x18 =>
  bP (ld Q q 239 x18 G16) fun x19 =>
  bP (ef Q q false 239 (.tmp 24) (.const .nilFunc) x19 .nilFunc) fun x20 =>
  some (x20, G16))
theorem m307 {e : Ex} {E : Ev} (h : ExLe Q e E) (v0 v1 : Value) (G : GS) : Ref (s307 true e v0 v1 G) (s307 false (Ex.of E) v0 v1 G) := by
  unfold s307
  exact Ref.go
theorem f307 {orc : FuncId → Bool} {e : Ex} (h : ExLe Q e (E orc)) (v0 v1 : Value) (G : GS) : Ref (s307 true e v0 v1 G) ((E orc).cl 307 [v0, v1] G) :=
  fun r hr => cl_sxE_some Q orc (vs := [v0, v1]) G Tryz.func307 (by kernel_rfl) (by kernel_rfl) (by kernel_rfl) (by kernel_rfl) (by kernel_rfl) (by kernel_rfl) (m307 h v0 v1 G r hr)
/-- (*coxswain/ready.part[*coxswain/epoch.Unpin]).run -/
noncomputable def s309 (q : Bool) (e : Ex) (v0 v1 : Value) (G : GS) : Option (Value × GS) :=
  bP (pNil v0) fun x0 =>
  bP (fa Q q 201 4 4 x0) fun x1 =>
  bP (ld Q q 4 x1 G) fun x2 =>
  bP (un Q q .not x2) fun x3 =>
  ifV x3 (
  bP (pNil v0) fun x4 =>
  bP (fa Q q 201 0 0 x4) fun x5 =>
  bP (ld Q q 197 x5 G) fun x6 =>
  bS (cValue e.ev x6 [] G) fun x7 G8 =>
  bP (pNil v0) fun x9 =>
  bP (fa Q q 201 3 3 x9) fun x10 =>
  bP (st Q q 195 1 x10 x7 G8) fun G11 =>
  bP (pNil v0) fun x12 =>
  bP (fa Q q 201 4 4 x12) fun x13 =>
  bP (st Q q 4 1 x13 (.bool true) G11) fun G14 =>
  bP (pNil v0) fun x15 =>
  bP (fa Q q 201 3 3 x15) fun x16 =>
  bP (ld Q q 195 x16 G14) fun x17 =>
  bP (ifc Q q 195 x17) fun x18 =>
  bS (cInvoke Q e.ev x18 "Step" [v1] G14) fun x19 G20 =>
  bP (pNil v0) fun x21 =>
  bP (fa Q q 201 1 1 x21) fun x22 =>
  bP (ld Q q 198 x22 G20) fun x23 =>
  bP (ef Q q true 198 (.tmp 34) (.const .nilFunc) x23 .nilFunc) fun x24 =>
  ifV x24 (
  bP (pNil v0) fun x25 =>
  bP (fa Q q 201 1 1 x25) fun x26 =>
  bP (ld Q q 198 x26 (G20.room 10)) fun x27 =>
  bP (pNil v0) fun x28 =>
  bP (fa Q q 201 3 3 x28) fun x29 =>
  bP (ld Q q 195 x29 (G20.room 10)) fun x30 =>
  bS (cValue e.ev x27 [x30] (G20.room 10)) fun x32 G31 =>
  bS (gd x19 true (some (v0, G31)) G31) fun x33 G34 =>
  bS (gd x19 true (bP (pNil x33) fun y => some (y, G34)) G34) fun x35 G36 =>
  bS (gd x19 true (bP (fa Q q 201 2 2 x35) fun y => some (y, G36)) G36) fun x37 G38 =>
  bS (gd x19 true (bP (ld Q q 199 x37 G38) fun y => some (y, G38)) G38) fun x39 G40 =>
  bS (gd x19 true (bP (ef Q q true 199 (.tmp 50) (.const .nilFunc) x39 .nilFunc) fun y => some (y, G40)) G40) fun x41 G42 =>
  bP (pickV x19 x41 (.bool false)) fun x43 =>
  ifV x43 (
  bP (pNil v0) fun x44 =>
  bP (fa Q q 201 2 2 x44) fun x45 =>
  bP (ld Q q 199 x45 (G42.room 9)) fun x46 =>
  bP (pNil v0) fun x47 =>
  bP (fa Q q 201 3 3 x47) fun x48 =>
  bP (ld Q q 195 x48 (G42.room 9)) fun x49 =>
  bS (cValue e.ev x46 [x49] (G42.room 9)) fun x51 G50 =>
  some (.tuple #[x19, x32], G50)) (
  some (.tuple #[x19, x32], G42))) (
  bS (gd x19 true (some (v0, G20)) G20) fun x52 G53 =>
  bS (gd x19 true (bP (pNil x52) fun y => some (y, G53)) G53) fun x54 G55 =>
  bS (gd x19 true (bP (fa Q q 201 2 2 x54) fun y => some (y, G55)) G55) fun x56 G57 =>
  bS (gd x19 true (bP (ld Q q 199 x56 G57) fun y => some (y, G57)) G57) fun x58 G59 =>
  bS (gd x19 true (bP (ef Q q true 199 (.tmp 50) (.const .nilFunc) x58 .nilFunc) fun y => some (y, G59)) G59) fun x60 G61 =>
  bP (pickV x19 x60 (.bool false)) fun x62 =>
  ifV x62 (
  bP (pNil v0) fun x63 =>
  bP (fa Q q 201 2 2 x63) fun x64 =>
  bP (ld Q q 199 x64 (G61.room 9)) fun x65 =>
  bP (pNil v0) fun x66 =>
  bP (fa Q q 201 3 3 x66) fun x67 =>
  bP (ld Q q 195 x67 (G61.room 9)) fun x68 =>
  bS (cValue e.ev x65 [x68] (G61.room 9)) fun x70 G69 =>
  some (.tuple #[x19, (.int .u64 0)], G69)) (
  some (.tuple #[x19, (.int .u64 0)], G61)))) (
  bP (pNil v0) fun x71 =>
  bP (fa Q q 201 3 3 x71) fun x72 =>
  bP (ld Q q 195 x72 G) fun x73 =>
  bP (ifc Q q 195 x73) fun x74 =>
  bS (cInvoke Q e.ev x74 "Step" [v1] G) fun x75 G76 =>
  bP (pNil v0) fun x77 =>
  bP (fa Q q 201 1 1 x77) fun x78 =>
  bP (ld Q q 198 x78 G76) fun x79 =>
  bP (ef Q q true 198 (.tmp 34) (.const .nilFunc) x79 .nilFunc) fun x80 =>
  ifV x80 (
  bP (pNil v0) fun x81 =>
  bP (fa Q q 201 1 1 x81) fun x82 =>
  bP (ld Q q 198 x82 (G76.room 10)) fun x83 =>
  bP (pNil v0) fun x84 =>
  bP (fa Q q 201 3 3 x84) fun x85 =>
  bP (ld Q q 195 x85 (G76.room 10)) fun x86 =>
  bS (cValue e.ev x83 [x86] (G76.room 10)) fun x88 G87 =>
  bS (gd x75 true (some (v0, G87)) G87) fun x89 G90 =>
  bS (gd x75 true (bP (pNil x89) fun y => some (y, G90)) G90) fun x91 G92 =>
  bS (gd x75 true (bP (fa Q q 201 2 2 x91) fun y => some (y, G92)) G92) fun x93 G94 =>
  bS (gd x75 true (bP (ld Q q 199 x93 G94) fun y => some (y, G94)) G94) fun x95 G96 =>
  bS (gd x75 true (bP (ef Q q true 199 (.tmp 50) (.const .nilFunc) x95 .nilFunc) fun y => some (y, G96)) G96) fun x97 G98 =>
  bP (pickV x75 x97 (.bool false)) fun x99 =>
  ifV x99 (
  bP (pNil v0) fun x100 =>
  bP (fa Q q 201 2 2 x100) fun x101 =>
  bP (ld Q q 199 x101 (G98.room 9)) fun x102 =>
  bP (pNil v0) fun x103 =>
  bP (fa Q q 201 3 3 x103) fun x104 =>
  bP (ld Q q 195 x104 (G98.room 9)) fun x105 =>
  bS (cValue e.ev x102 [x105] (G98.room 9)) fun x107 G106 =>
  some (.tuple #[x75, x88], G106)) (
  some (.tuple #[x75, x88], G98))) (
  bS (gd x75 true (some (v0, G76)) G76) fun x108 G109 =>
  bS (gd x75 true (bP (pNil x108) fun y => some (y, G109)) G109) fun x110 G111 =>
  bS (gd x75 true (bP (fa Q q 201 2 2 x110) fun y => some (y, G111)) G111) fun x112 G113 =>
  bS (gd x75 true (bP (ld Q q 199 x112 G113) fun y => some (y, G113)) G113) fun x114 G115 =>
  bS (gd x75 true (bP (ef Q q true 199 (.tmp 50) (.const .nilFunc) x114 .nilFunc) fun y => some (y, G115)) G115) fun x116 G117 =>
  bP (pickV x75 x116 (.bool false)) fun x118 =>
  ifV x118 (
  bP (pNil v0) fun x119 =>
  bP (fa Q q 201 2 2 x119) fun x120 =>
  bP (ld Q q 199 x120 (G117.room 9)) fun x121 =>
  bP (pNil v0) fun x122 =>
  bP (fa Q q 201 3 3 x122) fun x123 =>
  bP (ld Q q 195 x123 (G117.room 9)) fun x124 =>
  bS (cValue e.ev x121 [x124] (G117.room 9)) fun x126 G125 =>
  some (.tuple #[x75, (.int .u64 0)], G125)) (
  some (.tuple #[x75, (.int .u64 0)], G117))))
theorem m309 {e : Ex} {E : Ev} (h : ExLe Q e E) (v0 v1 : Value) (G : GS) : Ref (s309 true e v0 v1 G) (s309 false (Ex.of E) v0 v1 G) := by
  unfold s309
  exact Ref.go
theorem f309 {orc : FuncId → Bool} {e : Ex} (h : ExLe Q e (E orc)) (v0 v1 : Value) (G : GS) : Ref (s309 true e v0 v1 G) ((E orc).cl 309 [v0, v1] G) :=
  fun r hr => cl_sxE_some Q orc (vs := [v0, v1]) G Tryz.func309 (by kernel_rfl) (by kernel_rfl) (by kernel_rfl) (by kernel_rfl) (by kernel_rfl) (by kernel_rfl) (m309 h v0 v1 G r hr)
/-- (*coxswain/epoch.Unpin).Step -/
noncomputable def s311 (q : Bool) (e : Ex) (v0 v1 : Value) (G : GS) : Option (Value × GS) :=
  bP (ep Q q false 195 (.tmp 5) (.const (.pointer none)) v0 (.pointer none)) fun x0 =>
  bS (gd x0 false (some (v0, G)) G) fun x1 G2 =>
  bS (gd x0 false (bP (pNil x1) fun y => some (y, G2)) G2) fun x3 G4 =>
  bS (gd x0 false (bP (fa Q q 264 0 0 x3) fun y => some (y, G4)) G4) fun x5 G6 =>
  bS (gd x0 false (some (v1, G6)) G6) fun x7 G8 =>
  bS (gd x0 false (bS (e.ev.cl 244 [x5, x7] G8) fun y G => some (y, G)) G8) fun x9 G10 =>
  bP (pickV x0 (.bool true) x9) fun x11 =>
  some (x11, G10)
theorem m311 {e : Ex} {E : Ev} (h : ExLe Q e E) (v0 v1 : Value) (G : GS) : Ref (s311 true e v0 v1 G) (s311 false (Ex.of E) v0 v1 G) := by
  unfold s311
  exact Ref.go
theorem f311 {orc : FuncId → Bool} {e : Ex} (h : ExLe Q e (E orc)) (v0 v1 : Value) (G : GS) : Ref (s311 true e v0 v1 G) ((E orc).cl 311 [v0, v1] G) :=
  fun r hr => cl_sxE_some Q orc (vs := [v0, v1]) G Tryz.func311 (by kernel_rfl) (by kernel_rfl) (by kernel_rfl) (by kernel_rfl) (by kernel_rfl) (by kernel_rfl) (m311 h v0 v1 G r hr)
/-- (*coxswain/ready.part[*coxswain/claim.Peek]).run -/
noncomputable def s312 (q : Bool) (e : Ex) (v0 v1 : Value) (G : GS) : Option (Value × GS) :=
  bP (pNil v0) fun x0 =>
  bP (fa Q q 220 4 4 x0) fun x1 =>
  bP (ld Q q 4 x1 G) fun x2 =>
  bP (un Q q .not x2) fun x3 =>
  ifV x3 (
  bP (pNil v0) fun x4 =>
  bP (fa Q q 220 0 0 x4) fun x5 =>
  bP (ld Q q 216 x5 G) fun x6 =>
  bS (cValue e.ev x6 [] G) fun x7 G8 =>
  bP (pNil v0) fun x9 =>
  bP (fa Q q 220 3 3 x9) fun x10 =>
  bP (st Q q 214 1 x10 x7 G8) fun G11 =>
  bP (pNil v0) fun x12 =>
  bP (fa Q q 220 4 4 x12) fun x13 =>
  bP (st Q q 4 1 x13 (.bool true) G11) fun G14 =>
  bP (pNil v0) fun x15 =>
  bP (fa Q q 220 3 3 x15) fun x16 =>
  bP (ld Q q 214 x16 G14) fun x17 =>
  bP (ifc Q q 214 x17) fun x18 =>
  bS (cInvoke Q e.ev x18 "Step" [v1] G14) fun x19 G20 =>
  bP (pNil v0) fun x21 =>
  bP (fa Q q 220 1 1 x21) fun x22 =>
  bP (ld Q q 217 x22 G20) fun x23 =>
  bP (ef Q q true 217 (.tmp 34) (.const .nilFunc) x23 .nilFunc) fun x24 =>
  ifV x24 (
  bP (pNil v0) fun x25 =>
  bP (fa Q q 220 1 1 x25) fun x26 =>
  bP (ld Q q 217 x26 (G20.room 10)) fun x27 =>
  bP (pNil v0) fun x28 =>
  bP (fa Q q 220 3 3 x28) fun x29 =>
  bP (ld Q q 214 x29 (G20.room 10)) fun x30 =>
  bS (cValue e.ev x27 [x30] (G20.room 10)) fun x32 G31 =>
  bS (gd x19 true (some (v0, G31)) G31) fun x33 G34 =>
  bS (gd x19 true (bP (pNil x33) fun y => some (y, G34)) G34) fun x35 G36 =>
  bS (gd x19 true (bP (fa Q q 220 2 2 x35) fun y => some (y, G36)) G36) fun x37 G38 =>
  bS (gd x19 true (bP (ld Q q 218 x37 G38) fun y => some (y, G38)) G38) fun x39 G40 =>
  bS (gd x19 true (bP (ef Q q true 218 (.tmp 50) (.const .nilFunc) x39 .nilFunc) fun y => some (y, G40)) G40) fun x41 G42 =>
  bP (pickV x19 x41 (.bool false)) fun x43 =>
  ifV x43 (
  bP (pNil v0) fun x44 =>
  bP (fa Q q 220 2 2 x44) fun x45 =>
  bP (ld Q q 218 x45 (G42.room 9)) fun x46 =>
  bP (pNil v0) fun x47 =>
  bP (fa Q q 220 3 3 x47) fun x48 =>
  bP (ld Q q 214 x48 (G42.room 9)) fun x49 =>
  bS (cValue e.ev x46 [x49] (G42.room 9)) fun x51 G50 =>
  some (.tuple #[x19, x32], G50)) (
  some (.tuple #[x19, x32], G42))) (
  bS (gd x19 true (some (v0, G20)) G20) fun x52 G53 =>
  bS (gd x19 true (bP (pNil x52) fun y => some (y, G53)) G53) fun x54 G55 =>
  bS (gd x19 true (bP (fa Q q 220 2 2 x54) fun y => some (y, G55)) G55) fun x56 G57 =>
  bS (gd x19 true (bP (ld Q q 218 x56 G57) fun y => some (y, G57)) G57) fun x58 G59 =>
  bS (gd x19 true (bP (ef Q q true 218 (.tmp 50) (.const .nilFunc) x58 .nilFunc) fun y => some (y, G59)) G59) fun x60 G61 =>
  bP (pickV x19 x60 (.bool false)) fun x62 =>
  ifV x62 (
  bP (pNil v0) fun x63 =>
  bP (fa Q q 220 2 2 x63) fun x64 =>
  bP (ld Q q 218 x64 (G61.room 9)) fun x65 =>
  bP (pNil v0) fun x66 =>
  bP (fa Q q 220 3 3 x66) fun x67 =>
  bP (ld Q q 214 x67 (G61.room 9)) fun x68 =>
  bS (cValue e.ev x65 [x68] (G61.room 9)) fun x70 G69 =>
  some (.tuple #[x19, (.int .u64 0)], G69)) (
  some (.tuple #[x19, (.int .u64 0)], G61)))) (
  bP (pNil v0) fun x71 =>
  bP (fa Q q 220 3 3 x71) fun x72 =>
  bP (ld Q q 214 x72 G) fun x73 =>
  bP (ifc Q q 214 x73) fun x74 =>
  bS (cInvoke Q e.ev x74 "Step" [v1] G) fun x75 G76 =>
  bP (pNil v0) fun x77 =>
  bP (fa Q q 220 1 1 x77) fun x78 =>
  bP (ld Q q 217 x78 G76) fun x79 =>
  bP (ef Q q true 217 (.tmp 34) (.const .nilFunc) x79 .nilFunc) fun x80 =>
  ifV x80 (
  bP (pNil v0) fun x81 =>
  bP (fa Q q 220 1 1 x81) fun x82 =>
  bP (ld Q q 217 x82 (G76.room 10)) fun x83 =>
  bP (pNil v0) fun x84 =>
  bP (fa Q q 220 3 3 x84) fun x85 =>
  bP (ld Q q 214 x85 (G76.room 10)) fun x86 =>
  bS (cValue e.ev x83 [x86] (G76.room 10)) fun x88 G87 =>
  bS (gd x75 true (some (v0, G87)) G87) fun x89 G90 =>
  bS (gd x75 true (bP (pNil x89) fun y => some (y, G90)) G90) fun x91 G92 =>
  bS (gd x75 true (bP (fa Q q 220 2 2 x91) fun y => some (y, G92)) G92) fun x93 G94 =>
  bS (gd x75 true (bP (ld Q q 218 x93 G94) fun y => some (y, G94)) G94) fun x95 G96 =>
  bS (gd x75 true (bP (ef Q q true 218 (.tmp 50) (.const .nilFunc) x95 .nilFunc) fun y => some (y, G96)) G96) fun x97 G98 =>
  bP (pickV x75 x97 (.bool false)) fun x99 =>
  ifV x99 (
  bP (pNil v0) fun x100 =>
  bP (fa Q q 220 2 2 x100) fun x101 =>
  bP (ld Q q 218 x101 (G98.room 9)) fun x102 =>
  bP (pNil v0) fun x103 =>
  bP (fa Q q 220 3 3 x103) fun x104 =>
  bP (ld Q q 214 x104 (G98.room 9)) fun x105 =>
  bS (cValue e.ev x102 [x105] (G98.room 9)) fun x107 G106 =>
  some (.tuple #[x75, x88], G106)) (
  some (.tuple #[x75, x88], G98))) (
  bS (gd x75 true (some (v0, G76)) G76) fun x108 G109 =>
  bS (gd x75 true (bP (pNil x108) fun y => some (y, G109)) G109) fun x110 G111 =>
  bS (gd x75 true (bP (fa Q q 220 2 2 x110) fun y => some (y, G111)) G111) fun x112 G113 =>
  bS (gd x75 true (bP (ld Q q 218 x112 G113) fun y => some (y, G113)) G113) fun x114 G115 =>
  bS (gd x75 true (bP (ef Q q true 218 (.tmp 50) (.const .nilFunc) x114 .nilFunc) fun y => some (y, G115)) G115) fun x116 G117 =>
  bP (pickV x75 x116 (.bool false)) fun x118 =>
  ifV x118 (
  bP (pNil v0) fun x119 =>
  bP (fa Q q 220 2 2 x119) fun x120 =>
  bP (ld Q q 218 x120 (G117.room 9)) fun x121 =>
  bP (pNil v0) fun x122 =>
  bP (fa Q q 220 3 3 x122) fun x123 =>
  bP (ld Q q 214 x123 (G117.room 9)) fun x124 =>
  bS (cValue e.ev x121 [x124] (G117.room 9)) fun x126 G125 =>
  some (.tuple #[x75, (.int .u64 0)], G125)) (
  some (.tuple #[x75, (.int .u64 0)], G117))))
theorem m312 {e : Ex} {E : Ev} (h : ExLe Q e E) (v0 v1 : Value) (G : GS) : Ref (s312 true e v0 v1 G) (s312 false (Ex.of E) v0 v1 G) := by
  unfold s312
  exact Ref.go
theorem f312 {orc : FuncId → Bool} {e : Ex} (h : ExLe Q e (E orc)) (v0 v1 : Value) (G : GS) : Ref (s312 true e v0 v1 G) ((E orc).cl 312 [v0, v1] G) :=
  fun r hr => cl_sxE_some Q orc (vs := [v0, v1]) G Tryz.func312 (by kernel_rfl) (by kernel_rfl) (by kernel_rfl) (by kernel_rfl) (by kernel_rfl) (by kernel_rfl) (m312 h v0 v1 G r hr)
/-- (*coxswain/claim.Peek).Step -/
noncomputable def s313 (q : Bool) (e : Ex) (v0 v1 : Value) (G : GS) : Option (Value × GS) :=
  bP (ep Q q false 214 (.tmp 5) (.const (.pointer none)) v0 (.pointer none)) fun x0 =>
  bS (gd x0 false (some (v0, G)) G) fun x1 G2 =>
  bS (gd x0 false (bP (pNil x1) fun y => some (y, G2)) G2) fun x3 G4 =>
  bS (gd x0 false (bP (fa Q q 283 0 0 x3) fun y => some (y, G4)) G4) fun x5 G6 =>
  bS (gd x0 false (bS (e.ev.cl 314 [x5] G6) fun y G => some (y, G)) G6) fun x7 G8 =>
  bP (pickV x0 (.bool true) x7) fun x9 =>
  ifV x9 (
  some ((.bool true), G8)) (
  bP (pNil v0) fun x10 =>
  bP (fa Q q 283 0 0 x10) fun x11 =>
  bP (fa Q q 280 2 13 x11) fun x12 =>
  bP (ld Q q 3 x12 G8) fun x13 =>
  bP (bn Q q .eql 3 (.tmp 17) (.const (.int .i64 4)) x13 (.int .i64 4)) fun x14 =>
  ifV x14 (
  bP (pNil v0) fun x15 =>
  bP (fa Q q 283 0 0 x15) fun x16 =>
  bS (e.ev.cl 317 [x16, v1, (.int .i64 0)] G8) fun x17 G18 =>
  bP (pNil v0) fun x19 =>
  bP (fa Q q 283 0 0 x19) fun x20 =>
  bP (fa Q q 280 6 17 x20) fun x21 =>
  bP (fa Q q 46 0 0 x21) fun x22 =>
  bP (st Q q 38 1 x22 x17 G18) fun G23 =>
  bP (pNil v0) fun x24 =>
  bP (fa Q q 283 0 0 x24) fun x25 =>
  bP (fa Q q 280 2 13 x25) fun x26 =>
  bP (st Q q 3 1 x26 (.int .i64 5) G23) fun G27 =>
  bP (pNil v0) fun x28 =>
  bP (fa Q q 283 0 0 x28) fun x29 =>
  bP (fa Q q 280 2 13 x29) fun x30 =>
  bP (ld Q q 3 x30 G27) fun x31 =>
  bP (bn Q q .eql 3 (.tmp 54) (.const (.int .i64 99)) x31 (.int .i64 99)) fun x32 =>
  some (x32, G27)) (
  bP (bn Q q .eql 3 (.tmp 17) (.const (.int .i64 5)) x13 (.int .i64 5)) fun x33 =>
  ifV x33 (
  bP (pNil v0) fun x34 =>
  bP (fa Q q 283 0 0 x34) fun x35 =>
  bS (e.ev.cl 316 [x35, v1] G8) fun x36 G37 =>
  bP (pNil v0) fun x38 =>
  bP (fa Q q 283 0 0 x38) fun x39 =>
  bP (fa Q q 280 2 13 x39) fun x40 =>
  bP (st Q q 3 1 x40 (.int .i64 99) G37) fun G41 =>
  bP (pNil v0) fun x42 =>
  bP (fa Q q 283 0 0 x42) fun x43 =>
  bP (fa Q q 280 2 13 x43) fun x44 =>
  bP (ld Q q 3 x44 G41) fun x45 =>
  bP (bn Q q .eql 3 (.tmp 54) (.const (.int .i64 99)) x45 (.int .i64 99)) fun x46 =>
  some (x46, G41)) (
  bP (pNil v0) fun x47 =>
  bP (fa Q q 283 0 0 x47) fun x48 =>
  bS (e.ev.cl 315 [x48, v1] G8) fun x49 G50 =>
  bP (pNil v0) fun x51 =>
  bP (fa Q q 283 0 0 x51) fun x52 =>
  bP (fa Q q 280 2 13 x52) fun x53 =>
  bP (ld Q q 3 x53 G50) fun x54 =>
  bP (bn Q q .eql 3 (.tmp 54) (.const (.int .i64 99)) x54 (.int .i64 99)) fun x55 =>
  some (x55, G50))))
theorem m313 {e : Ex} {E : Ev} (h : ExLe Q e E) (v0 v1 : Value) (G : GS) : Ref (s313 true e v0 v1 G) (s313 false (Ex.of E) v0 v1 G) := by
  unfold s313
  exact Ref.go
theorem f313 {orc : FuncId → Bool} {e : Ex} (h : ExLe Q e (E orc)) (v0 v1 : Value) (G : GS) : Ref (s313 true e v0 v1 G) ((E orc).cl 313 [v0, v1] G) :=
  fun r hr => cl_sxE_some Q orc (vs := [v0, v1]) G Tryz.func313 (by kernel_rfl) (by kernel_rfl) (by kernel_rfl) (by kernel_rfl) (by kernel_rfl) (by kernel_rfl) (m313 h v0 v1 G r hr)
/-- (*coxswain/claim.seeker[struct{}]).done -/
noncomputable def s314 (q : Bool) (e : Ex) (v0 : Value) (G : GS) : Option (Value × GS) :=
  bP (pNil v0) fun x0 =>
  bP (fa Q q 280 8 20 x0) fun x1 =>
  bP (ld Q q 4 x1 G) fun x2 =>
  bP (un Q q .not x2) fun x3 =>
  bS (gd x3 false (some (v0, G)) G) fun x4 G5 =>
  bS (gd x3 false (bP (pNil x4) fun y => some (y, G5)) G5) fun x6 G7 =>
  bS (gd x3 false (bP (fa Q q 280 2 13 x6) fun y => some (y, G7)) G7) fun x8 G9 =>
  bS (gd x3 false (bP (ld Q q 3 x8 G9) fun y => some (y, G9)) G9) fun x10 G11 =>
  bS (gd x3 false (bP (bn Q q .eql 3 (.tmp 12) (.const (.int .i64 99)) x10 (.int .i64 99)) fun y => some (y, G11)) G11) fun x12 G13 =>
  bP (pickV x3 (.bool true) x12) fun x14 =>
  some (x14, G13)
theorem m314 {e : Ex} {E : Ev} (h : ExLe Q e E) (v0 : Value) (G : GS) : Ref (s314 true e v0 G) (s314 false (Ex.of E) v0 G) := by
  unfold s314
  exact Ref.go
theorem f314 {orc : FuncId → Bool} {e : Ex} (h : ExLe Q e (E orc)) (v0 : Value) (G : GS) : Ref (s314 true e v0 G) ((E orc).cl 314 [v0] G) :=
  fun r hr => cl_sxE_some Q orc (vs := [v0]) G Tryz.func314 (by kernel_rfl) (by kernel_rfl) (by kernel_rfl) (by kernel_rfl) (by kernel_rfl) (by kernel_rfl) (m314 h v0 G r hr)
/-- (*coxswain/claim.seeker[struct{}]).first -/
noncomputable def s315 (q : Bool) (e : Ex) (v0 v1 : Value) (G : GS) : Option (Value × GS) :=
  bP (pNil v0) fun x0 =>
  bP (fa Q q 280 2 13 x0) fun x1 =>
  bP (ld Q q 3 x1 G) fun x2 =>
  bP (bn Q q .eql 3 (.tmp 9) (.const (.int .i64 1)) x2 (.int .i64 1)) fun x3 =>
  ifV x3 (
  bP (pNil v0) fun x4 =>
  bP (fa Q q 280 7 19 x4) fun x5 =>
  bP (st Q q 38 1 x5 (.int .u64 0) G) fun G6 =>
  bP (pNil v0) fun x7 =>
  bP (fa Q q 280 0 0 x7) fun x8 =>
  bP (lda Q q 36 13 x8 G6) fun x9 =>
  bS (e.ev.cl 100 [x9, (.int .i64 (-1)), (.int .i64 0)] G6) fun x10 G11 =>
  bS (e.ev.cl 120 [v1, x10] G11) fun x12 G13 =>
  bP (pNil v0) fun x14 =>
  bP (fa Q q 280 3 14 x14) fun x15 =>
  bP (st Q q 38 1 x15 x12 G13) fun G16 =>
  bP (pNil v0) fun x17 =>
  bP (fa Q q 280 3 14 x17) fun x18 =>
  bP (ld Q q 38 x18 G16) fun x19 =>
  bS (e.ev.cl 221 [x19] G16) fun x20 G21 =>
  bP (pExtract x20 0) fun x22 =>
  bP (pExtract x20 1) fun x23 =>
  bS (al Q q 357 z357 G21) fun x24 G25 =>
  bP (st Q q 357 2 x24 x22 G25) fun G26 =>
  bP (fa Q q 357 0 0 x24) fun x27 =>
  bP (ld Q q 3 x27 G26) fun x28 =>
  bP (pNil v0) fun x29 =>
  bP (fa Q q 280 4 15 x29) fun x30 =>
  bP (st Q q 3 1 x30 x28 G26) fun G31 =>
  bP (pNil v0) fun x32 =>
  bP (fa Q q 280 2 13 x32) fun x33 =>
  bP (st Q q 3 1 x33 (.int .i64 2) G31) fun G34 =>
  bP (pNil v0) fun x35 =>
  bP (fa Q q 280 4 15 x35) fun x36 =>
  bP (ld Q q 3 x36 (G34.room 20)) fun x37 =>
  bP (bn Q q .lss 3 (.tmp 44) (.const (.int .i64 0)) x37 (.int .i64 0)) fun x38 =>
  bS (gd x38 false (some (v0, (G34.room 20))) (G34.room 20)) fun x39 _ =>
  bS (gd x38 false (bP (pNil x39) fun y => some (y, (G34.room 20))) (G34.room 20)) fun x40 _ =>
  bS (gd x38 false (bP (fa Q q 280 4 15 x40) fun y => some (y, (G34.room 20))) (G34.room 20)) fun x41 _ =>
  bS (gd x38 false (bP (ld Q q 3 x41 (G34.room 20)) fun y => some (y, (G34.room 20))) (G34.room 20)) fun x42 _ =>
  bS (gd x38 false (some (v0, (G34.room 20))) (G34.room 20)) fun x43 _ =>
  bS (gd x38 false (bP (pNil x43) fun y => some (y, (G34.room 20))) (G34.room 20)) fun x44 _ =>
  bS (gd x38 false (bP (fa Q q 280 0 0 x44) fun y => some (y, (G34.room 20))) (G34.room 20)) fun x45 _ =>
  bS (gd x38 false (bP (fa Q q 36 3 3 x45) fun y => some (y, (G34.room 20))) (G34.room 20)) fun x46 _ =>
  bS (gd x38 false (bP (fa Q q 34 0 0 x46) fun y => some (y, (G34.room 20))) (G34.room 20)) fun x47 _ =>
  bS (gd x38 false (bP (fa Q q 30 0 0 x47) fun y => some (y, (G34.room 20))) (G34.room 20)) fun x48 _ =>
  bS (gd x38 false (bP (fa Q q 28 2 2 x48) fun y => some (y, (G34.room 20))) (G34.room 20)) fun x49 _ =>
  bS (gd x38 false (bP (ld Q q 3 x49 (G34.room 20)) fun y => some (y, (G34.room 20))) (G34.room 20)) fun x50 _ =>
  bS (gd x38 false (bP (bn Q q .geq 3 (.tmp 50) (.tmp 58) x42 x50) fun y => some (y, (G34.room 20))) (G34.room 20)) fun x51 _ =>
  bP (pickV x38 (.bool true) x51) fun x52 =>
  ifV x52 (
  bP (pNil v0) fun x53 =>
  bP (fa Q q 280 2 13 x53) fun x54 =>
  bP (st Q q 3 1 x54 (.int .i64 99) (G34.room 20)) fun G55 =>
  bP (pNil v0) fun x56 =>
  bP (fa Q q 280 9 21 x56) fun x57 =>
  bP (st Q q 23 1 x57 (.int .i64 15) G55) fun G58 =>
  some (.tuple #[], G58)) (
  some (.tuple #[], (G34.room 20)))) (
  bP (bn Q q .eql 3 (.tmp 9) (.const (.int .i64 2)) x2 (.int .i64 2)) fun x59 =>
  ifV x59 (
  bS (e.ev.cl 317 [v0, v1, (.int .i64 4)] G) fun x60 G61 =>
  bP (pNil v0) fun x62 =>
  bP (fa Q q 280 5 16 x62) fun x63 =>
  bP (st Q q 188 1 x63 x60 G61) fun G64 =>
  bP (pNil v0) fun x65 =>
  bP (fa Q q 280 2 13 x65) fun x66 =>
  bP (st Q q 3 1 x66 (.int .i64 4) G64) fun G67 =>
  bP (pNil v0) fun x68 =>
  bP (fa Q q 280 5 16 x68) fun x69 =>
  bP (ld Q q 188 x69 G67) fun x70 =>
  bS (e.ev.cl 290 [x70] G67) fun x71 G72 =>
  ifV x71 (
  bP (pNil v0) fun x73 =>
  bP (fa Q q 280 2 13 x73) fun x74 =>
  bP (st Q q 3 1 x74 (.int .i64 3) G72) fun G75 =>
  some (.tuple #[], G75)) (
  some (.tuple #[], G72))) (
  bP (bn Q q .eql 3 (.tmp 9) (.const (.int .i64 3)) x2 (.int .i64 3)) fun x76 =>
  ifV x76 (
  bP (pNil v0) fun x77 =>
  bP (fa Q q 280 7 19 x77) fun x78 =>
  bP (st Q q 38 1 x78 (.int .u64 0) G) fun G79 =>
  bP (pNil v0) fun x80 =>
  bP (fa Q q 280 0 0 x80) fun x81 =>
  bP (lda Q q 36 13 x81 (G79.room 16)) fun x82 =>
  bS (e.ev.cl 100 [x82, (.int .i64 (-1)), (.int .i64 0)] (G79.room 16)) fun x84 G83 =>
  bP (pNil v0) fun x85 =>
  bP (fa Q q 280 3 14 x85) fun x86 =>
  bP (ld Q q 38 x86 G83) fun x87 =>
  chk ((sameO (ld Q q 38 x86 (G79.room 16)) x87 && true)) <|
  bP (pNil v0) fun x88 =>
  bP (fa Q q 280 5 16 x88) fun x89 =>
  bP (ld Q q 188 x89 G83) fun x90 =>
  chk ((sameO (ld Q q 188 x89 (G79.room 16)) x90 && true)) <|
  bS (e.ev.cl 291 [x90, (.bool false)] G83) fun x92 G91 =>
  chk ((sameO (ld Q q 38 x86 G91) x87 && true)) <|
  bS (e.ev.cl 242 [v1, x84, x87, x92] G91) fun x94 G93 =>
  bP (pNil v0) fun x95 =>
  bP (fa Q q 280 2 13 x95) fun x96 =>
  bP (st Q q 3 1 x96 (.int .i64 1) G93) fun G97 =>
  some (.tuple #[], G97)) (
  some (.tuple #[], G))))
theorem m315 {e : Ex} {E : Ev} (h : ExLe Q e E) (v0 v1 : Value) (G : GS) : Ref (s315 true e v0 v1 G) (s315 false (Ex.of E) v0 v1 G) := by
  unfold s315
  exact Ref.go
set_option maxHeartbeats 8000000 in
theorem f315 {orc : FuncId → Bool} {e : Ex} (h : ExLe Q e (E orc)) (v0 v1 : Value) (G : GS) : Ref (s315 true e v0 v1 G) ((E orc).cl 315 [v0, v1] G) :=
  fun r hr => cl_sxE_some Q orc (vs := [v0, v1]) G Tryz.func315 (by kernel_rfl) (by kernel_rfl) (by kernel_rfl) (by kernel_rfl) (by kernel_rfl) (by kernel_rfl) (m315 h v0 v1 G r hr)
/-- (*coxswain/claim.seeker[struct{}]).job -/
noncomputable def s316 (q : Bool) (e : Ex) (v0 v1 : Value) (G : GS) : Option (Value × GS) :=
  bS (e.ev.cl 317 [v0, v1, (.int .i64 1)] G) fun x0 G1 =>
  bP (bn Q q .and 38 (.tmp 7) (.const (.int .u64 65535)) x0 (.int .u64 65535)) fun x2 =>
  bP (cv Q q 38 3 .u64 .i64 x2) fun x3 =>
  bP (pNil v0) fun x4 =>
  bP (fa Q q 280 6 17 x4) fun x5 =>
  bP (fa Q q 46 1 1 x5) fun x6 =>
  bP (st Q q 3 1 x6 x3 G1) fun G7 =>
  some (.tuple #[], G7)
theorem m316 {e : Ex} {E : Ev} (h : ExLe Q e E) (v0 v1 : Value) (G : GS) : Ref (s316 true e v0 v1 G) (s316 false (Ex.of E) v0 v1 G) := by
  unfold s316
  exact Ref.go
theorem f316 {orc : FuncId → Bool} {e : Ex} (h : ExLe Q e (E orc)) (v0 v1 : Value) (G : GS) : Ref (s316 true e v0 v1 G) ((E orc).cl 316 [v0, v1] G) :=
  fun r hr => cl_sxE_some Q orc (vs := [v0, v1]) G Tryz.func316 (by kernel_rfl) (by kernel_rfl) (by kernel_rfl) (by kernel_rfl) (by kernel_rfl) (by kernel_rfl) (m316 h v0 v1 G r hr)
/-- (*coxswain/claim.seeker[struct{}]).load -/
noncomputable def s317 (q : Bool) (e : Ex) (v0 v1 v2 : Value) (G : GS) : Option (Value × GS) :=
  bP (pNil v0) fun x0 =>
  bP (fa Q q 280 3 14 x0) fun x1 =>
  bP (ld Q q 38 x1 G) fun x2 =>
  bP (pNil v0) fun x3 =>
  bP (fa Q q 280 7 19 x3) fun x4 =>
  bP (st Q q 38 1 x4 x2 G) fun G5 =>
  bP (pNil v0) fun x6 =>
  bP (fa Q q 280 0 0 x6) fun x7 =>
  bP (lda Q q 36 13 x7 (G5.room 13)) fun x8 =>
  bP (pNil v0) fun x9 =>
  bP (fa Q q 280 4 15 x9) fun x10 =>
  bP (ld Q q 3 x10 (G5.room 13)) fun x11 =>
  bS (e.ev.cl 87 [x8, x11, v2] (G5.room 13)) fun x13 G12 =>
  bS (e.ev.cl 120 [v1, x13] G12) fun x15 G14 =>
  some (x15, G14)
theorem m317 {e : Ex} {E : Ev} (h : ExLe Q e E) (v0 v1 v2 : Value) (G : GS) : Ref (s317 true e v0 v1 v2 G) (s317 false (Ex.of E) v0 v1 v2 G) := by
  unfold s317
  exact Ref.go
theorem f317 {orc : FuncId → Bool} {e : Ex} (h : ExLe Q e (E orc)) (v0 v1 v2 : Value) (G : GS) : Ref (s317 true e v0 v1 v2 G) ((E orc).cl 317 [v0, v1, v2] G) :=
  fun r hr => cl_sxE_some Q orc (vs := [v0, v1, v2]) G Tryz.func317 (by kernel_rfl) (by kernel_rfl) (by kernel_rfl) (by kernel_rfl) (by kernel_rfl) (by kernel_rfl) (m317 h v0 v1 v2 G r hr)
/-- (coxswain/tower.node).cells -/
noncomputable def s318 (q : Bool) (e : Ex) (v0 : Value) (G : GS) : Option (Value × GS) :=
  bP (bn Q q .add 3 (.const (.int .i64 4)) (.tmp 3) (.int .i64 4) v0) fun x0 =>
  some (x0, G)
theorem m318 {e : Ex} {E : Ev} (h : ExLe Q e E) (v0 : Value) (G : GS) : Ref (s318 true e v0 G) (s318 false (Ex.of E) v0 G) := by
  unfold s318
  exact Ref.go
theorem f318 {orc : FuncId → Bool} {e : Ex} (h : ExLe Q e (E orc)) (v0 : Value) (G : GS) : Ref (s318 true e v0 G) ((E orc).cl 318 [v0] G) :=
  fun r hr => cl_sxE_some Q orc (vs := [v0]) G Tryz.func318 (by kernel_rfl) (by kernel_rfl) (by kernel_rfl) (by kernel_rfl) (by kernel_rfl) (by kernel_rfl) (m318 h v0 G r hr)
/-- (coxswain/tower.head).cells -/
noncomputable def s319 (q : Bool) (e : Ex) (v0 : Value) (G : GS) : Option (Value × GS) :=
  some (v0, G)
theorem m319 {e : Ex} {E : Ev} (h : ExLe Q e E) (v0 : Value) (G : GS) : Ref (s319 true e v0 G) (s319 false (Ex.of E) v0 G) := by
  unfold s319
  exact Ref.go
theorem f319 {orc : FuncId → Bool} {e : Ex} (h : ExLe Q e (E orc)) (v0 : Value) (G : GS) : Ref (s319 true e v0 G) ((E orc).cl 319 [v0] G) :=
  fun r hr => cl_sxE_some Q orc (vs := [v0]) G Tryz.func319 (by kernel_rfl) (by kernel_rfl) (by kernel_rfl) (by kernel_rfl) (by kernel_rfl) (by kernel_rfl) (m319 h v0 G r hr)
/-- (*coxswain/ready.part[*coxswain/tower.Lay]).run -/
noncomputable def s320 (q : Bool) (e : Ex) (v0 v1 : Value) (G : GS) : Option (Value × GS) :=
  bP (pNil v0) fun x0 =>
  bP (fa Q q 297 4 4 x0) fun x1 =>
  bP (ld Q q 4 x1 G) fun x2 =>
  bP (un Q q .not x2) fun x3 =>
  ifV x3 (
  bP (pNil v0) fun x4 =>
  bP (fa Q q 297 0 0 x4) fun x5 =>
  bP (ld Q q 293 x5 G) fun x6 =>
  bS (cValue e.ev x6 [] G) fun x7 G8 =>
  bP (pNil v0) fun x9 =>
  bP (fa Q q 297 3 3 x9) fun x10 =>
  bP (st Q q 291 1 x10 x7 G8) fun G11 =>
  bP (pNil v0) fun x12 =>
  bP (fa Q q 297 4 4 x12) fun x13 =>
  bP (st Q q 4 1 x13 (.bool true) G11) fun G14 =>
  bP (pNil v0) fun x15 =>
  bP (fa Q q 297 3 3 x15) fun x16 =>
  bP (ld Q q 291 x16 G14) fun x17 =>
  bP (ifc Q q 291 x17) fun x18 =>
  bS (cInvoke Q e.ev x18 "Step" [v1] G14) fun x19 G20 =>
  bP (pNil v0) fun x21 =>
  bP (fa Q q 297 1 1 x21) fun x22 =>
  bP (ld Q q 294 x22 G20) fun x23 =>
  bP (ef Q q true 294 (.tmp 34) (.const .nilFunc) x23 .nilFunc) fun x24 =>
  ifV x24 (
  bP (pNil v0) fun x25 =>
  bP (fa Q q 297 1 1 x25) fun x26 =>
  bP (ld Q q 294 x26 (G20.room 10)) fun x27 =>
  bP (pNil v0) fun x28 =>
  bP (fa Q q 297 3 3 x28) fun x29 =>
  bP (ld Q q 291 x29 (G20.room 10)) fun x30 =>
  bS (cValue e.ev x27 [x30] (G20.room 10)) fun x32 G31 =>
  bS (gd x19 true (some (v0, G31)) G31) fun x33 G34 =>
  bS (gd x19 true (bP (pNil x33) fun y => some (y, G34)) G34) fun x35 G36 =>
  bS (gd x19 true (bP (fa Q q 297 2 2 x35) fun y => some (y, G36)) G36) fun x37 G38 =>
  bS (gd x19 true (bP (ld Q q 295 x37 G38) fun y => some (y, G38)) G38) fun x39 G40 =>
  bS (gd x19 true (bP (ef Q q true 295 (.tmp 50) (.const .nilFunc) x39 .nilFunc) fun y => some (y, G40)) G40) fun x41 G42 =>
  bP (pickV x19 x41 (.bool false)) fun x43 =>
  ifV x43 (
  bP (pNil v0) fun x44 =>
  bP (fa Q q 297 2 2 x44) fun x45 =>
  bP (ld Q q 295 x45 (G42.room 9)) fun x46 =>
  bP (pNil v0) fun x47 =>
  bP (fa Q q 297 3 3 x47) fun x48 =>
  bP (ld Q q 291 x48 (G42.room 9)) fun x49 =>
  bS (cValue e.ev x46 [x49] (G42.room 9)) fun x51 G50 =>
  some (.tuple #[x19, x32], G50)) (
  some (.tuple #[x19, x32], G42))) (
  bS (gd x19 true (some (v0, G20)) G20) fun x52 G53 =>
  bS (gd x19 true (bP (pNil x52) fun y => some (y, G53)) G53) fun x54 G55 =>
  bS (gd x19 true (bP (fa Q q 297 2 2 x54) fun y => some (y, G55)) G55) fun x56 G57 =>
  bS (gd x19 true (bP (ld Q q 295 x56 G57) fun y => some (y, G57)) G57) fun x58 G59 =>
  bS (gd x19 true (bP (ef Q q true 295 (.tmp 50) (.const .nilFunc) x58 .nilFunc) fun y => some (y, G59)) G59) fun x60 G61 =>
  bP (pickV x19 x60 (.bool false)) fun x62 =>
  ifV x62 (
  bP (pNil v0) fun x63 =>
  bP (fa Q q 297 2 2 x63) fun x64 =>
  bP (ld Q q 295 x64 (G61.room 9)) fun x65 =>
  bP (pNil v0) fun x66 =>
  bP (fa Q q 297 3 3 x66) fun x67 =>
  bP (ld Q q 291 x67 (G61.room 9)) fun x68 =>
  bS (cValue e.ev x65 [x68] (G61.room 9)) fun x70 G69 =>
  some (.tuple #[x19, (.int .u64 0)], G69)) (
  some (.tuple #[x19, (.int .u64 0)], G61)))) (
  bP (pNil v0) fun x71 =>
  bP (fa Q q 297 3 3 x71) fun x72 =>
  bP (ld Q q 291 x72 G) fun x73 =>
  bP (ifc Q q 291 x73) fun x74 =>
  bS (cInvoke Q e.ev x74 "Step" [v1] G) fun x75 G76 =>
  bP (pNil v0) fun x77 =>
  bP (fa Q q 297 1 1 x77) fun x78 =>
  bP (ld Q q 294 x78 G76) fun x79 =>
  bP (ef Q q true 294 (.tmp 34) (.const .nilFunc) x79 .nilFunc) fun x80 =>
  ifV x80 (
  bP (pNil v0) fun x81 =>
  bP (fa Q q 297 1 1 x81) fun x82 =>
  bP (ld Q q 294 x82 (G76.room 10)) fun x83 =>
  bP (pNil v0) fun x84 =>
  bP (fa Q q 297 3 3 x84) fun x85 =>
  bP (ld Q q 291 x85 (G76.room 10)) fun x86 =>
  bS (cValue e.ev x83 [x86] (G76.room 10)) fun x88 G87 =>
  bS (gd x75 true (some (v0, G87)) G87) fun x89 G90 =>
  bS (gd x75 true (bP (pNil x89) fun y => some (y, G90)) G90) fun x91 G92 =>
  bS (gd x75 true (bP (fa Q q 297 2 2 x91) fun y => some (y, G92)) G92) fun x93 G94 =>
  bS (gd x75 true (bP (ld Q q 295 x93 G94) fun y => some (y, G94)) G94) fun x95 G96 =>
  bS (gd x75 true (bP (ef Q q true 295 (.tmp 50) (.const .nilFunc) x95 .nilFunc) fun y => some (y, G96)) G96) fun x97 G98 =>
  bP (pickV x75 x97 (.bool false)) fun x99 =>
  ifV x99 (
  bP (pNil v0) fun x100 =>
  bP (fa Q q 297 2 2 x100) fun x101 =>
  bP (ld Q q 295 x101 (G98.room 9)) fun x102 =>
  bP (pNil v0) fun x103 =>
  bP (fa Q q 297 3 3 x103) fun x104 =>
  bP (ld Q q 291 x104 (G98.room 9)) fun x105 =>
  bS (cValue e.ev x102 [x105] (G98.room 9)) fun x107 G106 =>
  some (.tuple #[x75, x88], G106)) (
  some (.tuple #[x75, x88], G98))) (
  bS (gd x75 true (some (v0, G76)) G76) fun x108 G109 =>
  bS (gd x75 true (bP (pNil x108) fun y => some (y, G109)) G109) fun x110 G111 =>
  bS (gd x75 true (bP (fa Q q 297 2 2 x110) fun y => some (y, G111)) G111) fun x112 G113 =>
  bS (gd x75 true (bP (ld Q q 295 x112 G113) fun y => some (y, G113)) G113) fun x114 G115 =>
  bS (gd x75 true (bP (ef Q q true 295 (.tmp 50) (.const .nilFunc) x114 .nilFunc) fun y => some (y, G115)) G115) fun x116 G117 =>
  bP (pickV x75 x116 (.bool false)) fun x118 =>
  ifV x118 (
  bP (pNil v0) fun x119 =>
  bP (fa Q q 297 2 2 x119) fun x120 =>
  bP (ld Q q 295 x120 (G117.room 9)) fun x121 =>
  bP (pNil v0) fun x122 =>
  bP (fa Q q 297 3 3 x122) fun x123 =>
  bP (ld Q q 291 x123 (G117.room 9)) fun x124 =>
  bS (cValue e.ev x121 [x124] (G117.room 9)) fun x126 G125 =>
  some (.tuple #[x75, (.int .u64 0)], G125)) (
  some (.tuple #[x75, (.int .u64 0)], G117))))
theorem m320 {e : Ex} {E : Ev} (h : ExLe Q e E) (v0 v1 : Value) (G : GS) : Ref (s320 true e v0 v1 G) (s320 false (Ex.of E) v0 v1 G) := by
  unfold s320
  exact Ref.go
theorem f320 {orc : FuncId → Bool} {e : Ex} (h : ExLe Q e (E orc)) (v0 v1 : Value) (G : GS) : Ref (s320 true e v0 v1 G) ((E orc).cl 320 [v0, v1] G) :=
  fun r hr => cl_sxE_some Q orc (vs := [v0, v1]) G Tryz.func320 (by kernel_rfl) (by kernel_rfl) (by kernel_rfl) (by kernel_rfl) (by kernel_rfl) (by kernel_rfl) (m320 h v0 v1 G r hr)
noncomputable def b321_0 (q : Bool) (e : Ex) (lp : Env → GS → Option (Exit × Env × GS)) (τ : Env) (G : GS) : Option (Exit × Env × GS) :=
  bV q (τ 0) fun a0_ =>
  bV q (τ 1) fun a1_ =>
  bV q (τ 12) fun a12_ =>
  bV q (τ 13) fun a13_ =>
  bP (bn Q q .lss 3 (.tmp 13) (.const (.int .i64 4)) a13_ (.int .i64 4)) fun x0 =>
  ifV x0 (
  bP (ix Q q 333 4 a12_ a13_) fun x1 =>
  bP (pNil a0_) fun x2 =>
  bP (fa Q q 335 3 6 x2) fun x3 =>
  bP (ld Q q 3 x3 G) fun x4 =>
  bP (bn Q q .eql 3 (.tmp 17) (.tmp 21) a13_ x4) fun x5 =>
  ifV x5 (
  bS (cValue e.ev x1 [a1_] G) fun x6 G7 =>
  some ((.exit 0), clq q 36 (tu τ [(0, a0_), (1, a1_), (12, a12_), (13, a13_), (5, a13_), (6, x1), (14, x0), (15, a13_), (16, x1), (17, a13_), (18, a0_), (19, x2), (20, x3), (21, x4), (22, x5), (23, x1), (24, a1_), (25, x6)]), G7)) (
  bP (bn Q q .add 3 (.tmp 13) (.const (.int .i64 1)) a13_ (.int .i64 1)) fun x8 =>
  lp (tu τ [(0, a0_), (1, a1_), (12, a12_), (13, x8), (5, a13_), (6, x1), (14, x0), (15, a13_), (16, x1), (17, a13_), (18, a0_), (19, x2), (20, x3), (21, x4), (22, x5), (26, x8)]) G)) (
  some ((.exit 0), clq q 36 (tu τ [(0, a0_), (1, a1_), (12, a12_), (13, a13_), (14, x0)]), G))
theorem mb321_0 {e : Ex} {E : Ev} (h : ExLe Q e E) {lp lp' : Env → GS → Option (Exit × Env × GS)} (hlp : LpLe lp lp') (τ : Env) (G : GS) : Ref (b321_0 true e lp τ G) (b321_0 false (Ex.of E) lp' τ G) := by
  unfold b321_0
  exact Ref.go
theorem l321_0 {orc : FuncId → Bool} {e : Ex} (h : ExLe Q e (E orc)) (lp : Env → GS → Option (Exit × Env × GS)) (hlp : ∀ τ G, Ref (lp τ G) (mapE ((E orc).lp (subAt [1, 1, 0, 1, 0, 0] (bodyOf Tryz.f321)) (lst 36 τ) G))) (T : List Value) (G : GS) (hT : T.length = 36) : Ref (b321_0 true e lp (nth undef T) G) (mapE ((E orc).lp (subAt [1, 1, 0, 1, 0, 0] (bodyOf Tryz.f321)) T G)) :=
  fun r hr => lp_sxM Q orc G hT (by kernel_rfl) (mb321_0 h ⟨hlp⟩ _ _ r hr)
/-- (*coxswain/tower.Lay).Step -/
noncomputable def s321 (q : Bool) (e : Ex) (v0 v1 : Value) (G : GS) : Option (Value × GS) :=
  bS (e.ev.cl 322 [v0] G) fun x0 G1 =>
  ifV x0 (
  some ((.bool true), G1)) (
  bP (pNil v0) fun x2 =>
  bP (fa Q q 335 2 2 x2) fun x3 =>
  bP (lda Q q 333 4 x3 G1) fun x4 =>
  bL q e 321 0 (subAt [1, 1, 0, 1, 0, 0] (bodyOf Tryz.f321)) 36 (tu (nth undef [v0, v1]) [(4, (.bool false)), (7, v0), (8, x0), (9, v0), (10, x2), (11, x3), (12, x4), (13, (.int .i64 0))]) G1 fun e5 t6 G7 =>
  bV q (t6 0) fun t6x0_ =>
  ifE e5 (.exit 0) (
  bP (pNil t6x0_) fun x8 =>
  bP (fa Q q 335 3 6 x8) fun x9 =>
  bP (ld Q q 3 x9 G7) fun x10 =>
  bP (bn Q q .add 3 (.tmp 30) (.const (.int .i64 1)) x10 (.int .i64 1)) fun x11 =>
  bP (pNil t6x0_) fun x12 =>
  bP (fa Q q 335 3 6 x12) fun x13 =>
  bP (st Q q 3 1 x13 x11 G7) fun G14 =>
  bS (e.ev.cl 322 [t6x0_] G14) fun x15 G16 =>
  some (x15, G16)) (none))
theorem m321 {e : Ex} {E : Ev} (h : ExLe Q e E) (v0 v1 : Value) (G : GS) : Ref (s321 true e v0 v1 G) (s321 false (Ex.of E) v0 v1 G) := by
  unfold s321
  exact Ref.go
theorem f321 {orc : FuncId → Bool} {e : Ex} (h : ExLe Q e (E orc)) (v0 v1 : Value) (G : GS) : Ref (s321 true e v0 v1 G) ((E orc).cl 321 [v0, v1] G) :=
  fun r hr => cl_sxE_some Q orc (vs := [v0, v1]) G Tryz.func321 (by kernel_rfl) (by kernel_rfl) (by kernel_rfl) (by kernel_rfl) (by kernel_rfl) (by kernel_rfl) (m321 h v0 v1 G r hr)
/-- (*coxswain/tower.Lay).over -/
noncomputable def s322 (q : Bool) (e : Ex) (v0 : Value) (G : GS) : Option (Value × GS) :=
  bP (ep Q q false 291 (.tmp 3) (.const (.pointer none)) v0 (.pointer none)) fun x0 =>
  bS (gd x0 false (some (v0, G)) G) fun x1 G2 =>
  bS (gd x0 false (bP (pNil x1) fun y => some (y, G2)) G2) fun x3 G4 =>
  bS (gd x0 false (bP (fa Q q 335 0 0 x3) fun y => some (y, G4)) G4) fun x5 G6 =>
  bS (gd x0 false (bP (ld Q q 4 x5 G6) fun y => some (y, G6)) G6) fun x7 G8 =>
  bS (gd x0 false (bP (un Q q .not x7) fun y => some (y, G8)) G8) fun x9 G10 =>
  bP (pickV x0 (.bool true) x9) fun x11 =>
  bS (gd x11 false (some (v0, G10)) G10) fun x12 G13 =>
  bS (gd x11 false (bP (pNil x12) fun y => some (y, G13)) G13) fun x14 G15 =>
  bS (gd x11 false (bP (fa Q q 335 3 6 x14) fun y => some (y, G15)) G15) fun x16 G17 =>
  bS (gd x11 false (bP (ld Q q 3 x16 G17) fun y => some (y, G17)) G17) fun x18 G19 =>
  bS (gd x11 false (bP (bn Q q .eql 3 (.tmp 16) (.const (.int .i64 4)) x18 (.int .i64 4)) fun y => some (y, G19)) G19) fun x20 G21 =>
  bP (pickV x11 (.bool true) x20) fun x22 =>
  some (x22, G21)
theorem m322 {e : Ex} {E : Ev} (h : ExLe Q e E) (v0 : Value) (G : GS) : Ref (s322 true e v0 G) (s322 false (Ex.of E) v0 G) := by
  unfold s322
  exact Ref.go
theorem f322 {orc : FuncId → Bool} {e : Ex} (h : ExLe Q e (E orc)) (v0 : Value) (G : GS) : Ref (s322 true e v0 G) ((E orc).cl 322 [v0] G) :=
  fun r hr => cl_sxE_some Q orc (vs := [v0]) G Tryz.func322 (by kernel_rfl) (by kernel_rfl) (by kernel_rfl) (by kernel_rfl) (by kernel_rfl) (by kernel_rfl) (m322 h v0 G r hr)
/-- (*coxswain/ready.part[*coxswain/insert.Insert]).run -/
noncomputable def s323 (q : Bool) (e : Ex) (v0 v1 : Value) (G : GS) : Option (Value × GS) :=
  bP (pNil v0) fun x0 =>
  bP (fa Q q 305 4 4 x0) fun x1 =>
  bP (ld Q q 4 x1 G) fun x2 =>
  bP (un Q q .not x2) fun x3 =>
  ifV x3 (
  bP (pNil v0) fun x4 =>
  bP (fa Q q 305 0 0 x4) fun x5 =>
  bP (ld Q q 301 x5 G) fun x6 =>
  bS (cValue e.ev x6 [] G) fun x7 G8 =>
  bP (pNil v0) fun x9 =>
  bP (fa Q q 305 3 3 x9) fun x10 =>
  bP (st Q q 299 1 x10 x7 G8) fun G11 =>
  bP (pNil v0) fun x12 =>
  bP (fa Q q 305 4 4 x12) fun x13 =>
  bP (st Q q 4 1 x13 (.bool true) G11) fun G14 =>
  bP (pNil v0) fun x15 =>
  bP (fa Q q 305 3 3 x15) fun x16 =>
  bP (ld Q q 299 x16 G14) fun x17 =>
  bP (ifc Q q 299 x17) fun x18 =>
  bS (cInvoke Q e.ev x18 "Step" [v1] G14) fun x19 G20 =>
  bP (pNil v0) fun x21 =>
  bP (fa Q q 305 1 1 x21) fun x22 =>
  bP (ld Q q 302 x22 G20) fun x23 =>
  bP (ef Q q true 302 (.tmp 34) (.const .nilFunc) x23 .nilFunc) fun x24 =>
  ifV x24 (
  bP (pNil v0) fun x25 =>
  bP (fa Q q 305 1 1 x25) fun x26 =>
  bP (ld Q q 302 x26 (G20.room 10)) fun x27 =>
  bP (pNil v0) fun x28 =>
  bP (fa Q q 305 3 3 x28) fun x29 =>
  bP (ld Q q 299 x29 (G20.room 10)) fun x30 =>
  bS (cValue e.ev x27 [x30] (G20.room 10)) fun x32 G31 =>
  bS (gd x19 true (some (v0, G31)) G31) fun x33 G34 =>
  bS (gd x19 true (bP (pNil x33) fun y => some (y, G34)) G34) fun x35 G36 =>
  bS (gd x19 true (bP (fa Q q 305 2 2 x35) fun y => some (y, G36)) G36) fun x37 G38 =>
  bS (gd x19 true (bP (ld Q q 303 x37 G38) fun y => some (y, G38)) G38) fun x39 G40 =>
  bS (gd x19 true (bP (ef Q q true 303 (.tmp 50) (.const .nilFunc) x39 .nilFunc) fun y => some (y, G40)) G40) fun x41 G42 =>
  bP (pickV x19 x41 (.bool false)) fun x43 =>
  ifV x43 (
  bP (pNil v0) fun x44 =>
  bP (fa Q q 305 2 2 x44) fun x45 =>
  bP (ld Q q 303 x45 (G42.room 9)) fun x46 =>
  bP (pNil v0) fun x47 =>
  bP (fa Q q 305 3 3 x47) fun x48 =>
  bP (ld Q q 299 x48 (G42.room 9)) fun x49 =>
  bS (cValue e.ev x46 [x49] (G42.room 9)) fun x51 G50 =>
  some (.tuple #[x19, x32], G50)) (
  some (.tuple #[x19, x32], G42))) (
  bS (gd x19 true (some (v0, G20)) G20) fun x52 G53 =>
  bS (gd x19 true (bP (pNil x52) fun y => some (y, G53)) G53) fun x54 G55 =>
  bS (gd x19 true (bP (fa Q q 305 2 2 x54) fun y => some (y, G55)) G55) fun x56 G57 =>
  bS (gd x19 true (bP (ld Q q 303 x56 G57) fun y => some (y, G57)) G57) fun x58 G59 =>
  bS (gd x19 true (bP (ef Q q true 303 (.tmp 50) (.const .nilFunc) x58 .nilFunc) fun y => some (y, G59)) G59) fun x60 G61 =>
  bP (pickV x19 x60 (.bool false)) fun x62 =>
  ifV x62 (
  bP (pNil v0) fun x63 =>
  bP (fa Q q 305 2 2 x63) fun x64 =>
  bP (ld Q q 303 x64 (G61.room 9)) fun x65 =>
  bP (pNil v0) fun x66 =>
  bP (fa Q q 305 3 3 x66) fun x67 =>
  bP (ld Q q 299 x67 (G61.room 9)) fun x68 =>
  bS (cValue e.ev x65 [x68] (G61.room 9)) fun x70 G69 =>
  some (.tuple #[x19, (.int .u64 0)], G69)) (
  some (.tuple #[x19, (.int .u64 0)], G61)))) (
  bP (pNil v0) fun x71 =>
  bP (fa Q q 305 3 3 x71) fun x72 =>
  bP (ld Q q 299 x72 G) fun x73 =>
  bP (ifc Q q 299 x73) fun x74 =>
  bS (cInvoke Q e.ev x74 "Step" [v1] G) fun x75 G76 =>
  bP (pNil v0) fun x77 =>
  bP (fa Q q 305 1 1 x77) fun x78 =>
  bP (ld Q q 302 x78 G76) fun x79 =>
  bP (ef Q q true 302 (.tmp 34) (.const .nilFunc) x79 .nilFunc) fun x80 =>
  ifV x80 (
  bP (pNil v0) fun x81 =>
  bP (fa Q q 305 1 1 x81) fun x82 =>
  bP (ld Q q 302 x82 (G76.room 10)) fun x83 =>
  bP (pNil v0) fun x84 =>
  bP (fa Q q 305 3 3 x84) fun x85 =>
  bP (ld Q q 299 x85 (G76.room 10)) fun x86 =>
  bS (cValue e.ev x83 [x86] (G76.room 10)) fun x88 G87 =>
  bS (gd x75 true (some (v0, G87)) G87) fun x89 G90 =>
  bS (gd x75 true (bP (pNil x89) fun y => some (y, G90)) G90) fun x91 G92 =>
  bS (gd x75 true (bP (fa Q q 305 2 2 x91) fun y => some (y, G92)) G92) fun x93 G94 =>
  bS (gd x75 true (bP (ld Q q 303 x93 G94) fun y => some (y, G94)) G94) fun x95 G96 =>
  bS (gd x75 true (bP (ef Q q true 303 (.tmp 50) (.const .nilFunc) x95 .nilFunc) fun y => some (y, G96)) G96) fun x97 G98 =>
  bP (pickV x75 x97 (.bool false)) fun x99 =>
  ifV x99 (
  bP (pNil v0) fun x100 =>
  bP (fa Q q 305 2 2 x100) fun x101 =>
  bP (ld Q q 303 x101 (G98.room 9)) fun x102 =>
  bP (pNil v0) fun x103 =>
  bP (fa Q q 305 3 3 x103) fun x104 =>
  bP (ld Q q 299 x104 (G98.room 9)) fun x105 =>
  bS (cValue e.ev x102 [x105] (G98.room 9)) fun x107 G106 =>
  some (.tuple #[x75, x88], G106)) (
  some (.tuple #[x75, x88], G98))) (
  bS (gd x75 true (some (v0, G76)) G76) fun x108 G109 =>
  bS (gd x75 true (bP (pNil x108) fun y => some (y, G109)) G109) fun x110 G111 =>
  bS (gd x75 true (bP (fa Q q 305 2 2 x110) fun y => some (y, G111)) G111) fun x112 G113 =>
  bS (gd x75 true (bP (ld Q q 303 x112 G113) fun y => some (y, G113)) G113) fun x114 G115 =>
  bS (gd x75 true (bP (ef Q q true 303 (.tmp 50) (.const .nilFunc) x114 .nilFunc) fun y => some (y, G115)) G115) fun x116 G117 =>
  bP (pickV x75 x116 (.bool false)) fun x118 =>
  ifV x118 (
  bP (pNil v0) fun x119 =>
  bP (fa Q q 305 2 2 x119) fun x120 =>
  bP (ld Q q 303 x120 (G117.room 9)) fun x121 =>
  bP (pNil v0) fun x122 =>
  bP (fa Q q 305 3 3 x122) fun x123 =>
  bP (ld Q q 299 x123 (G117.room 9)) fun x124 =>
  bS (cValue e.ev x121 [x124] (G117.room 9)) fun x126 G125 =>
  some (.tuple #[x75, (.int .u64 0)], G125)) (
  some (.tuple #[x75, (.int .u64 0)], G117))))
theorem m323 {e : Ex} {E : Ev} (h : ExLe Q e E) (v0 v1 : Value) (G : GS) : Ref (s323 true e v0 v1 G) (s323 false (Ex.of E) v0 v1 G) := by
  unfold s323
  exact Ref.go
theorem f323 {orc : FuncId → Bool} {e : Ex} (h : ExLe Q e (E orc)) (v0 v1 : Value) (G : GS) : Ref (s323 true e v0 v1 G) ((E orc).cl 323 [v0, v1] G) :=
  fun r hr => cl_sxE_some Q orc (vs := [v0, v1]) G Tryz.func323 (by kernel_rfl) (by kernel_rfl) (by kernel_rfl) (by kernel_rfl) (by kernel_rfl) (by kernel_rfl) (m323 h v0 v1 G r hr)
/-- (*coxswain/insert.Insert).Step -/
noncomputable def s324 (q : Bool) (e : Ex) (v0 v1 : Value) (G : GS) : Option (Value × GS) :=
  bP (ep Q q false 299 (.tmp 6) (.const (.pointer none)) v0 (.pointer none)) fun x0 =>
  bS (gd x0 false (some (v0, G)) G) fun x1 G2 =>
  bS (gd x0 false (bP (pNil x1) fun y => some (y, G2)) G2) fun x3 G4 =>
  bS (gd x0 false (bP (fa Q q 340 7 19 x3) fun y => some (y, G4)) G4) fun x5 G6 =>
  bS (gd x0 false (bP (ld Q q 338 x5 G6) fun y => some (y, G6)) G6) fun x7 G8 =>
  bS (gd x0 false (bP (bn Q q .eql 338 (.tmp 12) (.const (.int .i64 0)) x7 (.int .i64 0)) fun y => some (y, G8)) G8) fun x9 G10 =>
  bP (pickV x0 (.bool true) x9) fun x11 =>
  ifV x11 (
  some ((.bool true), G10)) (
  bS (e.ev.cl 325 [] G10) fun x12 G13 =>
  bS (al Q q 423 z423 G13) fun x14 G15 =>
  bP (st Q q 423 13 x14 x12 G15) fun G16 =>
  bP (pNil v0) fun x17 =>
  bP (fa Q q 340 7 19 x17) fun x18 =>
  bP (ld Q q 338 x18 G16) fun x19 =>
  bP (iaa Q q 423 13 1 x14 x19) fun x20 =>
  bP (ld Q q 422 x20 G16) fun x21 =>
  bS (cValue e.ev x21 [v0, v1] G16) fun x22 G23 =>
  bP (pNil v0) fun x24 =>
  bP (fa Q q 340 7 19 x24) fun x25 =>
  bP (st Q q 338 1 x25 x22 G23) fun G26 =>
  bP (pNil v0) fun x27 =>
  bP (fa Q q 340 7 19 x27) fun x28 =>
  bP (ld Q q 338 x28 G26) fun x29 =>
  bP (bn Q q .eql 338 (.tmp 31) (.const (.int .i64 0)) x29 (.int .i64 0)) fun x30 =>
  some (x30, G26))
theorem m324 {e : Ex} {E : Ev} (h : ExLe Q e E) (v0 v1 : Value) (G : GS) : Ref (s324 true e v0 v1 G) (s324 false (Ex.of E) v0 v1 G) := by
  unfold s324
  exact Ref.go
theorem f324 {orc : FuncId → Bool} {e : Ex} (h : ExLe Q e (E orc)) (v0 v1 : Value) (G : GS) : Ref (s324 true e v0 v1 G) ((E orc).cl 324 [v0, v1] G) :=
  fun r hr => cl_sxE_some Q orc (vs := [v0, v1]) G Tryz.func324 (by kernel_rfl) (by kernel_rfl) (by kernel_rfl) (by kernel_rfl) (by kernel_rfl) (by kernel_rfl) (m324 h v0 v1 G r hr)
/-- coxswain/insert.table -/
noncomputable def s325 (q : Bool) (e : Ex) (G : GS) : Option (Value × GS) :=
  bS (al Q q 423 z423 G) fun x0 G1 =>
  bP (bd Q q 423 z423 [(1, 1, 1), (2, 2, 1), (3, 3, 1), (4, 4, 1), (5, 5, 1), (6, 6, 1), (7, 7, 1), (8, 8, 1), (9, 9, 1), (10, 10, 1), (11, 11, 1), (12, 12, 1)] [(.func (.func 326) #[] #[]), (.func (.func 327) #[] #[]), (.func (.func 328) #[] #[]), (.func (.func 329) #[] #[]), (.func (.func 330) #[] #[]), (.func (.func 331) #[] #[]), (.func (.func 332) #[] #[]), (.func (.func 333) #[] #[]), (.func (.func 334) #[] #[]), (.func (.func 335) #[] #[]), (.func (.func 336) #[] #[]), (.func (.func 337) #[] #[])]) fun x2 =>
  bP (st Q q 423 13 x0 x2 G1) fun G3 =>
  bP (lda Q q 423 13 x0 G3) fun x4 =>
  some (x4, G3)
theorem m325 {e : Ex} {E : Ev} (h : ExLe Q e E) (G : GS) : Ref (s325 true e  G) (s325 false (Ex.of E)  G) := by
  unfold s325
  exact Ref.go
theorem f325 {orc : FuncId → Bool} {e : Ex} (h : ExLe Q e (E orc)) (ho : orc 325 = false) (G : GS) : Ref (s325 true e  G) ((E orc).cl 325 [] G) :=
  fun r hr => cl_sxE_some Q orc (vs := []) G Tryz.func325 (by kernel_rfl) (by kernel_rfl) ho (by kernel_rfl) (by kernel_rfl) (by kernel_rfl) (m325 h  G r hr)
/-- (*coxswain/insert.Insert).find -/
noncomputable def s326 (q : Bool) (e : Ex) (v0 v1 : Value) (G : GS) : Option (Value × GS) :=
  bS (e.ev.cl 338 [v0, v1] G) fun x0 G1 =>
  bP (un Q q .not x0) fun x2 =>
  ifV x2 (
  some ((.int .i64 1), G1)) (
  bP (pNil v0) fun x3 =>
  bP (fa Q q 340 8 20 x3) fun x4 =>
  bP (st Q q 3 1 x4 (.int .i64 0) G1) fun G5 =>
  some ((.int .i64 2), G5))
theorem m326 {e : Ex} {E : Ev} (h : ExLe Q e E) (v0 v1 : Value) (G : GS) : Ref (s326 true e v0 v1 G) (s326 false (Ex.of E) v0 v1 G) := by
  unfold s326
  exact Ref.go
theorem f326 {orc : FuncId → Bool} {e : Ex} (h : ExLe Q e (E orc)) (v0 v1 : Value) (G : GS) : Ref (s326 true e v0 v1 G) ((E orc).cl 326 [v0, v1] G) :=
  fun r hr => cl_sxE_some Q orc (vs := [v0, v1]) G Tryz.func326 (by kernel_rfl) (by kernel_rfl) (by kernel_rfl) (by kernel_rfl) (by kernel_rfl) (by kernel_rfl) (m326 h v0 v1 G r hr)
noncomputable def b327_0 (q : Bool) (e : Ex) (lp : Env → GS → Option (Exit × Env × GS)) (τ : Env) (G : GS) : Option (Exit × Env × GS) :=
  bV q (τ 0) fun a0_ =>
  bV q (τ 1) fun a1_ =>
  bV q (τ 16) fun a16_ =>
  bV q (τ 17) fun a17_ =>
  bP (bn Q q .lss 3 (.tmp 17) (.tmp 16) a17_ a16_) fun x0 =>
  ifV x0 (
  bP (pNil a0_) fun x1 =>
  bP (fa Q q 340 8 20 x1) fun x2 =>
  bP (ld Q q 3 x2 G) fun x3 =>
  bP (bn Q q .neq 3 (.tmp 20) (.tmp 24) a17_ x3) fun x4 =>
  ifV x4 (
  bP (bn Q q .add 3 (.tmp 17) (.const (.int .i64 1)) a17_ (.int .i64 1)) fun x5 =>
  lp (tu τ [(0, a0_), (1, a1_), (16, a16_), (17, x5), (5, a17_), (18, x0), (19, a17_), (20, a17_), (21, a0_), (22, x1), (23, x2), (24, x3), (25, x4), (46, x5)]) G) (
  bP (pNil a0_) fun x6 =>
  bP (fa Q q 340 0 0 x6) fun x7 =>
  bP (lda Q q 36 13 x7 (G.room 20)) fun x8 =>
  bP (pNil a0_) fun x9 =>
  bP (fa Q q 340 5 17 x9) fun x10 =>
  bP (ld Q q 3 x10 (G.room 20)) fun x11 =>
  bS (e.ev.cl 100 [x8, x11, a17_] (G.room 20)) fun x13 G12 =>
  bP (pNil a0_) fun x14 =>
  bP (fa Q q 340 10 22 x14) fun x15 =>
  bP (ld Q q 184 x15 G12) fun x16 =>
  chk ((sameO (ld Q q 184 x15 (G.room 20)) x16 && true)) <|
  bS (e.ev.cl 339 [x16] G12) fun x18 G17 =>
  bP (ias Q q 90 1 x18 a17_) fun x19 =>
  bP (ld Q q 38 x19 G17) fun x20 =>
  bS (e.ev.cl 29 [a1_, x13, x20] G17) fun x22 G21 =>
  bP (bn Q q .add 3 (.tmp 17) (.const (.int .i64 1)) a17_ (.int .i64 1)) fun x23 =>
  lp (tu τ [(0, a0_), (1, a1_), (16, a16_), (17, x23), (5, a17_), (18, x0), (19, a17_), (20, a17_), (21, a0_), (22, x1), (23, x2), (24, x3), (25, x4), (26, a1_), (27, a0_), (28, x6), (29, x7), (30, x8), (31, a0_), (32, x9), (33, x10), (34, x11), (35, a17_), (36, x13), (37, a0_), (38, x14), (39, x15), (40, x16), (41, x18), (42, a17_), (43, x19), (44, x20), (45, x22), (46, x23)]) G21)) (
  some ((.exit 0), clq q 66 (tu τ [(0, a0_), (1, a1_), (16, a16_), (17, a17_), (18, x0)]), G))
theorem mb327_0 {e : Ex} {E : Ev} (h : ExLe Q e E) {lp lp' : Env → GS → Option (Exit × Env × GS)} (hlp : LpLe lp lp') (τ : Env) (G : GS) : Ref (b327_0 true e lp τ G) (b327_0 false (Ex.of E) lp' τ G) := by
  unfold b327_0
  exact Ref.go
theorem l327_0 {orc : FuncId → Bool} {e : Ex} (h : ExLe Q e (E orc)) (lp : Env → GS → Option (Exit × Env × GS)) (hlp : ∀ τ G, Ref (lp τ G) (mapE ((E orc).lp (subAt [1, 0, 1, 1, 0, 1, 0, 0] (bodyOf Tryz.f327)) (lst 66 τ) G))) (T : List Value) (G : GS) (hT : T.length = 66) : Ref (b327_0 true e lp (nth undef T) G) (mapE ((E orc).lp (subAt [1, 0, 1, 1, 0, 1, 0, 0] (bodyOf Tryz.f327)) T G)) :=
  fun r hr => lp_sxM Q orc G hT (by kernel_rfl) (mb327_0 h ⟨hlp⟩ _ _ r hr)
/-- (*coxswain/insert.Insert).store -/
noncomputable def s327 (q : Bool) (e : Ex) (v0 v1 : Value) (G : GS) : Option (Value × GS) :=
  bP (pNil v0) fun x0 =>
  bP (fa Q q 340 3 15 x0) fun x1 =>
  bP (ld Q q 38 x1 G) fun x2 =>
  bP (pNil v0) fun x3 =>
  bP (fa Q q 340 12 24 x3) fun x4 =>
  bP (st Q q 38 1 x4 x2 G) fun G5 =>
  bP (pNil v0) fun x6 =>
  bP (fa Q q 340 6 18 x6) fun x7 =>
  bP (ld Q q 3 x7 G5) fun x8 =>
  bL q e 327 0 (subAt [1, 0, 1, 1, 0, 1, 0, 0] (bodyOf Tryz.f327)) 66 (tu (nth undef [v0, v1]) [(4, (.int .i64 0)), (6, v0), (7, v0), (8, x0), (9, x1), (10, x2), (11, x3), (12, x4), (13, v0), (14, x6), (15, x7), (16, x8), (17, (.int .i64 0))]) G5 fun e9 t10 G11 =>
  bV q (t10 0) fun t10x0_ =>
  ifE e9 (.exit 0) (
  bP (pNil t10x0_) fun x12 =>
  bP (fa Q q 340 8 20 x12) fun x13 =>
  bP (ld Q q 3 x13 G11) fun x14 =>
  bP (bn Q q .add 3 (.tmp 50) (.const (.int .i64 1)) x14 (.int .i64 1)) fun x15 =>
  bP (pNil t10x0_) fun x16 =>
  bP (fa Q q 340 8 20 x16) fun x17 =>
  bP (st Q q 3 1 x17 x15 G11) fun G18 =>
  bP (pNil t10x0_) fun x19 =>
  bP (fa Q q 340 8 20 x19) fun x20 =>
  bP (ld Q q 3 x20 (G18.room 9)) fun x21 =>
  bP (pNil t10x0_) fun x22 =>
  bP (fa Q q 340 6 18 x22) fun x23 =>
  bP (ld Q q 3 x23 (G18.room 9)) fun x24 =>
  bP (bn Q q .lss 3 (.tmp 57) (.tmp 61) x21 x24) fun x25 =>
  ifV x25 (
  some ((.int .i64 2), (G18.room 9))) (
  bP (pNil t10x0_) fun x26 =>
  bP (fa Q q 340 8 20 x26) fun x27 =>
  bP (st Q q 3 1 x27 (.int .i64 0) (G18.room 9)) fun G28 =>
  some ((.int .i64 3), G28))) (none)
theorem m327 {e : Ex} {E : Ev} (h : ExLe Q e E) (v0 v1 : Value) (G : GS) : Ref (s327 true e v0 v1 G) (s327 false (Ex.of E) v0 v1 G) := by
  unfold s327
  exact Ref.go
theorem f327 {orc : FuncId → Bool} {e : Ex} (h : ExLe Q e (E orc)) (v0 v1 : Value) (G : GS) : Ref (s327 true e v0 v1 G) ((E orc).cl 327 [v0, v1] G) :=
  fun r hr => cl_sxE_some Q orc (vs := [v0, v1]) G Tryz.func327 (by kernel_rfl) (by kernel_rfl) (by kernel_rfl) (by kernel_rfl) (by kernel_rfl) (by kernel_rfl) (m327 h v0 v1 G r hr)
/-- (*coxswain/insert.Insert).enter -/
noncomputable def s328 (q : Bool) (e : Ex) (v0 v1 : Value) (G : GS) : Option (Value × GS) :=
  bS (e.ev.cl 340 [v0, v1] G) fun x0 G1 =>
  bP (un Q q .not x0) fun x2 =>
  ifV x2 (
  bS (e.ev.cl 215 [v0, (.int .i64 1)] G1) fun x3 G4 =>
  some (x3, G4)) (
  bP (pNil v0) fun x5 =>
  bP (fa Q q 340 2 14 x5) fun x6 =>
  bP (st Q q 4 1 x6 (.bool true) G1) fun G7 =>
  bP (pNil v0) fun x8 =>
  bP (fa Q q 340 8 20 x8) fun x9 =>
  bP (st Q q 3 1 x9 (.int .i64 1) G7) fun G10 =>
  bS (e.ev.cl 341 [v0] G10) fun x11 G12 =>
  some (x11, G12))
theorem m328 {e : Ex} {E : Ev} (h : ExLe Q e E) (v0 v1 : Value) (G : GS) : Ref (s328 true e v0 v1 G) (s328 false (Ex.of E) v0 v1 G) := by
  unfold s328
  exact Ref.go
theorem f328 {orc : FuncId → Bool} {e : Ex} (h : ExLe Q e (E orc)) (v0 v1 : Value) (G : GS) : Ref (s328 true e v0 v1 G) ((E orc).cl 328 [v0, v1] G) :=
  fun r hr => cl_sxE_some Q orc (vs := [v0, v1]) G Tryz.func328 (by kernel_rfl) (by kernel_rfl) (by kernel_rfl) (by kernel_rfl) (by kernel_rfl) (by kernel_rfl) (m328 h v0 v1 G r hr)
/-- (*coxswain/insert.Insert).load -/
noncomputable def s329 (q : Bool) (e : Ex) (v0 v1 : Value) (G : GS) : Option (Value × GS) :=
  bP (pNil v0) fun x0 =>
  bP (fa Q q 340 8 20 x0) fun x1 =>
  bP (ld Q q 3 x1 G) fun x2 =>
  bS (e.ev.cl 342 [v0, v1, x2] G) fun x3 G4 =>
  bP (pNil v0) fun x5 =>
  bP (fa Q q 340 9 21 x5) fun x6 =>
  bP (st Q q 38 1 x6 x3 G4) fun G7 =>
  bP (pNil v0) fun x8 =>
  bP (fa Q q 340 9 21 x8) fun x9 =>
  bP (ld Q q 38 x9 G7) fun x10 =>
  bS (e.ev.cl 197 [x10] G7) fun x11 G12 =>
  ifV x11 (
  some ((.int .i64 9), G12)) (
  bP (pNil v0) fun x13 =>
  bP (fa Q q 340 9 21 x13) fun x14 =>
  bP (ld Q q 38 x14 (G12.room 17)) fun x15 =>
  bP (pNil v0) fun x16 =>
  bP (fa Q q 340 10 22 x16) fun x17 =>
  bP (ld Q q 184 x17 (G12.room 17)) fun x18 =>
  bS (e.ev.cl 339 [x18] (G12.room 17)) fun x20 G19 =>
  chk ((sameO (ld Q q 38 x14 G19) x15 && true)) <|
  bP (pNil v0) fun x21 =>
  bP (fa Q q 340 8 20 x21) fun x22 =>
  bP (ld Q q 3 x22 G19) fun x23 =>
  chk ((sameO (ld Q q 3 x22 (G12.room 17)) x23 && true)) <|
  bP (ias Q q 90 1 x20 x23) fun x24 =>
  bP (ld Q q 38 x24 G19) fun x25 =>
  bP (bn Q q .neq 38 (.tmp 25) (.tmp 36) x15 x25) fun x26 =>
  ifV x26 (
  some ((.int .i64 5), G19)) (
  some ((.int .i64 6), G19)))
theorem m329 {e : Ex} {E : Ev} (h : ExLe Q e E) (v0 v1 : Value) (G : GS) : Ref (s329 true e v0 v1 G) (s329 false (Ex.of E) v0 v1 G) := by
  unfold s329
  exact Ref.go
theorem f329 {orc : FuncId → Bool} {e : Ex} (h : ExLe Q e (E orc)) (v0 v1 : Value) (G : GS) : Ref (s329 true e v0 v1 G) ((E orc).cl 329 [v0, v1] G) :=
  fun r hr => cl_sxE_some Q orc (vs := [v0, v1]) G Tryz.func329 (by kernel_rfl) (by kernel_rfl) (by kernel_rfl) (by kernel_rfl) (by kernel_rfl) (by kernel_rfl) (m329 h v0 v1 G r hr)
/-- (*coxswain/insert.Insert).turn -/
noncomputable def s330 (q : Bool) (e : Ex) (v0 v1 : Value) (G : GS) : Option (Value × GS) :=
  bP (pNil v0) fun x0 =>
  bP (fa Q q 340 0 0 x0) fun x1 =>
  bP (lda Q q 36 13 x1 (G.room 31)) fun x2 =>
  bP (pNil v0) fun x3 =>
  bP (fa Q q 340 5 17 x3) fun x4 =>
  bP (ld Q q 3 x4 (G.room 31)) fun x5 =>
  bP (pNil v0) fun x6 =>
  bP (fa Q q 340 8 20 x6) fun x7 =>
  bP (ld Q q 3 x7 (G.room 31)) fun x8 =>
  bS (e.ev.cl 100 [x2, x5, x8] (G.room 31)) fun x10 G9 =>
  bP (pNil v0) fun x11 =>
  bP (fa Q q 340 9 21 x11) fun x12 =>
  bP (ld Q q 38 x12 G9) fun x13 =>
  chk ((sameO (ld Q q 38 x12 (G.room 31)) x13 && true)) <|
  bP (pNil v0) fun x14 =>
  bP (fa Q q 340 10 22 x14) fun x15 =>
  bP (ld Q q 184 x15 G9) fun x16 =>
  chk ((sameO (ld Q q 184 x15 (G.room 31)) x16 && true)) <|
  bS (e.ev.cl 339 [x16] G9) fun x18 G17 =>
  chk ((sameO (ld Q q 38 x12 G17) x13 && true)) <|
  bP (pNil v0) fun x19 =>
  bP (fa Q q 340 8 20 x19) fun x20 =>
  bP (ld Q q 3 x20 G17) fun x21 =>
  chk ((sameO (ld Q q 3 x20 G9) x21 && (sameO (ld Q q 3 x20 (G.room 31)) x21 && true))) <|
  bP (ias Q q 90 1 x18 x21) fun x22 =>
  bP (ld Q q 38 x22 G17) fun x23 =>
  bS (e.ev.cl 343 [v0, v1, x10, x13, x23] G17) fun x25 G24 =>
  ifV x25 (
  some ((.int .i64 6), G24)) (
  some ((.int .i64 9), G24))
theorem m330 {e : Ex} {E : Ev} (h : ExLe Q e E) (v0 v1 : Value) (G : GS) : Ref (s330 true e v0 v1 G) (s330 false (Ex.of E) v0 v1 G) := by
  unfold s330
  exact Ref.go
theorem f330 {orc : FuncId → Bool} {e : Ex} (h : ExLe Q e (E orc)) (v0 v1 : Value) (G : GS) : Ref (s330 true e v0 v1 G) ((E orc).cl 330 [v0, v1] G) :=
  fun r hr => cl_sxE_some Q orc (vs := [v0, v1]) G Tryz.func330 (by kernel_rfl) (by kernel_rfl) (by kernel_rfl) (by kernel_rfl) (by kernel_rfl) (by kernel_rfl) (m330 h v0 v1 G r hr)
/-- (*coxswain/insert.Insert).link -/
noncomputable def s331 (q : Bool) (e : Ex) (v0 v1 : Value) (G : GS) : Option (Value × GS) :=
  bS (e.ev.cl 340 [v0, v1] G) fun x0 G1 =>
  bP (un Q q .not x0) fun x2 =>
  ifV x2 (
  bS (e.ev.cl 215 [v0, (.int .i64 7)] G1) fun x3 G4 =>
  some (x3, G4)) (
  bP (pNil v0) fun x5 =>
  bP (fa Q q 340 8 20 x5) fun x6 =>
  bP (ld Q q 3 x6 G1) fun x7 =>
  bP (bn Q q .add 3 (.tmp 14) (.const (.int .i64 1)) x7 (.int .i64 1)) fun x8 =>
  bP (pNil v0) fun x9 =>
  bP (fa Q q 340 8 20 x9) fun x10 =>
  bP (st Q q 3 1 x10 x8 G1) fun G11 =>
  bS (e.ev.cl 341 [v0] G11) fun x12 G13 =>
  some (x12, G13))
theorem m331 {e : Ex} {E : Ev} (h : ExLe Q e E) (v0 v1 : Value) (G : GS) : Ref (s331 true e v0 v1 G) (s331 false (Ex.of E) v0 v1 G) := by
  unfold s331
  exact Ref.go
theorem f331 {orc : FuncId → Bool} {e : Ex} (h : ExLe Q e (E orc)) (v0 v1 : Value) (G : GS) : Ref (s331 true e v0 v1 G) ((E orc).cl 331 [v0, v1] G) :=
  fun r hr => cl_sxE_some Q orc (vs := [v0, v1]) G Tryz.func331 (by kernel_rfl) (by kernel_rfl) (by kernel_rfl) (by kernel_rfl) (by kernel_rfl) (by kernel_rfl) (m331 h v0 v1 G r hr)
/-- (*coxswain/insert.Insert).findAgain -/
noncomputable def s332 (q : Bool) (e : Ex) (v0 v1 : Value) (G : GS) : Option (Value × GS) :=
  bS (e.ev.cl 338 [v0, v1] G) fun x0 G1 =>
  ifV x0 (
  some ((.int .i64 8), G1)) (
  some ((.int .i64 7), G1))
theorem m332 {e : Ex} {E : Ev} (h : ExLe Q e E) (v0 v1 : Value) (G : GS) : Ref (s332 true e v0 v1 G) (s332 false (Ex.of E) v0 v1 G) := by
  unfold s332
  exact Ref.go
theorem f332 {orc : FuncId → Bool} {e : Ex} (h : ExLe Q e (E orc)) (v0 v1 : Value) (G : GS) : Ref (s332 true e v0 v1 G) ((E orc).cl 332 [v0, v1] G) :=
  fun r hr => cl_sxE_some Q orc (vs := [v0, v1]) G Tryz.func332 (by kernel_rfl) (by kernel_rfl) (by kernel_rfl) (by kernel_rfl) (by kernel_rfl) (by kernel_rfl) (m332 h v0 v1 G r hr)
/-- (*coxswain/insert.Insert).look -/
noncomputable def s333 (q : Bool) (e : Ex) (v0 v1 : Value) (G : GS) : Option (Value × GS) :=
  bS (e.ev.cl 342 [v0, v1, (.int .i64 0)] G) fun x0 G1 =>
  bS (e.ev.cl 197 [x0] G1) fun x2 G3 =>
  ifV x2 (
  bS (e.ev.cl 215 [v0, (.int .i64 10)] G3) fun x4 G5 =>
  some (x4, G5)) (
  some ((.int .i64 4), G3))
theorem m333 {e : Ex} {E : Ev} (h : ExLe Q e E) (v0 v1 : Value) (G : GS) : Ref (s333 true e v0 v1 G) (s333 false (Ex.of E) v0 v1 G) := by
  unfold s333
  exact Ref.go
theorem f333 {orc : FuncId → Bool} {e : Ex} (h : ExLe Q e (E orc)) (v0 v1 : Value) (G : GS) : Ref (s333 true e v0 v1 G) ((E orc).cl 333 [v0, v1] G) :=
  fun r hr => cl_sxE_some Q orc (vs := [v0, v1]) G Tryz.func333 (by kernel_rfl) (by kernel_rfl) (by kernel_rfl) (by kernel_rfl) (by kernel_rfl) (by kernel_rfl) (m333 h v0 v1 G r hr)
/-- (*coxswain/insert.Insert).ask -/
noncomputable def s334 (q : Bool) (e : Ex) (v0 v1 : Value) (G : GS) : Option (Value × GS) :=
  bS (e.ev.cl 342 [v0, v1, (.int .i64 0)] G) fun x0 G1 =>
  bS (e.ev.cl 197 [x0] G1) fun x2 G3 =>
  ifV x2 (
  bS (e.ev.cl 215 [v0, (.int .i64 10)] G3) fun x4 G5 =>
  some (x4, G5)) (
  some ((.int .i64 11), G3))
theorem m334 {e : Ex} {E : Ev} (h : ExLe Q e E) (v0 v1 : Value) (G : GS) : Ref (s334 true e v0 v1 G) (s334 false (Ex.of E) v0 v1 G) := by
  unfold s334
  exact Ref.go
theorem f334 {orc : FuncId → Bool} {e : Ex} (h : ExLe Q e (E orc)) (v0 v1 : Value) (G : GS) : Ref (s334 true e v0 v1 G) ((E orc).cl 334 [v0, v1] G) :=
  fun r hr => cl_sxE_some Q orc (vs := [v0, v1]) G Tryz.func334 (by kernel_rfl) (by kernel_rfl) (by kernel_rfl) (by kernel_rfl) (by kernel_rfl) (by kernel_rfl) (m334 h v0 v1 G r hr)
/-- (*coxswain/insert.Insert).clear -/
noncomputable def s335 (q : Bool) (e : Ex) (v0 v1 : Value) (G : GS) : Option (Value × GS) :=
  bS (e.ev.cl 338 [v0, v1] G) fun x0 G1 =>
  ifV x0 (
  some ((.int .i64 11), G1)) (
  some ((.int .i64 10), G1))
theorem m335 {e : Ex} {E : Ev} (h : ExLe Q e E) (v0 v1 : Value) (G : GS) : Ref (s335 true e v0 v1 G) (s335 false (Ex.of E) v0 v1 G) := by
  unfold s335
  exact Ref.go
theorem f335 {orc : FuncId → Bool} {e : Ex} (h : ExLe Q e (E orc)) (v0 v1 : Value) (G : GS) : Ref (s335 true e v0 v1 G) ((E orc).cl 335 [v0, v1] G) :=
  fun r hr => cl_sxE_some Q orc (vs := [v0, v1]) G Tryz.func335 (by kernel_rfl) (by kernel_rfl) (by kernel_rfl) (by kernel_rfl) (by kernel_rfl) (by kernel_rfl) (m335 h v0 v1 G r hr)
/-- (*coxswain/insert.Insert).let -/
noncomputable def s336 (q : Bool) (e : Ex) (v0 v1 : Value) (G : GS) : Option (Value × GS) :=
  bP (pNil v0) fun x0 =>
  bP (fa Q q 340 3 15 x0) fun x1 =>
  bP (ld Q q 38 x1 G) fun x2 =>
  bP (pNil v0) fun x3 =>
  bP (fa Q q 340 12 24 x3) fun x4 =>
  bP (st Q q 38 1 x4 x2 G) fun G5 =>
  bP (pNil v0) fun x6 =>
  bP (fa Q q 340 0 0 x6) fun x7 =>
  bP (lda Q q 36 13 x7 (G5.room 12)) fun x8 =>
  bP (pNil v0) fun x9 =>
  bP (fa Q q 340 5 17 x9) fun x10 =>
  bP (ld Q q 3 x10 (G5.room 12)) fun x11 =>
  bS (e.ev.cl 87 [x8, x11, (.int .i64 3)] (G5.room 12)) fun x13 G12 =>
  bS (e.ev.cl 262 [v1, x13, (.int .u64 18446744073709551615)] G12) fun x15 G14 =>
  bP (bn Q q .neq 38 (.tmp 22) (.const (.int .u64 0)) x15 (.int .u64 0)) fun x16 =>
  ifV x16 (
  some ((.int .i64 0), G14)) (
  bP (pNil v0) fun x17 =>
  bP (fa Q q 340 0 0 x17) fun x18 =>
  bP (fa Q q 36 3 3 x18) fun x19 =>
  bP (lda Q q 34 10 x19 (G14.room 14)) fun x20 =>
  bP (pNil v0) fun x21 =>
  bP (fa Q q 340 5 17 x21) fun x22 =>
  bP (ld Q q 3 x22 (G14.room 14)) fun x23 =>
  bS (e.ev.cl 296 [x20, x23] (G14.room 14)) fun x25 G24 =>
  bP (pNil v0) fun x26 =>
  bP (fa Q q 340 11 23 x26) fun x27 =>
  bP (st Q q 185 1 x27 x25 G24) fun G28 =>
  some ((.int .i64 12), G28))
theorem m336 {e : Ex} {E : Ev} (h : ExLe Q e E) (v0 v1 : Value) (G : GS) : Ref (s336 true e v0 v1 G) (s336 false (Ex.of E) v0 v1 G) := by
  unfold s336
  exact Ref.go
theorem f336 {orc : FuncId → Bool} {e : Ex} (h : ExLe Q e (E orc)) (v0 v1 : Value) (G : GS) : Ref (s336 true e v0 v1 G) ((E orc).cl 336 [v0, v1] G) :=
  fun r hr => cl_sxE_some Q orc (vs := [v0, v1]) G Tryz.func336 (by kernel_rfl) (by kernel_rfl) (by kernel_rfl) (by kernel_rfl) (by kernel_rfl) (by kernel_rfl) (m336 h v0 v1 G r hr)
/-- (*coxswain/insert.Insert).wait -/
noncomputable def s337 (q : Bool) (e : Ex) (v0 v1 : Value) (G : GS) : Option (Value × GS) :=
  bP (pNil v0) fun x0 =>
  bP (fa Q q 340 12 24 x0) fun x1 =>
  bP (st Q q 38 1 x1 (.int .u64 0) G) fun G2 =>
  bP (pNil v0) fun x3 =>
  bP (fa Q q 340 11 23 x3) fun x4 =>
  bP (ld Q q 185 x4 G2) fun x5 =>
  bS (e.ev.cl 297 [x5, v1] G2) fun x6 G7 =>
  ifV x6 (
  some ((.int .i64 0), G7)) (
  some ((.int .i64 12), G7))
theorem m337 {e : Ex} {E : Ev} (h : ExLe Q e E) (v0 v1 : Value) (G : GS) : Ref (s337 true e v0 v1 G) (s337 false (Ex.of E) v0 v1 G) := by
  unfold s337
  exact Ref.go
theorem f337 {orc : FuncId → Bool} {e : Ex} (h : ExLe Q e (E orc)) (v0 v1 : Value) (G : GS) : Ref (s337 true e v0 v1 G) ((E orc).cl 337 [v0, v1] G) :=
  fun r hr => cl_sxE_some Q orc (vs := [v0, v1]) G Tryz.func337 (by kernel_rfl) (by kernel_rfl) (by kernel_rfl) (by kernel_rfl) (by kernel_rfl) (by kernel_rfl) (m337 h v0 v1 G r hr)
/-- (*coxswain/insert.Insert).seeks -/
noncomputable def s338 (q : Bool) (e : Ex) (v0 v1 : Value) (G : GS) : Option (Value × GS) :=
  bP (pNil v0) fun x0 =>
  bP (fa Q q 340 10 22 x0) fun x1 =>
  bP (ld Q q 184 x1 G) fun x2 =>
  bS (e.ev.cl 294 [x2, v1] G) fun x3 G4 =>
  bP (pNil v0) fun x5 =>
  bP (fa Q q 340 10 22 x5) fun x6 =>
  bP (ld Q q 184 x6 G4) fun x7 =>
  bS (e.ev.cl 295 [x7] G4) fun x8 G9 =>
  bP (pNil v0) fun x10 =>
  bP (fa Q q 340 12 24 x10) fun x11 =>
  bP (st Q q 38 1 x11 x8 G9) fun G12 =>
  some (x3, G12)
theorem m338 {e : Ex} {E : Ev} (h : ExLe Q e E) (v0 v1 : Value) (G : GS) : Ref (s338 true e v0 v1 G) (s338 false (Ex.of E) v0 v1 G) := by
  unfold s338
  exact Ref.go
theorem f338 {orc : FuncId → Bool} {e : Ex} (h : ExLe Q e (E orc)) (v0 v1 : Value) (G : GS) : Ref (s338 true e v0 v1 G) ((E orc).cl 338 [v0, v1] G) :=
  fun r hr => cl_sxE_some Q orc (vs := [v0, v1]) G Tryz.func338 (by kernel_rfl) (by kernel_rfl) (by kernel_rfl) (by kernel_rfl) (by kernel_rfl) (by kernel_rfl) (m338 h v0 v1 G r hr)
noncomputable def b339_0 (q : Bool) (e : Ex) (lp : Env → GS → Option (Exit × Env × GS)) (τ : Env) (G : GS) : Option (Exit × Env × GS) :=
  bV q (τ 3) fun a3_ =>
  bV q (τ 7) fun a7_ =>
  bV q (τ 8) fun a8_ =>
  bV q (τ 9) fun a9_ =>
  bP (bn Q q .lss 3 (.tmp 9) (.tmp 8) a9_ a8_) fun x0 =>
  ifV x0 (
  bP (ias Q q 382 4 a7_ a9_) fun x1 =>
  bP (lda Q q 381 4 x1 G) fun x2 =>
  bS (al Q q 381 z381 G) fun x3 G4 =>
  bP (st Q q 381 4 x3 x2 G4) fun G5 =>
  bP (fa Q q 381 3 3 x3) fun x6 =>
  bP (ld Q q 38 x6 G5) fun x7 =>
  bS (bs Q q 90 1 (rep z38 1) 1 [(0, 0, 1)] [x7] G5) fun x8 G9 =>
  bS (ap Q q 90 90 1 8 a3_ x8 G9) fun x10 G11 =>
  bP (bn Q q .add 3 (.tmp 9) (.const (.int .i64 1)) a9_ (.int .i64 1)) fun x12 =>
  lp (tu τ [(3, x10), (7, a7_), (8, a8_), (9, x12), (5, x3), (10, x0), (11, x1), (12, x2), (13, a3_), (14, x6), (15, x7), (16, x8), (17, x10), (18, x12)]) G11) (
  some ((.exit 0), clq q 20 (tu τ [(3, a3_), (7, a7_), (8, a8_), (9, a9_), (10, x0)]), G))
theorem mb339_0 {e : Ex} {E : Ev} (h : ExLe Q e E) {lp lp' : Env → GS → Option (Exit × Env × GS)} (hlp : LpLe lp lp') (τ : Env) (G : GS) : Ref (b339_0 true e lp τ G) (b339_0 false (Ex.of E) lp' τ G) := by
  unfold b339_0
  exact Ref.go
theorem l339_0 {orc : FuncId → Bool} {e : Ex} (h : ExLe Q e (E orc)) (lp : Env → GS → Option (Exit × Env × GS)) (hlp : ∀ τ G, Ref (lp τ G) (mapE ((E orc).lp (subAt [1, 1, 0, 1, 0, 0] (bodyOf Tryz.f339)) (lst 20 τ) G))) (T : List Value) (G : GS) (hT : T.length = 20) : Ref (b339_0 true e lp (nth undef T) G) (mapE ((E orc).lp (subAt [1, 1, 0, 1, 0, 0] (bodyOf Tryz.f339)) T G)) :=
  fun r hr => lp_sxM Q orc G hT (by kernel_rfl) (mb339_0 h ⟨hlp⟩ _ _ r hr)
/-- (*coxswain/find.Find).Succs -/
noncomputable def s339 (q : Bool) (e : Ex) (v0 : Value) (G : GS) : Option (Value × GS) :=
  bS (e.ev.cl 344 [v0] G) fun x0 G1 =>
  bP (ln Q q 382 x0) fun x2 =>
  bL q e 339 0 (subAt [1, 1, 0, 1, 0, 0] (bodyOf Tryz.f339)) 20 (tu (nth undef [v0]) [(2, (.slice none 0 0)), (3, (.slice none 0 0)), (6, v0), (7, x0), (8, x2), (9, (.int .i64 0))]) G1 fun e3 t4 G5 =>
  bV q (t4 3) fun t4x3_ =>
  ifE e3 (.exit 0) (
  some (t4x3_, G5)) (none)
theorem m339 {e : Ex} {E : Ev} (h : ExLe Q e E) (v0 : Value) (G : GS) : Ref (s339 true e v0 G) (s339 false (Ex.of E) v0 G) := by
  unfold s339
  exact Ref.go
theorem f339 {orc : FuncId → Bool} {e : Ex} (h : ExLe Q e (E orc)) (v0 : Value) (G : GS) : Ref (s339 true e v0 G) ((E orc).cl 339 [v0] G) :=
  fun r hr => cl_sxE_some Q orc (vs := [v0]) G Tryz.func339 (by kernel_rfl) (by kernel_rfl) (by kernel_rfl) (by kernel_rfl) (by kernel_rfl) (by kernel_rfl) (m339 h v0 G r hr)
/-- (*coxswain/insert.Insert).hangs -/
noncomputable def s340 (q : Bool) (e : Ex) (v0 v1 : Value) (G : GS) : Option (Value × GS) :=
  bP (pNil v0) fun x0 =>
  bP (fa Q q 340 10 22 x0) fun x1 =>
  bP (ld Q q 184 x1 (G.room 15)) fun x2 =>
  bS (e.ev.cl 345 [x2] (G.room 15)) fun x4 G3 =>
  bP (pNil v0) fun x5 =>
  bP (fa Q q 340 8 20 x5) fun x6 =>
  bP (ld Q q 3 x6 G3) fun x7 =>
  chk ((sameO (ld Q q 3 x6 (G.room 15)) x7 && true)) <|
  bP (ias Q q 90 1 x4 x7) fun x8 =>
  bP (ld Q q 38 x8 G3) fun x9 =>
  bP (pNil v0) fun x10 =>
  bP (fa Q q 340 12 24 x10) fun x11 =>
  bP (st Q q 38 1 x11 x9 G3) fun G12 =>
  bP (pNil v0) fun x13 =>
  bP (fa Q q 340 0 0 x13) fun x14 =>
  bP (lda Q q 36 13 x14 (G12.room 38)) fun x15 =>
  bP (pNil v0) fun x16 =>
  bP (fa Q q 340 10 22 x16) fun x17 =>
  bP (ld Q q 184 x17 (G12.room 38)) fun x18 =>
  bS (e.ev.cl 346 [x18] (G12.room 38)) fun x20 G19 =>
  chk ((sameO (lda Q q 36 13 x14 G19) x15 && true)) <|
  bP (pNil v0) fun x21 =>
  bP (fa Q q 340 8 20 x21) fun x22 =>
  bP (ld Q q 3 x22 G19) fun x23 =>
  chk ((sameO (ld Q q 3 x22 (G12.room 38)) x23 && true)) <|
  bP (ias Q q 139 1 x20 x23) fun x24 =>
  bP (ld Q q 3 x24 G19) fun x25 =>
  bP (pNil v0) fun x26 =>
  bP (fa Q q 340 8 20 x26) fun x27 =>
  bP (ld Q q 3 x27 G19) fun x28 =>
  chk ((sameO (ld Q q 3 x27 (G12.room 38)) x28 && true)) <|
  bS (e.ev.cl 100 [x15, x25, x28] G19) fun x30 G29 =>
  bP (pNil v0) fun x31 =>
  bP (fa Q q 340 10 22 x31) fun x32 =>
  bP (ld Q q 184 x32 G29) fun x33 =>
  chk ((sameO (ld Q q 184 x32 G19) x33 && (sameO (ld Q q 184 x32 (G12.room 38)) x33 && true))) <|
  bS (e.ev.cl 339 [x33] G29) fun x35 G34 =>
  bP (pNil v0) fun x36 =>
  bP (fa Q q 340 8 20 x36) fun x37 =>
  bP (ld Q q 3 x37 G34) fun x38 =>
  chk ((sameO (ld Q q 3 x37 G29) x38 && (sameO (ld Q q 3 x37 G19) x38 && (sameO (ld Q q 3 x37 (G12.room 38)) x38 && true)))) <|
  bP (ias Q q 90 1 x35 x38) fun x39 =>
  bP (ld Q q 38 x39 G34) fun x40 =>
  bP (pNil v0) fun x41 =>
  bP (fa Q q 340 3 15 x41) fun x42 =>
  bP (ld Q q 38 x42 G34) fun x43 =>
  chk ((sameO (ld Q q 38 x42 G29) x43 && (sameO (ld Q q 38 x42 G19) x43 && (sameO (ld Q q 38 x42 (G12.room 38)) x43 && true)))) <|
  bS (e.ev.cl 242 [v1, x30, x40, x43] G34) fun x45 G44 =>
  some (x45, G44)
theorem m340 {e : Ex} {E : Ev} (h : ExLe Q e E) (v0 v1 : Value) (G : GS) : Ref (s340 true e v0 v1 G) (s340 false (Ex.of E) v0 v1 G) := by
  unfold s340
  exact Ref.go
theorem f340 {orc : FuncId → Bool} {e : Ex} (h : ExLe Q e (E orc)) (v0 v1 : Value) (G : GS) : Ref (s340 true e v0 v1 G) ((E orc).cl 340 [v0, v1] G) :=
  fun r hr => cl_sxE_some Q orc (vs := [v0, v1]) G Tryz.func340 (by kernel_rfl) (by kernel_rfl) (by kernel_rfl) (by kernel_rfl) (by kernel_rfl) (by kernel_rfl) (m340 h v0 v1 G r hr)
/-- (*coxswain/insert.Insert).up -/
noncomputable def s341 (q : Bool) (e : Ex) (v0 : Value) (G : GS) : Option (Value × GS) :=
  bP (pNil v0) fun x0 =>
  bP (fa Q q 340 8 20 x0) fun x1 =>
  bP (ld Q q 3 x1 (G.room 9)) fun x2 =>
  bP (pNil v0) fun x3 =>
  bP (fa Q q 340 6 18 x3) fun x4 =>
  bP (ld Q q 3 x4 (G.room 9)) fun x5 =>
  bP (bn Q q .geq 3 (.tmp 6) (.tmp 10) x2 x5) fun x6 =>
  ifV x6 (
  some ((.int .i64 9), (G.room 9))) (
  some ((.int .i64 4), (G.room 9)))
theorem m341 {e : Ex} {E : Ev} (h : ExLe Q e E) (v0 : Value) (G : GS) : Ref (s341 true e v0 G) (s341 false (Ex.of E) v0 G) := by
  unfold s341
  exact Ref.go
theorem f341 {orc : FuncId → Bool} {e : Ex} (h : ExLe Q e (E orc)) (v0 : Value) (G : GS) : Ref (s341 true e v0 G) ((E orc).cl 341 [v0] G) :=
  fun r hr => cl_sxE_some Q orc (vs := [v0]) G Tryz.func341 (by kernel_rfl) (by kernel_rfl) (by kernel_rfl) (by kernel_rfl) (by kernel_rfl) (by kernel_rfl) (m341 h v0 G r hr)
/-- (*coxswain/insert.Insert).read -/
noncomputable def s342 (q : Bool) (e : Ex) (v0 v1 v2 : Value) (G : GS) : Option (Value × GS) :=
  bP (pNil v0) fun x0 =>
  bP (fa Q q 340 3 15 x0) fun x1 =>
  bP (ld Q q 38 x1 G) fun x2 =>
  bP (pNil v0) fun x3 =>
  bP (fa Q q 340 12 24 x3) fun x4 =>
  bP (st Q q 38 1 x4 x2 G) fun G5 =>
  bP (pNil v0) fun x6 =>
  bP (fa Q q 340 0 0 x6) fun x7 =>
  bP (lda Q q 36 13 x7 (G5.room 13)) fun x8 =>
  bP (pNil v0) fun x9 =>
  bP (fa Q q 340 5 17 x9) fun x10 =>
  bP (ld Q q 3 x10 (G5.room 13)) fun x11 =>
  bS (e.ev.cl 100 [x8, x11, v2] (G5.room 13)) fun x13 G12 =>
  bS (e.ev.cl 120 [v1, x13] G12) fun x15 G14 =>
  some (x15, G14)
theorem m342 {e : Ex} {E : Ev} (h : ExLe Q e E) (v0 v1 v2 : Value) (G : GS) : Ref (s342 true e v0 v1 v2 G) (s342 false (Ex.of E) v0 v1 v2 G) := by
  unfold s342
  exact Ref.go
theorem f342 {orc : FuncId → Bool} {e : Ex} (h : ExLe Q e (E orc)) (v0 v1 v2 : Value) (G : GS) : Ref (s342 true e v0 v1 v2 G) ((E orc).cl 342 [v0, v1, v2] G) :=
  fun r hr => cl_sxE_some Q orc (vs := [v0, v1, v2]) G Tryz.func342 (by kernel_rfl) (by kernel_rfl) (by kernel_rfl) (by kernel_rfl) (by kernel_rfl) (by kernel_rfl) (m342 h v0 v1 v2 G r hr)
/-- (*coxswain/insert.Insert).swap -/
noncomputable def s343 (q : Bool) (e : Ex) (v0 v1 v2 v3 v4 : Value) (G : GS) : Option (Value × GS) :=
  bP (pNil v0) fun x0 =>
  bP (fa Q q 340 3 15 x0) fun x1 =>
  bP (ld Q q 38 x1 G) fun x2 =>
  bP (pNil v0) fun x3 =>
  bP (fa Q q 340 12 24 x3) fun x4 =>
  bP (st Q q 38 1 x4 x2 G) fun G5 =>
  bS (e.ev.cl 242 [v1, v2, v3, v4] G5) fun x6 G7 =>
  some (x6, G7)
theorem m343 {e : Ex} {E : Ev} (h : ExLe Q e E) (v0 v1 v2 v3 v4 : Value) (G : GS) : Ref (s343 true e v0 v1 v2 v3 v4 G) (s343 false (Ex.of E) v0 v1 v2 v3 v4 G) := by
  unfold s343
  exact Ref.go
theorem f343 {orc : FuncId → Bool} {e : Ex} (h : ExLe Q e (E orc)) (v0 v1 v2 v3 v4 : Value) (G : GS) : Ref (s343 true e v0 v1 v2 v3 v4 G) ((E orc).cl 343 [v0, v1, v2, v3, v4] G) :=
  fun r hr => cl_sxE_some Q orc (vs := [v0, v1, v2, v3, v4]) G Tryz.func343 (by kernel_rfl) (by kernel_rfl) (by kernel_rfl) (by kernel_rfl) (by kernel_rfl) (by kernel_rfl) (m343 h v0 v1 v2 v3 v4 G r hr)
/-- (*coxswain/find.Find).all -/
noncomputable def s344 (q : Bool) (e : Ex) (v0 : Value) (G : GS) : Option (Value × GS) :=
  bS (e.ev.cl 347 [v0] G) fun x0 G1 =>
  bP (bn Q q .neq 23 (.tmp 4) (.const (.int .i64 0)) x0 (.int .i64 0)) fun x2 =>
  ifV x2 (
  some ((.slice none 0 0), G1)) (
  bP (pNil v0) fun x3 =>
  bP (fa Q q 384 5 20 x3) fun x4 =>
  bP (ld Q q 382 x4 G1) fun x5 =>
  some (x5, G1))
theorem m344 {e : Ex} {E : Ev} (h : ExLe Q e E) (v0 : Value) (G : GS) : Ref (s344 true e v0 G) (s344 false (Ex.of E) v0 G) := by
  unfold s344
  exact Ref.go
theorem f344 {orc : FuncId → Bool} {e : Ex} (h : ExLe Q e (E orc)) (v0 : Value) (G : GS) : Ref (s344 true e v0 G) ((E orc).cl 344 [v0] G) :=
  fun r hr => cl_sxE_some Q orc (vs := [v0]) G Tryz.func344 (by kernel_rfl) (by kernel_rfl) (by kernel_rfl) (by kernel_rfl) (by kernel_rfl) (by kernel_rfl) (m344 h v0 G r hr)
noncomputable def b345_0 (q : Bool) (e : Ex) (lp : Env → GS → Option (Exit × Env × GS)) (τ : Env) (G : GS) : Option (Exit × Env × GS) :=
  bV q (τ 3) fun a3_ =>
  bV q (τ 7) fun a7_ =>
  bV q (τ 8) fun a8_ =>
  bV q (τ 9) fun a9_ =>
  bP (bn Q q .lss 3 (.tmp 9) (.tmp 8) a9_ a8_) fun x0 =>
  ifV x0 (
  bP (ias Q q 382 4 a7_ a9_) fun x1 =>
  bP (lda Q q 381 4 x1 G) fun x2 =>
  bS (al Q q 381 z381 G) fun x3 G4 =>
  bP (st Q q 381 4 x3 x2 G4) fun G5 =>
  bP (fa Q q 381 2 2 x3) fun x6 =>
  bP (ld Q q 38 x6 G5) fun x7 =>
  bS (bs Q q 90 1 (rep z38 1) 1 [(0, 0, 1)] [x7] G5) fun x8 G9 =>
  bS (ap Q q 90 90 1 8 a3_ x8 G9) fun x10 G11 =>
  bP (bn Q q .add 3 (.tmp 9) (.const (.int .i64 1)) a9_ (.int .i64 1)) fun x12 =>
  lp (tu τ [(3, x10), (7, a7_), (8, a8_), (9, x12), (5, x3), (10, x0), (11, x1), (12, x2), (13, a3_), (14, x6), (15, x7), (16, x8), (17, x10), (18, x12)]) G11) (
  some ((.exit 0), clq q 20 (tu τ [(3, a3_), (7, a7_), (8, a8_), (9, a9_), (10, x0)]), G))
theorem mb345_0 {e : Ex} {E : Ev} (h : ExLe Q e E) {lp lp' : Env → GS → Option (Exit × Env × GS)} (hlp : LpLe lp lp') (τ : Env) (G : GS) : Ref (b345_0 true e lp τ G) (b345_0 false (Ex.of E) lp' τ G) := by
  unfold b345_0
  exact Ref.go
theorem l345_0 {orc : FuncId → Bool} {e : Ex} (h : ExLe Q e (E orc)) (lp : Env → GS → Option (Exit × Env × GS)) (hlp : ∀ τ G, Ref (lp τ G) (mapE ((E orc).lp (subAt [1, 1, 0, 1, 0, 0] (bodyOf Tryz.f345)) (lst 20 τ) G))) (T : List Value) (G : GS) (hT : T.length = 20) : Ref (b345_0 true e lp (nth undef T) G) (mapE ((E orc).lp (subAt [1, 1, 0, 1, 0, 0] (bodyOf Tryz.f345)) T G)) :=
  fun r hr => lp_sxM Q orc G hT (by kernel_rfl) (mb345_0 h ⟨hlp⟩ _ _ r hr)
/-- (*coxswain/find.Find).Known -/
noncomputable def s345 (q : Bool) (e : Ex) (v0 : Value) (G : GS) : Option (Value × GS) :=
  bS (e.ev.cl 344 [v0] G) fun x0 G1 =>
  bP (ln Q q 382 x0) fun x2 =>
  bL q e 345 0 (subAt [1, 1, 0, 1, 0, 0] (bodyOf Tryz.f345)) 20 (tu (nth undef [v0]) [(2, (.slice none 0 0)), (3, (.slice none 0 0)), (6, v0), (7, x0), (8, x2), (9, (.int .i64 0))]) G1 fun e3 t4 G5 =>
  bV q (t4 3) fun t4x3_ =>
  ifE e3 (.exit 0) (
  some (t4x3_, G5)) (none)
theorem m345 {e : Ex} {E : Ev} (h : ExLe Q e E) (v0 : Value) (G : GS) : Ref (s345 true e v0 G) (s345 false (Ex.of E) v0 G) := by
  unfold s345
  exact Ref.go
theorem f345 {orc : FuncId → Bool} {e : Ex} (h : ExLe Q e (E orc)) (v0 : Value) (G : GS) : Ref (s345 true e v0 G) ((E orc).cl 345 [v0] G) :=
  fun r hr => cl_sxE_some Q orc (vs := [v0]) G Tryz.func345 (by kernel_rfl) (by kernel_rfl) (by kernel_rfl) (by kernel_rfl) (by kernel_rfl) (by kernel_rfl) (m345 h v0 G r hr)
noncomputable def b346_0 (q : Bool) (e : Ex) (lp : Env → GS → Option (Exit × Env × GS)) (τ : Env) (G : GS) : Option (Exit × Env × GS) :=
  bV q (τ 3) fun a3_ =>
  bV q (τ 7) fun a7_ =>
  bV q (τ 8) fun a8_ =>
  bV q (τ 9) fun a9_ =>
  bP (bn Q q .lss 3 (.tmp 9) (.tmp 8) a9_ a8_) fun x0 =>
  ifV x0 (
  bP (ias Q q 382 4 a7_ a9_) fun x1 =>
  bP (lda Q q 381 4 x1 G) fun x2 =>
  bS (al Q q 381 z381 G) fun x3 G4 =>
  bP (st Q q 381 4 x3 x2 G4) fun G5 =>
  bP (fa Q q 381 1 1 x3) fun x6 =>
  bP (ld Q q 3 x6 G5) fun x7 =>
  bS (bs Q q 139 1 (rep z3 1) 1 [(0, 0, 1)] [x7] G5) fun x8 G9 =>
  bS (ap Q q 139 139 1 8 a3_ x8 G9) fun x10 G11 =>
  bP (bn Q q .add 3 (.tmp 9) (.const (.int .i64 1)) a9_ (.int .i64 1)) fun x12 =>
  lp (tu τ [(3, x10), (7, a7_), (8, a8_), (9, x12), (5, x3), (10, x0), (11, x1), (12, x2), (13, a3_), (14, x6), (15, x7), (16, x8), (17, x10), (18, x12)]) G11) (
  some ((.exit 0), clq q 20 (tu τ [(3, a3_), (7, a7_), (8, a8_), (9, a9_), (10, x0)]), G))
theorem mb346_0 {e : Ex} {E : Ev} (h : ExLe Q e E) {lp lp' : Env → GS → Option (Exit × Env × GS)} (hlp : LpLe lp lp') (τ : Env) (G : GS) : Ref (b346_0 true e lp τ G) (b346_0 false (Ex.of E) lp' τ G) := by
  unfold b346_0
  exact Ref.go
theorem l346_0 {orc : FuncId → Bool} {e : Ex} (h : ExLe Q e (E orc)) (lp : Env → GS → Option (Exit × Env × GS)) (hlp : ∀ τ G, Ref (lp τ G) (mapE ((E orc).lp (subAt [1, 1, 0, 1, 0, 0] (bodyOf Tryz.f346)) (lst 20 τ) G))) (T : List Value) (G : GS) (hT : T.length = 20) : Ref (b346_0 true e lp (nth undef T) G) (mapE ((E orc).lp (subAt [1, 1, 0, 1, 0, 0] (bodyOf Tryz.f346)) T G)) :=
  fun r hr => lp_sxM Q orc G hT (by kernel_rfl) (mb346_0 h ⟨hlp⟩ _ _ r hr)
/-- (*coxswain/find.Find).Preds -/
noncomputable def s346 (q : Bool) (e : Ex) (v0 : Value) (G : GS) : Option (Value × GS) :=
  bS (e.ev.cl 344 [v0] G) fun x0 G1 =>
  bP (ln Q q 382 x0) fun x2 =>
  bL q e 346 0 (subAt [1, 1, 0, 1, 0, 0] (bodyOf Tryz.f346)) 20 (tu (nth undef [v0]) [(2, (.slice none 0 0)), (3, (.slice none 0 0)), (6, v0), (7, x0), (8, x2), (9, (.int .i64 0))]) G1 fun e3 t4 G5 =>
  bV q (t4 3) fun t4x3_ =>
  ifE e3 (.exit 0) (
  some (t4x3_, G5)) (none)
theorem m346 {e : Ex} {E : Ev} (h : ExLe Q e E) (v0 : Value) (G : GS) : Ref (s346 true e v0 G) (s346 false (Ex.of E) v0 G) := by
  unfold s346
  exact Ref.go
theorem f346 {orc : FuncId → Bool} {e : Ex} (h : ExLe Q e (E orc)) (v0 : Value) (G : GS) : Ref (s346 true e v0 G) ((E orc).cl 346 [v0] G) :=
  fun r hr => cl_sxE_some Q orc (vs := [v0]) G Tryz.func346 (by kernel_rfl) (by kernel_rfl) (by kernel_rfl) (by kernel_rfl) (by kernel_rfl) (by kernel_rfl) (m346 h v0 G r hr)
/-- (*coxswain/find.Find).Err -/
noncomputable def s347 (q : Bool) (e : Ex) (v0 : Value) (G : GS) : Option (Value × GS) :=
  bP (ep Q q false 184 (.tmp 4) (.const (.pointer none)) v0 (.pointer none)) fun x0 =>
  bS (gd x0 false (some (v0, G)) G) fun x1 G2 =>
  bS (gd x0 false (bP (pNil x1) fun y => some (y, G2)) G2) fun x3 G4 =>
  bS (gd x0 false (bP (fa Q q 384 7 22 x3) fun y => some (y, G4)) G4) fun x5 G6 =>
  bS (gd x0 false (bP (ld Q q 4 x5 G6) fun y => some (y, G6)) G6) fun x7 G8 =>
  bS (gd x0 false (bP (un Q q .not x7) fun y => some (y, G8)) G8) fun x9 G10 =>
  bP (pickV x0 (.bool true) x9) fun x11 =>
  ifV x11 (
  some ((.int .i64 1), G10)) (
  bP (pNil v0) fun x12 =>
  bP (fa Q q 384 2 14 x12) fun x13 =>
  bP (ld Q q 3 x13 G10) fun x14 =>
  bP (bn Q q .neq 3 (.tmp 17) (.const (.int .i64 9)) x14 (.int .i64 9)) fun x15 =>
  ifV x15 (
  some ((.int .i64 14), G10)) (
  bP (pNil v0) fun x16 =>
  bP (fa Q q 384 8 23 x16) fun x17 =>
  bP (ld Q q 23 x17 G10) fun x18 =>
  some (x18, G10)))
theorem m347 {e : Ex} {E : Ev} (h : ExLe Q e E) (v0 : Value) (G : GS) : Ref (s347 true e v0 G) (s347 false (Ex.of E) v0 G) := by
  unfold s347
  exact Ref.go
theorem f347 {orc : FuncId → Bool} {e : Ex} (h : ExLe Q e (E orc)) (v0 : Value) (G : GS) : Ref (s347 true e v0 G) ((E orc).cl 347 [v0] G) :=
  fun r hr => cl_sxE_some Q orc (vs := [v0]) G Tryz.func347 (by kernel_rfl) (by kernel_rfl) (by kernel_rfl) (by kernel_rfl) (by kernel_rfl) (by kernel_rfl) (m347 h v0 G r hr)
/-- (*coxswain/ready.part[*coxswain/limbo.Collect]).run -/
noncomputable def s348 (q : Bool) (e : Ex) (v0 v1 : Value) (G : GS) : Option (Value × GS) :=
  bP (pNil v0) fun x0 =>
  bP (fa Q q 313 4 4 x0) fun x1 =>
  bP (ld Q q 4 x1 G) fun x2 =>
  bP (un Q q .not x2) fun x3 =>
  ifV x3 (
  bP (pNil v0) fun x4 =>
  bP (fa Q q 313 0 0 x4) fun x5 =>
  bP (ld Q q 310 x5 G) fun x6 =>
  bS (cValue e.ev x6 [] G) fun x7 G8 =>
  bP (pNil v0) fun x9 =>
  bP (fa Q q 313 3 3 x9) fun x10 =>
  bP (st Q q 308 1 x10 x7 G8) fun G11 =>
  bP (pNil v0) fun x12 =>
  bP (fa Q q 313 4 4 x12) fun x13 =>
  bP (st Q q 4 1 x13 (.bool true) G11) fun G14 =>
  bP (pNil v0) fun x15 =>
  bP (fa Q q 313 3 3 x15) fun x16 =>
  bP (ld Q q 308 x16 G14) fun x17 =>
  bP (ifc Q q 308 x17) fun x18 =>
  bS (cInvoke Q e.ev x18 "Step" [v1] G14) fun x19 G20 =>
  bP (pNil v0) fun x21 =>
  bP (fa Q q 313 1 1 x21) fun x22 =>
  bP (ld Q q 311 x22 G20) fun x23 =>
  bP (ef Q q true 311 (.tmp 34) (.const .nilFunc) x23 .nilFunc) fun x24 =>
  ifV x24 (
  bP (pNil v0) fun x25 =>
  bP (fa Q q 313 1 1 x25) fun x26 =>
  bP (ld Q q 311 x26 (G20.room 10)) fun x27 =>
  bP (pNil v0) fun x28 =>
  bP (fa Q q 313 3 3 x28) fun x29 =>
  bP (ld Q q 308 x29 (G20.room 10)) fun x30 =>
  bS (cValue e.ev x27 [x30] (G20.room 10)) fun x32 G31 =>
  bS (gd x19 true (some (v0, G31)) G31) fun x33 G34 =>
  bS (gd x19 true (bP (pNil x33) fun y => some (y, G34)) G34) fun x35 G36 =>
  bS (gd x19 true (bP (fa Q q 313 2 2 x35) fun y => some (y, G36)) G36) fun x37 G38 =>
  bS (gd x19 true (bP (ld Q q 306 x37 G38) fun y => some (y, G38)) G38) fun x39 G40 =>
  bS (gd x19 true (bP (ef Q q true 306 (.tmp 50) (.const .nilFunc) x39 .nilFunc) fun y => some (y, G40)) G40) fun x41 G42 =>
  bP (pickV x19 x41 (.bool false)) fun x43 =>
  ifV x43 (
  bP (pNil v0) fun x44 =>
  bP (fa Q q 313 2 2 x44) fun x45 =>
  bP (ld Q q 306 x45 (G42.room 9)) fun x46 =>
  bP (pNil v0) fun x47 =>
  bP (fa Q q 313 3 3 x47) fun x48 =>
  bP (ld Q q 308 x48 (G42.room 9)) fun x49 =>
  bS (cValue e.ev x46 [x49] (G42.room 9)) fun x51 G50 =>
  some (.tuple #[x19, x32], G50)) (
  some (.tuple #[x19, x32], G42))) (
  bS (gd x19 true (some (v0, G20)) G20) fun x52 G53 =>
  bS (gd x19 true (bP (pNil x52) fun y => some (y, G53)) G53) fun x54 G55 =>
  bS (gd x19 true (bP (fa Q q 313 2 2 x54) fun y => some (y, G55)) G55) fun x56 G57 =>
  bS (gd x19 true (bP (ld Q q 306 x56 G57) fun y => some (y, G57)) G57) fun x58 G59 =>
  bS (gd x19 true (bP (ef Q q true 306 (.tmp 50) (.const .nilFunc) x58 .nilFunc) fun y => some (y, G59)) G59) fun x60 G61 =>
  bP (pickV x19 x60 (.bool false)) fun x62 =>
  ifV x62 (
  bP (pNil v0) fun x63 =>
  bP (fa Q q 313 2 2 x63) fun x64 =>
  bP (ld Q q 306 x64 (G61.room 9)) fun x65 =>
  bP (pNil v0) fun x66 =>
  bP (fa Q q 313 3 3 x66) fun x67 =>
  bP (ld Q q 308 x67 (G61.room 9)) fun x68 =>
  bS (cValue e.ev x65 [x68] (G61.room 9)) fun x70 G69 =>
  some (.tuple #[x19, (.int .u64 0)], G69)) (
  some (.tuple #[x19, (.int .u64 0)], G61)))) (
  bP (pNil v0) fun x71 =>
  bP (fa Q q 313 3 3 x71) fun x72 =>
  bP (ld Q q 308 x72 G) fun x73 =>
  bP (ifc Q q 308 x73) fun x74 =>
  bS (cInvoke Q e.ev x74 "Step" [v1] G) fun x75 G76 =>
  bP (pNil v0) fun x77 =>
  bP (fa Q q 313 1 1 x77) fun x78 =>
  bP (ld Q q 311 x78 G76) fun x79 =>
  bP (ef Q q true 311 (.tmp 34) (.const .nilFunc) x79 .nilFunc) fun x80 =>
  ifV x80 (
  bP (pNil v0) fun x81 =>
  bP (fa Q q 313 1 1 x81) fun x82 =>
  bP (ld Q q 311 x82 (G76.room 10)) fun x83 =>
  bP (pNil v0) fun x84 =>
  bP (fa Q q 313 3 3 x84) fun x85 =>
  bP (ld Q q 308 x85 (G76.room 10)) fun x86 =>
  bS (cValue e.ev x83 [x86] (G76.room 10)) fun x88 G87 =>
  bS (gd x75 true (some (v0, G87)) G87) fun x89 G90 =>
  bS (gd x75 true (bP (pNil x89) fun y => some (y, G90)) G90) fun x91 G92 =>
  bS (gd x75 true (bP (fa Q q 313 2 2 x91) fun y => some (y, G92)) G92) fun x93 G94 =>
  bS (gd x75 true (bP (ld Q q 306 x93 G94) fun y => some (y, G94)) G94) fun x95 G96 =>
  bS (gd x75 true (bP (ef Q q true 306 (.tmp 50) (.const .nilFunc) x95 .nilFunc) fun y => some (y, G96)) G96) fun x97 G98 =>
  bP (pickV x75 x97 (.bool false)) fun x99 =>
  ifV x99 (
  bP (pNil v0) fun x100 =>
  bP (fa Q q 313 2 2 x100) fun x101 =>
  bP (ld Q q 306 x101 (G98.room 9)) fun x102 =>
  bP (pNil v0) fun x103 =>
  bP (fa Q q 313 3 3 x103) fun x104 =>
  bP (ld Q q 308 x104 (G98.room 9)) fun x105 =>
  bS (cValue e.ev x102 [x105] (G98.room 9)) fun x107 G106 =>
  some (.tuple #[x75, x88], G106)) (
  some (.tuple #[x75, x88], G98))) (
  bS (gd x75 true (some (v0, G76)) G76) fun x108 G109 =>
  bS (gd x75 true (bP (pNil x108) fun y => some (y, G109)) G109) fun x110 G111 =>
  bS (gd x75 true (bP (fa Q q 313 2 2 x110) fun y => some (y, G111)) G111) fun x112 G113 =>
  bS (gd x75 true (bP (ld Q q 306 x112 G113) fun y => some (y, G113)) G113) fun x114 G115 =>
  bS (gd x75 true (bP (ef Q q true 306 (.tmp 50) (.const .nilFunc) x114 .nilFunc) fun y => some (y, G115)) G115) fun x116 G117 =>
  bP (pickV x75 x116 (.bool false)) fun x118 =>
  ifV x118 (
  bP (pNil v0) fun x119 =>
  bP (fa Q q 313 2 2 x119) fun x120 =>
  bP (ld Q q 306 x120 (G117.room 9)) fun x121 =>
  bP (pNil v0) fun x122 =>
  bP (fa Q q 313 3 3 x122) fun x123 =>
  bP (ld Q q 308 x123 (G117.room 9)) fun x124 =>
  bS (cValue e.ev x121 [x124] (G117.room 9)) fun x126 G125 =>
  some (.tuple #[x75, (.int .u64 0)], G125)) (
  some (.tuple #[x75, (.int .u64 0)], G117))))
theorem m348 {e : Ex} {E : Ev} (h : ExLe Q e E) (v0 v1 : Value) (G : GS) : Ref (s348 true e v0 v1 G) (s348 false (Ex.of E) v0 v1 G) := by
  unfold s348
  exact Ref.go
theorem f348 {orc : FuncId → Bool} {e : Ex} (h : ExLe Q e (E orc)) (v0 v1 : Value) (G : GS) : Ref (s348 true e v0 v1 G) ((E orc).cl 348 [v0, v1] G) :=
  fun r hr => cl_sxE_some Q orc (vs := [v0, v1]) G Tryz.func348 (by kernel_rfl) (by kernel_rfl) (by kernel_rfl) (by kernel_rfl) (by kernel_rfl) (by kernel_rfl) (m348 h v0 v1 G r hr)
/-- (*coxswain/limbo.Collect).Step -/
noncomputable def s349 (q : Bool) (e : Ex) (v0 v1 : Value) (G : GS) : Option (Value × GS) :=
  bP (ep Q q false 308 (.tmp 5) (.const (.pointer none)) v0 (.pointer none)) fun x0 =>
  bS (gd x0 false (some (v0, G)) G) fun x1 G2 =>
  bS (gd x0 false (bP (pNil x1) fun y => some (y, G2)) G2) fun x3 G4 =>
  bS (gd x0 false (bP (fa Q q 352 0 0 x3) fun y => some (y, G4)) G4) fun x5 G6 =>
  bS (gd x0 false (some (v1, G6)) G6) fun x7 G8 =>
  bS (gd x0 false (bS (e.ev.cl 302 [x5, x7] G8) fun y G => some (y, G)) G8) fun x9 G10 =>
  bP (pickV x0 (.bool true) x9) fun x11 =>
  some (x11, G10)
theorem m349 {e : Ex} {E : Ev} (h : ExLe Q e E) (v0 v1 : Value) (G : GS) : Ref (s349 true e v0 v1 G) (s349 false (Ex.of E) v0 v1 G) := by
  unfold s349
  exact Ref.go
theorem f349 {orc : FuncId → Bool} {e : Ex} (h : ExLe Q e (E orc)) (v0 v1 : Value) (G : GS) : Ref (s349 true e v0 v1 G) ((E orc).cl 349 [v0, v1] G) :=
  fun r hr => cl_sxE_some Q orc (vs := [v0, v1]) G Tryz.func349 (by kernel_rfl) (by kernel_rfl) (by kernel_rfl) (by kernel_rfl) (by kernel_rfl) (by kernel_rfl) (m349 h v0 v1 G r hr)
noncomputable def clT (orc : FuncId → Bool) (e : Ex) (f : FuncId) (vs : List Value) (G : GS) : Option (Value × GS) :=
  fork f 198 (
fork f 122 (
fork f 73 (
fork f 36 (
fork f 14 (
fork f 10 (
fork f 6 (
fork f 5 (
leaf f 5 (app0 (orc 5) (hasTab Q G) (s5 true e) vs G)) (
leaf f 6 (app1 (s6 true e) vs G))) (
fork f 8 (
leaf f 8 (app1 (s8 true e) vs G)) (
leaf f 10 (app2 (s10 true e) vs G)))) (
fork f 12 (
fork f 11 (
leaf f 11 (app2 (s11 true e) vs G)) (
leaf f 12 (app2 (s12 true e) vs G))) (
fork f 13 (
leaf f 13 (app2 (s13 true e) vs G)) (
leaf f 14 (app1 (s14 true e) vs G))))) (
fork f 32 (
fork f 29 (
fork f 15 (
leaf f 15 (app5 (s15 true e) vs G)) (
leaf f 29 (app3 (s29 true e) vs G))) (
fork f 31 (
leaf f 31 (app0 (orc 31) (hasTab Q G) (s31 true e) vs G)) (
leaf f 32 (app5 (s32 true e) vs G)))) (
fork f 34 (
fork f 33 (
leaf f 33 (app0 (orc 33) (hasTab Q G) (s33 true e) vs G)) (
leaf f 34 (app4 (s34 true e) vs G))) (
fork f 35 (
leaf f 35 (app3 (s35 true e) vs G)) (
leaf f 36 (app0 (orc 36) (hasTab Q G) (s36 true e) vs G)))))) (
fork f 44 (
fork f 40 (
fork f 38 (
fork f 37 (
leaf f 37 (app2 (s37 true e) vs G)) (
leaf f 38 (app2 (s38 true e) vs G))) (
fork f 39 (
leaf f 39 (app2 (s39 true e) vs G)) (
leaf f 40 (app3 (s40 true e) vs G)))) (
fork f 42 (
fork f 41 (
leaf f 41 (app1 (s41 true e) vs G)) (
leaf f 42 (app2 (s42 true e) vs G))) (
fork f 43 (
leaf f 43 (app0 (orc 43) (hasTab Q G) (s43 true e) vs G)) (
leaf f 44 (app2 (s44 true e) vs G))))) (
fork f 48 (
fork f 46 (
fork f 45 (
leaf f 45 (app1 (s45 true e) vs G)) (
leaf f 46 (app2 (s46 true e) vs G))) (
fork f 47 (
leaf f 47 (app2 (s47 true e) vs G)) (
leaf f 48 (app1 (s48 true e) vs G)))) (
fork f 53 (
fork f 49 (
leaf f 49 (app1 (s49 true e) vs G)) (
leaf f 53 (app2 (s53 true e) vs G))) (
fork f 64 (
leaf f 64 (app1 (s64 true e) vs G)) (
fork f 72 (
leaf f 72 (app2 (s72 true e) vs G)) (
leaf f 73 (app5 (s73 true e) vs G)))))))) (
fork f 89 (
fork f 81 (
fork f 77 (
fork f 75 (
fork f 74 (
leaf f 74 (app1 (s74 true e) vs G)) (
leaf f 75 (app2 (s75 true e) vs G))) (
fork f 76 (
leaf f 76 (app2 (s76 true e) vs G)) (
leaf f 77 (app1 (s77 true e) vs G)))) (
fork f 79 (
fork f 78 (
leaf f 78 (app2 (s78 true e) vs G)) (
leaf f 79 (app2 (s79 true e) vs G))) (
fork f 80 (
leaf f 80 (app2 (s80 true e) vs G)) (
leaf f 81 (app2 (s81 true e) vs G))))) (
fork f 85 (
fork f 83 (
fork f 82 (
leaf f 82 (app2 (s82 true e) vs G)) (
leaf f 83 (app2 (s83 true e) vs G))) (
fork f 84 (
leaf f 84 (app2 (s84 true e) vs G)) (
leaf f 85 (app1 (s85 true e) vs G)))) (
fork f 87 (
fork f 86 (
leaf f 86 (app2 (s86 true e) vs G)) (
leaf f 87 (app3 (s87 true e) vs G))) (
fork f 88 (
leaf f 88 (app1 (s88 true e) vs G)) (
leaf f 89 (app2 (s89 true e) vs G)))))) (
fork f 100 (
fork f 93 (
fork f 91 (
fork f 90 (
leaf f 90 (app2 (s90 true e) vs G)) (
leaf f 91 (app1 (s91 true e) vs G))) (
fork f 92 (
leaf f 92 (app1 (s92 true e) vs G)) (
leaf f 93 (app1 (s93 true e) vs G)))) (
fork f 98 (
fork f 94 (
leaf f 94 (app2 (s94 true e) vs G)) (
leaf f 98 (app1 (s98 true e) vs G))) (
fork f 99 (
leaf f 99 (app2 (s99 true e) vs G)) (
leaf f 100 (app3 (s100 true e) vs G))))) (
fork f 117 (
fork f 109 (
fork f 101 (
leaf f 101 (app1 (s101 true e) vs G)) (
leaf f 109 (app1 (s109 true e) vs G))) (
fork f 110 (
leaf f 110 (app2 (s110 true e) vs G)) (
leaf f 117 (app1 (s117 true e) vs G)))) (
fork f 119 (
fork f 118 (
leaf f 118 (app2 (s118 true e) vs G)) (
leaf f 119 (app1 (s119 true e) vs G))) (
fork f 120 (
leaf f 120 (app2 (s120 true e) vs G)) (
fork f 121 (
leaf f 121 (app3 (s121 true e) vs G)) (
leaf f 122 (app1 (s122 true e) vs G))))))))) (
fork f 161 (
fork f 138 (
fork f 130 (
fork f 126 (
fork f 124 (
fork f 123 (
leaf f 123 (app5 (s123 true e) vs G)) (
leaf f 124 (app1 (s124 true e) vs G))) (
fork f 125 (
leaf f 125 (app1 (s125 true e) vs G)) (
leaf f 126 (app1 (s126 true e) vs G)))) (
fork f 128 (
fork f 127 (
leaf f 127 (app1 (s127 true e) vs G)) (
leaf f 128 (app2 (s128 true e) vs G))) (
fork f 129 (
leaf f 129 (app1 (s129 true e) vs G)) (
leaf f 130 (app1 (s130 true e) vs G))))) (
fork f 134 (
fork f 132 (
fork f 131 (
leaf f 131 (app3 (s131 true e) vs G)) (
leaf f 132 (app1 (s132 true e) vs G))) (
fork f 133 (
leaf f 133 (app3 (s133 true e) vs G)) (
leaf f 134 (app2 (s134 true e) vs G)))) (
fork f 136 (
fork f 135 (
leaf f 135 (app2 (s135 true e) vs G)) (
leaf f 136 (app2 (s136 true e) vs G))) (
fork f 137 (
leaf f 137 (app2 (s137 true e) vs G)) (
leaf f 138 (app2 (s138 true e) vs G)))))) (
fork f 146 (
fork f 142 (
fork f 140 (
fork f 139 (
leaf f 139 (app1 (s139 true e) vs G)) (
leaf f 140 (app1 (s140 true e) vs G))) (
fork f 141 (
leaf f 141 (app2 (s141 true e) vs G)) (
leaf f 142 (app1 (s142 true e) vs G)))) (
fork f 144 (
fork f 143 (
leaf f 143 (app1 (s143 true e) vs G)) (
leaf f 144 (app1 (s144 true e) vs G))) (
fork f 145 (
leaf f 145 (app1 (s145 true e) vs G)) (
leaf f 146 (app2 (s146 true e) vs G))))) (
fork f 154 (
fork f 148 (
fork f 147 (
leaf f 147 (app2 (s147 true e) vs G)) (
leaf f 148 (app2 (s148 true e) vs G))) (
fork f 149 (
leaf f 149 (app2 (s149 true e) vs G)) (
leaf f 154 (app1 (s154 true e) vs G)))) (
fork f 157 (
fork f 156 (
leaf f 156 (app2 (s156 true e) vs G)) (
leaf f 157 (app1 (s157 true e) vs G))) (
fork f 158 (
leaf f 158 (app1 (s158 true e) vs G)) (
fork f 160 (
leaf f 160 (app1 (s160 true e) vs G)) (
leaf f 161 (app1 (s161 true e) vs G)))))))) (
fork f 177 (
fork f 169 (
fork f 165 (
fork f 163 (
fork f 162 (
leaf f 162 (app4 (s162 true e) vs G)) (
leaf f 163 (app4 (s163 true e) vs G))) (
fork f 164 (
leaf f 164 (app4 (s164 true e) vs G)) (
leaf f 165 (app4 (s165 true e) vs G)))) (
fork f 167 (
fork f 166 (
leaf f 166 (app4 (s166 true e) vs G)) (
leaf f 167 (app4 (s167 true e) vs G))) (
fork f 168 (
leaf f 168 (app5 (s168 true e) vs G)) (
leaf f 169 (app5 (s169 true e) vs G))))) (
fork f 173 (
fork f 171 (
fork f 170 (
leaf f 170 (app1 (s170 true e) vs G)) (
leaf f 171 (app1 (s171 true e) vs G))) (
fork f 172 (
leaf f 172 (app1 (s172 true e) vs G)) (
leaf f 173 (app1 (s173 true e) vs G)))) (
fork f 175 (
fork f 174 (
leaf f 174 (app2 (s174 true e) vs G)) (
leaf f 175 (app2 (s175 true e) vs G))) (
fork f 176 (
leaf f 176 (app1 (s176 true e) vs G)) (
leaf f 177 (app2 (s177 true e) vs G)))))) (
fork f 185 (
fork f 181 (
fork f 179 (
fork f 178 (
leaf f 178 (app2 (s178 true e) vs G)) (
leaf f 179 (app1 (s179 true e) vs G))) (
fork f 180 (
leaf f 180 (app5 (s180 true e) vs G)) (
leaf f 181 (app1 (s181 true e) vs G)))) (
fork f 183 (
fork f 182 (
leaf f 182 (app1 (s182 true e) vs G)) (
leaf f 183 (app4 (s183 true e) vs G))) (
fork f 184 (
leaf f 184 (app1 (s184 true e) vs G)) (
leaf f 185 (app1 (s185 true e) vs G))))) (
fork f 191 (
fork f 187 (
fork f 186 (
leaf f 186 (app3 (s186 true e) vs G)) (
leaf f 187 (app1 (s187 true e) vs G))) (
fork f 188 (
leaf f 188 (app2 (s188 true e) vs G)) (
leaf f 191 (app2 (s191 true e) vs G)))) (
fork f 195 (
fork f 193 (
leaf f 193 (app2 (s193 true e) vs G)) (
leaf f 195 (app0 (orc 195) (hasTab Q G) (s195 true e) vs G))) (
fork f 196 (
leaf f 196 (app2 (s196 true e) vs G)) (
fork f 197 (
leaf f 197 (app1 (s197 true e) vs G)) (
leaf f 198 (app1 (s198 true e) vs G)))))))))) (
fork f 264 (
fork f 231 (
fork f 214 (
fork f 206 (
fork f 202 (
fork f 200 (
fork f 199 (
leaf f 199 (app2 (s199 true e) vs G)) (
leaf f 200 (app5 (s200 true e) vs G))) (
fork f 201 (
leaf f 201 (app1 (s201 true e) vs G)) (
leaf f 202 (app1 (s202 true e) vs G)))) (
fork f 204 (
fork f 203 (
leaf f 203 (app4 (s203 true e) vs G)) (
leaf f 204 (app6 (s204 true e) vs G))) (
fork f 205 (
leaf f 205 (app2 (s205 true e) vs G)) (
leaf f 206 (app2 (s206 true e) vs G))))) (
fork f 210 (
fork f 208 (
fork f 207 (
leaf f 207 (app2 (s207 true e) vs G)) (
leaf f 208 (app1 (s208 true e) vs G))) (
fork f 209 (
leaf f 209 (app1 (s209 true e) vs G)) (
leaf f 210 (app1 (s210 true e) vs G)))) (
fork f 212 (
fork f 211 (
leaf f 211 (app4 (s211 true e) vs G)) (
leaf f 212 (app4 (s212 true e) vs G))) (
fork f 213 (
leaf f 213 (app5 (s213 true e) vs G)) (
leaf f 214 (app3 (s214 true e) vs G)))))) (
fork f 222 (
fork f 218 (
fork f 216 (
fork f 215 (
leaf f 215 (app2 (s215 true e) vs G)) (
leaf f 216 (app3 (s216 true e) vs G))) (
fork f 217 (
leaf f 217 (app1 (s217 true e) vs G)) (
leaf f 218 (app2 (s218 true e) vs G)))) (
fork f 220 (
fork f 219 (
leaf f 219 (app1 (s219 true e) vs G)) (
leaf f 220 (app1 (s220 true e) vs G))) (
fork f 221 (
leaf f 221 (app1 (s221 true e) vs G)) (
leaf f 222 (app1 (s222 true e) vs G))))) (
fork f 226 (
fork f 224 (
fork f 223 (
leaf f 223 (app2 (s223 true e) vs G)) (
leaf f 224 (app2 (s224 true e) vs G))) (
fork f 225 (
leaf f 225 (app5 (s225 true e) vs G)) (
leaf f 226 (app2 (s226 true e) vs G)))) (
fork f 228 (
fork f 227 (
leaf f 227 (app1 (s227 true e) vs G)) (
leaf f 228 (app2 (s228 true e) vs G))) (
fork f 229 (
leaf f 229 (app2 (s229 true e) vs G)) (
fork f 230 (
leaf f 230 (app2 (s230 true e) vs G)) (
leaf f 231 (app2 (s231 true e) vs G)))))))) (
fork f 247 (
fork f 239 (
fork f 235 (
fork f 233 (
fork f 232 (
leaf f 232 (app2 (s232 true e) vs G)) (
leaf f 233 (app2 (s233 true e) vs G))) (
fork f 234 (
leaf f 234 (app1 (s234 true e) vs G)) (
leaf f 235 (app2 (s235 true e) vs G)))) (
fork f 237 (
fork f 236 (
leaf f 236 (app1 (s236 true e) vs G)) (
leaf f 237 (app0 (orc 237) (hasTab Q G) (s237 true e) vs G))) (
fork f 238 (
leaf f 238 (app3 (s238 true e) vs G)) (
leaf f 239 (app3 (s239 true e) vs G))))) (
fork f 243 (
fork f 241 (
fork f 240 (
leaf f 240 (app1 (s240 true e) vs G)) (
leaf f 241 (app2 (s241 true e) vs G))) (
fork f 242 (
leaf f 242 (app4 (s242 true e) vs G)) (
leaf f 243 (app2 (s243 true e) vs G)))) (
fork f 245 (
fork f 244 (
leaf f 244 (app2 (s244 true e) vs G)) (
leaf f 245 (app2 (s245 true e) vs G))) (
fork f 246 (
leaf f 246 (app1 (s246 true e) vs G)) (
leaf f 247 (app2 (s247 true e) vs G)))))) (
fork f 255 (
fork f 251 (
fork f 249 (
fork f 248 (
leaf f 248 (app2 (s248 true e) vs G)) (
leaf f 249 (app1 (s249 true e) vs G))) (
fork f 250 (
leaf f 250 (app2 (s250 true e) vs G)) (
leaf f 251 (app2 (s251 true e) vs G)))) (
fork f 253 (
fork f 252 (
leaf f 252 (app2 (s252 true e) vs G)) (
leaf f 253 (app2 (s253 true e) vs G))) (
fork f 254 (
leaf f 254 (app2 (s254 true e) vs G)) (
leaf f 255 (app2 (s255 true e) vs G))))) (
fork f 259 (
fork f 257 (
fork f 256 (
leaf f 256 (app3 (s256 true e) vs G)) (
leaf f 257 (app2 (s257 true e) vs G))) (
fork f 258 (
leaf f 258 (app2 (s258 true e) vs G)) (
leaf f 259 (app2 (s259 true e) vs G)))) (
fork f 261 (
fork f 260 (
leaf f 260 (app2 (s260 true e) vs G)) (
leaf f 261 (app2 (s261 true e) vs G))) (
fork f 262 (
leaf f 262 (app3 (s262 true e) vs G)) (
fork f 263 (
leaf f 263 (app2 (s263 true e) vs G)) (
leaf f 264 (app2 (s264 true e) vs G))))))))) (
fork f 316 (
fork f 297 (
fork f 289 (
fork f 285 (
fork f 283 (
fork f 265 (
leaf f 265 (app1 (s265 true e) vs G)) (
leaf f 283 (app2 (s283 true e) vs G))) (
fork f 284 (
leaf f 284 (app2 (s284 true e) vs G)) (
leaf f 285 (app1 (s285 true e) vs G)))) (
fork f 287 (
fork f 286 (
leaf f 286 (app1 (s286 true e) vs G)) (
leaf f 287 (app2 (s287 true e) vs G))) (
fork f 288 (
leaf f 288 (app2 (s288 true e) vs G)) (
leaf f 289 (app3 (s289 true e) vs G))))) (
fork f 293 (
fork f 291 (
fork f 290 (
leaf f 290 (app1 (s290 true e) vs G)) (
leaf f 291 (app2 (s291 true e) vs G))) (
fork f 292 (
leaf f 292 (app2 (s292 true e) vs G)) (
leaf f 293 (app2 (s293 true e) vs G)))) (
fork f 295 (
fork f 294 (
leaf f 294 (app2 (s294 true e) vs G)) (
leaf f 295 (app1 (s295 true e) vs G))) (
fork f 296 (
leaf f 296 (app2 (s296 true e) vs G)) (
leaf f 297 (app2 (s297 true e) vs G)))))) (
fork f 305 (
fork f 301 (
fork f 299 (
fork f 298 (
leaf f 298 (app2 (s298 true e) vs G)) (
leaf f 299 (app1 (s299 true e) vs G))) (
fork f 300 (
leaf f 300 (app1 (s300 true e) vs G)) (
leaf f 301 (app2 (s301 true e) vs G)))) (
fork f 303 (
fork f 302 (
leaf f 302 (app2 (s302 true e) vs G)) (
leaf f 303 (app2 (s303 true e) vs G))) (
fork f 304 (
leaf f 304 (app2 (s304 true e) vs G)) (
leaf f 305 (app2 (s305 true e) vs G))))) (
fork f 311 (
fork f 307 (
fork f 306 (
leaf f 306 (app2 (s306 true e) vs G)) (
leaf f 307 (app2 (s307 true e) vs G))) (
fork f 309 (
leaf f 309 (app2 (s309 true e) vs G)) (
leaf f 311 (app2 (s311 true e) vs G)))) (
fork f 313 (
fork f 312 (
leaf f 312 (app2 (s312 true e) vs G)) (
leaf f 313 (app2 (s313 true e) vs G))) (
fork f 314 (
leaf f 314 (app1 (s314 true e) vs G)) (
fork f 315 (
leaf f 315 (app2 (s315 true e) vs G)) (
leaf f 316 (app2 (s316 true e) vs G)))))))) (
fork f 332 (
fork f 324 (
fork f 320 (
fork f 318 (
fork f 317 (
leaf f 317 (app3 (s317 true e) vs G)) (
leaf f 318 (app1 (s318 true e) vs G))) (
fork f 319 (
leaf f 319 (app1 (s319 true e) vs G)) (
leaf f 320 (app2 (s320 true e) vs G)))) (
fork f 322 (
fork f 321 (
leaf f 321 (app2 (s321 true e) vs G)) (
leaf f 322 (app1 (s322 true e) vs G))) (
fork f 323 (
leaf f 323 (app2 (s323 true e) vs G)) (
leaf f 324 (app2 (s324 true e) vs G))))) (
fork f 328 (
fork f 326 (
fork f 325 (
leaf f 325 (app0 (orc 325) (hasTab Q G) (s325 true e) vs G)) (
leaf f 326 (app2 (s326 true e) vs G))) (
fork f 327 (
leaf f 327 (app2 (s327 true e) vs G)) (
leaf f 328 (app2 (s328 true e) vs G)))) (
fork f 330 (
fork f 329 (
leaf f 329 (app2 (s329 true e) vs G)) (
leaf f 330 (app2 (s330 true e) vs G))) (
fork f 331 (
leaf f 331 (app2 (s331 true e) vs G)) (
leaf f 332 (app2 (s332 true e) vs G)))))) (
fork f 340 (
fork f 336 (
fork f 334 (
fork f 333 (
leaf f 333 (app2 (s333 true e) vs G)) (
leaf f 334 (app2 (s334 true e) vs G))) (
fork f 335 (
leaf f 335 (app2 (s335 true e) vs G)) (
leaf f 336 (app2 (s336 true e) vs G)))) (
fork f 338 (
fork f 337 (
leaf f 337 (app2 (s337 true e) vs G)) (
leaf f 338 (app2 (s338 true e) vs G))) (
fork f 339 (
leaf f 339 (app1 (s339 true e) vs G)) (
leaf f 340 (app2 (s340 true e) vs G))))) (
fork f 344 (
fork f 342 (
fork f 341 (
leaf f 341 (app1 (s341 true e) vs G)) (
leaf f 342 (app3 (s342 true e) vs G))) (
fork f 343 (
leaf f 343 (app5 (s343 true e) vs G)) (
leaf f 344 (app1 (s344 true e) vs G)))) (
fork f 346 (
fork f 345 (
leaf f 345 (app1 (s345 true e) vs G)) (
leaf f 346 (app1 (s346 true e) vs G))) (
fork f 347 (
leaf f 347 (app1 (s347 true e) vs G)) (
fork f 348 (
leaf f 348 (app2 (s348 true e) vs G)) (
leaf f 349 (app2 (s349 true e) vs G))))))))))
theorem clT_ok {orc : FuncId → Bool} {e : Ex} (h : ExLe Q e (E orc)) (f : FuncId) (vs : List Value) (G : GS) : Ref (clT orc e f vs G) ((E orc).cl f vs G) :=
  Ref.fork (
Ref.fork (
Ref.fork (
Ref.fork (
Ref.fork (
Ref.fork (
Ref.fork (
Ref.fork (
Ref.leaf (y := fun f => (E orc).cl f vs G) (Ref.app0 (fun ho G => f5 h ho G) vs G)) (
Ref.leaf (y := fun f => (E orc).cl f vs G) (Ref.app1 (fun u0 G => f6 h u0 G) vs G))) (
Ref.fork (
Ref.leaf (y := fun f => (E orc).cl f vs G) (Ref.app1 (fun u0 G => f8 h u0 G) vs G)) (
Ref.leaf (y := fun f => (E orc).cl f vs G) (Ref.app2 (fun u0 u1 G => f10 h u0 u1 G) vs G)))) (
Ref.fork (
Ref.fork (
Ref.leaf (y := fun f => (E orc).cl f vs G) (Ref.app2 (fun u0 u1 G => f11 h u0 u1 G) vs G)) (
Ref.leaf (y := fun f => (E orc).cl f vs G) (Ref.app2 (fun u0 u1 G => f12 h u0 u1 G) vs G))) (
Ref.fork (
Ref.leaf (y := fun f => (E orc).cl f vs G) (Ref.app2 (fun u0 u1 G => f13 h u0 u1 G) vs G)) (
Ref.leaf (y := fun f => (E orc).cl f vs G) (Ref.app1 (fun u0 G => f14 h u0 G) vs G))))) (
Ref.fork (
Ref.fork (
Ref.fork (
Ref.leaf (y := fun f => (E orc).cl f vs G) (Ref.app5 (fun u0 u1 u2 u3 u4 G => f15 h u0 u1 u2 u3 u4 G) vs G)) (
Ref.leaf (y := fun f => (E orc).cl f vs G) (Ref.app3 (fun u0 u1 u2 G => f29 h u0 u1 u2 G) vs G))) (
Ref.fork (
Ref.leaf (y := fun f => (E orc).cl f vs G) (Ref.app0 (fun ho G => f31 h ho G) vs G)) (
Ref.leaf (y := fun f => (E orc).cl f vs G) (Ref.app5 (fun u0 u1 u2 u3 u4 G => f32 h u0 u1 u2 u3 u4 G) vs G)))) (
Ref.fork (
Ref.fork (
Ref.leaf (y := fun f => (E orc).cl f vs G) (Ref.app0 (fun ho G => f33 h ho G) vs G)) (
Ref.leaf (y := fun f => (E orc).cl f vs G) (Ref.app4 (fun u0 u1 u2 u3 G => f34 h u0 u1 u2 u3 G) vs G))) (
Ref.fork (
Ref.leaf (y := fun f => (E orc).cl f vs G) (Ref.app3 (fun u0 u1 u2 G => f35 h u0 u1 u2 G) vs G)) (
Ref.leaf (y := fun f => (E orc).cl f vs G) (Ref.app0 (fun ho G => f36 h ho G) vs G)))))) (
Ref.fork (
Ref.fork (
Ref.fork (
Ref.fork (
Ref.leaf (y := fun f => (E orc).cl f vs G) (Ref.app2 (fun u0 u1 G => f37 h u0 u1 G) vs G)) (
Ref.leaf (y := fun f => (E orc).cl f vs G) (Ref.app2 (fun u0 u1 G => f38 h u0 u1 G) vs G))) (
Ref.fork (
Ref.leaf (y := fun f => (E orc).cl f vs G) (Ref.app2 (fun u0 u1 G => f39 h u0 u1 G) vs G)) (
Ref.leaf (y := fun f => (E orc).cl f vs G) (Ref.app3 (fun u0 u1 u2 G => f40 h u0 u1 u2 G) vs G)))) (
Ref.fork (
Ref.fork (
Ref.leaf (y := fun f => (E orc).cl f vs G) (Ref.app1 (fun u0 G => f41 h u0 G) vs G)) (
Ref.leaf (y := fun f => (E orc).cl f vs G) (Ref.app2 (fun u0 u1 G => f42 h u0 u1 G) vs G))) (
Ref.fork (
Ref.leaf (y := fun f => (E orc).cl f vs G) (Ref.app0 (fun ho G => f43 h ho G) vs G)) (
Ref.leaf (y := fun f => (E orc).cl f vs G) (Ref.app2 (fun u0 u1 G => f44 h u0 u1 G) vs G))))) (
Ref.fork (
Ref.fork (
Ref.fork (
Ref.leaf (y := fun f => (E orc).cl f vs G) (Ref.app1 (fun u0 G => f45 h u0 G) vs G)) (
Ref.leaf (y := fun f => (E orc).cl f vs G) (Ref.app2 (fun u0 u1 G => f46 h u0 u1 G) vs G))) (
Ref.fork (
Ref.leaf (y := fun f => (E orc).cl f vs G) (Ref.app2 (fun u0 u1 G => f47 h u0 u1 G) vs G)) (
Ref.leaf (y := fun f => (E orc).cl f vs G) (Ref.app1 (fun u0 G => f48 h u0 G) vs G)))) (
Ref.fork (
Ref.fork (
Ref.leaf (y := fun f => (E orc).cl f vs G) (Ref.app1 (fun u0 G => f49 h u0 G) vs G)) (
Ref.leaf (y := fun f => (E orc).cl f vs G) (Ref.app2 (fun u0 u1 G => f53 h u0 u1 G) vs G))) (
Ref.fork (
Ref.leaf (y := fun f => (E orc).cl f vs G) (Ref.app1 (fun u0 G => f64 h u0 G) vs G)) (
Ref.fork (
Ref.leaf (y := fun f => (E orc).cl f vs G) (Ref.app2 (fun u0 u1 G => f72 h u0 u1 G) vs G)) (
Ref.leaf (y := fun f => (E orc).cl f vs G) (Ref.app5 (fun u0 u1 u2 u3 u4 G => f73 h u0 u1 u2 u3 u4 G) vs G)))))))) (
Ref.fork (
Ref.fork (
Ref.fork (
Ref.fork (
Ref.fork (
Ref.leaf (y := fun f => (E orc).cl f vs G) (Ref.app1 (fun u0 G => f74 h u0 G) vs G)) (
Ref.leaf (y := fun f => (E orc).cl f vs G) (Ref.app2 (fun u0 u1 G => f75 h u0 u1 G) vs G))) (
Ref.fork (
Ref.leaf (y := fun f => (E orc).cl f vs G) (Ref.app2 (fun u0 u1 G => f76 h u0 u1 G) vs G)) (
Ref.leaf (y := fun f => (E orc).cl f vs G) (Ref.app1 (fun u0 G => f77 h u0 G) vs G)))) (
Ref.fork (
Ref.fork (
Ref.leaf (y := fun f => (E orc).cl f vs G) (Ref.app2 (fun u0 u1 G => f78 h u0 u1 G) vs G)) (
Ref.leaf (y := fun f => (E orc).cl f vs G) (Ref.app2 (fun u0 u1 G => f79 h u0 u1 G) vs G))) (
Ref.fork (
Ref.leaf (y := fun f => (E orc).cl f vs G) (Ref.app2 (fun u0 u1 G => f80 h u0 u1 G) vs G)) (
Ref.leaf (y := fun f => (E orc).cl f vs G) (Ref.app2 (fun u0 u1 G => f81 h u0 u1 G) vs G))))) (
Ref.fork (
Ref.fork (
Ref.fork (
Ref.leaf (y := fun f => (E orc).cl f vs G) (Ref.app2 (fun u0 u1 G => f82 h u0 u1 G) vs G)) (
Ref.leaf (y := fun f => (E orc).cl f vs G) (Ref.app2 (fun u0 u1 G => f83 h u0 u1 G) vs G))) (
Ref.fork (
Ref.leaf (y := fun f => (E orc).cl f vs G) (Ref.app2 (fun u0 u1 G => f84 h u0 u1 G) vs G)) (
Ref.leaf (y := fun f => (E orc).cl f vs G) (Ref.app1 (fun u0 G => f85 h u0 G) vs G)))) (
Ref.fork (
Ref.fork (
Ref.leaf (y := fun f => (E orc).cl f vs G) (Ref.app2 (fun u0 u1 G => f86 h u0 u1 G) vs G)) (
Ref.leaf (y := fun f => (E orc).cl f vs G) (Ref.app3 (fun u0 u1 u2 G => f87 h u0 u1 u2 G) vs G))) (
Ref.fork (
Ref.leaf (y := fun f => (E orc).cl f vs G) (Ref.app1 (fun u0 G => f88 h u0 G) vs G)) (
Ref.leaf (y := fun f => (E orc).cl f vs G) (Ref.app2 (fun u0 u1 G => f89 h u0 u1 G) vs G)))))) (
Ref.fork (
Ref.fork (
Ref.fork (
Ref.fork (
Ref.leaf (y := fun f => (E orc).cl f vs G) (Ref.app2 (fun u0 u1 G => f90 h u0 u1 G) vs G)) (
Ref.leaf (y := fun f => (E orc).cl f vs G) (Ref.app1 (fun u0 G => f91 h u0 G) vs G))) (
Ref.fork (
Ref.leaf (y := fun f => (E orc).cl f vs G) (Ref.app1 (fun u0 G => f92 h u0 G) vs G)) (
Ref.leaf (y := fun f => (E orc).cl f vs G) (Ref.app1 (fun u0 G => f93 h u0 G) vs G)))) (
Ref.fork (
Ref.fork (
Ref.leaf (y := fun f => (E orc).cl f vs G) (Ref.app2 (fun u0 u1 G => f94 h u0 u1 G) vs G)) (
Ref.leaf (y := fun f => (E orc).cl f vs G) (Ref.app1 (fun u0 G => f98 h u0 G) vs G))) (
Ref.fork (
Ref.leaf (y := fun f => (E orc).cl f vs G) (Ref.app2 (fun u0 u1 G => f99 h u0 u1 G) vs G)) (
Ref.leaf (y := fun f => (E orc).cl f vs G) (Ref.app3 (fun u0 u1 u2 G => f100 h u0 u1 u2 G) vs G))))) (
Ref.fork (
Ref.fork (
Ref.fork (
Ref.leaf (y := fun f => (E orc).cl f vs G) (Ref.app1 (fun u0 G => f101 h u0 G) vs G)) (
Ref.leaf (y := fun f => (E orc).cl f vs G) (Ref.app1 (fun u0 G => f109 h u0 G) vs G))) (
Ref.fork (
Ref.leaf (y := fun f => (E orc).cl f vs G) (Ref.app2 (fun u0 u1 G => f110 h u0 u1 G) vs G)) (
Ref.leaf (y := fun f => (E orc).cl f vs G) (Ref.app1 (fun u0 G => f117 h u0 G) vs G)))) (
Ref.fork (
Ref.fork (
Ref.leaf (y := fun f => (E orc).cl f vs G) (Ref.app2 (fun u0 u1 G => f118 h u0 u1 G) vs G)) (
Ref.leaf (y := fun f => (E orc).cl f vs G) (Ref.app1 (fun u0 G => f119 h u0 G) vs G))) (
Ref.fork (
Ref.leaf (y := fun f => (E orc).cl f vs G) (Ref.app2 (fun u0 u1 G => f120 h u0 u1 G) vs G)) (
Ref.fork (
Ref.leaf (y := fun f => (E orc).cl f vs G) (Ref.app3 (fun u0 u1 u2 G => f121 h u0 u1 u2 G) vs G)) (
Ref.leaf (y := fun f => (E orc).cl f vs G) (Ref.app1 (fun u0 G => f122 h u0 G) vs G))))))))) (
Ref.fork (
Ref.fork (
Ref.fork (
Ref.fork (
Ref.fork (
Ref.fork (
Ref.leaf (y := fun f => (E orc).cl f vs G) (Ref.app5 (fun u0 u1 u2 u3 u4 G => f123 h u0 u1 u2 u3 u4 G) vs G)) (
Ref.leaf (y := fun f => (E orc).cl f vs G) (Ref.app1 (fun u0 G => f124 h u0 G) vs G))) (
Ref.fork (
Ref.leaf (y := fun f => (E orc).cl f vs G) (Ref.app1 (fun u0 G => f125 h u0 G) vs G)) (
Ref.leaf (y := fun f => (E orc).cl f vs G) (Ref.app1 (fun u0 G => f126 h u0 G) vs G)))) (
Ref.fork (
Ref.fork (
Ref.leaf (y := fun f => (E orc).cl f vs G) (Ref.app1 (fun u0 G => f127 h u0 G) vs G)) (
Ref.leaf (y := fun f => (E orc).cl f vs G) (Ref.app2 (fun u0 u1 G => f128 h u0 u1 G) vs G))) (
Ref.fork (
Ref.leaf (y := fun f => (E orc).cl f vs G) (Ref.app1 (fun u0 G => f129 h u0 G) vs G)) (
Ref.leaf (y := fun f => (E orc).cl f vs G) (Ref.app1 (fun u0 G => f130 h u0 G) vs G))))) (
Ref.fork (
Ref.fork (
Ref.fork (
Ref.leaf (y := fun f => (E orc).cl f vs G) (Ref.app3 (fun u0 u1 u2 G => f131 h u0 u1 u2 G) vs G)) (
Ref.leaf (y := fun f => (E orc).cl f vs G) (Ref.app1 (fun u0 G => f132 h u0 G) vs G))) (
Ref.fork (
Ref.leaf (y := fun f => (E orc).cl f vs G) (Ref.app3 (fun u0 u1 u2 G => f133 h u0 u1 u2 G) vs G)) (
Ref.leaf (y := fun f => (E orc).cl f vs G) (Ref.app2 (fun u0 u1 G => f134 h u0 u1 G) vs G)))) (
Ref.fork (
Ref.fork (
Ref.leaf (y := fun f => (E orc).cl f vs G) (Ref.app2 (fun u0 u1 G => f135 h u0 u1 G) vs G)) (
Ref.leaf (y := fun f => (E orc).cl f vs G) (Ref.app2 (fun u0 u1 G => f136 h u0 u1 G) vs G))) (
Ref.fork (
Ref.leaf (y := fun f => (E orc).cl f vs G) (Ref.app2 (fun u0 u1 G => f137 h u0 u1 G) vs G)) (
Ref.leaf (y := fun f => (E orc).cl f vs G) (Ref.app2 (fun u0 u1 G => f138 h u0 u1 G) vs G)))))) (
Ref.fork (
Ref.fork (
Ref.fork (
Ref.fork (
Ref.leaf (y := fun f => (E orc).cl f vs G) (Ref.app1 (fun u0 G => f139 h u0 G) vs G)) (
Ref.leaf (y := fun f => (E orc).cl f vs G) (Ref.app1 (fun u0 G => f140 h u0 G) vs G))) (
Ref.fork (
Ref.leaf (y := fun f => (E orc).cl f vs G) (Ref.app2 (fun u0 u1 G => f141 h u0 u1 G) vs G)) (
Ref.leaf (y := fun f => (E orc).cl f vs G) (Ref.app1 (fun u0 G => f142 h u0 G) vs G)))) (
Ref.fork (
Ref.fork (
Ref.leaf (y := fun f => (E orc).cl f vs G) (Ref.app1 (fun u0 G => f143 h u0 G) vs G)) (
Ref.leaf (y := fun f => (E orc).cl f vs G) (Ref.app1 (fun u0 G => f144 h u0 G) vs G))) (
Ref.fork (
Ref.leaf (y := fun f => (E orc).cl f vs G) (Ref.app1 (fun u0 G => f145 h u0 G) vs G)) (
Ref.leaf (y := fun f => (E orc).cl f vs G) (Ref.app2 (fun u0 u1 G => f146 h u0 u1 G) vs G))))) (
Ref.fork (
Ref.fork (
Ref.fork (
Ref.leaf (y := fun f => (E orc).cl f vs G) (Ref.app2 (fun u0 u1 G => f147 h u0 u1 G) vs G)) (
Ref.leaf (y := fun f => (E orc).cl f vs G) (Ref.app2 (fun u0 u1 G => f148 h u0 u1 G) vs G))) (
Ref.fork (
Ref.leaf (y := fun f => (E orc).cl f vs G) (Ref.app2 (fun u0 u1 G => f149 h u0 u1 G) vs G)) (
Ref.leaf (y := fun f => (E orc).cl f vs G) (Ref.app1 (fun u0 G => f154 h u0 G) vs G)))) (
Ref.fork (
Ref.fork (
Ref.leaf (y := fun f => (E orc).cl f vs G) (Ref.app2 (fun u0 u1 G => f156 h u0 u1 G) vs G)) (
Ref.leaf (y := fun f => (E orc).cl f vs G) (Ref.app1 (fun u0 G => f157 h u0 G) vs G))) (
Ref.fork (
Ref.leaf (y := fun f => (E orc).cl f vs G) (Ref.app1 (fun u0 G => f158 h u0 G) vs G)) (
Ref.fork (
Ref.leaf (y := fun f => (E orc).cl f vs G) (Ref.app1 (fun u0 G => f160 h u0 G) vs G)) (
Ref.leaf (y := fun f => (E orc).cl f vs G) (Ref.app1 (fun u0 G => f161 h u0 G) vs G)))))))) (
Ref.fork (
Ref.fork (
Ref.fork (
Ref.fork (
Ref.fork (
Ref.leaf (y := fun f => (E orc).cl f vs G) (Ref.app4 (fun u0 u1 u2 u3 G => f162 h u0 u1 u2 u3 G) vs G)) (
Ref.leaf (y := fun f => (E orc).cl f vs G) (Ref.app4 (fun u0 u1 u2 u3 G => f163 h u0 u1 u2 u3 G) vs G))) (
Ref.fork (
Ref.leaf (y := fun f => (E orc).cl f vs G) (Ref.app4 (fun u0 u1 u2 u3 G => f164 h u0 u1 u2 u3 G) vs G)) (
Ref.leaf (y := fun f => (E orc).cl f vs G) (Ref.app4 (fun u0 u1 u2 u3 G => f165 h u0 u1 u2 u3 G) vs G)))) (
Ref.fork (
Ref.fork (
Ref.leaf (y := fun f => (E orc).cl f vs G) (Ref.app4 (fun u0 u1 u2 u3 G => f166 h u0 u1 u2 u3 G) vs G)) (
Ref.leaf (y := fun f => (E orc).cl f vs G) (Ref.app4 (fun u0 u1 u2 u3 G => f167 h u0 u1 u2 u3 G) vs G))) (
Ref.fork (
Ref.leaf (y := fun f => (E orc).cl f vs G) (Ref.app5 (fun u0 u1 u2 u3 u4 G => f168 h u0 u1 u2 u3 u4 G) vs G)) (
Ref.leaf (y := fun f => (E orc).cl f vs G) (Ref.app5 (fun u0 u1 u2 u3 u4 G => f169 h u0 u1 u2 u3 u4 G) vs G))))) (
Ref.fork (
Ref.fork (
Ref.fork (
Ref.leaf (y := fun f => (E orc).cl f vs G) (Ref.app1 (fun u0 G => f170 h u0 G) vs G)) (
Ref.leaf (y := fun f => (E orc).cl f vs G) (Ref.app1 (fun u0 G => f171 h u0 G) vs G))) (
Ref.fork (
Ref.leaf (y := fun f => (E orc).cl f vs G) (Ref.app1 (fun u0 G => f172 h u0 G) vs G)) (
Ref.leaf (y := fun f => (E orc).cl f vs G) (Ref.app1 (fun u0 G => f173 h u0 G) vs G)))) (
Ref.fork (
Ref.fork (
Ref.leaf (y := fun f => (E orc).cl f vs G) (Ref.app2 (fun u0 u1 G => f174 h u0 u1 G) vs G)) (
Ref.leaf (y := fun f => (E orc).cl f vs G) (Ref.app2 (fun u0 u1 G => f175 h u0 u1 G) vs G))) (
Ref.fork (
Ref.leaf (y := fun f => (E orc).cl f vs G) (Ref.app1 (fun u0 G => f176 h u0 G) vs G)) (
Ref.leaf (y := fun f => (E orc).cl f vs G) (Ref.app2 (fun u0 u1 G => f177 h u0 u1 G) vs G)))))) (
Ref.fork (
Ref.fork (
Ref.fork (
Ref.fork (
Ref.leaf (y := fun f => (E orc).cl f vs G) (Ref.app2 (fun u0 u1 G => f178 h u0 u1 G) vs G)) (
Ref.leaf (y := fun f => (E orc).cl f vs G) (Ref.app1 (fun u0 G => f179 h u0 G) vs G))) (
Ref.fork (
Ref.leaf (y := fun f => (E orc).cl f vs G) (Ref.app5 (fun u0 u1 u2 u3 u4 G => f180 h u0 u1 u2 u3 u4 G) vs G)) (
Ref.leaf (y := fun f => (E orc).cl f vs G) (Ref.app1 (fun u0 G => f181 h u0 G) vs G)))) (
Ref.fork (
Ref.fork (
Ref.leaf (y := fun f => (E orc).cl f vs G) (Ref.app1 (fun u0 G => f182 h u0 G) vs G)) (
Ref.leaf (y := fun f => (E orc).cl f vs G) (Ref.app4 (fun u0 u1 u2 u3 G => f183 h u0 u1 u2 u3 G) vs G))) (
Ref.fork (
Ref.leaf (y := fun f => (E orc).cl f vs G) (Ref.app1 (fun u0 G => f184 h u0 G) vs G)) (
Ref.leaf (y := fun f => (E orc).cl f vs G) (Ref.app1 (fun u0 G => f185 h u0 G) vs G))))) (
Ref.fork (
Ref.fork (
Ref.fork (
Ref.leaf (y := fun f => (E orc).cl f vs G) (Ref.app3 (fun u0 u1 u2 G => f186 h u0 u1 u2 G) vs G)) (
Ref.leaf (y := fun f => (E orc).cl f vs G) (Ref.app1 (fun u0 G => f187 h u0 G) vs G))) (
Ref.fork (
Ref.leaf (y := fun f => (E orc).cl f vs G) (Ref.app2 (fun u0 u1 G => f188 h u0 u1 G) vs G)) (
Ref.leaf (y := fun f => (E orc).cl f vs G) (Ref.app2 (fun u0 u1 G => f191 h u0 u1 G) vs G)))) (
Ref.fork (
Ref.fork (
Ref.leaf (y := fun f => (E orc).cl f vs G) (Ref.app2 (fun u0 u1 G => f193 h u0 u1 G) vs G)) (
Ref.leaf (y := fun f => (E orc).cl f vs G) (Ref.app0 (fun ho G => f195 h ho G) vs G))) (
Ref.fork (
Ref.leaf (y := fun f => (E orc).cl f vs G) (Ref.app2 (fun u0 u1 G => f196 h u0 u1 G) vs G)) (
Ref.fork (
Ref.leaf (y := fun f => (E orc).cl f vs G) (Ref.app1 (fun u0 G => f197 h u0 G) vs G)) (
Ref.leaf (y := fun f => (E orc).cl f vs G) (Ref.app1 (fun u0 G => f198 h u0 G) vs G)))))))))) (
Ref.fork (
Ref.fork (
Ref.fork (
Ref.fork (
Ref.fork (
Ref.fork (
Ref.fork (
Ref.leaf (y := fun f => (E orc).cl f vs G) (Ref.app2 (fun u0 u1 G => f199 h u0 u1 G) vs G)) (
Ref.leaf (y := fun f => (E orc).cl f vs G) (Ref.app5 (fun u0 u1 u2 u3 u4 G => f200 h u0 u1 u2 u3 u4 G) vs G))) (
Ref.fork (
Ref.leaf (y := fun f => (E orc).cl f vs G) (Ref.app1 (fun u0 G => f201 h u0 G) vs G)) (
Ref.leaf (y := fun f => (E orc).cl f vs G) (Ref.app1 (fun u0 G => f202 h u0 G) vs G)))) (
Ref.fork (
Ref.fork (
Ref.leaf (y := fun f => (E orc).cl f vs G) (Ref.app4 (fun u0 u1 u2 u3 G => f203 h u0 u1 u2 u3 G) vs G)) (
Ref.leaf (y := fun f => (E orc).cl f vs G) (Ref.app6 (fun u0 u1 u2 u3 u4 u5 G => f204 h u0 u1 u2 u3 u4 u5 G) vs G))) (
Ref.fork (
Ref.leaf (y := fun f => (E orc).cl f vs G) (Ref.app2 (fun u0 u1 G => f205 h u0 u1 G) vs G)) (
Ref.leaf (y := fun f => (E orc).cl f vs G) (Ref.app2 (fun u0 u1 G => f206 h u0 u1 G) vs G))))) (
Ref.fork (
Ref.fork (
Ref.fork (
Ref.leaf (y := fun f => (E orc).cl f vs G) (Ref.app2 (fun u0 u1 G => f207 h u0 u1 G) vs G)) (
Ref.leaf (y := fun f => (E orc).cl f vs G) (Ref.app1 (fun u0 G => f208 h u0 G) vs G))) (
Ref.fork (
Ref.leaf (y := fun f => (E orc).cl f vs G) (Ref.app1 (fun u0 G => f209 h u0 G) vs G)) (
Ref.leaf (y := fun f => (E orc).cl f vs G) (Ref.app1 (fun u0 G => f210 h u0 G) vs G)))) (
Ref.fork (
Ref.fork (
Ref.leaf (y := fun f => (E orc).cl f vs G) (Ref.app4 (fun u0 u1 u2 u3 G => f211 h u0 u1 u2 u3 G) vs G)) (
Ref.leaf (y := fun f => (E orc).cl f vs G) (Ref.app4 (fun u0 u1 u2 u3 G => f212 h u0 u1 u2 u3 G) vs G))) (
Ref.fork (
Ref.leaf (y := fun f => (E orc).cl f vs G) (Ref.app5 (fun u0 u1 u2 u3 u4 G => f213 h u0 u1 u2 u3 u4 G) vs G)) (
Ref.leaf (y := fun f => (E orc).cl f vs G) (Ref.app3 (fun u0 u1 u2 G => f214 h u0 u1 u2 G) vs G)))))) (
Ref.fork (
Ref.fork (
Ref.fork (
Ref.fork (
Ref.leaf (y := fun f => (E orc).cl f vs G) (Ref.app2 (fun u0 u1 G => f215 h u0 u1 G) vs G)) (
Ref.leaf (y := fun f => (E orc).cl f vs G) (Ref.app3 (fun u0 u1 u2 G => f216 h u0 u1 u2 G) vs G))) (
Ref.fork (
Ref.leaf (y := fun f => (E orc).cl f vs G) (Ref.app1 (fun u0 G => f217 h u0 G) vs G)) (
Ref.leaf (y := fun f => (E orc).cl f vs G) (Ref.app2 (fun u0 u1 G => f218 h u0 u1 G) vs G)))) (
Ref.fork (
Ref.fork (
Ref.leaf (y := fun f => (E orc).cl f vs G) (Ref.app1 (fun u0 G => f219 h u0 G) vs G)) (
Ref.leaf (y := fun f => (E orc).cl f vs G) (Ref.app1 (fun u0 G => f220 h u0 G) vs G))) (
Ref.fork (
Ref.leaf (y := fun f => (E orc).cl f vs G) (Ref.app1 (fun u0 G => f221 h u0 G) vs G)) (
Ref.leaf (y := fun f => (E orc).cl f vs G) (Ref.app1 (fun u0 G => f222 h u0 G) vs G))))) (
Ref.fork (
Ref.fork (
Ref.fork (
Ref.leaf (y := fun f => (E orc).cl f vs G) (Ref.app2 (fun u0 u1 G => f223 h u0 u1 G) vs G)) (
Ref.leaf (y := fun f => (E orc).cl f vs G) (Ref.app2 (fun u0 u1 G => f224 h u0 u1 G) vs G))) (
Ref.fork (
Ref.leaf (y := fun f => (E orc).cl f vs G) (Ref.app5 (fun u0 u1 u2 u3 u4 G => f225 h u0 u1 u2 u3 u4 G) vs G)) (
Ref.leaf (y := fun f => (E orc).cl f vs G) (Ref.app2 (fun u0 u1 G => f226 h u0 u1 G) vs G)))) (
Ref.fork (
Ref.fork (
Ref.leaf (y := fun f => (E orc).cl f vs G) (Ref.app1 (fun u0 G => f227 h u0 G) vs G)) (
Ref.leaf (y := fun f => (E orc).cl f vs G) (Ref.app2 (fun u0 u1 G => f228 h u0 u1 G) vs G))) (
Ref.fork (
Ref.leaf (y := fun f => (E orc).cl f vs G) (Ref.app2 (fun u0 u1 G => f229 h u0 u1 G) vs G)) (
Ref.fork (
Ref.leaf (y := fun f => (E orc).cl f vs G) (Ref.app2 (fun u0 u1 G => f230 h u0 u1 G) vs G)) (
Ref.leaf (y := fun f => (E orc).cl f vs G) (Ref.app2 (fun u0 u1 G => f231 h u0 u1 G) vs G)))))))) (
Ref.fork (
Ref.fork (
Ref.fork (
Ref.fork (
Ref.fork (
Ref.leaf (y := fun f => (E orc).cl f vs G) (Ref.app2 (fun u0 u1 G => f232 h u0 u1 G) vs G)) (
Ref.leaf (y := fun f => (E orc).cl f vs G) (Ref.app2 (fun u0 u1 G => f233 h u0 u1 G) vs G))) (
Ref.fork (
Ref.leaf (y := fun f => (E orc).cl f vs G) (Ref.app1 (fun u0 G => f234 h u0 G) vs G)) (
Ref.leaf (y := fun f => (E orc).cl f vs G) (Ref.app2 (fun u0 u1 G => f235 h u0 u1 G) vs G)))) (
Ref.fork (
Ref.fork (
Ref.leaf (y := fun f => (E orc).cl f vs G) (Ref.app1 (fun u0 G => f236 h u0 G) vs G)) (
Ref.leaf (y := fun f => (E orc).cl f vs G) (Ref.app0 (fun ho G => f237 h ho G) vs G))) (
Ref.fork (
Ref.leaf (y := fun f => (E orc).cl f vs G) (Ref.app3 (fun u0 u1 u2 G => f238 h u0 u1 u2 G) vs G)) (
Ref.leaf (y := fun f => (E orc).cl f vs G) (Ref.app3 (fun u0 u1 u2 G => f239 h u0 u1 u2 G) vs G))))) (
Ref.fork (
Ref.fork (
Ref.fork (
Ref.leaf (y := fun f => (E orc).cl f vs G) (Ref.app1 (fun u0 G => f240 h u0 G) vs G)) (
Ref.leaf (y := fun f => (E orc).cl f vs G) (Ref.app2 (fun u0 u1 G => f241 h u0 u1 G) vs G))) (
Ref.fork (
Ref.leaf (y := fun f => (E orc).cl f vs G) (Ref.app4 (fun u0 u1 u2 u3 G => f242 h u0 u1 u2 u3 G) vs G)) (
Ref.leaf (y := fun f => (E orc).cl f vs G) (Ref.app2 (fun u0 u1 G => f243 h u0 u1 G) vs G)))) (
Ref.fork (
Ref.fork (
Ref.leaf (y := fun f => (E orc).cl f vs G) (Ref.app2 (fun u0 u1 G => f244 h u0 u1 G) vs G)) (
Ref.leaf (y := fun f => (E orc).cl f vs G) (Ref.app2 (fun u0 u1 G => f245 h u0 u1 G) vs G))) (
Ref.fork (
Ref.leaf (y := fun f => (E orc).cl f vs G) (Ref.app1 (fun u0 G => f246 h u0 G) vs G)) (
Ref.leaf (y := fun f => (E orc).cl f vs G) (Ref.app2 (fun u0 u1 G => f247 h u0 u1 G) vs G)))))) (
Ref.fork (
Ref.fork (
Ref.fork (
Ref.fork (
Ref.leaf (y := fun f => (E orc).cl f vs G) (Ref.app2 (fun u0 u1 G => f248 h u0 u1 G) vs G)) (
Ref.leaf (y := fun f => (E orc).cl f vs G) (Ref.app1 (fun u0 G => f249 h u0 G) vs G))) (
Ref.fork (
Ref.leaf (y := fun f => (E orc).cl f vs G) (Ref.app2 (fun u0 u1 G => f250 h u0 u1 G) vs G)) (
Ref.leaf (y := fun f => (E orc).cl f vs G) (Ref.app2 (fun u0 u1 G => f251 h u0 u1 G) vs G)))) (
Ref.fork (
Ref.fork (
Ref.leaf (y := fun f => (E orc).cl f vs G) (Ref.app2 (fun u0 u1 G => f252 h u0 u1 G) vs G)) (
Ref.leaf (y := fun f => (E orc).cl f vs G) (Ref.app2 (fun u0 u1 G => f253 h u0 u1 G) vs G))) (
Ref.fork (
Ref.leaf (y := fun f => (E orc).cl f vs G) (Ref.app2 (fun u0 u1 G => f254 h u0 u1 G) vs G)) (
Ref.leaf (y := fun f => (E orc).cl f vs G) (Ref.app2 (fun u0 u1 G => f255 h u0 u1 G) vs G))))) (
Ref.fork (
Ref.fork (
Ref.fork (
Ref.leaf (y := fun f => (E orc).cl f vs G) (Ref.app3 (fun u0 u1 u2 G => f256 h u0 u1 u2 G) vs G)) (
Ref.leaf (y := fun f => (E orc).cl f vs G) (Ref.app2 (fun u0 u1 G => f257 h u0 u1 G) vs G))) (
Ref.fork (
Ref.leaf (y := fun f => (E orc).cl f vs G) (Ref.app2 (fun u0 u1 G => f258 h u0 u1 G) vs G)) (
Ref.leaf (y := fun f => (E orc).cl f vs G) (Ref.app2 (fun u0 u1 G => f259 h u0 u1 G) vs G)))) (
Ref.fork (
Ref.fork (
Ref.leaf (y := fun f => (E orc).cl f vs G) (Ref.app2 (fun u0 u1 G => f260 h u0 u1 G) vs G)) (
Ref.leaf (y := fun f => (E orc).cl f vs G) (Ref.app2 (fun u0 u1 G => f261 h u0 u1 G) vs G))) (
Ref.fork (
Ref.leaf (y := fun f => (E orc).cl f vs G) (Ref.app3 (fun u0 u1 u2 G => f262 h u0 u1 u2 G) vs G)) (
Ref.fork (
Ref.leaf (y := fun f => (E orc).cl f vs G) (Ref.app2 (fun u0 u1 G => f263 h u0 u1 G) vs G)) (
Ref.leaf (y := fun f => (E orc).cl f vs G) (Ref.app2 (fun u0 u1 G => f264 h u0 u1 G) vs G))))))))) (
Ref.fork (
Ref.fork (
Ref.fork (
Ref.fork (
Ref.fork (
Ref.fork (
Ref.leaf (y := fun f => (E orc).cl f vs G) (Ref.app1 (fun u0 G => f265 h u0 G) vs G)) (
Ref.leaf (y := fun f => (E orc).cl f vs G) (Ref.app2 (fun u0 u1 G => f283 h u0 u1 G) vs G))) (
Ref.fork (
Ref.leaf (y := fun f => (E orc).cl f vs G) (Ref.app2 (fun u0 u1 G => f284 h u0 u1 G) vs G)) (
Ref.leaf (y := fun f => (E orc).cl f vs G) (Ref.app1 (fun u0 G => f285 h u0 G) vs G)))) (
Ref.fork (
Ref.fork (
Ref.leaf (y := fun f => (E orc).cl f vs G) (Ref.app1 (fun u0 G => f286 h u0 G) vs G)) (
Ref.leaf (y := fun f => (E orc).cl f vs G) (Ref.app2 (fun u0 u1 G => f287 h u0 u1 G) vs G))) (
Ref.fork (
Ref.leaf (y := fun f => (E orc).cl f vs G) (Ref.app2 (fun u0 u1 G => f288 h u0 u1 G) vs G)) (
Ref.leaf (y := fun f => (E orc).cl f vs G) (Ref.app3 (fun u0 u1 u2 G => f289 h u0 u1 u2 G) vs G))))) (
Ref.fork (
Ref.fork (
Ref.fork (
Ref.leaf (y := fun f => (E orc).cl f vs G) (Ref.app1 (fun u0 G => f290 h u0 G) vs G)) (
Ref.leaf (y := fun f => (E orc).cl f vs G) (Ref.app2 (fun u0 u1 G => f291 h u0 u1 G) vs G))) (
Ref.fork (
Ref.leaf (y := fun f => (E orc).cl f vs G) (Ref.app2 (fun u0 u1 G => f292 h u0 u1 G) vs G)) (
Ref.leaf (y := fun f => (E orc).cl f vs G) (Ref.app2 (fun u0 u1 G => f293 h u0 u1 G) vs G)))) (
Ref.fork (
Ref.fork (
Ref.leaf (y := fun f => (E orc).cl f vs G) (Ref.app2 (fun u0 u1 G => f294 h u0 u1 G) vs G)) (
Ref.leaf (y := fun f => (E orc).cl f vs G) (Ref.app1 (fun u0 G => f295 h u0 G) vs G))) (
Ref.fork (
Ref.leaf (y := fun f => (E orc).cl f vs G) (Ref.app2 (fun u0 u1 G => f296 h u0 u1 G) vs G)) (
Ref.leaf (y := fun f => (E orc).cl f vs G) (Ref.app2 (fun u0 u1 G => f297 h u0 u1 G) vs G)))))) (
Ref.fork (
Ref.fork (
Ref.fork (
Ref.fork (
Ref.leaf (y := fun f => (E orc).cl f vs G) (Ref.app2 (fun u0 u1 G => f298 h u0 u1 G) vs G)) (
Ref.leaf (y := fun f => (E orc).cl f vs G) (Ref.app1 (fun u0 G => f299 h u0 G) vs G))) (
Ref.fork (
Ref.leaf (y := fun f => (E orc).cl f vs G) (Ref.app1 (fun u0 G => f300 h u0 G) vs G)) (
Ref.leaf (y := fun f => (E orc).cl f vs G) (Ref.app2 (fun u0 u1 G => f301 h u0 u1 G) vs G)))) (
Ref.fork (
Ref.fork (
Ref.leaf (y := fun f => (E orc).cl f vs G) (Ref.app2 (fun u0 u1 G => f302 h u0 u1 G) vs G)) (
Ref.leaf (y := fun f => (E orc).cl f vs G) (Ref.app2 (fun u0 u1 G => f303 h u0 u1 G) vs G))) (
Ref.fork (
Ref.leaf (y := fun f => (E orc).cl f vs G) (Ref.app2 (fun u0 u1 G => f304 h u0 u1 G) vs G)) (
Ref.leaf (y := fun f => (E orc).cl f vs G) (Ref.app2 (fun u0 u1 G => f305 h u0 u1 G) vs G))))) (
Ref.fork (
Ref.fork (
Ref.fork (
Ref.leaf (y := fun f => (E orc).cl f vs G) (Ref.app2 (fun u0 u1 G => f306 h u0 u1 G) vs G)) (
Ref.leaf (y := fun f => (E orc).cl f vs G) (Ref.app2 (fun u0 u1 G => f307 h u0 u1 G) vs G))) (
Ref.fork (
Ref.leaf (y := fun f => (E orc).cl f vs G) (Ref.app2 (fun u0 u1 G => f309 h u0 u1 G) vs G)) (
Ref.leaf (y := fun f => (E orc).cl f vs G) (Ref.app2 (fun u0 u1 G => f311 h u0 u1 G) vs G)))) (
Ref.fork (
Ref.fork (
Ref.leaf (y := fun f => (E orc).cl f vs G) (Ref.app2 (fun u0 u1 G => f312 h u0 u1 G) vs G)) (
Ref.leaf (y := fun f => (E orc).cl f vs G) (Ref.app2 (fun u0 u1 G => f313 h u0 u1 G) vs G))) (
Ref.fork (
Ref.leaf (y := fun f => (E orc).cl f vs G) (Ref.app1 (fun u0 G => f314 h u0 G) vs G)) (
Ref.fork (
Ref.leaf (y := fun f => (E orc).cl f vs G) (Ref.app2 (fun u0 u1 G => f315 h u0 u1 G) vs G)) (
Ref.leaf (y := fun f => (E orc).cl f vs G) (Ref.app2 (fun u0 u1 G => f316 h u0 u1 G) vs G)))))))) (
Ref.fork (
Ref.fork (
Ref.fork (
Ref.fork (
Ref.fork (
Ref.leaf (y := fun f => (E orc).cl f vs G) (Ref.app3 (fun u0 u1 u2 G => f317 h u0 u1 u2 G) vs G)) (
Ref.leaf (y := fun f => (E orc).cl f vs G) (Ref.app1 (fun u0 G => f318 h u0 G) vs G))) (
Ref.fork (
Ref.leaf (y := fun f => (E orc).cl f vs G) (Ref.app1 (fun u0 G => f319 h u0 G) vs G)) (
Ref.leaf (y := fun f => (E orc).cl f vs G) (Ref.app2 (fun u0 u1 G => f320 h u0 u1 G) vs G)))) (
Ref.fork (
Ref.fork (
Ref.leaf (y := fun f => (E orc).cl f vs G) (Ref.app2 (fun u0 u1 G => f321 h u0 u1 G) vs G)) (
Ref.leaf (y := fun f => (E orc).cl f vs G) (Ref.app1 (fun u0 G => f322 h u0 G) vs G))) (
Ref.fork (
Ref.leaf (y := fun f => (E orc).cl f vs G) (Ref.app2 (fun u0 u1 G => f323 h u0 u1 G) vs G)) (
Ref.leaf (y := fun f => (E orc).cl f vs G) (Ref.app2 (fun u0 u1 G => f324 h u0 u1 G) vs G))))) (
Ref.fork (
Ref.fork (
Ref.fork (
Ref.leaf (y := fun f => (E orc).cl f vs G) (Ref.app0 (fun ho G => f325 h ho G) vs G)) (
Ref.leaf (y := fun f => (E orc).cl f vs G) (Ref.app2 (fun u0 u1 G => f326 h u0 u1 G) vs G))) (
Ref.fork (
Ref.leaf (y := fun f => (E orc).cl f vs G) (Ref.app2 (fun u0 u1 G => f327 h u0 u1 G) vs G)) (
Ref.leaf (y := fun f => (E orc).cl f vs G) (Ref.app2 (fun u0 u1 G => f328 h u0 u1 G) vs G)))) (
Ref.fork (
Ref.fork (
Ref.leaf (y := fun f => (E orc).cl f vs G) (Ref.app2 (fun u0 u1 G => f329 h u0 u1 G) vs G)) (
Ref.leaf (y := fun f => (E orc).cl f vs G) (Ref.app2 (fun u0 u1 G => f330 h u0 u1 G) vs G))) (
Ref.fork (
Ref.leaf (y := fun f => (E orc).cl f vs G) (Ref.app2 (fun u0 u1 G => f331 h u0 u1 G) vs G)) (
Ref.leaf (y := fun f => (E orc).cl f vs G) (Ref.app2 (fun u0 u1 G => f332 h u0 u1 G) vs G)))))) (
Ref.fork (
Ref.fork (
Ref.fork (
Ref.fork (
Ref.leaf (y := fun f => (E orc).cl f vs G) (Ref.app2 (fun u0 u1 G => f333 h u0 u1 G) vs G)) (
Ref.leaf (y := fun f => (E orc).cl f vs G) (Ref.app2 (fun u0 u1 G => f334 h u0 u1 G) vs G))) (
Ref.fork (
Ref.leaf (y := fun f => (E orc).cl f vs G) (Ref.app2 (fun u0 u1 G => f335 h u0 u1 G) vs G)) (
Ref.leaf (y := fun f => (E orc).cl f vs G) (Ref.app2 (fun u0 u1 G => f336 h u0 u1 G) vs G)))) (
Ref.fork (
Ref.fork (
Ref.leaf (y := fun f => (E orc).cl f vs G) (Ref.app2 (fun u0 u1 G => f337 h u0 u1 G) vs G)) (
Ref.leaf (y := fun f => (E orc).cl f vs G) (Ref.app2 (fun u0 u1 G => f338 h u0 u1 G) vs G))) (
Ref.fork (
Ref.leaf (y := fun f => (E orc).cl f vs G) (Ref.app1 (fun u0 G => f339 h u0 G) vs G)) (
Ref.leaf (y := fun f => (E orc).cl f vs G) (Ref.app2 (fun u0 u1 G => f340 h u0 u1 G) vs G))))) (
Ref.fork (
Ref.fork (
Ref.fork (
Ref.leaf (y := fun f => (E orc).cl f vs G) (Ref.app1 (fun u0 G => f341 h u0 G) vs G)) (
Ref.leaf (y := fun f => (E orc).cl f vs G) (Ref.app3 (fun u0 u1 u2 G => f342 h u0 u1 u2 G) vs G))) (
Ref.fork (
Ref.leaf (y := fun f => (E orc).cl f vs G) (Ref.app5 (fun u0 u1 u2 u3 u4 G => f343 h u0 u1 u2 u3 u4 G) vs G)) (
Ref.leaf (y := fun f => (E orc).cl f vs G) (Ref.app1 (fun u0 G => f344 h u0 G) vs G)))) (
Ref.fork (
Ref.fork (
Ref.leaf (y := fun f => (E orc).cl f vs G) (Ref.app1 (fun u0 G => f345 h u0 G) vs G)) (
Ref.leaf (y := fun f => (E orc).cl f vs G) (Ref.app1 (fun u0 G => f346 h u0 G) vs G))) (
Ref.fork (
Ref.leaf (y := fun f => (E orc).cl f vs G) (Ref.app1 (fun u0 G => f347 h u0 G) vs G)) (
Ref.fork (
Ref.leaf (y := fun f => (E orc).cl f vs G) (Ref.app2 (fun u0 u1 G => f348 h u0 u1 G) vs G)) (
Ref.leaf (y := fun f => (E orc).cl f vs G) (Ref.app2 (fun u0 u1 G => f349 h u0 u1 G) vs G))))))))))
noncomputable def lpT (FUEL : Nat) (e : Ex) (f k : Nat) (τ : Env) (G : GS) : Option (Exit × Env × GS) :=
  fork f 163 (
fork f 79 (
fork f 38 (
fork f 34 (
fork f 32 (
leaf f 32 (leaf k 0 (lpS 34 (b32_0 true e) FUEL τ G))) (
leaf f 34 (leaf k 0 (lpS 47 (b34_0 true e) FUEL τ G)))) (
fork f 35 (
leaf f 35 (leaf k 0 (lpS 44 (b35_0 true e) FUEL τ G))) (
leaf f 38 (leaf k 0 (lpS 31 (b38_0 true e) FUEL τ G))))) (
fork f 53 (
fork f 39 (
leaf f 39 (leaf k 0 (lpS 30 (b39_0 true e) FUEL τ G))) (
leaf f 53 (leaf k 0 (lpS 24 (b53_0 true e) FUEL τ G)))) (
fork f 75 (
leaf f 75 (leaf k 0 (lpS 26 (b75_0 true e) FUEL τ G))) (
fork f 78 (
leaf f 78 (leaf k 0 (lpS 25 (b78_0 true e) FUEL τ G))) (
leaf f 79 (leaf k 0 (lpS 18 (b79_0 true e) FUEL τ G))))))) (
fork f 101 (
fork f 94 (
fork f 80 (
leaf f 80 (leaf k 0 (lpS 30 (b80_0 true e) FUEL τ G))) (
leaf f 94 (leaf k 0 (lpS 91 (b94_0 true e) FUEL τ G)))) (
fork f 99 (
leaf f 99 (leaf k 0 (lpS 23 (b99_0 true e) FUEL τ G))) (
leaf f 101 (leaf k 0 (lpS 42 (b101_0 true e) FUEL τ G))))) (
fork f 123 (
fork f 121 (
leaf f 121 (leaf k 0 (lpS 44 (b121_0 true e) FUEL τ G))) (
leaf f 123 (leaf k 0 (lpS 148 (b123_0 true e) FUEL τ G)))) (
fork f 147 (
leaf f 147 (leaf k 0 (lpS 29 (b147_0 true e) FUEL τ G))) (
fork f 162 (
leaf f 162 (fork k 0 (leaf k 0 (lpS 53 (b162_0 true e) FUEL τ G)) (leaf k 1 (lpS 53 (b162_1 true e) FUEL τ G)))) (
leaf f 163 (fork k 0 (leaf k 0 (lpS 60 (b163_0 true e) FUEL τ G)) (leaf k 1 (lpS 60 (b163_1 true e) FUEL τ G))))))))) (
fork f 222 (
fork f 168 (
fork f 166 (
fork f 164 (
leaf f 164 (leaf k 0 (lpS 67 (b164_0 true e) FUEL τ G))) (
leaf f 166 (leaf k 0 (lpS 34 (b166_0 true e) FUEL τ G)))) (
fork f 167 (
leaf f 167 (fork k 1 (fork k 0 (leaf k 0 (lpS 141 (b167_0 true e) FUEL τ G)) (leaf k 1 (lpS 141 (b167_1 true e) FUEL τ G))) (fork k 2 (leaf k 2 (lpS 141 (b167_2 true e) FUEL τ G)) (leaf k 3 (lpS 141 (b167_3 true e) FUEL τ G))))) (
leaf f 168 (fork k 0 (leaf k 0 (lpS 90 (b168_0 true e) FUEL τ G)) (fork k 1 (leaf k 1 (lpS 90 (b168_1 true e) FUEL τ G)) (leaf k 2 (lpS 90 (b168_2 true e) FUEL τ G))))))) (
fork f 188 (
fork f 169 (
leaf f 169 (fork k 1 (fork k 0 (leaf k 0 (lpS 178 (b169_0 true e) FUEL τ G)) (leaf k 1 (lpS 178 (b169_1 true e) FUEL τ G))) (fork k 2 (leaf k 2 (lpS 178 (b169_2 true e) FUEL τ G)) (fork k 3 (leaf k 3 (lpS 178 (b169_3 true e) FUEL τ G)) (leaf k 4 (lpS 178 (b169_4 true e) FUEL τ G)))))) (
leaf f 188 (leaf k 0 (lpS 34 (b188_0 true e) FUEL τ G)))) (
fork f 199 (
leaf f 199 (leaf k 0 (lpS 18 (b199_0 true e) FUEL τ G))) (
fork f 200 (
leaf f 200 (leaf k 0 (lpS 82 (b200_0 true e) FUEL τ G))) (
leaf f 222 (leaf k 0 (lpS 24 (b222_0 true e) FUEL τ G))))))) (
fork f 294 (
fork f 256 (
fork f 224 (
leaf f 224 (leaf k 0 (lpS 24 (b224_0 true e) FUEL τ G))) (
leaf f 256 (leaf k 0 (lpS 25 (b256_0 true e) FUEL τ G)))) (
fork f 284 (
leaf f 284 (leaf k 0 (lpS 162 (b284_0 true e) FUEL τ G))) (
leaf f 294 (leaf k 0 (lpS 195 (b294_0 true e) FUEL τ G))))) (
fork f 327 (
fork f 321 (
leaf f 321 (leaf k 0 (lpS 36 (b321_0 true e) FUEL τ G))) (
leaf f 327 (leaf k 0 (lpS 66 (b327_0 true e) FUEL τ G)))) (
fork f 339 (
leaf f 339 (leaf k 0 (lpS 20 (b339_0 true e) FUEL τ G))) (
fork f 345 (
leaf f 345 (leaf k 0 (lpS 20 (b345_0 true e) FUEL τ G))) (
leaf f 346 (leaf k 0 (lpS 20 (b346_0 true e) FUEL τ G))))))))
theorem lpT_ok {orc : FuncId → Bool} {e : Ex} (h : ExLe Q e (E orc)) (FUEL f k : Nat) (τ : Env) (G : GS) : Ref (lpT FUEL e f k τ G) (mapE ((E orc).lp (codeAt Q f k) (lst (nOf Q f) τ) G)) :=
  Ref.fork (
Ref.fork (
Ref.fork (
Ref.fork (
Ref.fork (
Ref.leaf (y := fun f => mapE ((E orc).lp (codeAt Q f k) (lst (nOf Q f) τ) G)) (Ref.leaf (y := fun k => mapE ((E orc).lp (codeAt Q 32 k) (lst (nOf Q 32) τ) G)) (lp_leaf (c := (subAt [1, 1, 0, 1, 0, 0] (bodyOf Tryz.f32))) (l32_0 h) _ _ _))) (
Ref.leaf (y := fun f => mapE ((E orc).lp (codeAt Q f k) (lst (nOf Q f) τ) G)) (Ref.leaf (y := fun k => mapE ((E orc).lp (codeAt Q 34 k) (lst (nOf Q 34) τ) G)) (lp_leaf (c := (subAt [1, 1, 0, 1, 0, 0] (bodyOf Tryz.f34))) (l34_0 h) _ _ _)))) (
Ref.fork (
Ref.leaf (y := fun f => mapE ((E orc).lp (codeAt Q f k) (lst (nOf Q f) τ) G)) (Ref.leaf (y := fun k => mapE ((E orc).lp (codeAt Q 35 k) (lst (nOf Q 35) τ) G)) (lp_leaf (c := (subAt [1, 1, 1, 0, 1, 0, 0] (bodyOf Tryz.f35))) (l35_0 h) _ _ _))) (
Ref.leaf (y := fun f => mapE ((E orc).lp (codeAt Q f k) (lst (nOf Q f) τ) G)) (Ref.leaf (y := fun k => mapE ((E orc).lp (codeAt Q 38 k) (lst (nOf Q 38) τ) G)) (lp_leaf (c := (subAt [1, 1, 0, 1, 0, 0] (bodyOf Tryz.f38))) (l38_0 h) _ _ _))))) (
Ref.fork (
Ref.fork (
Ref.leaf (y := fun f => mapE ((E orc).lp (codeAt Q f k) (lst (nOf Q f) τ) G)) (Ref.leaf (y := fun k => mapE ((E orc).lp (codeAt Q 39 k) (lst (nOf Q 39) τ) G)) (lp_leaf (c := (subAt [1, 1, 0, 1, 0, 0] (bodyOf Tryz.f39))) (l39_0 h) _ _ _))) (
Ref.leaf (y := fun f => mapE ((E orc).lp (codeAt Q f k) (lst (nOf Q f) τ) G)) (Ref.leaf (y := fun k => mapE ((E orc).lp (codeAt Q 53 k) (lst (nOf Q 53) τ) G)) (lp_leaf (c := (subAt [1, 1, 1, 1, 0, 0] (bodyOf Tryz.f53))) (l53_0 h) _ _ _)))) (
Ref.fork (
Ref.leaf (y := fun f => mapE ((E orc).lp (codeAt Q f k) (lst (nOf Q f) τ) G)) (Ref.leaf (y := fun k => mapE ((E orc).lp (codeAt Q 75 k) (lst (nOf Q 75) τ) G)) (lp_leaf (c := (subAt [1, 1, 1, 0, 0] (bodyOf Tryz.f75))) (l75_0 h) _ _ _))) (
Ref.fork (
Ref.leaf (y := fun f => mapE ((E orc).lp (codeAt Q f k) (lst (nOf Q f) τ) G)) (Ref.leaf (y := fun k => mapE ((E orc).lp (codeAt Q 78 k) (lst (nOf Q 78) τ) G)) (lp_leaf (c := (subAt [1, 1, 0, 1, 0, 0] (bodyOf Tryz.f78))) (l78_0 h) _ _ _))) (
Ref.leaf (y := fun f => mapE ((E orc).lp (codeAt Q f k) (lst (nOf Q f) τ) G)) (Ref.leaf (y := fun k => mapE ((E orc).lp (codeAt Q 79 k) (lst (nOf Q 79) τ) G)) (lp_leaf (c := (subAt [1, 0, 1, 0, 0] (bodyOf Tryz.f79))) (l79_0 h) _ _ _))))))) (
Ref.fork (
Ref.fork (
Ref.fork (
Ref.leaf (y := fun f => mapE ((E orc).lp (codeAt Q f k) (lst (nOf Q f) τ) G)) (Ref.leaf (y := fun k => mapE ((E orc).lp (codeAt Q 80 k) (lst (nOf Q 80) τ) G)) (lp_leaf (c := (subAt [1, 1, 0, 1, 0, 0] (bodyOf Tryz.f80))) (l80_0 h) _ _ _))) (
Ref.leaf (y := fun f => mapE ((E orc).lp (codeAt Q f k) (lst (nOf Q f) τ) G)) (Ref.leaf (y := fun k => mapE ((E orc).lp (codeAt Q 94 k) (lst (nOf Q 94) τ) G)) (lp_leaf (c := (subAt [1, 0, 1, 1, 1, 1, 1, 0, 0] (bodyOf Tryz.f94))) (l94_0 h) _ _ _)))) (
Ref.fork (
Ref.leaf (y := fun f => mapE ((E orc).lp (codeAt Q f k) (lst (nOf Q f) τ) G)) (Ref.leaf (y := fun k => mapE ((E orc).lp (codeAt Q 99 k) (lst (nOf Q 99) τ) G)) (lp_leaf (c := (subAt [1, 1, 1, 1, 0, 0] (bodyOf Tryz.f99))) (l99_0 h) _ _ _))) (
Ref.leaf (y := fun f => mapE ((E orc).lp (codeAt Q f k) (lst (nOf Q f) τ) G)) (Ref.leaf (y := fun k => mapE ((E orc).lp (codeAt Q 101 k) (lst (nOf Q 101) τ) G)) (lp_leaf (c := (subAt [1, 1, 1, 0, 1, 0, 0] (bodyOf Tryz.f101))) (l101_0 h) _ _ _))))) (
Ref.fork (
Ref.fork (
Ref.leaf (y := fun f => mapE ((E orc).lp (codeAt Q f k) (lst (nOf Q f) τ) G)) (Ref.leaf (y := fun k => mapE ((E orc).lp (codeAt Q 121 k) (lst (nOf Q 121) τ) G)) (lp_leaf (c := (subAt [1, 1, 1, 1, 0, 1, 0, 0] (bodyOf Tryz.f121))) (l121_0 h) _ _ _))) (
Ref.leaf (y := fun f => mapE ((E orc).lp (codeAt Q f k) (lst (nOf Q f) τ) G)) (Ref.leaf (y := fun k => mapE ((E orc).lp (codeAt Q 123 k) (lst (nOf Q 123) τ) G)) (lp_leaf (c := (subAt [1, 1, 0, 0] (bodyOf Tryz.f123))) (l123_0 h) _ _ _)))) (
Ref.fork (
Ref.leaf (y := fun f => mapE ((E orc).lp (codeAt Q f k) (lst (nOf Q f) τ) G)) (Ref.leaf (y := fun k => mapE ((E orc).lp (codeAt Q 147 k) (lst (nOf Q 147) τ) G)) (lp_leaf (c := (subAt [1, 1, 1, 1, 1, 0, 0] (bodyOf Tryz.f147))) (l147_0 h) _ _ _))) (
Ref.fork (
Ref.leaf (y := fun f => mapE ((E orc).lp (codeAt Q f k) (lst (nOf Q f) τ) G)) (Ref.fork (Ref.leaf (y := fun k => mapE ((E orc).lp (codeAt Q 162 k) (lst (nOf Q 162) τ) G)) (lp_leaf (c := (subAt [1, 0, 0] (bodyOf Tryz.f162))) (l162_0 h) _ _ _)) (Ref.leaf (y := fun k => mapE ((E orc).lp (codeAt Q 162 k) (lst (nOf Q 162) τ) G)) (lp_leaf (c := (subAt [1, 0, 0, 1, 0, 0, 1, 0, 0] (bodyOf Tryz.f162))) (l162_1 h) _ _ _)))) (
Ref.leaf (y := fun f => mapE ((E orc).lp (codeAt Q f k) (lst (nOf Q f) τ) G)) (Ref.fork (Ref.leaf (y := fun k => mapE ((E orc).lp (codeAt Q 163 k) (lst (nOf Q 163) τ) G)) (lp_leaf (c := (subAt [1, 1, 1, 0, 1, 0, 0] (bodyOf Tryz.f163))) (l163_0 h) _ _ _)) (Ref.leaf (y := fun k => mapE ((E orc).lp (codeAt Q 163 k) (lst (nOf Q 163) τ) G)) (lp_leaf (c := (subAt [1, 1, 1, 1, 1, 0, 0] (bodyOf Tryz.f163))) (l163_1 h) _ _ _))))))))) (
Ref.fork (
Ref.fork (
Ref.fork (
Ref.fork (
Ref.leaf (y := fun f => mapE ((E orc).lp (codeAt Q f k) (lst (nOf Q f) τ) G)) (Ref.leaf (y := fun k => mapE ((E orc).lp (codeAt Q 164 k) (lst (nOf Q 164) τ) G)) (lp_leaf (c := (subAt [1, 1, 0, 1, 1, 1, 0, 0] (bodyOf Tryz.f164))) (l164_0 h) _ _ _))) (
Ref.leaf (y := fun f => mapE ((E orc).lp (codeAt Q f k) (lst (nOf Q f) τ) G)) (Ref.leaf (y := fun k => mapE ((E orc).lp (codeAt Q 166 k) (lst (nOf Q 166) τ) G)) (lp_leaf (c := (subAt [1, 1, 0, 0] (bodyOf Tryz.f166))) (l166_0 h) _ _ _)))) (
Ref.fork (
Ref.leaf (y := fun f => mapE ((E orc).lp (codeAt Q f k) (lst (nOf Q f) τ) G)) (Ref.fork (Ref.fork (Ref.leaf (y := fun k => mapE ((E orc).lp (codeAt Q 167 k) (lst (nOf Q 167) τ) G)) (lp_leaf (c := (subAt [1, 1, 0, 1, 0, 0] (bodyOf Tryz.f167))) (l167_0 h) _ _ _)) (Ref.leaf (y := fun k => mapE ((E orc).lp (codeAt Q 167 k) (lst (nOf Q 167) τ) G)) (lp_leaf (c := (subAt [1, 1, 0, 1, 0, 0, 1, 0, 0, 0, 0, 0] (bodyOf Tryz.f167))) (l167_1 h) _ _ _))) (Ref.fork (Ref.leaf (y := fun k => mapE ((E orc).lp (codeAt Q 167 k) (lst (nOf Q 167) τ) G)) (lp_leaf (c := (subAt [1, 1, 0, 1, 0, 0, 1, 0, 0, 1, 1, 1, 1, 0, 1, 0, 1, 0, 0] (bodyOf Tryz.f167))) (l167_2 h) _ _ _)) (Ref.leaf (y := fun k => mapE ((E orc).lp (codeAt Q 167 k) (lst (nOf Q 167) τ) G)) (lp_leaf (c := (subAt [1, 1, 0, 1, 0, 0, 1, 0, 0, 1, 1, 1, 1, 1, 1, 0, 1, 0, 0] (bodyOf Tryz.f167))) (l167_3 h) _ _ _))))) (
Ref.leaf (y := fun f => mapE ((E orc).lp (codeAt Q f k) (lst (nOf Q f) τ) G)) (Ref.fork (Ref.leaf (y := fun k => mapE ((E orc).lp (codeAt Q 168 k) (lst (nOf Q 168) τ) G)) (lp_leaf (c := (subAt [1, 1, 1, 0, 0, 0] (bodyOf Tryz.f168))) (l168_0 h) _ _ _)) (Ref.fork (Ref.leaf (y := fun k => mapE ((E orc).lp (codeAt Q 168 k) (lst (nOf Q 168) τ) G)) (lp_leaf (c := (subAt [1, 1, 1, 0, 0, 0, 0, 0, 0, 0] (bodyOf Tryz.f168))) (l168_1 h) _ _ _)) (Ref.leaf (y := fun k => mapE ((E orc).lp (codeAt Q 168 k) (lst (nOf Q 168) τ) G)) (lp_leaf (c := (subAt [1, 1, 1, 0, 0, 0, 0, 1, 0, 0, 0] (bodyOf Tryz.f168))) (l168_2 h) _ _ _))))))) (
Ref.fork (
Ref.fork (
Ref.leaf (y := fun f => mapE ((E orc).lp (codeAt Q f k) (lst (nOf Q f) τ) G)) (Ref.fork (Ref.fork (Ref.leaf (y := fun k => mapE ((E orc).lp (codeAt Q 169 k) (lst (nOf Q 169) τ) G)) (lp_leaf (c := (subAt [1, 1, 1, 0, 0, 0] (bodyOf Tryz.f169))) (l169_0 h) _ _ _)) (Ref.leaf (y := fun k => mapE ((E orc).lp (codeAt Q 169 k) (lst (nOf Q 169) τ) G)) (lp_leaf (c := (subAt [1, 1, 1, 1, 0, 0, 0] (bodyOf Tryz.f169))) (l169_1 h) _ _ _))) (Ref.fork (Ref.leaf (y := fun k => mapE ((E orc).lp (codeAt Q 169 k) (lst (nOf Q 169) τ) G)) (lp_leaf (c := (subAt [1, 1, 1, 1, 1, 1, 1, 1, 1, 0, 0, 0] (bodyOf Tryz.f169))) (l169_2 h) _ _ _)) (Ref.fork (Ref.leaf (y := fun k => mapE ((E orc).lp (codeAt Q 169 k) (lst (nOf Q 169) τ) G)) (lp_leaf (c := (subAt [1, 1, 1, 1, 1, 1, 1, 1, 1, 0, 0, 0, 0, 0, 0, 0] (bodyOf Tryz.f169))) (l169_3 h) _ _ _)) (Ref.leaf (y := fun k => mapE ((E orc).lp (codeAt Q 169 k) (lst (nOf Q 169) τ) G)) (lp_leaf (c := (subAt [1, 1, 1, 1, 1, 1, 1, 1, 1, 0, 0, 0, 0, 1, 0, 0, 0] (bodyOf Tryz.f169))) (l169_4 h) _ _ _)))))) (
Ref.leaf (y := fun f => mapE ((E orc).lp (codeAt Q f k) (lst (nOf Q f) τ) G)) (Ref.leaf (y := fun k => mapE ((E orc).lp (codeAt Q 188 k) (lst (nOf Q 188) τ) G)) (lp_leaf (c := (subAt [1, 1, 1, 1, 0, 0] (bodyOf Tryz.f188))) (l188_0 h) _ _ _)))) (
Ref.fork (
Ref.leaf (y := fun f => mapE ((E orc).lp (codeAt Q f k) (lst (nOf Q f) τ) G)) (Ref.leaf (y := fun k => mapE ((E orc).lp (codeAt Q 199 k) (lst (nOf Q 199) τ) G)) (lp_leaf (c := (subAt [1, 0, 0] (bodyOf Tryz.f199))) (l199_0 h) _ _ _))) (
Ref.fork (
Ref.leaf (y := fun f => mapE ((E orc).lp (codeAt Q f k) (lst (nOf Q f) τ) G)) (Ref.leaf (y := fun k => mapE ((E orc).lp (codeAt Q 200 k) (lst (nOf Q 200) τ) G)) (lp_leaf (c := (subAt [1, 0, 0] (bodyOf Tryz.f200))) (l200_0 h) _ _ _))) (
Ref.leaf (y := fun f => mapE ((E orc).lp (codeAt Q f k) (lst (nOf Q f) τ) G)) (Ref.leaf (y := fun k => mapE ((E orc).lp (codeAt Q 222 k) (lst (nOf Q 222) τ) G)) (lp_leaf (c := (subAt [1, 0, 1, 0, 0] (bodyOf Tryz.f222))) (l222_0 h) _ _ _))))))) (
Ref.fork (
Ref.fork (
Ref.fork (
Ref.leaf (y := fun f => mapE ((E orc).lp (codeAt Q f k) (lst (nOf Q f) τ) G)) (Ref.leaf (y := fun k => mapE ((E orc).lp (codeAt Q 224 k) (lst (nOf Q 224) τ) G)) (lp_leaf (c := (subAt [1, 1, 0, 1, 0, 0] (bodyOf Tryz.f224))) (l224_0 h) _ _ _))) (
Ref.leaf (y := fun f => mapE ((E orc).lp (codeAt Q f k) (lst (nOf Q f) τ) G)) (Ref.leaf (y := fun k => mapE ((E orc).lp (codeAt Q 256 k) (lst (nOf Q 256) τ) G)) (lp_leaf (c := (subAt [1, 1, 0, 0] (bodyOf Tryz.f256))) (l256_0 h) _ _ _)))) (
Ref.fork (
Ref.leaf (y := fun f => mapE ((E orc).lp (codeAt Q f k) (lst (nOf Q f) τ) G)) (Ref.leaf (y := fun k => mapE ((E orc).lp (codeAt Q 284 k) (lst (nOf Q 284) τ) G)) (lp_leaf (c := (subAt [1, 0, 1, 1, 0, 0, 0] (bodyOf Tryz.f284))) (l284_0 h) _ _ _))) (
Ref.leaf (y := fun f => mapE ((E orc).lp (codeAt Q f k) (lst (nOf Q f) τ) G)) (Ref.leaf (y := fun k => mapE ((E orc).lp (codeAt Q 294 k) (lst (nOf Q 294) τ) G)) (lp_leaf (c := (subAt [1, 0, 1, 1, 1, 1, 1, 0, 0, 0] (bodyOf Tryz.f294))) (l294_0 h) _ _ _))))) (
Ref.fork (
Ref.fork (
Ref.leaf (y := fun f => mapE ((E orc).lp (codeAt Q f k) (lst (nOf Q f) τ) G)) (Ref.leaf (y := fun k => mapE ((E orc).lp (codeAt Q 321 k) (lst (nOf Q 321) τ) G)) (lp_leaf (c := (subAt [1, 1, 0, 1, 0, 0] (bodyOf Tryz.f321))) (l321_0 h) _ _ _))) (
Ref.leaf (y := fun f => mapE ((E orc).lp (codeAt Q f k) (lst (nOf Q f) τ) G)) (Ref.leaf (y := fun k => mapE ((E orc).lp (codeAt Q 327 k) (lst (nOf Q 327) τ) G)) (lp_leaf (c := (subAt [1, 0, 1, 1, 0, 1, 0, 0] (bodyOf Tryz.f327))) (l327_0 h) _ _ _)))) (
Ref.fork (
Ref.leaf (y := fun f => mapE ((E orc).lp (codeAt Q f k) (lst (nOf Q f) τ) G)) (Ref.leaf (y := fun k => mapE ((E orc).lp (codeAt Q 339 k) (lst (nOf Q 339) τ) G)) (lp_leaf (c := (subAt [1, 1, 0, 1, 0, 0] (bodyOf Tryz.f339))) (l339_0 h) _ _ _))) (
Ref.fork (
Ref.leaf (y := fun f => mapE ((E orc).lp (codeAt Q f k) (lst (nOf Q f) τ) G)) (Ref.leaf (y := fun k => mapE ((E orc).lp (codeAt Q 345 k) (lst (nOf Q 345) τ) G)) (lp_leaf (c := (subAt [1, 1, 0, 1, 0, 0] (bodyOf Tryz.f345))) (l345_0 h) _ _ _))) (
Ref.leaf (y := fun f => mapE ((E orc).lp (codeAt Q f k) (lst (nOf Q f) τ) G)) (Ref.leaf (y := fun k => mapE ((E orc).lp (codeAt Q 346 k) (lst (nOf Q 346) τ) G)) (lp_leaf (c := (subAt [1, 1, 0, 1, 0, 0] (bodyOf Tryz.f346))) (l346_0 h) _ _ _))))))))
noncomputable def kE (orc : FuncId → Bool) (n : Nat) : Ex := Nat.rec (motive := fun _ => Ex) ⟨Ev.zero, fun _ _ _ _ => none⟩ (fun _ e => ⟨⟨(evO Q orc 0).ex, clT orc e, (evO Q orc 2000).rd, (evO Q orc 2000).sc, (evO Q orc 0).lp⟩, lpT 6000 e⟩) n
theorem kE_ok (orc : FuncId → Bool) : ∀ n, ExLe Q (kE orc n) (E orc)
  | 0 => ⟨zero_le _, fun _ _ _ _ => .nil _⟩
  | n + 1 => ⟨⟨(le_evL Q orc 0).ex, fun f vs G r hr => clT_ok (kE_ok orc n) f vs G r hr, (le_evL Q orc 2000).rd, (le_evL Q orc 2000).sc, (le_evL Q orc 0).lp⟩, lpT_ok (kE_ok orc n) 6000⟩
/-- what the tables find true is true -/
theorem at_kE {orc : FuncId → Bool} {n f : Nat} {vs : List Value} (h : isTrue ((kE orc n).ev.cl f vs GS.empty) = true) : ∃ G', (E orc).cl f vs GS.empty = some (.bool true, G') := isTrue_of ((kE_ok orc n).ev.cl f vs GS.empty) h
theorem closed_kE {orc : FuncId → Bool} (ho : OrcOk Q orc) (hmix : Q.follows .mixedOrders = true) {n f : Nat} (h : isTrue ((kE orc n).ev.cl f [] GS.empty) = true) (w : World) : Calls Q f #[] w fun e w' => e = .returned (.bool true) ∧ Go.RowKit.Below w.heap.size w w' :=
  let ⟨_, hG⟩ := at_kE h
  law_plain hmix ho hG fun _ => trivial
end Go.Proofs.YtmdocnigniefnaaGreat.Lift
