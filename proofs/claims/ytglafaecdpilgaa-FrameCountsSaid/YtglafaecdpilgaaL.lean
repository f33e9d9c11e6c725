/- the program's code, spelled out by a program of ours (lift3.lean) -/
import Derived.Test.YtglafaecdpilgaaProg
import Derived.Test.YtglafaecdpilgaaGhPJ
import Derived.KernelRfl
namespace Go.Proofs.Ytglafaecdpilgaa.Lift
open Go Go.Proofs.Ytglafaecdpilgaa.Gh Go.Proofs
set_option linter.unusedVariables false
set_option maxRecDepth 100000
@[reducible] noncomputable def Q : Program := Try.prog
@[reducible] noncomputable def E (orc : FuncId → Bool) : Ev := evL Try.prog orc
instance iln51 : LnOk Q 51 := ⟨fun a n c => by kernel_rfl⟩
instance iep52 : EpOk Q 52 := ⟨fun neg x y => by cases neg <;> kernel_rfl, fun neg x y a => by cases neg <;> kernel_rfl, fun neg x y a => by cases neg <;> kernel_rfl⟩
instance iep55 : EpOk Q 55 := ⟨fun neg x y => by cases neg <;> kernel_rfl, fun neg x y a => by cases neg <;> kernel_rfl, fun neg x y a => by cases neg <;> kernel_rfl⟩
instance ieb4 : EbOk Q 4 := ⟨fun neg x y a b => by cases neg <;> cases a <;> cases b <;> kernel_rfl⟩
instance iias51 : IasOk Q 51 3 := ⟨fun b o s n c k j => by kernel_rfl⟩
instance ilda59 : LdAOk Q 59 3 := ⟨fun b o s G => by kernel_rfl⟩
noncomputable abbrev z59 : List Value := [(.int .i64 0), (.int .i64 0), (.int .i64 0)]
instance ial59 : AlOk Q 59 z59 := ⟨fun G => by kernel_rfl⟩
instance ist59 : StOk Q 59 3 := ⟨fun b o s v G => by kernel_rfl⟩
instance ifa59_0 : FaOk Q 59 0 0 := ⟨fun b o s => by kernel_rfl⟩
instance ild3 : LdOk Q 3 := ⟨fun b o s G => (show _ = loadOne b o G by kernel_rfl).trans (loadOne_eq b o G)⟩
instance ifa59_1 : FaOk Q 59 1 1 := ⟨fun b o s => by kernel_rfl⟩
instance ifa59_2 : FaOk Q 59 2 2 := ⟨fun b o s => by kernel_rfl⟩
instance ifa73_3 : FaOk Q 73 3 3 := ⟨fun b o s => by kernel_rfl⟩
instance ifa73_2 : FaOk Q 73 2 2 := ⟨fun b o s => by kernel_rfl⟩
instance ild67 : LdOk Q 67 := ⟨fun b o s G => (show _ = loadOne b o G by kernel_rfl).trans (loadOne_eq b o G)⟩
noncomputable abbrev z4 : List Value := [(.bool false)]
instance imk88 : MkSlOk Q 88 1 1 z4 := ⟨fun k k' l c G => by kernel_rfl⟩
instance iias88 : IasOk Q 88 1 := ⟨fun b o s n c k j => by kernel_rfl⟩
instance ild4 : LdOk Q 4 := ⟨fun b o s G => (show _ = loadOne b o G by kernel_rfl).trans (loadOne_eq b o G)⟩
instance ist4 : StOk Q 4 1 := ⟨fun b o s v G => by kernel_rfl⟩
instance iln67 : LnOk Q 67 := ⟨fun a n c => by kernel_rfl⟩
instance isl67 : SlOk Q 67 3 := ⟨fun a n c lo hi mx G => sl_eq Q (e := 87) (by kernel_rfl) (by kernel_rfl) a n c lo hi mx G⟩
noncomputable abbrev z3 : List Value := [(.int .i64 0)]
instance ibs65_2_0_1 : BsOk Q 65 2 (rep z3 2) 1 [(0, 0, 1), (1, 1, 1)] := bs_ok Q (z0 := z3) (by kernel_rfl) rfl (by decide) (by kernel_rfl)
noncomputable abbrev z87 : List Value := [(.int .i64 0), (.int .i64 0), (.int .i64 0)]
instance ibd87_0_1_2 : BdOk Q 87 z87 [(0, 0, 1), (1, 1, 1), (2, 2, 1)] := bd_ok Q (by kernel_rfl) (by kernel_rfl) (by kernel_rfl)
instance ibs67_1_0 : BsOk Q 67 1 (rep z87 1) 3 [(0, 0, 3)] := bs_ok Q (z0 := z87) (by kernel_rfl) rfl (by decide) (by kernel_rfl)
noncomputable abbrev z96 : List Value := [(.pointer none)]
instance imk78 : MkSlOk Q 78 1 8 z96 := ⟨fun k k' l c G => by kernel_rfl⟩
noncomputable abbrev z80 : List Value := [(.slice none 0 0)]
instance ibd80_0 : BdOk Q 80 z80 [(0, 0, 1)] := bd_ok Q (by kernel_rfl) (by kernel_rfl) (by kernel_rfl)
noncomputable abbrev z82 : List Value := [(.slice none 0 0), (.slice none 0 0), (.int .i64 0)]
instance ibd82_0 : BdOk Q 82 z82 [(0, 0, 1)] := bd_ok Q (by kernel_rfl) (by kernel_rfl) (by kernel_rfl)
noncomputable abbrev z73 : List Value := [(.int .i64 0), (.slice none 0 0), (.slice none 0 0), (.int .i64 0)]
instance ibd73_0 : BdOk Q 73 z73 [(0, 0, 1)] := bd_ok Q (by kernel_rfl) (by kernel_rfl) (by kernel_rfl)
instance ifa82_0 : FaOk Q 82 0 0 := ⟨fun b o s => by kernel_rfl⟩
instance iep96 : EpOk Q 96 := ⟨fun neg x y => by cases neg <;> kernel_rfl, fun neg x y a => by cases neg <;> kernel_rfl, fun neg x y a => by cases neg <;> kernel_rfl⟩
instance ifa80_0 : FaOk Q 80 0 0 := ⟨fun b o s => by kernel_rfl⟩
instance ild78 : LdOk Q 78 := ⟨fun b o s G => (show _ = loadOne b o G by kernel_rfl).trans (loadOne_eq b o G)⟩
instance ibd87_0_1 : BdOk Q 87 z87 [(0, 0, 1), (1, 1, 1)] := bd_ok Q (by kernel_rfl) (by kernel_rfl) (by kernel_rfl)
noncomputable abbrev z99 : List Value := [(.int .i64 0), (.int .i64 0), (.int .i64 0)]
instance ibd99_0 : BdOk Q 99 z99 [(0, 0, 3)] := bd_ok Q (by kernel_rfl) (by kernel_rfl) (by kernel_rfl)
instance iias78 : IasOk Q 78 1 := ⟨fun b o s n c k j => by kernel_rfl⟩
instance ist96 : StOk Q 96 1 := ⟨fun b o s v G => by kernel_rfl⟩
instance ifa73_1 : FaOk Q 73 1 1 := ⟨fun b o s => by kernel_rfl⟩
instance iias67 : IasOk Q 67 3 := ⟨fun b o s n c k j => by kernel_rfl⟩
instance ifa87_0 : FaOk Q 87 0 0 := ⟨fun b o s => by kernel_rfl⟩
instance ibs67_0_ : BsOk Q 67 0 (rep z87 0) 3 [] := bs_ok Q (z0 := z87) (by kernel_rfl) rfl (by decide) (by kernel_rfl)
instance iap67_67 : ApOk Q 67 67 3 24 := ⟨fun s x G => by kernel_rfl⟩
instance ist67 : StOk Q 67 1 := ⟨fun b o s v G => by kernel_rfl⟩
instance ifa99_0 : FaOk Q 99 0 0 := ⟨fun b o s => by kernel_rfl⟩
instance ifa87_2 : FaOk Q 87 2 2 := ⟨fun b o s => by kernel_rfl⟩
instance ist3 : StOk Q 3 1 := ⟨fun b o s v G => by kernel_rfl⟩
instance ifa82_2 : FaOk Q 82 2 2 := ⟨fun b o s => by kernel_rfl⟩
instance ifa82_1 : FaOk Q 82 1 1 := ⟨fun b o s => by kernel_rfl⟩
instance ilda87 : LdAOk Q 87 3 := ⟨fun b o s G => by kernel_rfl⟩
instance ifa87_1 : FaOk Q 87 1 1 := ⟨fun b o s => by kernel_rfl⟩
noncomputable abbrev z65 : List Value := [(.slice none 0 0)]
instance ial65 : AlOk Q 65 z65 := ⟨fun G => by kernel_rfl⟩
instance ild65 : LdOk Q 65 := ⟨fun b o s G => (show _ = loadOne b o G by kernel_rfl).trans (loadOne_eq b o G)⟩
instance ibs65_1_0 : BsOk Q 65 1 (rep z3 1) 1 [(0, 0, 1)] := bs_ok Q (z0 := z3) (by kernel_rfl) rfl (by decide) (by kernel_rfl)
instance iap65_65 : ApOk Q 65 65 1 8 := ⟨fun s x G => by kernel_rfl⟩
instance ist65 : StOk Q 65 1 := ⟨fun b o s v G => by kernel_rfl⟩
instance iln65 : LnOk Q 65 := ⟨fun a n c => by kernel_rfl⟩
instance iias65 : IasOk Q 65 1 := ⟨fun b o s n c k j => by kernel_rfl⟩
instance ibd87_0 : BdOk Q 87 z87 [(0, 0, 1)] := bd_ok Q (by kernel_rfl) (by kernel_rfl) (by kernel_rfl)
instance ist87 : StOk Q 87 3 := ⟨fun b o s v G => by kernel_rfl⟩
instance iln88 : LnOk Q 88 := ⟨fun a n c => by kernel_rfl⟩
instance ies78 : EsOk Q 78 := ⟨fun neg x y => by cases neg <;> kernel_rfl, fun neg x y a n c => by cases neg <;> kernel_rfl⟩
instance iln78 : LnOk Q 78 := ⟨fun a n c => by kernel_rfl⟩
instance ild96 : LdOk Q 96 := ⟨fun b o s G => (show _ = loadOne b o G by kernel_rfl).trans (loadOne_eq b o G)⟩
instance ifa73_0 : FaOk Q 73 0 0 := ⟨fun b o s => by kernel_rfl⟩
instance ild108 : LdOk Q 108 := ⟨fun b o s G => (show _ = loadOne b o G by kernel_rfl).trans (loadOne_eq b o G)⟩
instance ilp9_0 : LpIs Q 9 0 (subAt [1, 1, 1, 1, 1, 0, 1, 0, 0] (bodyOf Try.f9)) 176 := ⟨by kernel_rfl, by kernel_rfl⟩
noncomputable def jbl9_0_0 (q : Bool) (e : Ex) (lp : Env → GS → Option (Exit × Env × GS)) (τ : Env) (G : GS) : Option (Exit × Env × GS) :=
  bV q (τ 1) fun a1_ =>
  bV q (τ 5) fun a5_ =>
  bV q (τ 7) fun a7_ =>
  bV q (τ 9) fun a9_ =>
  bV q (τ 10) fun a10_ =>
  bV q (τ 11) fun a11_ =>
  bP (fa Q q 59 1 1 a10_) fun x15 =>
  bP (ld Q q 3 x15 G) fun x16 =>
  bS (e.ev.cl 40 [a5_, x16] G) fun x17 G18 =>
  bP (pExtract x17 0) fun x19 =>
  bP (pExtract x17 1) fun x20 =>
  bP (fa Q q 59 1 1 a10_) fun x21 =>
  bP (ld Q q 3 x21 G18) fun x22 =>
  bS (e.ev.cl 41 [a7_, x22] G18) fun x23 G24 =>
  bP (pExtract x23 0) fun x25 =>
  bP (pExtract x23 1) fun x26 =>
  bP (pExtract x23 2) fun x27 =>
  bS (e.ev.cl 42 [a5_] G24) fun x28 G29 =>
  bS (e.ev.cl 43 [a5_] G29) fun x30 G31 =>
  bP (un Q q .not a11_) fun x32 =>
  bS (gd x32 false (some (x19, (G31.room 56))) (G31.room 56)) fun x33 _ =>
  bS (gd x32 false (some (x25, (G31.room 56))) (G31.room 56)) fun x34 _ =>
  bS (gd x32 false (bP (bn Q q .neq 3 (.tmp 118) (.tmp 119) x33 x34) fun y => some (y, (G31.room 56))) (G31.room 56)) fun x35 _ =>
  bP (pickV x32 (.bool true) x35) fun x36 =>
  bS (gd x36 false (some (x20, (G31.room 56))) (G31.room 56)) fun x37 _ =>
  bS (gd x36 false (some (x27, (G31.room 56))) (G31.room 56)) fun x38 _ =>
  bS (gd x36 false (bP (eb Q q true 4 (.tmp 123) (.tmp 124) x37 x38) fun y => some (y, (G31.room 56))) (G31.room 56)) fun x39 _ =>
  bP (pickV x36 (.bool true) x39) fun x40 =>
  bS (gd x40 false (some (a5_, (G31.room 56))) (G31.room 56)) fun x41 _ =>
  bS (gd x40 false (bP (fa Q q 59 1 1 a10_) fun y => some (y, (G31.room 56))) (G31.room 56)) fun x42 _ =>
  bS (gd x40 false (bP (ld Q q 3 x42 (G31.room 56)) fun y => some (y, (G31.room 56))) (G31.room 56)) fun x43 _ =>
  bS (gd x40 false (bS (e.ev.cl 44 [x41, x43] (G31.room 56)) fun y G => some (y, G)) (G31.room 56)) fun x45 G44 =>
  bS (gd x40 false (some (x26, G44)) G44) fun x46 _ =>
  bS (gd x40 false (bP (bn Q q .neq 3 (.tmp 131) (.tmp 132) x45 x46) fun y => some (y, G44)) G44) fun x47 _ =>
  bP (pickV x40 (.bool true) x47) fun x48 =>
  bS (gd x48 false (some (x28, G44)) G44) fun x49 _ =>
  bS (gd x48 false (some (a7_, G44)) G44) fun x50 _ =>
  bS (gd x48 false (bS (e.ev.cl 46 [x50] G44) fun y G => some (y, G)) G44) fun x52 G51 =>
  bS (gd x48 false (bS (e.ev.cl 45 [x49, x52] G51) fun y G => some (y, G)) G51) fun x54 G53 =>
  bS (gd x48 false (bP (un Q q .not x54) fun y => some (y, G53)) G53) fun x55 _ =>
  bP (pickV x48 (.bool true) x55) fun x56 =>
  bS (gd x56 false (some (a5_, G53)) G53) fun x57 _ =>
  bS (gd x56 false (bP (fa Q q 59 2 2 a10_) fun y => some (y, G53)) G53) fun x58 _ =>
  bS (gd x56 false (bP (ld Q q 3 x58 G53) fun y => some (y, G53)) G53) fun x59 _ =>
  bS (gd x56 false (bS (e.ev.cl 47 [x57, x59] G53) fun y G => some (y, G)) G53) fun x61 G60 =>
  bS (gd x56 false (some (a7_, G60)) G60) fun x62 _ =>
  bS (gd x56 false (bP (fa Q q 59 2 2 a10_) fun y => some (y, G60)) G60) fun x63 _ =>
  bS (gd x56 false (bP (ld Q q 3 x63 G60) fun y => some (y, G60)) G60) fun x64 _ =>
  chk (((!(gB x56 false) || (!(gB x56 false) || sameO (ld Q q 3 x63 G53) x64)) && true)) <|
  bS (gd x56 false (bS (e.ev.cl 48 [x62, x64] G60) fun y G => some (y, G)) G60) fun x66 G65 =>
  bS (gd x56 false (bP (bn Q q .neq 3 (.tmp 146) (.tmp 150) x61 x66) fun y => some (y, G65)) G65) fun x67 _ =>
  bP (pickV x56 (.bool true) x67) fun x68 =>
  bS (gd x68 false (some (a5_, G65)) G65) fun x69 _ =>
  bS (gd x68 false (bS (e.ev.cl 49 [x69] G65) fun y G => some (y, G)) G65) fun x71 G70 =>
  bS (gd x68 false (some (a7_, G70)) G70) fun x72 _ =>
  bS (gd x68 false (bP (pNil x72) fun y => some (y, G70)) G70) fun x73 _ =>
  bS (gd x68 false (bP (fa Q q 73 3 3 x73) fun y => some (y, G70)) G70) fun x74 _ =>
  bS (gd x68 false (bP (ld Q q 3 x74 G70) fun y => some (y, G70)) G70) fun x75 _ =>
  chk (((!(gB x68 false) || (!(gB x68 false) || sameO (ld Q q 3 x74 G65) x75)) && true)) <|
  bS (gd x68 false (bP (bn Q q .neq 3 (.tmp 155) (.tmp 159) x71 x75) fun y => some (y, G70)) G70) fun x76 _ =>
  bP (pickV x68 (.bool true) x76) fun x77 =>
  bS (gd x77 false (some (x30, G70)) G70) fun x78 _ =>
  bS (gd x77 false (some (a7_, G70)) G70) fun x79 _ =>
  bS (gd x77 false (bP (pNil x79) fun y => some (y, G70)) G70) fun x80 _ =>
  bS (gd x77 false (bP (fa Q q 73 2 2 x80) fun y => some (y, G70)) G70) fun x81 _ =>
  bS (gd x77 false (bP (ld Q q 67 x81 G70) fun y => some (y, G70)) G70) fun x82 _ =>
  bS (gd x77 false (bS (e.ev.cl 50 [x78, x82] G70) fun y G => some (y, G)) G70) fun x84 G83 =>
  bS (gd x77 false (bP (un Q q .not x84) fun y => some (y, G83)) G83) fun x85 _ =>
  bP (pickV x77 (.bool true) x85) fun x86 =>
  ifV x86 (
  some (.ret, xq q 176 τ [(4, (.bool false)), (170, x86), (169, x85), (168, x84), (167, x82), (166, x81), (165, x80), (164, x79), (163, x78), (162, x77), (161, x77), (160, x76), (159, x75), (158, x74), (157, x73), (156, x72), (155, x71), (154, x69), (153, x68), (152, x68), (151, x67), (150, x66), (149, x64), (148, x63), (147, x62), (146, x61), (145, x59), (144, x58), (143, x57), (142, x56), (141, x56), (140, x55), (139, x54), (138, x52), (137, x50), (136, x49), (135, x48), (134, x48), (133, x47), (132, x46), (131, x45), (130, x43), (129, x42), (128, x41), (127, x40), (126, x40), (125, x39), (124, x38), (123, x37), (122, x36), (121, x36), (120, x35), (119, x34), (118, x33), (117, x32), (116, x32), (115, a11_), (18, x30), (17, x28), (114, x30), (113, a5_), (112, x28), (111, a5_), (16, x27), (15, x26), (14, x25), (110, x27), (109, x26), (108, x25), (103, x23), (107, x23), (106, x22), (105, x21), (104, a7_), (13, x20), (12, x19), (102, x20), (101, x19), (96, x17), (100, x17), (99, x16), (98, x15), (97, a5_)] [(1, a1_), (5, a5_), (7, a7_), (9, a9_), (10, a10_), (11, a11_)], G83)) (
  bS (e.ev.cl 51 [x28] G83) fun x87 G88 =>
  bS (e.ev.cl 52 [x30] G88) fun x89 G90 =>
  bP (bn Q q .add 3 (.tmp 51) (.const (.int .i64 1)) a9_ (.int .i64 1)) fun x91 =>
  lp (xq q 176 τ [(9, x91), (52, x91), (51, a9_), (174, x89), (173, x30), (172, x87), (171, x28), (170, x86), (169, x85), (168, x84), (167, x82), (166, x81), (165, x80), (164, x79), (163, x78), (162, x77), (161, x77), (160, x76), (159, x75), (158, x74), (157, x73), (156, x72), (155, x71), (154, x69), (153, x68), (152, x68), (151, x67), (150, x66), (149, x64), (148, x63), (147, x62), (146, x61), (145, x59), (144, x58), (143, x57), (142, x56), (141, x56), (140, x55), (139, x54), (138, x52), (137, x50), (136, x49), (135, x48), (134, x48), (133, x47), (132, x46), (131, x45), (130, x43), (129, x42), (128, x41), (127, x40), (126, x40), (125, x39), (124, x38), (123, x37), (122, x36), (121, x36), (120, x35), (119, x34), (118, x33), (117, x32), (116, x32), (115, a11_), (18, x30), (17, x28), (114, x30), (113, a5_), (112, x28), (111, a5_), (16, x27), (15, x26), (14, x25), (110, x27), (109, x26), (108, x25), (103, x23), (107, x23), (106, x22), (105, x21), (104, a7_), (13, x20), (12, x19), (102, x20), (101, x19), (96, x17), (100, x17), (99, x16), (98, x15), (97, a5_)] [(1, a1_), (5, a5_), (7, a7_), (10, a10_), (11, a11_)]) G90)
noncomputable def jl9_0_0 (q : Bool) (e : Ex) (lp : Env → GS → Option (Exit × Env × GS)) (τ : Env) (G : GS) : Option (Exit × Env × GS) := jbl9_0_0 q e lp τ G
theorem mjl9_0_0 {e : Ex} {E : Ev} (h : ExLe Q e E) {lp lp' : Env → GS → Option (Exit × Env × GS)} (hlp : LpLe lp lp') (τ : Env) (G : GS) : Ref (jl9_0_0 true e lp τ G) (jl9_0_0 false (Ex.of E) lp' τ G) := by
  unfold jl9_0_0 jbl9_0_0
  repeat' (with_reducible first | exact Ref.rfl' _ | exact ROp.r | refine Ref.bP ?_ fun _ => ?_ | refine Ref.bS ?_ fun _ _ => ?_ | exact Ref.cl (by assumption) | refine Ref.ifV ?_ ?_ | refine LpLe.rx (by assumption) ?_ | refine Ref.xitq ?_ | exact UOk.z | refine UOk.c (by assumption) ?_ | exact Ref.nil _ | refine Ref.bVe fun _ _ => ?_ | refine Ref.bLq (by assumption) ?_ fun _ _ _ => ?_ | refine Ref.ifE ?_ ?_ | refine Ref.chk ?_ ?_ | refine Imp.and ?_ ?_ | refine Imp.or ?_ | exact Imp.rfl' _ | refine Imp.sameO ?_ | refine Ref.gd ?_ | exact Ref.cValue (by assumption) | refine Ref.bX ?_ fun _ _ _ => ?_ | exact Ref.scQ (by assumption) | exact Ref.xRangeQ (by assumption) | exact Ref.cInvoke (by assumption))
theorem mkjl9_0_0 {e : Ex} {E : Ev} (h : ExLe Q e E) {lp lp' : Env → GS → Option (Exit × Env × GS)} (hlp : LpLe lp lp') {τ : Env} {l U : List (Nat × Value)} {G : GS} (hU : UOk τ U) : Ref (jl9_0_0 true e lp (xq true 176 τ l U) G) (jl9_0_0 false (Ex.of E) lp' (xq false 176 τ l U) G) := by
  rw [xq_eq hU]
  exact mjl9_0_0 h hlp _ _
noncomputable def bb9_0 (q : Bool) (e : Ex) (lp : Env → GS → Option (Exit × Env × GS)) (J0 : Env → GS → Option (Exit × Env × GS)) (τ : Env) (G : GS) : Option (Exit × Env × GS) :=
  bV q (τ 1) fun a1_ =>
  bV q (τ 5) fun a5_ =>
  bV q (τ 7) fun a7_ =>
  bV q (τ 9) fun a9_ =>
  bV q (τ 10) fun a10_ =>
  bV q (τ 11) fun a11_ =>
  bP (ep Q q true 55 (.tmp 43) (.const (.pointer none)) a7_ (.pointer none)) fun x0 =>
  bS (gd x0 true (some (a9_, G)) G) fun x1 G2 =>
  bS (gd x0 true (some (a1_, G2)) G2) fun x3 G4 =>
  bS (gd x0 true (bP (ln Q q 51 x3) fun y => some (y, G4)) G4) fun x5 G6 =>
  bS (gd x0 true (bP (bn Q q .lss 3 (.tmp 46) (.tmp 48) x1 x5) fun y => some (y, G6)) G6) fun x7 G8 =>
  bP (pickV x0 x7 (.bool false)) fun x9 =>
  ifV x9 (
  bP (ias Q q 51 3 a1_ a9_) fun x10 =>
  bP (lda Q q 59 3 x10 G8) fun x11 =>
  bS (al Q q 59 z59 G8) fun x12 G13 =>
  bP (st Q q 59 3 x12 x11 G13) fun G14 =>
  bP (fa Q q 59 0 0 x12) fun x92 =>
  bP (ld Q q 3 x92 G14) fun x93 =>
  bP (bn Q q .eql 3 (.tmp 58) (.const (.int .i64 0)) x93 (.int .i64 0)) fun x94 =>
  ifV x94 (
  bP (fa Q q 59 1 1 x12) fun x95 =>
  bP (ld Q q 3 x95 (G14.room 14)) fun x96 =>
  bP (fa Q q 59 2 2 x12) fun x97 =>
  bP (ld Q q 3 x97 (G14.room 14)) fun x98 =>
  bS (e.ev.cl 34 [a5_, x96, x98] (G14.room 14)) fun x100 G99 =>
  bP (fa Q q 59 1 1 x12) fun x101 =>
  bP (ld Q q 3 x101 G99) fun x102 =>
  chk ((sameO (ld Q q 3 x101 (G14.room 14)) x102 && true)) <|
  bP (fa Q q 59 2 2 x12) fun x103 =>
  bP (ld Q q 3 x103 G99) fun x104 =>
  chk ((sameO (ld Q q 3 x103 (G14.room 14)) x104 && true)) <|
  bS (e.ev.cl 35 [a7_, x102, x104] G99) fun x106 G105 =>
  bP (bn Q q .eql 26 (.tmp 66) (.tmp 72) x100 x106) fun x107 =>
  J0 (xq q 176 τ [(11, x107), (73, x107), (72, x106), (71, x104), (70, x103), (69, x102), (68, x101), (67, a7_), (66, x100), (65, x98), (64, x97), (63, x96), (62, x95), (61, a5_), (59, x94), (60, x94), (58, x93), (57, x92), (11, (.bool true)), (10, x12), (56, x11), (55, x10), (54, a9_), (53, a1_), (50, x9), (49, x7), (48, x5), (47, x3), (46, x1), (45, x0), (44, x0), (43, a7_)] [(1, a1_), (5, a5_), (7, a7_), (9, a9_)]) G105) (
  bP (bn Q q .eql 3 (.tmp 58) (.const (.int .i64 1)) x93 (.int .i64 1)) fun x108 =>
  ifV x108 (
  bP (fa Q q 59 1 1 x12) fun x109 =>
  bP (ld Q q 3 x109 (G14.room 10)) fun x110 =>
  bS (e.ev.cl 36 [a5_, x110] (G14.room 10)) fun x112 G111 =>
  bP (fa Q q 59 1 1 x12) fun x113 =>
  bP (ld Q q 3 x113 G111) fun x114 =>
  chk ((sameO (ld Q q 3 x113 (G14.room 10)) x114 && true)) <|
  bS (e.ev.cl 37 [a7_, x114] G111) fun x116 G115 =>
  bP (bn Q q .eql 26 (.tmp 79) (.tmp 83) x112 x116) fun x117 =>
  J0 (xq q 176 τ [(11, x117), (84, x117), (83, x116), (82, x114), (81, x113), (80, a7_), (79, x112), (78, x110), (77, x109), (76, a5_), (74, x108), (75, x108), (59, x94), (60, x94), (58, x93), (57, x92), (11, (.bool true)), (10, x12), (56, x11), (55, x10), (54, a9_), (53, a1_), (50, x9), (49, x7), (48, x5), (47, x3), (46, x1), (45, x0), (44, x0), (43, a7_)] [(1, a1_), (5, a5_), (7, a7_), (9, a9_)]) G115) (
  bP (bn Q q .eql 3 (.tmp 58) (.const (.int .i64 2)) x93 (.int .i64 2)) fun x118 =>
  ifV x118 (
  bP (fa Q q 59 1 1 x12) fun x119 =>
  bP (ld Q q 3 x119 (G14.room 10)) fun x120 =>
  bS (e.ev.cl 38 [a5_, x120] (G14.room 10)) fun x122 G121 =>
  bP (fa Q q 59 1 1 x12) fun x123 =>
  bP (ld Q q 3 x123 G121) fun x124 =>
  chk ((sameO (ld Q q 3 x123 (G14.room 10)) x124 && true)) <|
  bS (e.ev.cl 39 [a7_, x124] G121) fun x126 G125 =>
  bP (bn Q q .eql 26 (.tmp 90) (.tmp 94) x122 x126) fun x127 =>
  J0 (xq q 176 τ [(11, x127), (95, x127), (94, x126), (93, x124), (92, x123), (91, a7_), (90, x122), (89, x120), (88, x119), (87, a5_), (85, x118), (86, x118), (74, x108), (75, x108), (59, x94), (60, x94), (58, x93), (57, x92), (11, (.bool true)), (10, x12), (56, x11), (55, x10), (54, a9_), (53, a1_), (50, x9), (49, x7), (48, x5), (47, x3), (46, x1), (45, x0), (44, x0), (43, a7_)] [(1, a1_), (5, a5_), (7, a7_), (9, a9_)]) G125) (
  J0 (xq q 176 τ [(85, x118), (86, x118), (74, x108), (75, x108), (59, x94), (60, x94), (58, x93), (57, x92), (11, (.bool true)), (10, x12), (56, x11), (55, x10), (54, a9_), (53, a1_), (50, x9), (49, x7), (48, x5), (47, x3), (46, x1), (45, x0), (44, x0), (43, a7_)] [(1, a1_), (5, a5_), (7, a7_), (9, a9_)]) G14)))) (
  some ((.exit 0), xq q 176 τ [(50, x9), (49, x7), (48, x5), (47, x3), (46, x1), (45, x0), (44, x0), (43, a7_)] [(1, a1_), (5, a5_), (7, a7_), (9, a9_), (10, a10_), (11, a11_)], G8))
noncomputable def b9_0 (q : Bool) (e : Ex) (lp : Env → GS → Option (Exit × Env × GS)) (τ : Env) (G : GS) : Option (Exit × Env × GS) := bb9_0 q e lp (jl9_0_0 q e lp) τ G
theorem mb9_0 {e : Ex} {E : Ev} (h : ExLe Q e E) {lp lp' : Env → GS → Option (Exit × Env × GS)} (hlp : LpLe lp lp') (τ : Env) (G : GS) : Ref (b9_0 true e lp τ G) (b9_0 false (Ex.of E) lp' τ G) := by
  unfold b9_0 bb9_0
  repeat' (with_reducible first | exact Ref.rfl' _ | exact ROp.r | refine Ref.bP ?_ fun _ => ?_ | refine Ref.bS ?_ fun _ _ => ?_ | exact Ref.cl (by assumption) | refine Ref.ifV ?_ ?_ | refine LpLe.rx (by assumption) ?_ | refine Ref.xitq ?_ | exact UOk.z | refine UOk.c (by assumption) ?_ | exact Ref.nil _ | refine Ref.bVe fun _ _ => ?_ | refine Ref.bLq (by assumption) ?_ fun _ _ _ => ?_ | refine Ref.ifE ?_ ?_ | refine Ref.chk ?_ ?_ | refine Imp.and ?_ ?_ | refine Imp.or ?_ | exact Imp.rfl' _ | refine Imp.sameO ?_ | refine Ref.gd ?_ | exact Ref.cValue (by assumption) | refine Ref.bX ?_ fun _ _ _ => ?_ | exact Ref.scQ (by assumption) | exact Ref.xRangeQ (by assumption) | exact Ref.cInvoke (by assumption) | refine mkjl9_0_0 (by assumption) (by assumption) ?_)
noncomputable def jtl9_0 (J0 : Env → GS → Option (Exit × Env × GS)) : JT (Exit × Env × GS) :=
  (.n none .e (.n none (.n none (.n none .e (.n (some (fun T G => J0 (nth undef T) G)) .e .e)) .e) .e))
set_option maxHeartbeats 8000000 in
theorem jrl9_0_0 (orc : FuncId → Bool) (J0 : Env → GS → Option (Exit × Env × GS)) (T : List Value) (G : GS) : runC Q (evL Q orc) 176 (jtl9_0 J0) (subAt [1, 1, 1, 1, 1, 0, 1, 0, 0] (bodyOf Try.f9)) (seqXE (fun τ G' => mapE ((E orc).lp (subAt [1, 1, 1, 1, 1, 0, 1, 0, 0] (bodyOf Try.f9)) (lst 176 (nth undef (lst 176 τ))) G')) fun e τ G' => some (e, nth undef (lst 176 τ), G')) [true, false, false, true] (nth undef T) G = jbl9_0_0 false (Ex.of (E orc)) (fun τ G => mapE ((E orc).lp (subAt [1, 1, 1, 1, 1, 0, 1, 0, 0] (bodyOf Try.f9)) (lst 176 τ) G))  (nth undef T) G := by kernel_rfl
set_option maxHeartbeats 8000000 in
theorem jol9_0 (orc : FuncId → Bool) : JOk Q orc 176 (jtl9_0 (jl9_0_0 false (Ex.of (E orc)) (fun τ G => mapE ((E orc).lp (subAt [1, 1, 1, 1, 1, 0, 1, 0, 0] (bodyOf Try.f9)) (lst 176 τ) G))) ) (subAt [1, 1, 1, 1, 1, 0, 1, 0, 0] (bodyOf Try.f9)) (seqXE (fun τ G' => mapE ((E orc).lp (subAt [1, 1, 1, 1, 1, 0, 1, 0, 0] (bodyOf Try.f9)) (lst 176 (nth undef (lst 176 τ))) G')) fun e τ G' => some (e, nth undef (lst 176 τ), G')) :=
  jOk Q orc (l := [([true, false, false, true], (fun T G => jl9_0_0 false (Ex.of (E orc)) (fun τ G => mapE ((E orc).lp (subAt [1, 1, 1, 1, 1, 0, 1, 0, 0] (bodyOf Try.f9)) (lst 176 τ) G)) (nth undef T) G))]) (by kernel_rfl) (AllE.c (fun T G => jrl9_0_0 orc (jl9_0_0 false (Ex.of (E orc)) (fun τ G => mapE ((E orc).lp (subAt [1, 1, 1, 1, 1, 0, 1, 0, 0] (bodyOf Try.f9)) (lst 176 τ) G))) T G) (AllE.z))
set_option maxHeartbeats 8000000 in
theorem jel9_0 (orc : FuncId → Bool) (J0 : Env → GS → Option (Exit × Env × GS)) (T : List Value) (G : GS) : sxC Q (evL Q orc) 176 (jtl9_0 J0) (subAt [1, 1, 1, 1, 1, 0, 1, 0, 0] (bodyOf Try.f9)) (nth undef T) G (seqXE (fun τ G' => mapE ((E orc).lp (subAt [1, 1, 1, 1, 1, 0, 1, 0, 0] (bodyOf Try.f9)) (lst 176 (nth undef (lst 176 τ))) G')) fun e τ G' => some (e, nth undef (lst 176 τ), G')) = bb9_0 false (Ex.of (E orc)) (fun τ G => mapE ((E orc).lp (subAt [1, 1, 1, 1, 1, 0, 1, 0, 0] (bodyOf Try.f9)) (lst 176 τ) G)) J0 (nth undef T) G := by kernel_rfl
set_option maxHeartbeats 8000000 in
theorem l9_0 {orc : FuncId → Bool} {e : Ex} (h : ExLe Q e (E orc)) (lp : Env → GS → Option (Exit × Env × GS)) (hlp : ∀ τ G, Ref (lp τ G) (mapE ((E orc).lp (subAt [1, 1, 1, 1, 1, 0, 1, 0, 0] (bodyOf Try.f9)) (lst 176 τ) G))) (T : List Value) (G : GS) (hT : T.length = 176) : Ref (b9_0 true e lp (nth undef T) G) (mapE ((E orc).lp (subAt [1, 1, 1, 1, 1, 0, 1, 0, 0] (bodyOf Try.f9)) T G)) :=
  fun r hr => lp_sxC Q orc G (jtl9_0 (jl9_0_0 false (Ex.of (E orc)) (fun τ G => mapE ((E orc).lp (subAt [1, 1, 1, 1, 1, 0, 1, 0, 0] (bodyOf Try.f9)) (lst 176 τ) G))) ) hT (jol9_0 orc) (jel9_0 orc (jl9_0_0 false (Ex.of (E orc)) (fun τ G => mapE ((E orc).lp (subAt [1, 1, 1, 1, 1, 0, 1, 0, 0] (bodyOf Try.f9)) (lst 176 τ) G))) T G) (mb9_0 h ⟨hlp⟩ _ _ r hr)
/-- coxswain/coxswainlaw04.FrameActs -/
noncomputable def s9 (q : Bool) (e : Ex) (v0 v1 : Value) (G : GS) : Option (Value × GS) :=
  bP (ln Q q 51 v1) fun x0 =>
  bP (bn Q q .gtr 3 (.tmp 20) (.const (.int .i64 80)) x0 (.int .i64 80)) fun x1 =>
  ifV x1 (
  bS (e.ev.cl 31 [] G) fun x2 G3 =>
  some (x2, G3)) (
  bS (e.ev.cl 32 [v0] G) fun x4 G5 =>
  bP (pExtract x4 0) fun x6 =>
  bP (pExtract x4 1) fun x7 =>
  bS (e.ev.cl 33 [v0] G5) fun x8 G9 =>
  bP (pExtract x8 0) fun x10 =>
  bP (pExtract x8 1) fun x11 =>
  bP (bn Q q .neq 26 (.tmp 33) (.tmp 34) x7 x11) fun x12 =>
  bS (gd x12 false (some (x6, G9)) G9) fun x13 G14 =>
  bS (gd x12 false (bP (ep Q q false 52 (.tmp 37) (.const (.pointer none)) x13 (.pointer none)) fun y => some (y, G14)) G14) fun x15 G16 =>
  bS (gd x12 false (some (x10, G16)) G16) fun x17 G18 =>
  bS (gd x12 false (bP (ep Q q false 55 (.tmp 39) (.const (.pointer none)) x17 (.pointer none)) fun y => some (y, G18)) G18) fun x19 G20 =>
  bS (gd x12 false (bP (eb Q q true 4 (.tmp 38) (.tmp 40) x15 x19) fun y => some (y, G20)) G20) fun x21 G22 =>
  bP (pickV x12 (.bool true) x21) fun x23 =>
  ifV x23 (
  some ((.bool false), G22)) (
  bLq q e 9 0 (subAt [1, 1, 1, 1, 1, 0, 1, 0, 0] (bodyOf Try.f9)) 176 (nth undef [v0, v1]) [(9, (.int .i64 0)), (42, x23), (41, x21), (40, x19), (39, x17), (38, x15), (37, x13), (36, x12), (35, x12), (34, x11), (33, x7), (8, x11), (7, x10), (32, x11), (31, x10), (28, x8), (30, x8), (29, v0), (6, x7), (5, x6), (27, x7), (26, x6), (23, x4), (25, x4), (24, v0), (21, x1), (20, x0), (19, v1), (4, (.bool false))] [] G22 fun e24 t25 G26 =>
  bV q (t25 4) fun t25x4_ =>
  ifE e24 (.exit 0) (
  bS (e.ev.cl 31 [] G26) fun x27 G28 =>
  some (x27, G28)) (ifE e24 .ret (
  some (t25x4_, G26)) (none))))
theorem m9 {e : Ex} {E : Ev} (h : ExLe Q e E) (v0 v1 : Value) (G : GS) : Ref (s9 true e v0 v1 G) (s9 false (Ex.of E) v0 v1 G) := by
  unfold s9
  repeat' (with_reducible first | exact Ref.rfl' _ | exact ROp.r | refine Ref.bP ?_ fun _ => ?_ | refine Ref.bS ?_ fun _ _ => ?_ | exact Ref.cl (by assumption) | refine Ref.ifV ?_ ?_ | refine LpLe.rx (by assumption) ?_ | refine Ref.xitq ?_ | exact UOk.z | refine UOk.c (by assumption) ?_ | exact Ref.nil _ | refine Ref.bVe fun _ _ => ?_ | refine Ref.bLq (by assumption) ?_ fun _ _ _ => ?_ | refine Ref.ifE ?_ ?_ | refine Ref.chk ?_ ?_ | refine Imp.and ?_ ?_ | refine Imp.or ?_ | exact Imp.rfl' _ | refine Imp.sameO ?_ | refine Ref.gd ?_ | exact Ref.cValue (by assumption) | refine Ref.bX ?_ fun _ _ _ => ?_ | exact Ref.scQ (by assumption) | exact Ref.xRangeQ (by assumption) | exact Ref.cInvoke (by assumption))
set_option maxHeartbeats 8000000 in
theorem f9 {orc : FuncId → Bool} {e : Ex} (h : ExLe Q e (E orc)) (v0 v1 : Value) (G : GS) : Ref (s9 true e v0 v1 G) ((E orc).cl 9 [v0, v1] G) :=
  fun r hr => cl_sxE_some Q orc (vs := [v0, v1]) G Try.func9 (by kernel_rfl) (by kernel_rfl) (by kernel_rfl) (by kernel_rfl) (by kernel_rfl) (m9 h v0 v1 G r hr)
instance ilp12_0 : LpIs Q 12 0 (subAt [1, 1, 1, 1, 1, 1, 1, 1, 0, 1, 0, 0] (bodyOf Try.f12)) 119 := ⟨by kernel_rfl, by kernel_rfl⟩
noncomputable def jbl12_0_0 (q : Bool) (e : Ex) (lp : Env → GS → Option (Exit × Env × GS)) (τ : Env) (G : GS) : Option (Exit × Env × GS) :=
  bV q (τ 0) fun a0_ =>
  bV q (τ 1) fun a1_ =>
  bV q (τ 6) fun a6_ =>
  bV q (τ 8) fun a8_ =>
  bV q (τ 9) fun a9_ =>
  bV q (τ 10) fun a10_ =>
  bV q (τ 12) fun a12_ =>
  bS (e.ev.cl 54 [a6_, a8_, a9_] G) fun x11 G12 =>
  bP (un Q q .not x11) fun x13 =>
  ifV x13 (
  some (.ret, xq q 119 τ [(4, (.bool false)), (101, x13), (100, x11), (99, a9_), (98, a8_), (97, a6_)] [(0, a0_), (1, a1_), (6, a6_), (8, a8_), (9, a9_), (10, a10_), (12, a12_)], G12)) (
  bS (e.ev.cl 43 [a6_] G12) fun x14 G15 =>
  bP (ln Q q 67 x14) fun x16 =>
  bP (ln Q q 67 a12_) fun x17 =>
  bP (bn Q q .lss 3 (.tmp 105) (.tmp 107) x16 x17) fun x18 =>
  bS (gd x18 false (some (x14, G15)) G15) fun x19 G20 =>
  bS (gd x18 false (some (a12_, G20)) G20) fun x21 G22 =>
  bS (gd x18 false (bP (ln Q q 67 x21) fun y => some (y, G22)) G22) fun x23 G24 =>
  bS (gd x18 false (bP (sl Q q 67 3 x19 none (some x23) none G24) fun y => some (y, G24)) G24) fun x25 G26 =>
  bS (gd x18 false (some (a12_, G26)) G26) fun x27 G28 =>
  bS (gd x18 false (bS (e.ev.cl 50 [x25, x27] G28) fun y G => some (y, G)) G28) fun x29 G30 =>
  bS (gd x18 false (bP (un Q q .not x29) fun y => some (y, G30)) G30) fun x31 G32 =>
  bP (pickV x18 (.bool true) x31) fun x33 =>
  ifV x33 (
  some (.ret, xq q 119 τ [(4, (.bool false)), (117, x33), (116, x31), (115, x29), (114, x27), (113, x25), (112, x23), (111, x21), (110, x19), (109, x18), (108, x18), (107, x17), (106, a12_), (105, x16), (104, x14), (14, x14), (103, x14), (102, a6_), (101, x13), (100, x11), (99, a9_), (98, a8_), (97, a6_)] [(0, a0_), (1, a1_), (6, a6_), (8, a8_), (9, a9_), (10, a10_), (12, a12_)], G32)) (
  bP (bn Q q .add 3 (.tmp 40) (.const (.int .i64 1)) a10_ (.int .i64 1)) fun x34 =>
  lp (xq q 119 τ [(10, x34), (41, x34), (40, a10_), (117, x33), (116, x31), (115, x29), (114, x27), (113, x25), (112, x23), (111, x21), (110, x19), (109, x18), (108, x18), (107, x17), (106, a12_), (105, x16), (104, x14), (14, x14), (103, x14), (102, a6_), (101, x13), (100, x11), (99, a9_), (98, a8_), (97, a6_)] [(0, a0_), (1, a1_), (6, a6_), (8, a8_), (9, a9_), (12, a12_)]) G32))
noncomputable def jl12_0_0 (q : Bool) (e : Ex) (lp : Env → GS → Option (Exit × Env × GS)) (τ : Env) (G : GS) : Option (Exit × Env × GS) := jbl12_0_0 q e lp τ G
theorem mjl12_0_0 {e : Ex} {E : Ev} (h : ExLe Q e E) {lp lp' : Env → GS → Option (Exit × Env × GS)} (hlp : LpLe lp lp') (τ : Env) (G : GS) : Ref (jl12_0_0 true e lp τ G) (jl12_0_0 false (Ex.of E) lp' τ G) := by
  unfold jl12_0_0 jbl12_0_0
  repeat' (with_reducible first | exact Ref.rfl' _ | exact ROp.r | refine Ref.bP ?_ fun _ => ?_ | refine Ref.bS ?_ fun _ _ => ?_ | exact Ref.cl (by assumption) | refine Ref.ifV ?_ ?_ | refine LpLe.rx (by assumption) ?_ | refine Ref.xitq ?_ | exact UOk.z | refine UOk.c (by assumption) ?_ | exact Ref.nil _ | refine Ref.bVe fun _ _ => ?_ | refine Ref.bLq (by assumption) ?_ fun _ _ _ => ?_ | refine Ref.ifE ?_ ?_ | refine Ref.chk ?_ ?_ | refine Imp.and ?_ ?_ | refine Imp.or ?_ | exact Imp.rfl' _ | refine Imp.sameO ?_ | refine Ref.gd ?_ | exact Ref.cValue (by assumption) | refine Ref.bX ?_ fun _ _ _ => ?_ | exact Ref.scQ (by assumption) | exact Ref.xRangeQ (by assumption) | exact Ref.cInvoke (by assumption))
theorem mkjl12_0_0 {e : Ex} {E : Ev} (h : ExLe Q e E) {lp lp' : Env → GS → Option (Exit × Env × GS)} (hlp : LpLe lp lp') {τ : Env} {l U : List (Nat × Value)} {G : GS} (hU : UOk τ U) : Ref (jl12_0_0 true e lp (xq true 119 τ l U) G) (jl12_0_0 false (Ex.of E) lp' (xq false 119 τ l U) G) := by
  rw [xq_eq hU]
  exact mjl12_0_0 h hlp _ _
noncomputable def bb12_0 (q : Bool) (e : Ex) (lp : Env → GS → Option (Exit × Env × GS)) (J0 : Env → GS → Option (Exit × Env × GS)) (τ : Env) (G : GS) : Option (Exit × Env × GS) :=
  bV q (τ 0) fun a0_ =>
  bV q (τ 1) fun a1_ =>
  bV q (τ 6) fun a6_ =>
  bV q (τ 8) fun a8_ =>
  bV q (τ 9) fun a9_ =>
  bV q (τ 10) fun a10_ =>
  bV q (τ 12) fun a12_ =>
  bP (ln Q q 51 a1_) fun x0 =>
  bP (bn Q q .lss 3 (.tmp 36) (.tmp 38) a10_ x0) fun x1 =>
  ifV x1 (
  bP (ias Q q 51 3 a1_ a10_) fun x2 =>
  bP (fa Q q 59 1 1 x2) fun x3 =>
  bP (ld Q q 3 x3 G) fun x4 =>
  bS (e.ev.cl 21 [x4, a0_] G) fun x5 G6 =>
  bS (e.ev.cl 43 [a6_] (G6.room 8)) fun x8 G7 =>
  bP (ias Q q 88 1 a8_ x5) fun x9 =>
  bP (ld Q q 4 x9 G7) fun x10 =>
  chk ((sameO (ld Q q 4 x9 (G6.room 8)) x10 && true)) <|
  bP (ias Q q 51 3 a1_ a10_) fun x35 =>
  bP (fa Q q 59 0 0 x35) fun x36 =>
  bP (ld Q q 3 x36 G7) fun x37 =>
  bS (e.ev.cl 21 [x37, (.int .i64 3)] G7) fun x38 G39 =>
  bP (bn Q q .eql 3 (.tmp 60) (.const (.int .i64 0)) x38 (.int .i64 0)) fun x40 =>
  ifV x40 (
  bP (ias Q q 51 3 a1_ a10_) fun x41 =>
  bP (fa Q q 59 2 2 x41) fun x42 =>
  bP (ld Q q 3 x42 G39) fun x43 =>
  bS (e.ev.cl 34 [a6_, x5, x43] G39) fun x44 G45 =>
  bP (bn Q q .eql 26 (.tmp 79) (.const (.int .i64 0)) x44 (.int .i64 0)) fun x46 =>
  bP (eb Q q false 4 (.tmp 80) (.tmp 81) x46 x10) fun x47 =>
  ifV x47 (
  some (.ret, xq q 119 τ [(4, (.bool false)), (82, x47), (81, x10), (80, x46), (79, x44), (78, x43), (77, x42), (76, x41), (75, a10_), (74, a1_), (73, x5), (72, a6_), (70, x40), (71, x40), (60, x38), (59, x37), (58, x36), (57, x35), (56, a10_), (55, a1_), (13, x10), (12, x8), (54, x10), (53, x9), (52, x5), (51, a8_), (50, x8), (49, a6_), (11, x5), (48, x5), (47, a0_), (46, x4), (45, x3), (44, x2), (43, a10_), (42, a1_), (39, x1), (38, x0), (37, a1_), (36, a10_)] [(0, a0_), (1, a1_), (6, a6_), (8, a8_), (9, a9_), (10, a10_)], G45)) (
  bP (ias Q q 88 1 a8_ x5) fun x48 =>
  bP (st Q q 4 1 x48 (.bool true) G45) fun G49 =>
  J0 (xq q 119 τ [(85, x48), (84, x5), (83, a8_), (82, x47), (81, x10), (80, x46), (79, x44), (78, x43), (77, x42), (76, x41), (75, a10_), (74, a1_), (73, x5), (72, a6_), (70, x40), (71, x40), (60, x38), (59, x37), (58, x36), (57, x35), (56, a10_), (55, a1_), (13, x10), (12, x8), (54, x10), (53, x9), (52, x5), (51, a8_), (50, x8), (49, a6_), (11, x5), (48, x5), (47, a0_), (46, x4), (45, x3), (44, x2), (43, a10_), (42, a1_), (39, x1), (38, x0), (37, a1_), (36, a10_)] [(0, a0_), (1, a1_), (6, a6_), (8, a8_), (9, a9_), (10, a10_)]) G49)) (
  bP (bn Q q .eql 3 (.tmp 60) (.const (.int .i64 1)) x38 (.int .i64 1)) fun x50 =>
  ifV x50 (
  bS (e.ev.cl 36 [a6_, x5] G39) fun x51 G52 =>
  bP (bn Q q .eql 26 (.tmp 90) (.const (.int .i64 0)) x51 (.int .i64 0)) fun x53 =>
  bP (eb Q q true 4 (.tmp 91) (.tmp 92) x53 x10) fun x54 =>
  ifV x54 (
  some (.ret, xq q 119 τ [(4, (.bool false)), (93, x54), (92, x10), (91, x53), (90, x51), (89, x5), (88, a6_), (86, x50), (87, x50), (70, x40), (71, x40), (60, x38), (59, x37), (58, x36), (57, x35), (56, a10_), (55, a1_), (13, x10), (12, x8), (54, x10), (53, x9), (52, x5), (51, a8_), (50, x8), (49, a6_), (11, x5), (48, x5), (47, a0_), (46, x4), (45, x3), (44, x2), (43, a10_), (42, a1_), (39, x1), (38, x0), (37, a1_), (36, a10_)] [(0, a0_), (1, a1_), (6, a6_), (8, a8_), (9, a9_), (10, a10_)], G52)) (
  ifV x10 (
  bP (bn Q q .add 3 (.tmp 95) (.const (.int .i64 1)) a9_ (.int .i64 1)) fun x55 =>
  J0 (xq q 119 τ [(9, x55), (96, x55), (95, a9_), (94, x10), (93, x54), (92, x10), (91, x53), (90, x51), (89, x5), (88, a6_), (86, x50), (87, x50), (70, x40), (71, x40), (60, x38), (59, x37), (58, x36), (57, x35), (56, a10_), (55, a1_), (13, x10), (12, x8), (54, x10), (53, x9), (52, x5), (51, a8_), (50, x8), (49, a6_), (11, x5), (48, x5), (47, a0_), (46, x4), (45, x3), (44, x2), (43, a10_), (42, a1_), (39, x1), (38, x0), (37, a1_), (36, a10_)] [(0, a0_), (1, a1_), (6, a6_), (8, a8_), (10, a10_)]) G52) (
  J0 (xq q 119 τ [(94, x10), (93, x54), (92, x10), (91, x53), (90, x51), (89, x5), (88, a6_), (86, x50), (87, x50), (70, x40), (71, x40), (60, x38), (59, x37), (58, x36), (57, x35), (56, a10_), (55, a1_), (13, x10), (12, x8), (54, x10), (53, x9), (52, x5), (51, a8_), (50, x8), (49, a6_), (11, x5), (48, x5), (47, a0_), (46, x4), (45, x3), (44, x2), (43, a10_), (42, a1_), (39, x1), (38, x0), (37, a1_), (36, a10_)] [(0, a0_), (1, a1_), (6, a6_), (8, a8_), (9, a9_), (10, a10_)]) G52))) (
  bS (e.ev.cl 38 [a6_, x5] G39) fun x56 G57 =>
  bP (bn Q q .eql 26 (.tmp 63) (.const (.int .i64 0)) x56 (.int .i64 0)) fun x58 =>
  bP (eb Q q true 4 (.tmp 64) (.tmp 65) x58 x10) fun x59 =>
  ifV x59 (
  some (.ret, xq q 119 τ [(4, (.bool false)), (66, x59), (65, x10), (64, x58), (63, x56), (62, x5), (61, a6_), (86, x50), (87, x50), (70, x40), (71, x40), (60, x38), (59, x37), (58, x36), (57, x35), (56, a10_), (55, a1_), (13, x10), (12, x8), (54, x10), (53, x9), (52, x5), (51, a8_), (50, x8), (49, a6_), (11, x5), (48, x5), (47, a0_), (46, x4), (45, x3), (44, x2), (43, a10_), (42, a1_), (39, x1), (38, x0), (37, a1_), (36, a10_)] [(0, a0_), (1, a1_), (6, a6_), (8, a8_), (9, a9_), (10, a10_)], G57)) (
  bP (ias Q q 88 1 a8_ x5) fun x60 =>
  bP (st Q q 4 1 x60 (.bool false) G57) fun G61 =>
  J0 (xq q 119 τ [(69, x60), (68, x5), (67, a8_), (66, x59), (65, x10), (64, x58), (63, x56), (62, x5), (61, a6_), (86, x50), (87, x50), (70, x40), (71, x40), (60, x38), (59, x37), (58, x36), (57, x35), (56, a10_), (55, a1_), (13, x10), (12, x8), (54, x10), (53, x9), (52, x5), (51, a8_), (50, x8), (49, a6_), (11, x5), (48, x5), (47, a0_), (46, x4), (45, x3), (44, x2), (43, a10_), (42, a1_), (39, x1), (38, x0), (37, a1_), (36, a10_)] [(0, a0_), (1, a1_), (6, a6_), (8, a8_), (9, a9_), (10, a10_)]) G61)))) (
  some ((.exit 0), xq q 119 τ [(39, x1), (38, x0), (37, a1_), (36, a10_)] [(0, a0_), (1, a1_), (6, a6_), (8, a8_), (9, a9_), (10, a10_), (12, a12_)], G))
noncomputable def b12_0 (q : Bool) (e : Ex) (lp : Env → GS → Option (Exit × Env × GS)) (τ : Env) (G : GS) : Option (Exit × Env × GS) := bb12_0 q e lp (jl12_0_0 q e lp) τ G
theorem mb12_0 {e : Ex} {E : Ev} (h : ExLe Q e E) {lp lp' : Env → GS → Option (Exit × Env × GS)} (hlp : LpLe lp lp') (τ : Env) (G : GS) : Ref (b12_0 true e lp τ G) (b12_0 false (Ex.of E) lp' τ G) := by
  unfold b12_0 bb12_0
  repeat' (with_reducible first | exact Ref.rfl' _ | exact ROp.r | refine Ref.bP ?_ fun _ => ?_ | refine Ref.bS ?_ fun _ _ => ?_ | exact Ref.cl (by assumption) | refine Ref.ifV ?_ ?_ | refine LpLe.rx (by assumption) ?_ | refine Ref.xitq ?_ | exact UOk.z | refine UOk.c (by assumption) ?_ | exact Ref.nil _ | refine Ref.bVe fun _ _ => ?_ | refine Ref.bLq (by assumption) ?_ fun _ _ _ => ?_ | refine Ref.ifE ?_ ?_ | refine Ref.chk ?_ ?_ | refine Imp.and ?_ ?_ | refine Imp.or ?_ | exact Imp.rfl' _ | refine Imp.sameO ?_ | refine Ref.gd ?_ | exact Ref.cValue (by assumption) | refine Ref.bX ?_ fun _ _ _ => ?_ | exact Ref.scQ (by assumption) | exact Ref.xRangeQ (by assumption) | exact Ref.cInvoke (by assumption) | refine mkjl12_0_0 (by assumption) (by assumption) ?_)
noncomputable def jtl12_0 (J0 : Env → GS → Option (Exit × Env × GS)) : JT (Exit × Env × GS) :=
  (.n none .e (.n none (.n none (.n none .e (.n none .e (.n (some (fun T G => J0 (nth undef T) G)) .e .e))) .e) .e))
set_option maxHeartbeats 8000000 in
theorem jrl12_0_0 (orc : FuncId → Bool) (J0 : Env → GS → Option (Exit × Env × GS)) (T : List Value) (G : GS) : runC Q (evL Q orc) 119 (jtl12_0 J0) (subAt [1, 1, 1, 1, 1, 1, 1, 1, 0, 1, 0, 0] (bodyOf Try.f12)) (seqXE (fun τ G' => mapE ((E orc).lp (subAt [1, 1, 1, 1, 1, 1, 1, 1, 0, 1, 0, 0] (bodyOf Try.f12)) (lst 119 (nth undef (lst 119 τ))) G')) fun e τ G' => some (e, nth undef (lst 119 τ), G')) [true, false, false, true, true] (nth undef T) G = jbl12_0_0 false (Ex.of (E orc)) (fun τ G => mapE ((E orc).lp (subAt [1, 1, 1, 1, 1, 1, 1, 1, 0, 1, 0, 0] (bodyOf Try.f12)) (lst 119 τ) G))  (nth undef T) G := by kernel_rfl
set_option maxHeartbeats 8000000 in
theorem jol12_0 (orc : FuncId → Bool) : JOk Q orc 119 (jtl12_0 (jl12_0_0 false (Ex.of (E orc)) (fun τ G => mapE ((E orc).lp (subAt [1, 1, 1, 1, 1, 1, 1, 1, 0, 1, 0, 0] (bodyOf Try.f12)) (lst 119 τ) G))) ) (subAt [1, 1, 1, 1, 1, 1, 1, 1, 0, 1, 0, 0] (bodyOf Try.f12)) (seqXE (fun τ G' => mapE ((E orc).lp (subAt [1, 1, 1, 1, 1, 1, 1, 1, 0, 1, 0, 0] (bodyOf Try.f12)) (lst 119 (nth undef (lst 119 τ))) G')) fun e τ G' => some (e, nth undef (lst 119 τ), G')) :=
  jOk Q orc (l := [([true, false, false, true, true], (fun T G => jl12_0_0 false (Ex.of (E orc)) (fun τ G => mapE ((E orc).lp (subAt [1, 1, 1, 1, 1, 1, 1, 1, 0, 1, 0, 0] (bodyOf Try.f12)) (lst 119 τ) G)) (nth undef T) G))]) (by kernel_rfl) (AllE.c (fun T G => jrl12_0_0 orc (jl12_0_0 false (Ex.of (E orc)) (fun τ G => mapE ((E orc).lp (subAt [1, 1, 1, 1, 1, 1, 1, 1, 0, 1, 0, 0] (bodyOf Try.f12)) (lst 119 τ) G))) T G) (AllE.z))
set_option maxHeartbeats 8000000 in
theorem jel12_0 (orc : FuncId → Bool) (J0 : Env → GS → Option (Exit × Env × GS)) (T : List Value) (G : GS) : sxC Q (evL Q orc) 119 (jtl12_0 J0) (subAt [1, 1, 1, 1, 1, 1, 1, 1, 0, 1, 0, 0] (bodyOf Try.f12)) (nth undef T) G (seqXE (fun τ G' => mapE ((E orc).lp (subAt [1, 1, 1, 1, 1, 1, 1, 1, 0, 1, 0, 0] (bodyOf Try.f12)) (lst 119 (nth undef (lst 119 τ))) G')) fun e τ G' => some (e, nth undef (lst 119 τ), G')) = bb12_0 false (Ex.of (E orc)) (fun τ G => mapE ((E orc).lp (subAt [1, 1, 1, 1, 1, 1, 1, 1, 0, 1, 0, 0] (bodyOf Try.f12)) (lst 119 τ) G)) J0 (nth undef T) G := by kernel_rfl
set_option maxHeartbeats 8000000 in
theorem l12_0 {orc : FuncId → Bool} {e : Ex} (h : ExLe Q e (E orc)) (lp : Env → GS → Option (Exit × Env × GS)) (hlp : ∀ τ G, Ref (lp τ G) (mapE ((E orc).lp (subAt [1, 1, 1, 1, 1, 1, 1, 1, 0, 1, 0, 0] (bodyOf Try.f12)) (lst 119 τ) G))) (T : List Value) (G : GS) (hT : T.length = 119) : Ref (b12_0 true e lp (nth undef T) G) (mapE ((E orc).lp (subAt [1, 1, 1, 1, 1, 1, 1, 1, 0, 1, 0, 0] (bodyOf Try.f12)) T G)) :=
  fun r hr => lp_sxC Q orc G (jtl12_0 (jl12_0_0 false (Ex.of (E orc)) (fun τ G => mapE ((E orc).lp (subAt [1, 1, 1, 1, 1, 1, 1, 1, 0, 1, 0, 0] (bodyOf Try.f12)) (lst 119 τ) G))) ) hT (jol12_0 orc) (jel12_0 orc (jl12_0_0 false (Ex.of (E orc)) (fun τ G => mapE ((E orc).lp (subAt [1, 1, 1, 1, 1, 1, 1, 1, 0, 1, 0, 0] (bodyOf Try.f12)) (lst 119 τ) G))) T G) (mb12_0 h ⟨hlp⟩ _ _ r hr)
/-- coxswain/coxswainlaw04.FrameCounts -/
noncomputable def s12 (q : Bool) (e : Ex) (v0 v1 : Value) (G : GS) : Option (Value × GS) :=
  bS (e.ev.cl 11 [] G) fun x0 G1 =>
  bP (ln Q q 51 v1) fun x2 =>
  bP (bn Q q .gtr 3 (.tmp 17) (.const (.int .i64 80)) x2 (.int .i64 80)) fun x3 =>
  ifV x3 (
  some (x0, G1)) (
  bS (e.ev.cl 21 [v0, (.int .i64 64)] G1) fun x4 G5 =>
  bP (bn Q q .add 3 (.const (.int .i64 1)) (.tmp 21) (.int .i64 1) x4) fun x6 =>
  bS (e.ev.cl 32 [x6] G5) fun x7 G8 =>
  bP (pExtract x7 0) fun x9 =>
  bP (pExtract x7 1) fun x10 =>
  bP (bn Q q .neq 26 (.tmp 28) (.const (.int .i64 0)) x10 (.int .i64 0)) fun x11 =>
  bS (gd x11 false (some (x9, G8)) G8) fun x12 G13 =>
  bS (gd x11 false (bP (ep Q q false 52 (.tmp 31) (.const (.pointer none)) x12 (.pointer none)) fun y => some (y, G13)) G13) fun x14 G15 =>
  bP (pickV x11 (.bool true) x14) fun x16 =>
  ifV x16 (
  some ((.bool false), G15)) (
  bS (mk Q q 88 1 1 z4 x6 x6 G15) fun x17 G18 =>
  bLq q e 12 0 (subAt [1, 1, 1, 1, 1, 1, 1, 1, 0, 1, 0, 0] (bodyOf Try.f12)) 119 (nth undef [v0, v1]) [(10, (.int .i64 0)), (9, (.int .i64 0)), (8, x17), (35, x17), (34, x6), (33, x16), (32, x14), (31, x12), (30, x11), (29, x11), (28, x10), (7, x10), (6, x9), (27, x10), (26, x9), (23, x7), (25, x7), (24, x6), (0, x6), (22, x6), (21, x4), (20, v0), (18, x3), (17, x2), (16, v1), (5, x0), (15, x0), (4, (.bool false))] [] G18 fun e19 t20 G21 =>
  bV q (t20 4) fun t20x4_ =>
  bV q (t20 5) fun t20x5_ =>
  ifE e19 (.exit 0) (
  some (t20x5_, G21)) (ifE e19 .ret (
  some (t20x4_, G21)) (none))))
theorem m12 {e : Ex} {E : Ev} (h : ExLe Q e E) (v0 v1 : Value) (G : GS) : Ref (s12 true e v0 v1 G) (s12 false (Ex.of E) v0 v1 G) := by
  unfold s12
  repeat' (with_reducible first | exact Ref.rfl' _ | exact ROp.r | refine Ref.bP ?_ fun _ => ?_ | refine Ref.bS ?_ fun _ _ => ?_ | exact Ref.cl (by assumption) | refine Ref.ifV ?_ ?_ | refine LpLe.rx (by assumption) ?_ | refine Ref.xitq ?_ | exact UOk.z | refine UOk.c (by assumption) ?_ | exact Ref.nil _ | refine Ref.bVe fun _ _ => ?_ | refine Ref.bLq (by assumption) ?_ fun _ _ _ => ?_ | refine Ref.ifE ?_ ?_ | refine Ref.chk ?_ ?_ | refine Imp.and ?_ ?_ | refine Imp.or ?_ | exact Imp.rfl' _ | refine Imp.sameO ?_ | refine Ref.gd ?_ | exact Ref.cValue (by assumption) | refine Ref.bX ?_ fun _ _ _ => ?_ | exact Ref.scQ (by assumption) | exact Ref.xRangeQ (by assumption) | exact Ref.cInvoke (by assumption))
set_option maxHeartbeats 8000000 in
theorem f12 {orc : FuncId → Bool} {e : Ex} (h : ExLe Q e (E orc)) (v0 v1 : Value) (G : GS) : Ref (s12 true e v0 v1 G) ((E orc).cl 12 [v0, v1] G) :=
  fun r hr => cl_sxE_some Q orc (vs := [v0, v1]) G Try.func12 (by kernel_rfl) (by kernel_rfl) (by kernel_rfl) (by kernel_rfl) (by kernel_rfl) (m12 h v0 v1 G r hr)
/-- coxswain/coxswainkit.Pick -/
noncomputable def s21 (q : Bool) (e : Ex) (v0 v1 : Value) (G : GS) : Option (Value × GS) :=
  bP (bn Q q .leq 3 (.tmp 5) (.const (.int .i64 0)) v1 (.int .i64 0)) fun x0 =>
  ifV x0 (
  some ((.int .i64 0), G)) (
  bP (bn Q q .rem 3 (.tmp 7) (.tmp 8) v0 v1) fun x1 =>
  bP (bn Q q .lss 3 (.tmp 10) (.const (.int .i64 0)) x1 (.int .i64 0)) fun x2 =>
  ifV x2 (
  bP (bn Q q .add 3 (.tmp 12) (.tmp 13) x1 v1) fun x3 =>
  some (x3, G)) (
  some (x1, G)))
theorem m21 {e : Ex} {E : Ev} (h : ExLe Q e E) (v0 v1 : Value) (G : GS) : Ref (s21 true e v0 v1 G) (s21 false (Ex.of E) v0 v1 G) := by
  unfold s21
  repeat' (with_reducible first | exact Ref.rfl' _ | exact ROp.r | refine Ref.bP ?_ fun _ => ?_ | refine Ref.bS ?_ fun _ _ => ?_ | exact Ref.cl (by assumption) | refine Ref.ifV ?_ ?_ | refine LpLe.rx (by assumption) ?_ | refine Ref.xitq ?_ | exact UOk.z | refine UOk.c (by assumption) ?_ | exact Ref.nil _ | refine Ref.bVe fun _ _ => ?_ | refine Ref.bLq (by assumption) ?_ fun _ _ _ => ?_ | refine Ref.ifE ?_ ?_ | refine Ref.chk ?_ ?_ | refine Imp.and ?_ ?_ | refine Imp.or ?_ | exact Imp.rfl' _ | refine Imp.sameO ?_ | refine Ref.gd ?_ | exact Ref.cValue (by assumption) | refine Ref.bX ?_ fun _ _ _ => ?_ | exact Ref.scQ (by assumption) | exact Ref.xRangeQ (by assumption) | exact Ref.cInvoke (by assumption))
theorem f21 {orc : FuncId → Bool} {e : Ex} (h : ExLe Q e (E orc)) (v0 v1 : Value) (G : GS) : Ref (s21 true e v0 v1 G) ((E orc).cl 21 [v0, v1] G) :=
  fun r hr => cl_sxE_some Q orc (vs := [v0, v1]) G Try.func21 (by kernel_rfl) (by kernel_rfl) (by kernel_rfl) (by kernel_rfl) (by kernel_rfl) (m21 h v0 v1 G r hr)
/-- coxswain/coxswainlaw04.awake -/
noncomputable def s31 (q : Bool) (e : Ex) (G : GS) : Option (Value × GS) :=
  bS (e.ev.cl 53 [] G) fun x0 G1 =>
  bP (ep Q q false 52 (.tmp 5) (.const (.pointer none)) x0 (.pointer none)) fun x2 =>
  ifV x2 (
  some ((.bool false), G1)) (
  bS (e.ev.cl 40 [x0, (.int .i64 2)] G1) fun x3 G4 =>
  bP (pExtract x3 0) fun x5 =>
  bP (pExtract x3 1) fun x6 =>
  bS (e.ev.cl 42 [x0] G4) fun x7 G8 =>
  bS (bs Q q 65 2 (rep z3 2) 1 [(0, 0, 1), (1, 1, 1)] [(.int .i64 0), (.int .i64 2)] G8) fun x9 G10 =>
  bS (e.ev.cl 45 [x7, x9] G10) fun x11 G12 =>
  bS (gd x11 true (some (x0, G12)) G12) fun x13 G14 =>
  bS (gd x11 true (bS (e.ev.cl 47 [x13, (.int .i64 0)] G14) fun y G => some (y, G)) G14) fun x15 G16 =>
  bS (gd x11 true (bP (bn Q q .eql 3 (.tmp 18) (.const (.int .i64 0)) x15 (.int .i64 0)) fun y => some (y, G16)) G16) fun x17 G18 =>
  bP (pickV x11 x17 (.bool false)) fun x19 =>
  bS (gd x19 true (some (x0, G18)) G18) fun x20 G21 =>
  bS (gd x19 true (bS (e.ev.cl 47 [x20, (.int .i64 1)] G21) fun y G => some (y, G)) G21) fun x22 G23 =>
  bS (gd x19 true (bP (bn Q q .eql 3 (.tmp 23) (.const (.int .i64 2)) x22 (.int .i64 2)) fun y => some (y, G23)) G23) fun x24 G25 =>
  bP (pickV x19 x24 (.bool false)) fun x26 =>
  bS (gd x26 true (some (x5, G25)) G25) fun x27 G28 =>
  bS (gd x26 true (bP (bn Q q .eql 3 (.tmp 27) (.const (.int .i64 7)) x27 (.int .i64 7)) fun y => some (y, G28)) G28) fun x29 G30 =>
  bP (pickV x26 x29 (.bool false)) fun x31 =>
  bS (gd x31 true (some (x6, G30)) G30) fun x32 G33 =>
  bP (pickV x31 x32 (.bool false)) fun x34 =>
  bS (gd x34 true (some (x0, G33)) G33) fun x35 G36 =>
  bS (gd x34 true (bS (e.ev.cl 44 [x35, (.int .i64 2)] G36) fun y G => some (y, G)) G36) fun x37 G38 =>
  bS (gd x34 true (bP (bn Q q .eql 3 (.tmp 35) (.const (.int .i64 2)) x37 (.int .i64 2)) fun y => some (y, G38)) G38) fun x39 G40 =>
  bP (pickV x34 x39 (.bool false)) fun x41 =>
  some (x41, G40))
theorem m31 {e : Ex} {E : Ev} (h : ExLe Q e E) (G : GS) : Ref (s31 true e  G) (s31 false (Ex.of E)  G) := by
  unfold s31
  repeat' (with_reducible first | exact Ref.rfl' _ | exact ROp.r | refine Ref.bP ?_ fun _ => ?_ | refine Ref.bS ?_ fun _ _ => ?_ | exact Ref.cl (by assumption) | refine Ref.ifV ?_ ?_ | refine LpLe.rx (by assumption) ?_ | refine Ref.xitq ?_ | exact UOk.z | refine UOk.c (by assumption) ?_ | exact Ref.nil _ | refine Ref.bVe fun _ _ => ?_ | refine Ref.bLq (by assumption) ?_ fun _ _ _ => ?_ | refine Ref.ifE ?_ ?_ | refine Ref.chk ?_ ?_ | refine Imp.and ?_ ?_ | refine Imp.or ?_ | exact Imp.rfl' _ | refine Imp.sameO ?_ | refine Ref.gd ?_ | exact Ref.cValue (by assumption) | refine Ref.bX ?_ fun _ _ _ => ?_ | exact Ref.scQ (by assumption) | exact Ref.xRangeQ (by assumption) | exact Ref.cInvoke (by assumption))
theorem f31 {orc : FuncId → Bool} {e : Ex} (h : ExLe Q e (E orc)) (ho : orc 31 = false) (G : GS) : Ref (s31 true e  G) ((E orc).cl 31 [] G) :=
  fun r hr => cl_sxE_some Q orc (vs := []) G Try.func31 (by kernel_rfl) (by kernel_rfl) ho (by kernel_rfl) (by kernel_rfl) (m31 h  G r hr)
/-- coxswain/coxswainlaw04.FrameKnown -/
noncomputable def s11 (q : Bool) (e : Ex) (G : GS) : Option (Value × GS) :=
  bS (e.ev.cl 53 [] G) fun x0 G1 =>
  bS (e.ev.cl 32 [(.int .i64 0)] G1) fun x2 G3 =>
  bP (pExtract x2 0) fun x4 =>
  bP (pExtract x2 1) fun x5 =>
  bS (e.ev.cl 32 [(.int .i64 65)] G3) fun x6 G7 =>
  bP (pExtract x6 0) fun x8 =>
  bP (pExtract x6 1) fun x9 =>
  bP (ep Q q false 52 (.tmp 18) (.const (.pointer none)) x0 (.pointer none)) fun x10 =>
  bS (gd x10 false (some (x5, G7)) G7) fun x11 G12 =>
  bS (gd x10 false (bP (bn Q q .neq 26 (.tmp 21) (.const (.int .i64 3)) x11 (.int .i64 3)) fun y => some (y, G12)) G12) fun x13 G14 =>
  bP (pickV x10 (.bool true) x13) fun x15 =>
  bS (gd x15 false (some (x9, G14)) G14) fun x16 G17 =>
  bS (gd x15 false (bP (bn Q q .neq 26 (.tmp 25) (.const (.int .i64 3)) x16 (.int .i64 3)) fun y => some (y, G17)) G17) fun x18 G19 =>
  bP (pickV x15 (.bool true) x18) fun x20 =>
  ifV x20 (
  some ((.bool false), G19)) (
  bS (e.ev.cl 40 [x0, (.int .i64 1)] G19) fun x21 G22 =>
  bP (pExtract x21 0) fun x23 =>
  bP (pExtract x21 1) fun x24 =>
  bS (e.ev.cl 47 [x0, (.int .i64 5)] G22) fun x25 G26 =>
  bP (bn Q q .eql 3 (.tmp 34) (.const (.int .i64 2)) x25 (.int .i64 2)) fun x27 =>
  bS (gd x27 true (some (x0, G26)) G26) fun x28 G29 =>
  bS (gd x27 true (bS (e.ev.cl 47 [x28, (.int .i64 (-1))] G29) fun y G => some (y, G)) G29) fun x30 G31 =>
  bS (gd x27 true (bP (bn Q q .eql 3 (.tmp 38) (.const (.int .i64 2)) x30 (.int .i64 2)) fun y => some (y, G31)) G31) fun x32 G33 =>
  bP (pickV x27 x32 (.bool false)) fun x34 =>
  bS (gd x34 true (some (x24, G33)) G33) fun x35 G36 =>
  bS (gd x34 true (bP (un Q q .not x35) fun y => some (y, G36)) G36) fun x37 G38 =>
  bP (pickV x34 x37 (.bool false)) fun x39 =>
  bS (gd x39 true (some (x0, G38)) G38) fun x40 G41 =>
  bS (gd x39 true (bS (e.ev.cl 38 [x40, (.int .i64 2)] G41) fun y G => some (y, G)) G41) fun x42 G43 =>
  bS (gd x39 true (bP (bn Q q .eql 26 (.tmp 47) (.const (.int .i64 0)) x42 (.int .i64 0)) fun y => some (y, G43)) G43) fun x44 G45 =>
  bP (pickV x39 x44 (.bool false)) fun x46 =>
  bS (gd x46 true (some (x0, G45)) G45) fun x47 G48 =>
  bS (gd x46 true (bS (e.ev.cl 38 [x47, (.int .i64 2)] G48) fun y G => some (y, G)) G48) fun x49 G50 =>
  bS (gd x46 true (bP (bn Q q .eql 26 (.tmp 52) (.const (.int .i64 15)) x49 (.int .i64 15)) fun y => some (y, G50)) G50) fun x51 G52 =>
  bP (pickV x46 x51 (.bool false)) fun x53 =>
  bS (e.ev.cl 31 [] G52) fun x54 G55 =>
  bS (gd x54 true (some (x53, G55)) G55) fun x56 G57 =>
  bP (pickV x54 x56 (.bool false)) fun x58 =>
  bS (gd x58 true (some (x0, G57)) G57) fun x59 G60 =>
  bS (gd x58 true (bS (e.ev.cl 43 [x59] G60) fun y G => some (y, G)) G60) fun x61 G62 =>
  bS (gd x58 true (bP (bd Q q 87 z87 [(0, 0, 1), (1, 1, 1), (2, 2, 1)] [(.int .i64 2), (.int .i64 7), (.int .i64 2)]) fun y => some (y, G62)) G62) fun x63 G64 =>
  bS (gd x58 true (bS (bs Q q 67 1 (rep z87 1) 3 [(0, 0, 3)] [x63] G64) fun y G => some (y, G)) G64) fun x65 G66 =>
  bS (gd x58 true (bS (e.ev.cl 50 [x61, x65] G66) fun y G => some (y, G)) G66) fun x67 G68 =>
  bP (pickV x58 x67 (.bool false)) fun x69 =>
  bS (gd x69 true (some (x0, G68)) G68) fun x70 G71 =>
  bS (gd x69 true (bS (e.ev.cl 49 [x70] G71) fun y G => some (y, G)) G71) fun x72 G73 =>
  bS (gd x69 true (bP (bn Q q .eql 3 (.tmp 68) (.const (.int .i64 3)) x72 (.int .i64 3)) fun y => some (y, G73)) G73) fun x74 G75 =>
  bP (pickV x69 x74 (.bool false)) fun x76 =>
  bS (gd x76 true (some (x0, G75)) G75) fun x77 G78 =>
  bS (gd x76 true (bS (e.ev.cl 34 [x77, (.int .i64 3), (.int .i64 0)] G78) fun y G => some (y, G)) G78) fun x79 G80 =>
  bS (gd x76 true (bP (bn Q q .eql 26 (.tmp 73) (.const (.int .i64 3)) x79 (.int .i64 3)) fun y => some (y, G80)) G80) fun x81 G82 =>
  bP (pickV x76 x81 (.bool false)) fun x83 =>
  bS (gd x83 true (some (x0, G82)) G82) fun x84 G85 =>
  bS (gd x83 true (bS (e.ev.cl 38 [x84, (.int .i64 (-1))] G85) fun y G => some (y, G)) G85) fun x86 G87 =>
  bS (gd x83 true (bP (bn Q q .eql 26 (.tmp 78) (.const (.int .i64 3)) x86 (.int .i64 3)) fun y => some (y, G87)) G87) fun x88 G89 =>
  bP (pickV x83 x88 (.bool false)) fun x90 =>
  some (x90, G89))
theorem m11 {e : Ex} {E : Ev} (h : ExLe Q e E) (G : GS) : Ref (s11 true e  G) (s11 false (Ex.of E)  G) := by
  unfold s11
  repeat' (with_reducible first | exact Ref.rfl' _ | exact ROp.r | refine Ref.bP ?_ fun _ => ?_ | refine Ref.bS ?_ fun _ _ => ?_ | exact Ref.cl (by assumption) | refine Ref.ifV ?_ ?_ | refine LpLe.rx (by assumption) ?_ | refine Ref.xitq ?_ | exact UOk.z | refine UOk.c (by assumption) ?_ | exact Ref.nil _ | refine Ref.bVe fun _ _ => ?_ | refine Ref.bLq (by assumption) ?_ fun _ _ _ => ?_ | refine Ref.ifE ?_ ?_ | refine Ref.chk ?_ ?_ | refine Imp.and ?_ ?_ | refine Imp.or ?_ | exact Imp.rfl' _ | refine Imp.sameO ?_ | refine Ref.gd ?_ | exact Ref.cValue (by assumption) | refine Ref.bX ?_ fun _ _ _ => ?_ | exact Ref.scQ (by assumption) | exact Ref.xRangeQ (by assumption) | exact Ref.cInvoke (by assumption))
theorem f11 {orc : FuncId → Bool} {e : Ex} (h : ExLe Q e (E orc)) (ho : orc 11 = false) (G : GS) : Ref (s11 true e  G) ((E orc).cl 11 [] G) :=
  fun r hr => cl_sxE_some Q orc (vs := []) G Try.func11 (by kernel_rfl) (by kernel_rfl) ho (by kernel_rfl) (by kernel_rfl) (m11 h  G r hr)
/-- coxswain/frame.New -/
noncomputable def s32 (q : Bool) (e : Ex) (v0 : Value) (G : GS) : Option (Value × GS) :=
  bP (bn Q q .lss 3 (.tmp 4) (.const (.int .i64 1)) v0 (.int .i64 1)) fun x0 =>
  bS (gd x0 false (some (v0, G)) G) fun x1 G2 =>
  bS (gd x0 false (bP (bn Q q .gtr 3 (.tmp 7) (.const (.int .i64 64)) x1 (.int .i64 64)) fun y => some (y, G2)) G2) fun x3 G4 =>
  bP (pickV x0 (.bool true) x3) fun x5 =>
  ifV x5 (
  some (.tuple #[(.pointer none), (.int .i64 3)], G4)) (
  bS (mk Q q 78 1 8 z96 v0 v0 G4) fun x6 G7 =>
  bP (bd Q q 80 z80 [(0, 0, 1)] [x6]) fun x8 =>
  bP (bd Q q 82 z82 [(0, 0, 1)] [x8]) fun x9 =>
  bS (bx q x9 G7) fun x10 G11 =>
  some (.tuple #[x10, (.int .i64 0)], G11))
theorem m32 {e : Ex} {E : Ev} (h : ExLe Q e E) (v0 : Value) (G : GS) : Ref (s32 true e v0 G) (s32 false (Ex.of E) v0 G) := by
  unfold s32
  repeat' (with_reducible first | exact Ref.rfl' _ | exact ROp.r | refine Ref.bP ?_ fun _ => ?_ | refine Ref.bS ?_ fun _ _ => ?_ | exact Ref.cl (by assumption) | refine Ref.ifV ?_ ?_ | refine LpLe.rx (by assumption) ?_ | refine Ref.xitq ?_ | exact UOk.z | refine UOk.c (by assumption) ?_ | exact Ref.nil _ | refine Ref.bVe fun _ _ => ?_ | refine Ref.bLq (by assumption) ?_ fun _ _ _ => ?_ | refine Ref.ifE ?_ ?_ | refine Ref.chk ?_ ?_ | refine Imp.and ?_ ?_ | refine Imp.or ?_ | exact Imp.rfl' _ | refine Imp.sameO ?_ | refine Ref.gd ?_ | exact Ref.cValue (by assumption) | refine Ref.bX ?_ fun _ _ _ => ?_ | exact Ref.scQ (by assumption) | exact Ref.xRangeQ (by assumption) | exact Ref.cInvoke (by assumption))
theorem f32 {orc : FuncId → Bool} {e : Ex} (h : ExLe Q e (E orc)) (v0 : Value) (G : GS) : Ref (s32 true e v0 G) ((E orc).cl 32 [v0] G) :=
  fun r hr => cl_sxE_some Q orc (vs := [v0]) G Try.func32 (by kernel_rfl) (by kernel_rfl) (by kernel_rfl) (by kernel_rfl) (by kernel_rfl) (m32 h v0 G r hr)
/-- coxswain/coxswainref04.New -/
noncomputable def s33 (q : Bool) (e : Ex) (v0 : Value) (G : GS) : Option (Value × GS) :=
  bP (bn Q q .lss 3 (.tmp 4) (.const (.int .i64 1)) v0 (.int .i64 1)) fun x0 =>
  bS (gd x0 false (some (v0, G)) G) fun x1 G2 =>
  bS (gd x0 false (bP (bn Q q .gtr 3 (.tmp 7) (.const (.int .i64 64)) x1 (.int .i64 64)) fun y => some (y, G2)) G2) fun x3 G4 =>
  bP (pickV x0 (.bool true) x3) fun x5 =>
  ifV x5 (
  some (.tuple #[(.pointer none), (.int .i64 3)], G4)) (
  bP (bd Q q 73 z73 [(0, 0, 1)] [v0]) fun x6 =>
  bS (bx q x6 G4) fun x7 G8 =>
  some (.tuple #[x7, (.int .i64 0)], G8))
theorem m33 {e : Ex} {E : Ev} (h : ExLe Q e E) (v0 : Value) (G : GS) : Ref (s33 true e v0 G) (s33 false (Ex.of E) v0 G) := by
  unfold s33
  repeat' (with_reducible first | exact Ref.rfl' _ | exact ROp.r | refine Ref.bP ?_ fun _ => ?_ | refine Ref.bS ?_ fun _ _ => ?_ | exact Ref.cl (by assumption) | refine Ref.ifV ?_ ?_ | refine LpLe.rx (by assumption) ?_ | refine Ref.xitq ?_ | exact UOk.z | refine UOk.c (by assumption) ?_ | exact Ref.nil _ | refine Ref.bVe fun _ _ => ?_ | refine Ref.bLq (by assumption) ?_ fun _ _ _ => ?_ | refine Ref.ifE ?_ ?_ | refine Ref.chk ?_ ?_ | refine Imp.and ?_ ?_ | refine Imp.or ?_ | exact Imp.rfl' _ | refine Imp.sameO ?_ | refine Ref.gd ?_ | exact Ref.cValue (by assumption) | refine Ref.bX ?_ fun _ _ _ => ?_ | exact Ref.scQ (by assumption) | exact Ref.xRangeQ (by assumption) | exact Ref.cInvoke (by assumption))
theorem f33 {orc : FuncId → Bool} {e : Ex} (h : ExLe Q e (E orc)) (v0 : Value) (G : GS) : Ref (s33 true e v0 G) ((E orc).cl 33 [v0] G) :=
  fun r hr => cl_sxE_some Q orc (vs := [v0]) G Try.func33 (by kernel_rfl) (by kernel_rfl) (by kernel_rfl) (by kernel_rfl) (by kernel_rfl) (m33 h v0 G r hr)
/-- (*coxswain/frame.Frame).Begin -/
noncomputable def s34 (q : Bool) (e : Ex) (v0 v1 v2 : Value) (G : GS) : Option (Value × GS) :=
  bS (e.ev.cl 62 [v0, v1] G) fun x0 G1 =>
  bP (bn Q q .neq 26 (.tmp 11) (.const (.int .i64 0)) x0 (.int .i64 0)) fun x2 =>
  ifV x2 (
  some (x0, G1)) (
  bP (pNil v0) fun x3 =>
  bP (fa Q q 82 0 0 x3) fun x4 =>
  bS (e.ev.cl 63 [x4, v1] G1) fun x5 G6 =>
  bP (ep Q q true 96 (.tmp 18) (.const (.pointer none)) x5 (.pointer none)) fun x7 =>
  ifV x7 (
  some ((.int .i64 14), G6)) (
  bP (pNil v0) fun x8 =>
  bP (fa Q q 82 0 0 x8) fun x9 =>
  bP (fa Q q 80 0 0 x9) fun x10 =>
  bP (ld Q q 78 x10 G6) fun x11 =>
  bP (bd Q q 87 z87 [(0, 0, 1), (1, 1, 1)] [v1, v2]) fun x12 =>
  bP (bd Q q 99 z99 [(0, 0, 3)] [x12]) fun x13 =>
  bS (bx q x13 G6) fun x14 G15 =>
  bP (ias Q q 78 1 x11 v1) fun x16 =>
  bP (st Q q 96 1 x16 x14 G15) fun G17 =>
  some ((.int .i64 0), G17)))
theorem m34 {e : Ex} {E : Ev} (h : ExLe Q e E) (v0 v1 v2 : Value) (G : GS) : Ref (s34 true e v0 v1 v2 G) (s34 false (Ex.of E) v0 v1 v2 G) := by
  unfold s34
  repeat' (with_reducible first | exact Ref.rfl' _ | exact ROp.r | refine Ref.bP ?_ fun _ => ?_ | refine Ref.bS ?_ fun _ _ => ?_ | exact Ref.cl (by assumption) | refine Ref.ifV ?_ ?_ | refine LpLe.rx (by assumption) ?_ | refine Ref.xitq ?_ | exact UOk.z | refine UOk.c (by assumption) ?_ | exact Ref.nil _ | refine Ref.bVe fun _ _ => ?_ | refine Ref.bLq (by assumption) ?_ fun _ _ _ => ?_ | refine Ref.ifE ?_ ?_ | refine Ref.chk ?_ ?_ | refine Imp.and ?_ ?_ | refine Imp.or ?_ | exact Imp.rfl' _ | refine Imp.sameO ?_ | refine Ref.gd ?_ | exact Ref.cValue (by assumption) | refine Ref.bX ?_ fun _ _ _ => ?_ | exact Ref.scQ (by assumption) | exact Ref.xRangeQ (by assumption) | exact Ref.cInvoke (by assumption))
theorem f34 {orc : FuncId → Bool} {e : Ex} (h : ExLe Q e (E orc)) (v0 v1 v2 : Value) (G : GS) : Ref (s34 true e v0 v1 v2 G) ((E orc).cl 34 [v0, v1, v2] G) :=
  fun r hr => cl_sxE_some Q orc (vs := [v0, v1, v2]) G Try.func34 (by kernel_rfl) (by kernel_rfl) (by kernel_rfl) (by kernel_rfl) (by kernel_rfl) (m34 h v0 v1 v2 G r hr)
instance ilp35_0 : LpIs Q 35 0 (subAt [1, 1, 1, 1, 0, 0, 0] (bodyOf Try.f35)) 70 := ⟨by kernel_rfl, by kernel_rfl⟩
noncomputable def b35_0 (q : Bool) (e : Ex) (lp : Env → GS → Option (Exit × Env × GS)) (τ : Env) (G : GS) : Option (Exit × Env × GS) :=
  bV q (τ 0) fun a0_ =>
  bV q (τ 1) fun a1_ =>
  bV q (τ 9) fun a9_ =>
  bP (pNil a0_) fun x0 =>
  bP (fa Q q 73 1 1 x0) fun x1 =>
  bP (ld Q q 67 x1 G) fun x2 =>
  bP (ln Q q 67 x2) fun x3 =>
  bP (bn Q q .lss 3 (.tmp 23) (.tmp 28) a9_ x3) fun x4 =>
  bS (gd x4 true (some (a0_, G)) G) fun x5 G6 =>
  bS (gd x4 true (bP (pNil x5) fun y => some (y, G6)) G6) fun x7 G8 =>
  bS (gd x4 true (bP (fa Q q 73 1 1 x7) fun y => some (y, G8)) G8) fun x9 G10 =>
  bS (gd x4 true (bP (ld Q q 67 x9 G10) fun y => some (y, G10)) G10) fun x11 G12 =>
  bS (gd x4 true (some (a9_, G12)) G12) fun x13 G14 =>
  bS (gd x4 true (bP (ias Q q 67 3 x11 x13) fun y => some (y, G14)) G14) fun x15 G16 =>
  bS (gd x4 true (bP (fa Q q 87 0 0 x15) fun y => some (y, G16)) G16) fun x17 G18 =>
  bS (gd x4 true (bP (ld Q q 3 x17 G18) fun y => some (y, G18)) G18) fun x19 G20 =>
  bS (gd x4 true (some (a1_, G20)) G20) fun x21 G22 =>
  bS (gd x4 true (bP (bn Q q .lss 3 (.tmp 38) (.tmp 39) x19 x21) fun y => some (y, G22)) G22) fun x23 G24 =>
  bP (pickV x4 x23 (.bool false)) fun x25 =>
  ifV x25 (
  bP (bn Q q .add 3 (.tmp 42) (.const (.int .i64 1)) a9_ (.int .i64 1)) fun x26 =>
  lp (xq q 70 τ [(9, x26), (43, x26), (42, a9_), (41, x25), (40, x23), (39, x21), (38, x19), (37, x17), (36, x15), (35, x13), (34, x11), (33, x9), (32, x7), (31, x5), (30, x4), (29, x4), (28, x3), (27, x2), (26, x1), (25, x0), (24, a0_), (23, a9_)] [(0, a0_), (1, a1_)]) G24) (
  some ((.exit 1), xq q 70 τ [(41, x25), (40, x23), (39, x21), (38, x19), (37, x17), (36, x15), (35, x13), (34, x11), (33, x9), (32, x7), (31, x5), (30, x4), (29, x4), (28, x3), (27, x2), (26, x1), (25, x0), (24, a0_), (23, a9_)] [(0, a0_), (1, a1_), (9, a9_)], G24))
theorem mb35_0 {e : Ex} {E : Ev} (h : ExLe Q e E) {lp lp' : Env → GS → Option (Exit × Env × GS)} (hlp : LpLe lp lp') (τ : Env) (G : GS) : Ref (b35_0 true e lp τ G) (b35_0 false (Ex.of E) lp' τ G) := by
  unfold b35_0
  repeat' (with_reducible first | exact Ref.rfl' _ | exact ROp.r | refine Ref.bP ?_ fun _ => ?_ | refine Ref.bS ?_ fun _ _ => ?_ | exact Ref.cl (by assumption) | refine Ref.ifV ?_ ?_ | refine LpLe.rx (by assumption) ?_ | refine Ref.xitq ?_ | exact UOk.z | refine UOk.c (by assumption) ?_ | exact Ref.nil _ | refine Ref.bVe fun _ _ => ?_ | refine Ref.bLq (by assumption) ?_ fun _ _ _ => ?_ | refine Ref.ifE ?_ ?_ | refine Ref.chk ?_ ?_ | refine Imp.and ?_ ?_ | refine Imp.or ?_ | exact Imp.rfl' _ | refine Imp.sameO ?_ | refine Ref.gd ?_ | exact Ref.cValue (by assumption) | refine Ref.bX ?_ fun _ _ _ => ?_ | exact Ref.scQ (by assumption) | exact Ref.xRangeQ (by assumption) | exact Ref.cInvoke (by assumption))
theorem l35_0 {orc : FuncId → Bool} {e : Ex} (h : ExLe Q e (E orc)) (lp : Env → GS → Option (Exit × Env × GS)) (hlp : ∀ τ G, Ref (lp τ G) (mapE ((E orc).lp (subAt [1, 1, 1, 1, 0, 0, 0] (bodyOf Try.f35)) (lst 70 τ) G))) (T : List Value) (G : GS) (hT : T.length = 70) : Ref (b35_0 true e lp (nth undef T) G) (mapE ((E orc).lp (subAt [1, 1, 1, 1, 0, 0, 0] (bodyOf Try.f35)) T G)) :=
  fun r hr => lp_sxN Q orc G hT (by kernel_rfl) (mb35_0 h ⟨hlp⟩ _ _ r hr)
/-- (*coxswain/coxswainref04.Frame).Begin -/
noncomputable def s35 (q : Bool) (e : Ex) (v0 v1 v2 : Value) (G : GS) : Option (Value × GS) :=
  bS (e.ev.cl 64 [v0, v1] G) fun x0 G1 =>
  bP (pExtract x0 0) fun x2 =>
  bP (pExtract x0 1) fun x3 =>
  bP (bn Q q .eql 26 (.tmp 17) (.const (.int .i64 0)) x3 (.int .i64 0)) fun x4 =>
  ifV x4 (
  some ((.int .i64 14), G1)) (
  bP (bn Q q .eql 26 (.tmp 17) (.const (.int .i64 3)) x3 (.int .i64 3)) fun x5 =>
  ifV x5 (
  some (x3, G1)) (
  bLq q e 35 0 (subAt [1, 1, 1, 1, 0, 0, 0] (bodyOf Try.f35)) 70 (nth undef [v0, v1, v2]) [(9, (.int .i64 0)), (20, x5), (21, x5), (18, x4), (19, x4), (17, x3), (8, x3), (7, x2), (16, x3), (15, x2), (11, x0), (14, x0), (13, v1), (12, v0), (6, (.int .i64 0))] [] G1 fun e6 t7 G8 =>
  bV q (t7 0) fun t7x0_ =>
  bV q (t7 1) fun t7x1_ =>
  bV q (t7 2) fun t7x2_ =>
  bV q (t7 9) fun t7x9_ =>
  ifE e6 (.exit 1) (
  bS (bs Q q 67 0 (rep z87 0) 3 [] [] G8) fun x9 G10 =>
  bP (pNil t7x0_) fun x11 =>
  bP (fa Q q 73 1 1 x11) fun x12 =>
  bP (ld Q q 67 x12 G10) fun x13 =>
  bP (sl Q q 67 3 x13 (some t7x9_) none none G10) fun x14 =>
  bS (ap Q q 67 67 3 24 x9 x14 G10) fun x15 G16 =>
  bS (bs Q q 67 0 (rep z87 0) 3 [] [] G16) fun x17 G18 =>
  bP (pNil t7x0_) fun x19 =>
  bP (fa Q q 73 1 1 x19) fun x20 =>
  bP (ld Q q 67 x20 G18) fun x21 =>
  bP (sl Q q 67 3 x21 none (some t7x9_) none G18) fun x22 =>
  bS (ap Q q 67 67 3 24 x17 x22 G18) fun x23 G24 =>
  bP (bd Q q 87 z87 [(0, 0, 1), (1, 1, 1)] [t7x1_, t7x2_]) fun x25 =>
  bS (bs Q q 67 1 (rep z87 1) 3 [(0, 0, 3)] [x25] G24) fun x26 G27 =>
  bS (ap Q q 67 67 3 24 x23 x26 G27) fun x28 G29 =>
  bS (ap Q q 67 67 3 24 x28 x15 G29) fun x30 G31 =>
  bP (pNil t7x0_) fun x32 =>
  bP (fa Q q 73 1 1 x32) fun x33 =>
  bP (st Q q 67 1 x33 x30 G31) fun G34 =>
  some ((.int .i64 0), G34)) (none)))
theorem m35 {e : Ex} {E : Ev} (h : ExLe Q e E) (v0 v1 v2 : Value) (G : GS) : Ref (s35 true e v0 v1 v2 G) (s35 false (Ex.of E) v0 v1 v2 G) := by
  unfold s35
  repeat' (with_reducible first | exact Ref.rfl' _ | exact ROp.r | refine Ref.bP ?_ fun _ => ?_ | refine Ref.bS ?_ fun _ _ => ?_ | exact Ref.cl (by assumption) | refine Ref.ifV ?_ ?_ | refine LpLe.rx (by assumption) ?_ | refine Ref.xitq ?_ | exact UOk.z | refine UOk.c (by assumption) ?_ | exact Ref.nil _ | refine Ref.bVe fun _ _ => ?_ | refine Ref.bLq (by assumption) ?_ fun _ _ _ => ?_ | refine Ref.ifE ?_ ?_ | refine Ref.chk ?_ ?_ | refine Imp.and ?_ ?_ | refine Imp.or ?_ | exact Imp.rfl' _ | refine Imp.sameO ?_ | refine Ref.gd ?_ | exact Ref.cValue (by assumption) | refine Ref.bX ?_ fun _ _ _ => ?_ | exact Ref.scQ (by assumption) | exact Ref.xRangeQ (by assumption) | exact Ref.cInvoke (by assumption))
theorem f35 {orc : FuncId → Bool} {e : Ex} (h : ExLe Q e (E orc)) (v0 v1 v2 : Value) (G : GS) : Ref (s35 true e v0 v1 v2 G) ((E orc).cl 35 [v0, v1, v2] G) :=
  fun r hr => cl_sxE_some Q orc (vs := [v0, v1, v2]) G Try.func35 (by kernel_rfl) (by kernel_rfl) (by kernel_rfl) (by kernel_rfl) (by kernel_rfl) (m35 h v0 v1 v2 G r hr)
/-- (*coxswain/frame.Frame).Step -/
noncomputable def s36 (q : Bool) (e : Ex) (v0 v1 : Value) (G : GS) : Option (Value × GS) :=
  bS (e.ev.cl 62 [v0, v1] G) fun x0 G1 =>
  bP (bn Q q .neq 26 (.tmp 10) (.const (.int .i64 0)) x0 (.int .i64 0)) fun x2 =>
  ifV x2 (
  some (x0, G1)) (
  bP (pNil v0) fun x3 =>
  bP (fa Q q 82 0 0 x3) fun x4 =>
  bS (e.ev.cl 63 [x4, v1] G1) fun x5 G6 =>
  bP (ep Q q false 96 (.tmp 18) (.const (.pointer none)) x5 (.pointer none)) fun x7 =>
  ifV x7 (
  some ((.int .i64 15), G6)) (
  bP (pNil x5) fun x8 =>
  bP (fa Q q 99 0 0 x8) fun x9 =>
  bP (fa Q q 87 2 2 x9) fun x10 =>
  bP (ld Q q 3 x10 G6) fun x11 =>
  bP (bn Q q .add 3 (.tmp 24) (.const (.int .i64 1)) x11 (.int .i64 1)) fun x12 =>
  bP (pNil x5) fun x13 =>
  bP (fa Q q 99 0 0 x13) fun x14 =>
  bP (fa Q q 87 2 2 x14) fun x15 =>
  bP (st Q q 3 1 x15 x12 G6) fun G16 =>
  bP (pNil v0) fun x17 =>
  bP (fa Q q 82 2 2 x17) fun x18 =>
  bP (ld Q q 3 x18 G16) fun x19 =>
  bP (bn Q q .add 3 (.tmp 32) (.const (.int .i64 1)) x19 (.int .i64 1)) fun x20 =>
  bP (pNil v0) fun x21 =>
  bP (fa Q q 82 2 2 x21) fun x22 =>
  bP (st Q q 3 1 x22 x20 G16) fun G23 =>
  some ((.int .i64 0), G23)))
theorem m36 {e : Ex} {E : Ev} (h : ExLe Q e E) (v0 v1 : Value) (G : GS) : Ref (s36 true e v0 v1 G) (s36 false (Ex.of E) v0 v1 G) := by
  unfold s36
  repeat' (with_reducible first | exact Ref.rfl' _ | exact ROp.r | refine Ref.bP ?_ fun _ => ?_ | refine Ref.bS ?_ fun _ _ => ?_ | exact Ref.cl (by assumption) | refine Ref.ifV ?_ ?_ | refine LpLe.rx (by assumption) ?_ | refine Ref.xitq ?_ | exact UOk.z | refine UOk.c (by assumption) ?_ | exact Ref.nil _ | refine Ref.bVe fun _ _ => ?_ | refine Ref.bLq (by assumption) ?_ fun _ _ _ => ?_ | refine Ref.ifE ?_ ?_ | refine Ref.chk ?_ ?_ | refine Imp.and ?_ ?_ | refine Imp.or ?_ | exact Imp.rfl' _ | refine Imp.sameO ?_ | refine Ref.gd ?_ | exact Ref.cValue (by assumption) | refine Ref.bX ?_ fun _ _ _ => ?_ | exact Ref.scQ (by assumption) | exact Ref.xRangeQ (by assumption) | exact Ref.cInvoke (by assumption))
theorem f36 {orc : FuncId → Bool} {e : Ex} (h : ExLe Q e (E orc)) (v0 v1 : Value) (G : GS) : Ref (s36 true e v0 v1 G) ((E orc).cl 36 [v0, v1] G) :=
  fun r hr => cl_sxE_some Q orc (vs := [v0, v1]) G Try.func36 (by kernel_rfl) (by kernel_rfl) (by kernel_rfl) (by kernel_rfl) (by kernel_rfl) (m36 h v0 v1 G r hr)
/-- (*coxswain/coxswainref04.Frame).Step -/
noncomputable def s37 (q : Bool) (e : Ex) (v0 v1 : Value) (G : GS) : Option (Value × GS) :=
  bS (e.ev.cl 64 [v0, v1] G) fun x0 G1 =>
  bP (pExtract x0 0) fun x2 =>
  bP (pExtract x0 1) fun x3 =>
  bP (bn Q q .eql 26 (.tmp 13) (.const (.int .i64 0)) x3 (.int .i64 0)) fun x4 =>
  ifV x4 (
  bP (pNil v0) fun x5 =>
  bP (fa Q q 73 1 1 x5) fun x6 =>
  bP (ld Q q 67 x6 G1) fun x7 =>
  bP (ias Q q 67 3 x7 x2) fun x8 =>
  bP (fa Q q 87 2 2 x8) fun x9 =>
  bP (ld Q q 3 x9 G1) fun x10 =>
  bP (bn Q q .add 3 (.tmp 22) (.const (.int .i64 1)) x10 (.int .i64 1)) fun x11 =>
  bP (ias Q q 67 3 x7 x2) fun x12 =>
  bP (fa Q q 87 2 2 x12) fun x13 =>
  bP (st Q q 3 1 x13 x11 G1) fun G14 =>
  bP (pNil v0) fun x15 =>
  bP (fa Q q 73 3 3 x15) fun x16 =>
  bP (ld Q q 3 x16 G14) fun x17 =>
  bP (bn Q q .add 3 (.tmp 29) (.const (.int .i64 1)) x17 (.int .i64 1)) fun x18 =>
  bP (pNil v0) fun x19 =>
  bP (fa Q q 73 3 3 x19) fun x20 =>
  bP (st Q q 3 1 x20 x18 G14) fun G21 =>
  some (x3, G21)) (
  some (x3, G1))
theorem m37 {e : Ex} {E : Ev} (h : ExLe Q e E) (v0 v1 : Value) (G : GS) : Ref (s37 true e v0 v1 G) (s37 false (Ex.of E) v0 v1 G) := by
  unfold s37
  repeat' (with_reducible first | exact Ref.rfl' _ | exact ROp.r | refine Ref.bP ?_ fun _ => ?_ | refine Ref.bS ?_ fun _ _ => ?_ | exact Ref.cl (by assumption) | refine Ref.ifV ?_ ?_ | refine LpLe.rx (by assumption) ?_ | refine Ref.xitq ?_ | exact UOk.z | refine UOk.c (by assumption) ?_ | exact Ref.nil _ | refine Ref.bVe fun _ _ => ?_ | refine Ref.bLq (by assumption) ?_ fun _ _ _ => ?_ | refine Ref.ifE ?_ ?_ | refine Ref.chk ?_ ?_ | refine Imp.and ?_ ?_ | refine Imp.or ?_ | exact Imp.rfl' _ | refine Imp.sameO ?_ | refine Ref.gd ?_ | exact Ref.cValue (by assumption) | refine Ref.bX ?_ fun _ _ _ => ?_ | exact Ref.scQ (by assumption) | exact Ref.xRangeQ (by assumption) | exact Ref.cInvoke (by assumption))
theorem f37 {orc : FuncId → Bool} {e : Ex} (h : ExLe Q e (E orc)) (v0 v1 : Value) (G : GS) : Ref (s37 true e v0 v1 G) ((E orc).cl 37 [v0, v1] G) :=
  fun r hr => cl_sxE_some Q orc (vs := [v0, v1]) G Try.func37 (by kernel_rfl) (by kernel_rfl) (by kernel_rfl) (by kernel_rfl) (by kernel_rfl) (m37 h v0 v1 G r hr)
/-- (*coxswain/frame.Frame).End -/
noncomputable def s38 (q : Bool) (e : Ex) (v0 v1 : Value) (G : GS) : Option (Value × GS) :=
  bS (e.ev.cl 62 [v0, v1] G) fun x0 G1 =>
  bP (bn Q q .neq 26 (.tmp 10) (.const (.int .i64 0)) x0 (.int .i64 0)) fun x2 =>
  ifV x2 (
  some (x0, G1)) (
  bP (pNil v0) fun x3 =>
  bP (fa Q q 82 0 0 x3) fun x4 =>
  bS (e.ev.cl 63 [x4, v1] G1) fun x5 G6 =>
  bP (ep Q q false 96 (.tmp 18) (.const (.pointer none)) x5 (.pointer none)) fun x7 =>
  ifV x7 (
  some ((.int .i64 15), G6)) (
  bP (pNil v0) fun x8 =>
  bP (fa Q q 82 1 1 x8) fun x9 =>
  bP (ld Q q 67 x9 (G6.room 14)) fun x10 =>
  bP (pNil x5) fun x11 =>
  bP (fa Q q 99 0 0 x11) fun x12 =>
  bP (lda Q q 87 3 x12 (G6.room 14)) fun x13 =>
  bS (bs Q q 67 1 (rep z87 1) 3 [(0, 0, 3)] [x13] ((G6.room 14).at' (G6.nx + 9))) fun x14 G15 =>
  bS (ap Q q 67 67 3 24 x10 x14 (G15.back (G6.room 14))) fun x17 G16 =>
  bP (pNil v0) fun x18 =>
  bP (fa Q q 82 1 1 x18) fun x19 =>
  bP (st Q q 67 1 x19 x17 G16) fun G20 =>
  bP (pNil v0) fun x21 =>
  bP (fa Q q 82 0 0 x21) fun x22 =>
  bP (fa Q q 80 0 0 x22) fun x23 =>
  bP (ld Q q 78 x23 G20) fun x24 =>
  bP (ias Q q 78 1 x24 v1) fun x25 =>
  bP (st Q q 96 1 x25 (.pointer none) G20) fun G26 =>
  some ((.int .i64 0), G26)))
theorem m38 {e : Ex} {E : Ev} (h : ExLe Q e E) (v0 v1 : Value) (G : GS) : Ref (s38 true e v0 v1 G) (s38 false (Ex.of E) v0 v1 G) := by
  unfold s38
  repeat' (with_reducible first | exact Ref.rfl' _ | exact ROp.r | refine Ref.bP ?_ fun _ => ?_ | refine Ref.bS ?_ fun _ _ => ?_ | exact Ref.cl (by assumption) | refine Ref.ifV ?_ ?_ | refine LpLe.rx (by assumption) ?_ | refine Ref.xitq ?_ | exact UOk.z | refine UOk.c (by assumption) ?_ | exact Ref.nil _ | refine Ref.bVe fun _ _ => ?_ | refine Ref.bLq (by assumption) ?_ fun _ _ _ => ?_ | refine Ref.ifE ?_ ?_ | refine Ref.chk ?_ ?_ | refine Imp.and ?_ ?_ | refine Imp.or ?_ | exact Imp.rfl' _ | refine Imp.sameO ?_ | refine Ref.gd ?_ | exact Ref.cValue (by assumption) | refine Ref.bX ?_ fun _ _ _ => ?_ | exact Ref.scQ (by assumption) | exact Ref.xRangeQ (by assumption) | exact Ref.cInvoke (by assumption))
theorem f38 {orc : FuncId → Bool} {e : Ex} (h : ExLe Q e (E orc)) (v0 v1 : Value) (G : GS) : Ref (s38 true e v0 v1 G) ((E orc).cl 38 [v0, v1] G) :=
  fun r hr => cl_sxE_some Q orc (vs := [v0, v1]) G Try.func38 (by kernel_rfl) (by kernel_rfl) (by kernel_rfl) (by kernel_rfl) (by kernel_rfl) (m38 h v0 v1 G r hr)
/-- (*coxswain/coxswainref04.Frame).End -/
noncomputable def s39 (q : Bool) (e : Ex) (v0 v1 : Value) (G : GS) : Option (Value × GS) :=
  bS (e.ev.cl 64 [v0, v1] G) fun x0 G1 =>
  bP (pExtract x0 0) fun x2 =>
  bP (pExtract x0 1) fun x3 =>
  bP (bn Q q .eql 26 (.tmp 13) (.const (.int .i64 0)) x3 (.int .i64 0)) fun x4 =>
  ifV x4 (
  bP (pNil v0) fun x5 =>
  bP (fa Q q 73 2 2 x5) fun x6 =>
  bP (ld Q q 67 x6 (G1.room 17)) fun x7 =>
  bP (pNil v0) fun x8 =>
  bP (fa Q q 73 1 1 x8) fun x9 =>
  bP (ld Q q 67 x9 (G1.room 17)) fun x10 =>
  bP (ias Q q 67 3 x10 x2) fun x11 =>
  bP (lda Q q 87 3 x11 (G1.room 17)) fun x12 =>
  bS (bs Q q 67 1 (rep z87 1) 3 [(0, 0, 3)] [x12] ((G1.room 17).at' (G1.nx + 12))) fun x13 G14 =>
  bS (ap Q q 67 67 3 24 x7 x13 (G14.back (G1.room 17))) fun x16 G15 =>
  bP (pNil v0) fun x17 =>
  bP (fa Q q 73 2 2 x17) fun x18 =>
  bP (st Q q 67 1 x18 x16 G15) fun G19 =>
  bS (bs Q q 67 0 (rep z87 0) 3 [] [] ((G19.room 20).at' (G19.nx + 1))) fun x20 G21 =>
  bP (pNil v0) fun x22 =>
  bP (fa Q q 73 1 1 x22) fun x23 =>
  bP (ld Q q 67 x23 (G21.back (G19.room 20))) fun x24 =>
  bP (sl Q q 67 3 x24 none (some x2) none (G21.back (G19.room 20))) fun x25 =>
  bS (ap Q q 67 67 3 24 x20 x25 (G21.back (G19.room 20))) fun x27 G26 =>
  bP (pNil v0) fun x28 =>
  bP (fa Q q 73 1 1 x28) fun x29 =>
  bP (ld Q q 67 x29 G26) fun x30 =>
  chk ((sameO (ld Q q 67 x29 (G21.back (G19.room 20))) x30 && true)) <|
  bP (bn Q q .add 3 (.tmp 44) (.const (.int .i64 1)) x2 (.int .i64 1)) fun x31 =>
  bP (sl Q q 67 3 x30 (some x31) none none G26) fun x32 =>
  chk ((sameO (sl Q q 67 3 x30 (some x31) none none (G21.back (G19.room 20))) x32 && true)) <|
  bS (ap Q q 67 67 3 24 x27 x32 G26) fun x34 G33 =>
  bP (pNil v0) fun x35 =>
  bP (fa Q q 73 1 1 x35) fun x36 =>
  bP (st Q q 67 1 x36 x34 G33) fun G37 =>
  some (x3, G37)) (
  some (x3, G1))
theorem m39 {e : Ex} {E : Ev} (h : ExLe Q e E) (v0 v1 : Value) (G : GS) : Ref (s39 true e v0 v1 G) (s39 false (Ex.of E) v0 v1 G) := by
  unfold s39
  repeat' (with_reducible first | exact Ref.rfl' _ | exact ROp.r | refine Ref.bP ?_ fun _ => ?_ | refine Ref.bS ?_ fun _ _ => ?_ | exact Ref.cl (by assumption) | refine Ref.ifV ?_ ?_ | refine LpLe.rx (by assumption) ?_ | refine Ref.xitq ?_ | exact UOk.z | refine UOk.c (by assumption) ?_ | exact Ref.nil _ | refine Ref.bVe fun _ _ => ?_ | refine Ref.bLq (by assumption) ?_ fun _ _ _ => ?_ | refine Ref.ifE ?_ ?_ | refine Ref.chk ?_ ?_ | refine Imp.and ?_ ?_ | refine Imp.or ?_ | exact Imp.rfl' _ | refine Imp.sameO ?_ | refine Ref.gd ?_ | exact Ref.cValue (by assumption) | refine Ref.bX ?_ fun _ _ _ => ?_ | exact Ref.scQ (by assumption) | exact Ref.xRangeQ (by assumption) | exact Ref.cInvoke (by assumption))
theorem f39 {orc : FuncId → Bool} {e : Ex} (h : ExLe Q e (E orc)) (v0 v1 : Value) (G : GS) : Ref (s39 true e v0 v1 G) ((E orc).cl 39 [v0, v1] G) :=
  fun r hr => cl_sxE_some Q orc (vs := [v0, v1]) G Try.func39 (by kernel_rfl) (by kernel_rfl) (by kernel_rfl) (by kernel_rfl) (by kernel_rfl) (m39 h v0 v1 G r hr)
/-- (*coxswain/frame.Frame).What -/
noncomputable def s40 (q : Bool) (e : Ex) (v0 v1 : Value) (G : GS) : Option (Value × GS) :=
  bS (e.ev.cl 65 [v0, v1] G) fun x0 G1 =>
  bP (ep Q q false 96 (.tmp 10) (.const (.pointer none)) x0 (.pointer none)) fun x2 =>
  ifV x2 (
  some (.tuple #[(.int .i64 0), (.bool false)], G1)) (
  bP (pNil x0) fun x3 =>
  bP (fa Q q 99 0 0 x3) fun x4 =>
  bP (fa Q q 87 1 1 x4) fun x5 =>
  bP (ld Q q 3 x5 G1) fun x6 =>
  some (.tuple #[x6, (.bool true)], G1))
theorem m40 {e : Ex} {E : Ev} (h : ExLe Q e E) (v0 v1 : Value) (G : GS) : Ref (s40 true e v0 v1 G) (s40 false (Ex.of E) v0 v1 G) := by
  unfold s40
  repeat' (with_reducible first | exact Ref.rfl' _ | exact ROp.r | refine Ref.bP ?_ fun _ => ?_ | refine Ref.bS ?_ fun _ _ => ?_ | exact Ref.cl (by assumption) | refine Ref.ifV ?_ ?_ | refine LpLe.rx (by assumption) ?_ | refine Ref.xitq ?_ | exact UOk.z | refine UOk.c (by assumption) ?_ | exact Ref.nil _ | refine Ref.bVe fun _ _ => ?_ | refine Ref.bLq (by assumption) ?_ fun _ _ _ => ?_ | refine Ref.ifE ?_ ?_ | refine Ref.chk ?_ ?_ | refine Imp.and ?_ ?_ | refine Imp.or ?_ | exact Imp.rfl' _ | refine Imp.sameO ?_ | refine Ref.gd ?_ | exact Ref.cValue (by assumption) | refine Ref.bX ?_ fun _ _ _ => ?_ | exact Ref.scQ (by assumption) | exact Ref.xRangeQ (by assumption) | exact Ref.cInvoke (by assumption))
theorem f40 {orc : FuncId → Bool} {e : Ex} (h : ExLe Q e (E orc)) (v0 v1 : Value) (G : GS) : Ref (s40 true e v0 v1 G) ((E orc).cl 40 [v0, v1] G) :=
  fun r hr => cl_sxE_some Q orc (vs := [v0, v1]) G Try.func40 (by kernel_rfl) (by kernel_rfl) (by kernel_rfl) (by kernel_rfl) (by kernel_rfl) (m40 h v0 v1 G r hr)
/-- (*coxswain/coxswainref04.Frame).Of -/
noncomputable def s41 (q : Bool) (e : Ex) (v0 v1 : Value) (G : GS) : Option (Value × GS) :=
  bS (e.ev.cl 64 [v0, v1] G) fun x0 G1 =>
  bP (pExtract x0 0) fun x2 =>
  bP (pExtract x0 1) fun x3 =>
  bP (bn Q q .neq 26 (.tmp 15) (.const (.int .i64 0)) x3 (.int .i64 0)) fun x4 =>
  ifV x4 (
  some (.tuple #[(.int .i64 0), (.int .i64 0), (.bool false)], G1)) (
  bP (pNil v0) fun x5 =>
  bP (fa Q q 73 1 1 x5) fun x6 =>
  bP (ld Q q 67 x6 (G1.room 19)) fun x7 =>
  bP (ias Q q 67 3 x7 x2) fun x8 =>
  bP (fa Q q 87 1 1 x8) fun x9 =>
  bP (ld Q q 3 x9 (G1.room 19)) fun x10 =>
  bP (pNil v0) fun x11 =>
  bP (fa Q q 73 1 1 x11) fun x12 =>
  bP (ld Q q 67 x12 (G1.room 19)) fun x13 =>
  bP (ias Q q 67 3 x13 x2) fun x14 =>
  bP (fa Q q 87 2 2 x14) fun x15 =>
  bP (ld Q q 3 x15 (G1.room 19)) fun x16 =>
  some (.tuple #[x10, x16, (.bool true)], (G1.room 19)))
theorem m41 {e : Ex} {E : Ev} (h : ExLe Q e E) (v0 v1 : Value) (G : GS) : Ref (s41 true e v0 v1 G) (s41 false (Ex.of E) v0 v1 G) := by
  unfold s41
  repeat' (with_reducible first | exact Ref.rfl' _ | exact ROp.r | refine Ref.bP ?_ fun _ => ?_ | refine Ref.bS ?_ fun _ _ => ?_ | exact Ref.cl (by assumption) | refine Ref.ifV ?_ ?_ | refine LpLe.rx (by assumption) ?_ | refine Ref.xitq ?_ | exact UOk.z | refine UOk.c (by assumption) ?_ | exact Ref.nil _ | refine Ref.bVe fun _ _ => ?_ | refine Ref.bLq (by assumption) ?_ fun _ _ _ => ?_ | refine Ref.ifE ?_ ?_ | refine Ref.chk ?_ ?_ | refine Imp.and ?_ ?_ | refine Imp.or ?_ | exact Imp.rfl' _ | refine Imp.sameO ?_ | refine Ref.gd ?_ | exact Ref.cValue (by assumption) | refine Ref.bX ?_ fun _ _ _ => ?_ | exact Ref.scQ (by assumption) | exact Ref.xRangeQ (by assumption) | exact Ref.cInvoke (by assumption))
theorem f41 {orc : FuncId → Bool} {e : Ex} (h : ExLe Q e (E orc)) (v0 v1 : Value) (G : GS) : Ref (s41 true e v0 v1 G) ((E orc).cl 41 [v0, v1] G) :=
  fun r hr => cl_sxE_some Q orc (vs := [v0, v1]) G Try.func41 (by kernel_rfl) (by kernel_rfl) (by kernel_rfl) (by kernel_rfl) (by kernel_rfl) (m41 h v0 v1 G r hr)
/-- (*coxswain/frame.Frame).Busy -/
noncomputable def s42 (q : Bool) (e : Ex) (v0 : Value) (G : GS) : Option (Value × GS) :=
  bS (al Q q 65 z65 G) fun x0 G1 =>
  bP (ep Q q false 52 (.tmp 5) (.const (.pointer none)) v0 (.pointer none)) fun x2 =>
  ifV x2 (
  bP (ld Q q 65 x0 G1) fun x3 =>
  some (x3, G1)) (
  bP (pNil v0) fun x4 =>
  bP (fa Q q 82 0 0 x4) fun x5 =>
  bS (e.ev.cl 66 [x5] G1) fun x6 G7 =>
  bX (xRange e.ev x6 #[12, 13] (subAt [1, 1, 1, 0, 1, 0, 0] (bodyOf Try.f42)) (subAt [1, 1, 1, 0, 1, 0, 1] (bodyOf Try.f42)) (lsq q 19 (nth undef [v0]) [(11, x6), (10, x5), (9, x4), (8, v0), (6, x2), (5, v0), (3, x0), (2, (.slice none 0 0))]) G7) fun e8 T9 G10 =>
  bV q (nth undef T9 3) fun T9x3_ =>
  ifE e8 .normal (
  bP (ld Q q 65 T9x3_ G10) fun x11 =>
  some (x11, G10)) (none))
theorem m42 {e : Ex} {E : Ev} (h : ExLe Q e E) (v0 : Value) (G : GS) : Ref (s42 true e v0 G) (s42 false (Ex.of E) v0 G) := by
  unfold s42
  repeat' (with_reducible first | exact Ref.rfl' _ | exact ROp.r | refine Ref.bP ?_ fun _ => ?_ | refine Ref.bS ?_ fun _ _ => ?_ | exact Ref.cl (by assumption) | refine Ref.ifV ?_ ?_ | refine LpLe.rx (by assumption) ?_ | refine Ref.xitq ?_ | exact UOk.z | refine UOk.c (by assumption) ?_ | exact Ref.nil _ | refine Ref.bVe fun _ _ => ?_ | refine Ref.bLq (by assumption) ?_ fun _ _ _ => ?_ | refine Ref.ifE ?_ ?_ | refine Ref.chk ?_ ?_ | refine Imp.and ?_ ?_ | refine Imp.or ?_ | exact Imp.rfl' _ | refine Imp.sameO ?_ | refine Ref.gd ?_ | exact Ref.cValue (by assumption) | refine Ref.bX ?_ fun _ _ _ => ?_ | exact Ref.scQ (by assumption) | exact Ref.xRangeQ (by assumption) | exact Ref.cInvoke (by assumption))
theorem f42 {orc : FuncId → Bool} {e : Ex} (h : ExLe Q e (E orc)) (v0 : Value) (G : GS) : Ref (s42 true e v0 G) ((E orc).cl 42 [v0] G) :=
  fun r hr => cl_sxE_some Q orc (vs := [v0]) G Try.func42 (by kernel_rfl) (by kernel_rfl) (by kernel_rfl) (by kernel_rfl) (by kernel_rfl) (m42 h v0 G r hr)
noncomputable def r42_0 (q : Bool) (e : Ex) (l : Nat) (τ : Env) (u0 u1 : Value) (G : GS) : Option (Value × GS) :=
  bV q (τ 3) fun a3_ =>
  bP (G.loop l) fun r0 => if r0.st = .ready then
  bP (ld Q q 65 a3_ (G.putLoop l (Lp.setSt r0 .busy))) fun x1 =>
  bS (bs Q q 65 1 (rep z3 1) 1 [(0, 0, 1)] [u0] (G.putLoop l (Lp.setSt r0 .busy))) fun x2 G3 =>
  bS (ap Q q 65 65 1 8 x1 x2 G3) fun x4 G5 =>
  bP (st Q q 65 1 a3_ x4 G5) fun G6 =>
  roundEnd l .normal G6
  else none
theorem mr42_0 {e : Ex} {E : Ev} (h : ExLe Q e E) (l : Nat) (τ : Env) (u0 u1 : Value) (G : GS) : Ref (r42_0 true e l τ u0 u1 G) (r42_0 false (Ex.of E) l τ u0 u1 G) := by
  unfold r42_0
  repeat' (with_reducible first | exact Ref.rfl' _ | exact ROp.r | refine Ref.bP ?_ fun _ => ?_ | refine Ref.bS ?_ fun _ _ => ?_ | exact Ref.cl (by assumption) | refine Ref.ifV ?_ ?_ | refine LpLe.rx (by assumption) ?_ | refine Ref.xitq ?_ | exact UOk.z | refine UOk.c (by assumption) ?_ | exact Ref.nil _ | refine Ref.bVe fun _ _ => ?_ | refine Ref.bLq (by assumption) ?_ fun _ _ _ => ?_ | refine Ref.ifE ?_ ?_ | refine Ref.chk ?_ ?_ | refine Imp.and ?_ ?_ | refine Imp.or ?_ | exact Imp.rfl' _ | refine Imp.sameO ?_ | refine Ref.gd ?_ | exact Ref.cValue (by assumption) | refine Ref.bX ?_ fun _ _ _ => ?_ | exact Ref.scQ (by assumption) | exact Ref.xRangeQ (by assumption) | exact Ref.cInvoke (by assumption) | refine Ref.rdy ?_)
theorem d42_0 {orc : FuncId → Bool} {e : Ex} (h : ExLe Q e (E orc)) (l : Nat) (T : List Value) (u0 u1 : Value) (G : GS) {st : LoopState} {pend : Option Code} (hl : G.loop l = some ⟨st, pend, T, [12, 13], (subAt [1, 1, 1, 0, 1, 0, 0] (bodyOf Try.f42)), (subAt [1, 1, 1, 0, 1, 0, 1] (bodyOf Try.f42))⟩) (hT : T.length = 19) : Ref (r42_0 true e l (nth undef T) u0 u1 G) ((E orc).rd l [u0, u1] G) :=
  fun r hr => rd_sxE Q orc hl (by kernel_rfl) hT (by kernel_rfl) (mr42_0 h l _ u0 u1 G r hr)
/-- (*coxswain/frame.Frame).Deeds -/
noncomputable def s43 (q : Bool) (e : Ex) (v0 : Value) (G : GS) : Option (Value × GS) :=
  bP (ep Q q false 52 (.tmp 3) (.const (.pointer none)) v0 (.pointer none)) fun x0 =>
  ifV x0 (
  some ((.slice none 0 0), G)) (
  bP (pNil v0) fun x1 =>
  bP (fa Q q 82 1 1 x1) fun x2 =>
  bP (ld Q q 67 x2 G) fun x3 =>
  bS (ap Q q 67 67 3 24 (.slice none 0 0) x3 G) fun x4 G5 =>
  some (x4, G5))
theorem m43 {e : Ex} {E : Ev} (h : ExLe Q e E) (v0 : Value) (G : GS) : Ref (s43 true e v0 G) (s43 false (Ex.of E) v0 G) := by
  unfold s43
  repeat' (with_reducible first | exact Ref.rfl' _ | exact ROp.r | refine Ref.bP ?_ fun _ => ?_ | refine Ref.bS ?_ fun _ _ => ?_ | exact Ref.cl (by assumption) | refine Ref.ifV ?_ ?_ | refine LpLe.rx (by assumption) ?_ | refine Ref.xitq ?_ | exact UOk.z | refine UOk.c (by assumption) ?_ | exact Ref.nil _ | refine Ref.bVe fun _ _ => ?_ | refine Ref.bLq (by assumption) ?_ fun _ _ _ => ?_ | refine Ref.ifE ?_ ?_ | refine Ref.chk ?_ ?_ | refine Imp.and ?_ ?_ | refine Imp.or ?_ | exact Imp.rfl' _ | refine Imp.sameO ?_ | refine Ref.gd ?_ | exact Ref.cValue (by assumption) | refine Ref.bX ?_ fun _ _ _ => ?_ | exact Ref.scQ (by assumption) | exact Ref.xRangeQ (by assumption) | exact Ref.cInvoke (by assumption))
theorem f43 {orc : FuncId → Bool} {e : Ex} (h : ExLe Q e (E orc)) (v0 : Value) (G : GS) : Ref (s43 true e v0 G) ((E orc).cl 43 [v0] G) :=
  fun r hr => cl_sxE_some Q orc (vs := [v0]) G Try.func43 (by kernel_rfl) (by kernel_rfl) (by kernel_rfl) (by kernel_rfl) (by kernel_rfl) (m43 h v0 G r hr)
/-- (*coxswain/frame.Frame).Steps -/
noncomputable def s44 (q : Bool) (e : Ex) (v0 v1 : Value) (G : GS) : Option (Value × GS) :=
  bS (e.ev.cl 65 [v0, v1] G) fun x0 G1 =>
  bP (ep Q q false 96 (.tmp 9) (.const (.pointer none)) x0 (.pointer none)) fun x2 =>
  ifV x2 (
  some ((.int .i64 0), G1)) (
  bP (pNil x0) fun x3 =>
  bP (fa Q q 99 0 0 x3) fun x4 =>
  bP (fa Q q 87 2 2 x4) fun x5 =>
  bP (ld Q q 3 x5 G1) fun x6 =>
  some (x6, G1))
theorem m44 {e : Ex} {E : Ev} (h : ExLe Q e E) (v0 v1 : Value) (G : GS) : Ref (s44 true e v0 v1 G) (s44 false (Ex.of E) v0 v1 G) := by
  unfold s44
  repeat' (with_reducible first | exact Ref.rfl' _ | exact ROp.r | refine Ref.bP ?_ fun _ => ?_ | refine Ref.bS ?_ fun _ _ => ?_ | exact Ref.cl (by assumption) | refine Ref.ifV ?_ ?_ | refine LpLe.rx (by assumption) ?_ | refine Ref.xitq ?_ | exact UOk.z | refine UOk.c (by assumption) ?_ | exact Ref.nil _ | refine Ref.bVe fun _ _ => ?_ | refine Ref.bLq (by assumption) ?_ fun _ _ _ => ?_ | refine Ref.ifE ?_ ?_ | refine Ref.chk ?_ ?_ | refine Imp.and ?_ ?_ | refine Imp.or ?_ | exact Imp.rfl' _ | refine Imp.sameO ?_ | refine Ref.gd ?_ | exact Ref.cValue (by assumption) | refine Ref.bX ?_ fun _ _ _ => ?_ | exact Ref.scQ (by assumption) | exact Ref.xRangeQ (by assumption) | exact Ref.cInvoke (by assumption))
theorem f44 {orc : FuncId → Bool} {e : Ex} (h : ExLe Q e (E orc)) (v0 v1 : Value) (G : GS) : Ref (s44 true e v0 v1 G) ((E orc).cl 44 [v0, v1] G) :=
  fun r hr => cl_sxE_some Q orc (vs := [v0, v1]) G Try.func44 (by kernel_rfl) (by kernel_rfl) (by kernel_rfl) (by kernel_rfl) (by kernel_rfl) (m44 h v0 v1 G r hr)
instance ilp45_0 : LpIs Q 45 0 (subAt [1, 1, 0, 1, 0, 0] (bodyOf Try.f45)) 31 := ⟨by kernel_rfl, by kernel_rfl⟩
noncomputable def b45_0 (q : Bool) (e : Ex) (lp : Env → GS → Option (Exit × Env × GS)) (τ : Env) (G : GS) : Option (Exit × Env × GS) :=
  bV q (τ 0) fun a0_ =>
  bV q (τ 1) fun a1_ =>
  bV q (τ 5) fun a5_ =>
  bV q (τ 6) fun a6_ =>
  bS (gd a5_ true (some (a6_, G)) G) fun x0 G1 =>
  bS (gd a5_ true (some (a0_, G1)) G1) fun x2 G3 =>
  bS (gd a5_ true (bP (ln Q q 65 x2) fun y => some (y, G3)) G3) fun x4 G5 =>
  bS (gd a5_ true (bP (bn Q q .lss 3 (.tmp 14) (.tmp 16) x0 x4) fun y => some (y, G5)) G5) fun x6 G7 =>
  bP (pickV a5_ x6 (.bool false)) fun x8 =>
  ifV x8 (
  bP (ias Q q 65 1 a0_ a6_) fun x9 =>
  bP (ld Q q 3 x9 (G7.room 10)) fun x10 =>
  bP (ias Q q 65 1 a1_ a6_) fun x11 =>
  bP (ld Q q 3 x11 (G7.room 10)) fun x12 =>
  bP (bn Q q .eql 3 (.tmp 24) (.tmp 28) x10 x12) fun x13 =>
  bP (bn Q q .add 3 (.tmp 19) (.const (.int .i64 1)) a6_ (.int .i64 1)) fun x14 =>
  lp (xq q 31 τ [(6, x14), (20, x14), (19, a6_), (5, x13), (29, x13), (28, x12), (27, x11), (26, a6_), (25, a1_), (24, x10), (23, x9), (22, a6_), (21, a0_), (18, x8), (17, x6), (16, x4), (15, x2), (14, x0), (13, a5_), (12, a5_)] [(0, a0_), (1, a1_)]) (G7.room 10)) (
  some ((.exit 0), xq q 31 τ [(18, x8), (17, x6), (16, x4), (15, x2), (14, x0), (13, a5_), (12, a5_)] [(0, a0_), (1, a1_), (5, a5_), (6, a6_)], G7))
theorem mb45_0 {e : Ex} {E : Ev} (h : ExLe Q e E) {lp lp' : Env → GS → Option (Exit × Env × GS)} (hlp : LpLe lp lp') (τ : Env) (G : GS) : Ref (b45_0 true e lp τ G) (b45_0 false (Ex.of E) lp' τ G) := by
  unfold b45_0
  repeat' (with_reducible first | exact Ref.rfl' _ | exact ROp.r | refine Ref.bP ?_ fun _ => ?_ | refine Ref.bS ?_ fun _ _ => ?_ | exact Ref.cl (by assumption) | refine Ref.ifV ?_ ?_ | refine LpLe.rx (by assumption) ?_ | refine Ref.xitq ?_ | exact UOk.z | refine UOk.c (by assumption) ?_ | exact Ref.nil _ | refine Ref.bVe fun _ _ => ?_ | refine Ref.bLq (by assumption) ?_ fun _ _ _ => ?_ | refine Ref.ifE ?_ ?_ | refine Ref.chk ?_ ?_ | refine Imp.and ?_ ?_ | refine Imp.or ?_ | exact Imp.rfl' _ | refine Imp.sameO ?_ | refine Ref.gd ?_ | exact Ref.cValue (by assumption) | refine Ref.bX ?_ fun _ _ _ => ?_ | exact Ref.scQ (by assumption) | exact Ref.xRangeQ (by assumption) | exact Ref.cInvoke (by assumption))
theorem l45_0 {orc : FuncId → Bool} {e : Ex} (h : ExLe Q e (E orc)) (lp : Env → GS → Option (Exit × Env × GS)) (hlp : ∀ τ G, Ref (lp τ G) (mapE ((E orc).lp (subAt [1, 1, 0, 1, 0, 0] (bodyOf Try.f45)) (lst 31 τ) G))) (T : List Value) (G : GS) (hT : T.length = 31) : Ref (b45_0 true e lp (nth undef T) G) (mapE ((E orc).lp (subAt [1, 1, 0, 1, 0, 0] (bodyOf Try.f45)) T G)) :=
  fun r hr => lp_sxN Q orc G hT (by kernel_rfl) (mb45_0 h ⟨hlp⟩ _ _ r hr)
/-- coxswain/coxswainkit.SameInts -/
noncomputable def s45 (q : Bool) (e : Ex) (v0 v1 : Value) (G : GS) : Option (Value × GS) :=
  bP (ln Q q 65 v0) fun x0 =>
  bP (ln Q q 65 v1) fun x1 =>
  bP (bn Q q .eql 3 (.tmp 8) (.tmp 10) x0 x1) fun x2 =>
  bLq q e 45 0 (subAt [1, 1, 0, 1, 0, 0] (bodyOf Try.f45)) 31 (nth undef [v0, v1]) [(6, (.int .i64 0)), (5, x2), (11, x2), (10, x1), (9, v1), (8, x0), (7, v0), (4, (.bool false))] [] G fun e3 t4 G5 =>
  bV q (t4 5) fun t4x5_ =>
  ifE e3 (.exit 0) (
  some (t4x5_, G5)) (none)
theorem m45 {e : Ex} {E : Ev} (h : ExLe Q e E) (v0 v1 : Value) (G : GS) : Ref (s45 true e v0 v1 G) (s45 false (Ex.of E) v0 v1 G) := by
  unfold s45
  repeat' (with_reducible first | exact Ref.rfl' _ | exact ROp.r | refine Ref.bP ?_ fun _ => ?_ | refine Ref.bS ?_ fun _ _ => ?_ | exact Ref.cl (by assumption) | refine Ref.ifV ?_ ?_ | refine LpLe.rx (by assumption) ?_ | refine Ref.xitq ?_ | exact UOk.z | refine UOk.c (by assumption) ?_ | exact Ref.nil _ | refine Ref.bVe fun _ _ => ?_ | refine Ref.bLq (by assumption) ?_ fun _ _ _ => ?_ | refine Ref.ifE ?_ ?_ | refine Ref.chk ?_ ?_ | refine Imp.and ?_ ?_ | refine Imp.or ?_ | exact Imp.rfl' _ | refine Imp.sameO ?_ | refine Ref.gd ?_ | exact Ref.cValue (by assumption) | refine Ref.bX ?_ fun _ _ _ => ?_ | exact Ref.scQ (by assumption) | exact Ref.xRangeQ (by assumption) | exact Ref.cInvoke (by assumption))
theorem f45 {orc : FuncId → Bool} {e : Ex} (h : ExLe Q e (E orc)) (v0 v1 : Value) (G : GS) : Ref (s45 true e v0 v1 G) ((E orc).cl 45 [v0, v1] G) :=
  fun r hr => cl_sxE_some Q orc (vs := [v0, v1]) G Try.func45 (by kernel_rfl) (by kernel_rfl) (by kernel_rfl) (by kernel_rfl) (by kernel_rfl) (m45 h v0 v1 G r hr)
instance ilp46_0 : LpIs Q 46 0 (subAt [1, 1, 0, 1, 0, 0] (bodyOf Try.f46)) 26 := ⟨by kernel_rfl, by kernel_rfl⟩
noncomputable def b46_0 (q : Bool) (e : Ex) (lp : Env → GS → Option (Exit × Env × GS)) (τ : Env) (G : GS) : Option (Exit × Env × GS) :=
  bV q (τ 0) fun a0_ =>
  bV q (τ 3) fun a3_ =>
  bV q (τ 4) fun a4_ =>
  bP (pNil a0_) fun x0 =>
  bP (fa Q q 73 1 1 x0) fun x1 =>
  bP (ld Q q 67 x1 G) fun x2 =>
  bP (ln Q q 67 x2) fun x3 =>
  bP (bn Q q .lss 3 (.tmp 5) (.tmp 10) a4_ x3) fun x4 =>
  ifV x4 (
  bP (pNil a0_) fun x5 =>
  bP (fa Q q 73 1 1 x5) fun x6 =>
  bP (ld Q q 67 x6 G) fun x7 =>
  bP (ias Q q 67 3 x7 a4_) fun x8 =>
  bP (fa Q q 87 0 0 x8) fun x9 =>
  bP (ld Q q 3 x9 G) fun x10 =>
  bS (bs Q q 65 1 (rep z3 1) 1 [(0, 0, 1)] [x10] G) fun x11 G12 =>
  bS (ap Q q 65 65 1 8 a3_ x11 G12) fun x13 G14 =>
  bP (bn Q q .add 3 (.tmp 12) (.const (.int .i64 1)) a4_ (.int .i64 1)) fun x15 =>
  lp (xq q 26 τ [(4, x15), (13, x15), (12, a4_), (3, x13), (24, x13), (23, x11), (22, x10), (21, x9), (20, x8), (19, a4_), (18, x7), (17, x6), (16, x5), (15, a0_), (14, a3_), (11, x4), (10, x3), (9, x2), (8, x1), (7, x0), (6, a0_), (5, a4_)] [(0, a0_)]) G14) (
  some ((.exit 0), xq q 26 τ [(11, x4), (10, x3), (9, x2), (8, x1), (7, x0), (6, a0_), (5, a4_)] [(0, a0_), (3, a3_), (4, a4_)], G))
theorem mb46_0 {e : Ex} {E : Ev} (h : ExLe Q e E) {lp lp' : Env → GS → Option (Exit × Env × GS)} (hlp : LpLe lp lp') (τ : Env) (G : GS) : Ref (b46_0 true e lp τ G) (b46_0 false (Ex.of E) lp' τ G) := by
  unfold b46_0
  repeat' (with_reducible first | exact Ref.rfl' _ | exact ROp.r | refine Ref.bP ?_ fun _ => ?_ | refine Ref.bS ?_ fun _ _ => ?_ | exact Ref.cl (by assumption) | refine Ref.ifV ?_ ?_ | refine LpLe.rx (by assumption) ?_ | refine Ref.xitq ?_ | exact UOk.z | refine UOk.c (by assumption) ?_ | exact Ref.nil _ | refine Ref.bVe fun _ _ => ?_ | refine Ref.bLq (by assumption) ?_ fun _ _ _ => ?_ | refine Ref.ifE ?_ ?_ | refine Ref.chk ?_ ?_ | refine Imp.and ?_ ?_ | refine Imp.or ?_ | exact Imp.rfl' _ | refine Imp.sameO ?_ | refine Ref.gd ?_ | exact Ref.cValue (by assumption) | refine Ref.bX ?_ fun _ _ _ => ?_ | exact Ref.scQ (by assumption) | exact Ref.xRangeQ (by assumption) | exact Ref.cInvoke (by assumption))
theorem l46_0 {orc : FuncId → Bool} {e : Ex} (h : ExLe Q e (E orc)) (lp : Env → GS → Option (Exit × Env × GS)) (hlp : ∀ τ G, Ref (lp τ G) (mapE ((E orc).lp (subAt [1, 1, 0, 1, 0, 0] (bodyOf Try.f46)) (lst 26 τ) G))) (T : List Value) (G : GS) (hT : T.length = 26) : Ref (b46_0 true e lp (nth undef T) G) (mapE ((E orc).lp (subAt [1, 1, 0, 1, 0, 0] (bodyOf Try.f46)) T G)) :=
  fun r hr => lp_sxN Q orc G hT (by kernel_rfl) (mb46_0 h ⟨hlp⟩ _ _ r hr)
/-- (*coxswain/coxswainref04.Frame).Busy -/
noncomputable def s46 (q : Bool) (e : Ex) (v0 : Value) (G : GS) : Option (Value × GS) :=
  bLq q e 46 0 (subAt [1, 1, 0, 1, 0, 0] (bodyOf Try.f46)) 26 (nth undef [v0]) [(4, (.int .i64 0)), (3, (.slice none 0 0)), (2, (.slice none 0 0))] [] G fun e0 t1 G2 =>
  bV q (t1 3) fun t1x3_ =>
  ifE e0 (.exit 0) (
  some (t1x3_, G2)) (none)
theorem m46 {e : Ex} {E : Ev} (h : ExLe Q e E) (v0 : Value) (G : GS) : Ref (s46 true e v0 G) (s46 false (Ex.of E) v0 G) := by
  unfold s46
  repeat' (with_reducible first | exact Ref.rfl' _ | exact ROp.r | refine Ref.bP ?_ fun _ => ?_ | refine Ref.bS ?_ fun _ _ => ?_ | exact Ref.cl (by assumption) | refine Ref.ifV ?_ ?_ | refine LpLe.rx (by assumption) ?_ | refine Ref.xitq ?_ | exact UOk.z | refine UOk.c (by assumption) ?_ | exact Ref.nil _ | refine Ref.bVe fun _ _ => ?_ | refine Ref.bLq (by assumption) ?_ fun _ _ _ => ?_ | refine Ref.ifE ?_ ?_ | refine Ref.chk ?_ ?_ | refine Imp.and ?_ ?_ | refine Imp.or ?_ | exact Imp.rfl' _ | refine Imp.sameO ?_ | refine Ref.gd ?_ | exact Ref.cValue (by assumption) | refine Ref.bX ?_ fun _ _ _ => ?_ | exact Ref.scQ (by assumption) | exact Ref.xRangeQ (by assumption) | exact Ref.cInvoke (by assumption))
theorem f46 {orc : FuncId → Bool} {e : Ex} (h : ExLe Q e (E orc)) (v0 : Value) (G : GS) : Ref (s46 true e v0 G) ((E orc).cl 46 [v0] G) :=
  fun r hr => cl_sxE_some Q orc (vs := [v0]) G Try.func46 (by kernel_rfl) (by kernel_rfl) (by kernel_rfl) (by kernel_rfl) (by kernel_rfl) (m46 h v0 G r hr)
noncomputable def jb47_0 (q : Bool) (e : Ex) (τ : Env) (G : GS) : Option (Value × GS) :=
  bV q (τ 5) fun a5_ =>
  bV q (τ 6) fun a6_ =>
  bP (ias Q q 65 1 a5_ a6_) fun x6 =>
  bP (ld Q q 3 x6 G) fun x7 =>
  some (x7, G)
noncomputable def j47_0 (q : Bool) (e : Ex) (τ : Env) (G : GS) : Option (Value × GS) := jb47_0 q e τ G
theorem mj47_0 {e : Ex} {E : Ev} (h : ExLe Q e E) (τ : Env) (G : GS) : Ref (j47_0 true e τ G) (j47_0 false (Ex.of E) τ G) := by
  unfold j47_0 jb47_0
  repeat' (with_reducible first | exact Ref.rfl' _ | exact ROp.r | refine Ref.bP ?_ fun _ => ?_ | refine Ref.bS ?_ fun _ _ => ?_ | exact Ref.cl (by assumption) | refine Ref.ifV ?_ ?_ | refine LpLe.rx (by assumption) ?_ | refine Ref.xitq ?_ | exact UOk.z | refine UOk.c (by assumption) ?_ | exact Ref.nil _ | refine Ref.bVe fun _ _ => ?_ | refine Ref.bLq (by assumption) ?_ fun _ _ _ => ?_ | refine Ref.ifE ?_ ?_ | refine Ref.chk ?_ ?_ | refine Imp.and ?_ ?_ | refine Imp.or ?_ | exact Imp.rfl' _ | refine Imp.sameO ?_ | refine Ref.gd ?_ | exact Ref.cValue (by assumption) | refine Ref.bX ?_ fun _ _ _ => ?_ | exact Ref.scQ (by assumption) | exact Ref.xRangeQ (by assumption) | exact Ref.cInvoke (by assumption))
theorem mkj47_0 {e : Ex} {E : Ev} (h : ExLe Q e E) {τ : Env} {l U : List (Nat × Value)} {G : GS} (hU : UOk τ U) : Ref (j47_0 true e (xq true 26 τ l U) G) (j47_0 false (Ex.of E) (xq false 26 τ l U) G) := by
  rw [xq_eq hU]
  exact mj47_0 h _ _
noncomputable def sb47 (q : Bool) (e : Ex) (J0 : Env → GS → Option (Value × GS)) (v0 v1 : Value) (G : GS) : Option (Value × GS) :=
  bS (e.ev.cl 42 [v0] G) fun x0 G1 =>
  bP (ln Q q 65 x0) fun x2 =>
  bP (bn Q q .eql 3 (.tmp 10) (.const (.int .i64 0)) x2 (.int .i64 0)) fun x3 =>
  ifV x3 (
  some ((.int .i64 (-1)), G1)) (
  bP (ln Q q 65 x0) fun x4 =>
  bP (bn Q q .rem 3 (.tmp 12) (.tmp 14) v1 x4) fun x5 =>
  bP (bn Q q .lss 3 (.tmp 16) (.const (.int .i64 0)) x5 (.int .i64 0)) fun x8 =>
  ifV x8 (
  bP (ln Q q 65 x0) fun x9 =>
  bP (bn Q q .add 3 (.tmp 18) (.tmp 20) x5 x9) fun x10 =>
  J0 (xq q 26 (nth undef [v0, v1]) [(6, x10), (21, x10), (20, x9), (19, x0), (18, x5), (17, x8), (16, x5), (6, x5), (15, x5), (14, x4), (13, x0), (12, v1), (11, x3), (10, x2), (9, x0), (5, x0), (8, x0), (7, v0), (4, (.int .i64 0))] []) G1) (
  J0 (xq q 26 (nth undef [v0, v1]) [(17, x8), (16, x5), (6, x5), (15, x5), (14, x4), (13, x0), (12, v1), (11, x3), (10, x2), (9, x0), (5, x0), (8, x0), (7, v0), (4, (.int .i64 0))] []) G1))
/-- (*coxswain/frame.Frame).Turn -/
noncomputable def s47 (q : Bool) (e : Ex) (v0 v1 : Value) (G : GS) : Option (Value × GS) := sb47 q e (j47_0 q e) v0 v1 G
theorem m47 {e : Ex} {E : Ev} (h : ExLe Q e E) (v0 v1 : Value) (G : GS) : Ref (s47 true e v0 v1 G) (s47 false (Ex.of E) v0 v1 G) := by
  unfold s47 sb47
  repeat' (with_reducible first | exact Ref.rfl' _ | exact ROp.r | refine Ref.bP ?_ fun _ => ?_ | refine Ref.bS ?_ fun _ _ => ?_ | exact Ref.cl (by assumption) | refine Ref.ifV ?_ ?_ | refine LpLe.rx (by assumption) ?_ | refine Ref.xitq ?_ | exact UOk.z | refine UOk.c (by assumption) ?_ | exact Ref.nil _ | refine Ref.bVe fun _ _ => ?_ | refine Ref.bLq (by assumption) ?_ fun _ _ _ => ?_ | refine Ref.ifE ?_ ?_ | refine Ref.chk ?_ ?_ | refine Imp.and ?_ ?_ | refine Imp.or ?_ | exact Imp.rfl' _ | refine Imp.sameO ?_ | refine Ref.gd ?_ | exact Ref.cValue (by assumption) | refine Ref.bX ?_ fun _ _ _ => ?_ | exact Ref.scQ (by assumption) | exact Ref.xRangeQ (by assumption) | exact Ref.cInvoke (by assumption) | refine mkj47_0 (by assumption) ?_)
noncomputable def jt47 (J0 : Env → GS → Option (Value × GS)) : JT (Value × GS) :=
  (.n none .e (.n none .e (.n none .e (.n none .e (.n (some (fun T G => J0 (nth undef T) G)) .e .e)))))
theorem jr47_0 (orc : FuncId → Bool) (J0 : Env → GS → Option (Value × GS)) (T : List Value) (G : GS) : runC Q (evL Q orc) Try.f47.ntmps (jt47 J0) (bodyOf Try.f47) (retE Q Try.f47.results.toList) [true, true, true, true] (nth undef T) G = jb47_0 false (Ex.of (E orc))  (nth undef T) G := by kernel_rfl
theorem jo47 (orc : FuncId → Bool) : JOk Q orc Try.f47.ntmps (jt47 (j47_0 false (Ex.of (E orc))) ) (bodyOf Try.f47) (retE Q Try.f47.results.toList) :=
  jOk Q orc (l := [([true, true, true, true], (fun T G => j47_0 false (Ex.of (E orc)) (nth undef T) G))]) (by kernel_rfl) (AllE.c (fun T G => jr47_0 orc (j47_0 false (Ex.of (E orc))) T G) (AllE.z))
theorem je47 (orc : FuncId → Bool) (J0 : Env → GS → Option (Value × GS)) (v0 v1 : Value) (G : GS) : sxC Q (evL Q orc) Try.f47.ntmps (jt47 J0) (bodyOf Try.f47) (nth undef [v0, v1]) G (retE Q Try.f47.results.toList) = sb47 false (Ex.of (E orc)) J0 v0 v1 G := by kernel_rfl
theorem f47 {orc : FuncId → Bool} {e : Ex} (h : ExLe Q e (E orc)) (v0 v1 : Value) (G : GS) : Ref (s47 true e v0 v1 G) ((E orc).cl 47 [v0, v1] G) :=
  fun r hr => cl_sxC Q orc (vs := [v0, v1]) G (jt47 (j47_0 false (Ex.of (E orc))) ) Try.func47 (by kernel_rfl) (by kernel_rfl) (by kernel_rfl) (by kernel_rfl) (jo47 orc) (je47 orc (j47_0 false (Ex.of (E orc))) v0 v1 G) (m47 h v0 v1 G r hr)
/-- (*coxswain/coxswainref04.Frame).Turn -/
noncomputable def s48 (q : Bool) (e : Ex) (v0 v1 : Value) (G : GS) : Option (Value × GS) :=
  bP (pNil v0) fun x0 =>
  bP (fa Q q 73 1 1 x0) fun x1 =>
  bP (ld Q q 67 x1 G) fun x2 =>
  bP (ln Q q 67 x2) fun x3 =>
  bP (bn Q q .eql 3 (.tmp 9) (.const (.int .i64 0)) x3 (.int .i64 0)) fun x4 =>
  ifV x4 (
  some ((.int .i64 (-1)), G)) (
  bP (pNil v0) fun x5 =>
  bP (fa Q q 73 1 1 x5) fun x6 =>
  bP (ld Q q 67 x6 (G.room 15)) fun x7 =>
  bP (pNil v0) fun x8 =>
  bP (fa Q q 73 1 1 x8) fun x9 =>
  bP (ld Q q 67 x9 (G.room 15)) fun x10 =>
  bP (ln Q q 67 x10) fun x11 =>
  bS (e.ev.cl 21 [v1, x11] (G.room 15)) fun x13 G12 =>
  chk ((sameO (ld Q q 67 x6 G12) x7 && true)) <|
  bP (ias Q q 67 3 x7 x13) fun x14 =>
  bP (fa Q q 87 0 0 x14) fun x15 =>
  bP (ld Q q 3 x15 G12) fun x16 =>
  some (x16, G12))
theorem m48 {e : Ex} {E : Ev} (h : ExLe Q e E) (v0 v1 : Value) (G : GS) : Ref (s48 true e v0 v1 G) (s48 false (Ex.of E) v0 v1 G) := by
  unfold s48
  repeat' (with_reducible first | exact Ref.rfl' _ | exact ROp.r | refine Ref.bP ?_ fun _ => ?_ | refine Ref.bS ?_ fun _ _ => ?_ | exact Ref.cl (by assumption) | refine Ref.ifV ?_ ?_ | refine LpLe.rx (by assumption) ?_ | refine Ref.xitq ?_ | exact UOk.z | refine UOk.c (by assumption) ?_ | exact Ref.nil _ | refine Ref.bVe fun _ _ => ?_ | refine Ref.bLq (by assumption) ?_ fun _ _ _ => ?_ | refine Ref.ifE ?_ ?_ | refine Ref.chk ?_ ?_ | refine Imp.and ?_ ?_ | refine Imp.or ?_ | exact Imp.rfl' _ | refine Imp.sameO ?_ | refine Ref.gd ?_ | exact Ref.cValue (by assumption) | refine Ref.bX ?_ fun _ _ _ => ?_ | exact Ref.scQ (by assumption) | exact Ref.xRangeQ (by assumption) | exact Ref.cInvoke (by assumption))
theorem f48 {orc : FuncId → Bool} {e : Ex} (h : ExLe Q e (E orc)) (v0 v1 : Value) (G : GS) : Ref (s48 true e v0 v1 G) ((E orc).cl 48 [v0, v1] G) :=
  fun r hr => cl_sxE_some Q orc (vs := [v0, v1]) G Try.func48 (by kernel_rfl) (by kernel_rfl) (by kernel_rfl) (by kernel_rfl) (by kernel_rfl) (m48 h v0 v1 G r hr)
/-- (*coxswain/frame.Frame).All -/
noncomputable def s49 (q : Bool) (e : Ex) (v0 : Value) (G : GS) : Option (Value × GS) :=
  bP (ep Q q false 52 (.tmp 3) (.const (.pointer none)) v0 (.pointer none)) fun x0 =>
  ifV x0 (
  some ((.int .i64 0), G)) (
  bP (pNil v0) fun x1 =>
  bP (fa Q q 82 2 2 x1) fun x2 =>
  bP (ld Q q 3 x2 G) fun x3 =>
  some (x3, G))
theorem m49 {e : Ex} {E : Ev} (h : ExLe Q e E) (v0 : Value) (G : GS) : Ref (s49 true e v0 G) (s49 false (Ex.of E) v0 G) := by
  unfold s49
  repeat' (with_reducible first | exact Ref.rfl' _ | exact ROp.r | refine Ref.bP ?_ fun _ => ?_ | refine Ref.bS ?_ fun _ _ => ?_ | exact Ref.cl (by assumption) | refine Ref.ifV ?_ ?_ | refine LpLe.rx (by assumption) ?_ | refine Ref.xitq ?_ | exact UOk.z | refine UOk.c (by assumption) ?_ | exact Ref.nil _ | refine Ref.bVe fun _ _ => ?_ | refine Ref.bLq (by assumption) ?_ fun _ _ _ => ?_ | refine Ref.ifE ?_ ?_ | refine Ref.chk ?_ ?_ | refine Imp.and ?_ ?_ | refine Imp.or ?_ | exact Imp.rfl' _ | refine Imp.sameO ?_ | refine Ref.gd ?_ | exact Ref.cValue (by assumption) | refine Ref.bX ?_ fun _ _ _ => ?_ | exact Ref.scQ (by assumption) | exact Ref.xRangeQ (by assumption) | exact Ref.cInvoke (by assumption))
theorem f49 {orc : FuncId → Bool} {e : Ex} (h : ExLe Q e (E orc)) (v0 : Value) (G : GS) : Ref (s49 true e v0 G) ((E orc).cl 49 [v0] G) :=
  fun r hr => cl_sxE_some Q orc (vs := [v0]) G Try.func49 (by kernel_rfl) (by kernel_rfl) (by kernel_rfl) (by kernel_rfl) (by kernel_rfl) (m49 h v0 G r hr)
instance ilp50_0 : LpIs Q 50 0 (subAt [1, 1, 0, 1, 0, 0] (bodyOf Try.f50)) 31 := ⟨by kernel_rfl, by kernel_rfl⟩
noncomputable def b50_0 (q : Bool) (e : Ex) (lp : Env → GS → Option (Exit × Env × GS)) (τ : Env) (G : GS) : Option (Exit × Env × GS) :=
  bV q (τ 0) fun a0_ =>
  bV q (τ 1) fun a1_ =>
  bV q (τ 5) fun a5_ =>
  bV q (τ 6) fun a6_ =>
  bS (gd a5_ true (some (a6_, G)) G) fun x0 G1 =>
  bS (gd a5_ true (some (a0_, G1)) G1) fun x2 G3 =>
  bS (gd a5_ true (bP (ln Q q 67 x2) fun y => some (y, G3)) G3) fun x4 G5 =>
  bS (gd a5_ true (bP (bn Q q .lss 3 (.tmp 14) (.tmp 16) x0 x4) fun y => some (y, G5)) G5) fun x6 G7 =>
  bP (pickV a5_ x6 (.bool false)) fun x8 =>
  ifV x8 (
  bP (ias Q q 67 3 a0_ a6_) fun x9 =>
  bP (lda Q q 87 3 x9 (G7.room 10)) fun x10 =>
  bP (ias Q q 67 3 a1_ a6_) fun x11 =>
  bP (lda Q q 87 3 x11 (G7.room 10)) fun x12 =>
  bP (bn Q q .eql 87 (.tmp 24) (.tmp 28) x10 x12) fun x13 =>
  bP (bn Q q .add 3 (.tmp 19) (.const (.int .i64 1)) a6_ (.int .i64 1)) fun x14 =>
  lp (xq q 31 τ [(6, x14), (20, x14), (19, a6_), (5, x13), (29, x13), (28, x12), (27, x11), (26, a6_), (25, a1_), (24, x10), (23, x9), (22, a6_), (21, a0_), (18, x8), (17, x6), (16, x4), (15, x2), (14, x0), (13, a5_), (12, a5_)] [(0, a0_), (1, a1_)]) (G7.room 10)) (
  some ((.exit 0), xq q 31 τ [(18, x8), (17, x6), (16, x4), (15, x2), (14, x0), (13, a5_), (12, a5_)] [(0, a0_), (1, a1_), (5, a5_), (6, a6_)], G7))
theorem mb50_0 {e : Ex} {E : Ev} (h : ExLe Q e E) {lp lp' : Env → GS → Option (Exit × Env × GS)} (hlp : LpLe lp lp') (τ : Env) (G : GS) : Ref (b50_0 true e lp τ G) (b50_0 false (Ex.of E) lp' τ G) := by
  unfold b50_0
  repeat' (with_reducible first | exact Ref.rfl' _ | exact ROp.r | refine Ref.bP ?_ fun _ => ?_ | refine Ref.bS ?_ fun _ _ => ?_ | exact Ref.cl (by assumption) | refine Ref.ifV ?_ ?_ | refine LpLe.rx (by assumption) ?_ | refine Ref.xitq ?_ | exact UOk.z | refine UOk.c (by assumption) ?_ | exact Ref.nil _ | refine Ref.bVe fun _ _ => ?_ | refine Ref.bLq (by assumption) ?_ fun _ _ _ => ?_ | refine Ref.ifE ?_ ?_ | refine Ref.chk ?_ ?_ | refine Imp.and ?_ ?_ | refine Imp.or ?_ | exact Imp.rfl' _ | refine Imp.sameO ?_ | refine Ref.gd ?_ | exact Ref.cValue (by assumption) | refine Ref.bX ?_ fun _ _ _ => ?_ | exact Ref.scQ (by assumption) | exact Ref.xRangeQ (by assumption) | exact Ref.cInvoke (by assumption))
theorem l50_0 {orc : FuncId → Bool} {e : Ex} (h : ExLe Q e (E orc)) (lp : Env → GS → Option (Exit × Env × GS)) (hlp : ∀ τ G, Ref (lp τ G) (mapE ((E orc).lp (subAt [1, 1, 0, 1, 0, 0] (bodyOf Try.f50)) (lst 31 τ) G))) (T : List Value) (G : GS) (hT : T.length = 31) : Ref (b50_0 true e lp (nth undef T) G) (mapE ((E orc).lp (subAt [1, 1, 0, 1, 0, 0] (bodyOf Try.f50)) T G)) :=
  fun r hr => lp_sxN Q orc G hT (by kernel_rfl) (mb50_0 h ⟨hlp⟩ _ _ r hr)
/-- coxswain/coxswainkit.SameDeeds -/
noncomputable def s50 (q : Bool) (e : Ex) (v0 v1 : Value) (G : GS) : Option (Value × GS) :=
  bP (ln Q q 67 v0) fun x0 =>
  bP (ln Q q 67 v1) fun x1 =>
  bP (bn Q q .eql 3 (.tmp 8) (.tmp 10) x0 x1) fun x2 =>
  bLq q e 50 0 (subAt [1, 1, 0, 1, 0, 0] (bodyOf Try.f50)) 31 (nth undef [v0, v1]) [(6, (.int .i64 0)), (5, x2), (11, x2), (10, x1), (9, v1), (8, x0), (7, v0), (4, (.bool false))] [] G fun e3 t4 G5 =>
  bV q (t4 5) fun t4x5_ =>
  ifE e3 (.exit 0) (
  some (t4x5_, G5)) (none)
theorem m50 {e : Ex} {E : Ev} (h : ExLe Q e E) (v0 v1 : Value) (G : GS) : Ref (s50 true e v0 v1 G) (s50 false (Ex.of E) v0 v1 G) := by
  unfold s50
  repeat' (with_reducible first | exact Ref.rfl' _ | exact ROp.r | refine Ref.bP ?_ fun _ => ?_ | refine Ref.bS ?_ fun _ _ => ?_ | exact Ref.cl (by assumption) | refine Ref.ifV ?_ ?_ | refine LpLe.rx (by assumption) ?_ | refine Ref.xitq ?_ | exact UOk.z | refine UOk.c (by assumption) ?_ | exact Ref.nil _ | refine Ref.bVe fun _ _ => ?_ | refine Ref.bLq (by assumption) ?_ fun _ _ _ => ?_ | refine Ref.ifE ?_ ?_ | refine Ref.chk ?_ ?_ | refine Imp.and ?_ ?_ | refine Imp.or ?_ | exact Imp.rfl' _ | refine Imp.sameO ?_ | refine Ref.gd ?_ | exact Ref.cValue (by assumption) | refine Ref.bX ?_ fun _ _ _ => ?_ | exact Ref.scQ (by assumption) | exact Ref.xRangeQ (by assumption) | exact Ref.cInvoke (by assumption))
theorem f50 {orc : FuncId → Bool} {e : Ex} (h : ExLe Q e (E orc)) (v0 v1 : Value) (G : GS) : Ref (s50 true e v0 v1 G) ((E orc).cl 50 [v0, v1] G) :=
  fun r hr => cl_sxE_some Q orc (vs := [v0, v1]) G Try.func50 (by kernel_rfl) (by kernel_rfl) (by kernel_rfl) (by kernel_rfl) (by kernel_rfl) (m50 h v0 v1 G r hr)
instance ilp51_0 : LpIs Q 51 0 (subAt [1, 0, 0] (bodyOf Try.f51)) 12 := ⟨by kernel_rfl, by kernel_rfl⟩
noncomputable def b51_0 (q : Bool) (e : Ex) (lp : Env → GS → Option (Exit × Env × GS)) (τ : Env) (G : GS) : Option (Exit × Env × GS) :=
  bV q (τ 0) fun a0_ =>
  bV q (τ 2) fun a2_ =>
  bP (ln Q q 65 a0_) fun x0 =>
  bP (bn Q q .lss 3 (.tmp 3) (.tmp 5) a2_ x0) fun x1 =>
  ifV x1 (
  bP (ias Q q 65 1 a0_ a2_) fun x2 =>
  bP (st Q q 3 1 x2 (.int .i64 (-77)) G) fun G3 =>
  bP (bn Q q .add 3 (.tmp 7) (.const (.int .i64 1)) a2_ (.int .i64 1)) fun x4 =>
  lp (xq q 12 τ [(2, x4), (8, x4), (7, a2_), (11, x2), (10, a2_), (9, a0_), (6, x1), (5, x0), (4, a0_), (3, a2_)] [(0, a0_)]) G3) (
  some ((.exit 0), xq q 12 τ [(6, x1), (5, x0), (4, a0_), (3, a2_)] [(0, a0_), (2, a2_)], G))
theorem mb51_0 {e : Ex} {E : Ev} (h : ExLe Q e E) {lp lp' : Env → GS → Option (Exit × Env × GS)} (hlp : LpLe lp lp') (τ : Env) (G : GS) : Ref (b51_0 true e lp τ G) (b51_0 false (Ex.of E) lp' τ G) := by
  unfold b51_0
  repeat' (with_reducible first | exact Ref.rfl' _ | exact ROp.r | refine Ref.bP ?_ fun _ => ?_ | refine Ref.bS ?_ fun _ _ => ?_ | exact Ref.cl (by assumption) | refine Ref.ifV ?_ ?_ | refine LpLe.rx (by assumption) ?_ | refine Ref.xitq ?_ | exact UOk.z | refine UOk.c (by assumption) ?_ | exact Ref.nil _ | refine Ref.bVe fun _ _ => ?_ | refine Ref.bLq (by assumption) ?_ fun _ _ _ => ?_ | refine Ref.ifE ?_ ?_ | refine Ref.chk ?_ ?_ | refine Imp.and ?_ ?_ | refine Imp.or ?_ | exact Imp.rfl' _ | refine Imp.sameO ?_ | refine Ref.gd ?_ | exact Ref.cValue (by assumption) | refine Ref.bX ?_ fun _ _ _ => ?_ | exact Ref.scQ (by assumption) | exact Ref.xRangeQ (by assumption) | exact Ref.cInvoke (by assumption))
theorem l51_0 {orc : FuncId → Bool} {e : Ex} (h : ExLe Q e (E orc)) (lp : Env → GS → Option (Exit × Env × GS)) (hlp : ∀ τ G, Ref (lp τ G) (mapE ((E orc).lp (subAt [1, 0, 0] (bodyOf Try.f51)) (lst 12 τ) G))) (T : List Value) (G : GS) (hT : T.length = 12) : Ref (b51_0 true e lp (nth undef T) G) (mapE ((E orc).lp (subAt [1, 0, 0] (bodyOf Try.f51)) T G)) :=
  fun r hr => lp_sxN Q orc G hT (by kernel_rfl) (mb51_0 h ⟨hlp⟩ _ _ r hr)
/-- coxswain/coxswainkit.OverInts -/
noncomputable def s51 (q : Bool) (e : Ex) (v0 : Value) (G : GS) : Option (Value × GS) :=
  bLq q e 51 0 (subAt [1, 0, 0] (bodyOf Try.f51)) 12 (nth undef [v0]) [(2, (.int .i64 0))] [] G fun e0 t1 G2 =>
  ifE e0 (.exit 0) (
  some (.tuple #[], G2)) (none)
theorem m51 {e : Ex} {E : Ev} (h : ExLe Q e E) (v0 : Value) (G : GS) : Ref (s51 true e v0 G) (s51 false (Ex.of E) v0 G) := by
  unfold s51
  repeat' (with_reducible first | exact Ref.rfl' _ | exact ROp.r | refine Ref.bP ?_ fun _ => ?_ | refine Ref.bS ?_ fun _ _ => ?_ | exact Ref.cl (by assumption) | refine Ref.ifV ?_ ?_ | refine LpLe.rx (by assumption) ?_ | refine Ref.xitq ?_ | exact UOk.z | refine UOk.c (by assumption) ?_ | exact Ref.nil _ | refine Ref.bVe fun _ _ => ?_ | refine Ref.bLq (by assumption) ?_ fun _ _ _ => ?_ | refine Ref.ifE ?_ ?_ | refine Ref.chk ?_ ?_ | refine Imp.and ?_ ?_ | refine Imp.or ?_ | exact Imp.rfl' _ | refine Imp.sameO ?_ | refine Ref.gd ?_ | exact Ref.cValue (by assumption) | refine Ref.bX ?_ fun _ _ _ => ?_ | exact Ref.scQ (by assumption) | exact Ref.xRangeQ (by assumption) | exact Ref.cInvoke (by assumption))
theorem f51 {orc : FuncId → Bool} {e : Ex} (h : ExLe Q e (E orc)) (v0 : Value) (G : GS) : Ref (s51 true e v0 G) ((E orc).cl 51 [v0] G) :=
  fun r hr => cl_sxE_some Q orc (vs := [v0]) G Try.func51 (by kernel_rfl) (by kernel_rfl) (by kernel_rfl) (by kernel_rfl) (by kernel_rfl) (m51 h v0 G r hr)
instance ilp52_0 : LpIs Q 52 0 (subAt [1, 0, 0] (bodyOf Try.f52)) 13 := ⟨by kernel_rfl, by kernel_rfl⟩
noncomputable def b52_0 (q : Bool) (e : Ex) (lp : Env → GS → Option (Exit × Env × GS)) (τ : Env) (G : GS) : Option (Exit × Env × GS) :=
  bV q (τ 0) fun a0_ =>
  bV q (τ 2) fun a2_ =>
  bP (ln Q q 67 a0_) fun x0 =>
  bP (bn Q q .lss 3 (.tmp 3) (.tmp 5) a2_ x0) fun x1 =>
  ifV x1 (
  bP (bd Q q 87 z87 [(0, 0, 1)] [(.int .i64 (-77))]) fun x2 =>
  bP (ias Q q 67 3 a0_ a2_) fun x3 =>
  bP (st Q q 87 3 x3 x2 G) fun G4 =>
  bP (bn Q q .add 3 (.tmp 7) (.const (.int .i64 1)) a2_ (.int .i64 1)) fun x5 =>
  lp (xq q 13 τ [(2, x5), (8, x5), (7, a2_), (12, x3), (11, x2), (10, a2_), (9, a0_), (6, x1), (5, x0), (4, a0_), (3, a2_)] [(0, a0_)]) G4) (
  some ((.exit 0), xq q 13 τ [(6, x1), (5, x0), (4, a0_), (3, a2_)] [(0, a0_), (2, a2_)], G))
theorem mb52_0 {e : Ex} {E : Ev} (h : ExLe Q e E) {lp lp' : Env → GS → Option (Exit × Env × GS)} (hlp : LpLe lp lp') (τ : Env) (G : GS) : Ref (b52_0 true e lp τ G) (b52_0 false (Ex.of E) lp' τ G) := by
  unfold b52_0
  repeat' (with_reducible first | exact Ref.rfl' _ | exact ROp.r | refine Ref.bP ?_ fun _ => ?_ | refine Ref.bS ?_ fun _ _ => ?_ | exact Ref.cl (by assumption) | refine Ref.ifV ?_ ?_ | refine LpLe.rx (by assumption) ?_ | refine Ref.xitq ?_ | exact UOk.z | refine UOk.c (by assumption) ?_ | exact Ref.nil _ | refine Ref.bVe fun _ _ => ?_ | refine Ref.bLq (by assumption) ?_ fun _ _ _ => ?_ | refine Ref.ifE ?_ ?_ | refine Ref.chk ?_ ?_ | refine Imp.and ?_ ?_ | refine Imp.or ?_ | exact Imp.rfl' _ | refine Imp.sameO ?_ | refine Ref.gd ?_ | exact Ref.cValue (by assumption) | refine Ref.bX ?_ fun _ _ _ => ?_ | exact Ref.scQ (by assumption) | exact Ref.xRangeQ (by assumption) | exact Ref.cInvoke (by assumption))
theorem l52_0 {orc : FuncId → Bool} {e : Ex} (h : ExLe Q e (E orc)) (lp : Env → GS → Option (Exit × Env × GS)) (hlp : ∀ τ G, Ref (lp τ G) (mapE ((E orc).lp (subAt [1, 0, 0] (bodyOf Try.f52)) (lst 13 τ) G))) (T : List Value) (G : GS) (hT : T.length = 13) : Ref (b52_0 true e lp (nth undef T) G) (mapE ((E orc).lp (subAt [1, 0, 0] (bodyOf Try.f52)) T G)) :=
  fun r hr => lp_sxN Q orc G hT (by kernel_rfl) (mb52_0 h ⟨hlp⟩ _ _ r hr)
/-- coxswain/coxswainkit.OverDeeds -/
noncomputable def s52 (q : Bool) (e : Ex) (v0 : Value) (G : GS) : Option (Value × GS) :=
  bLq q e 52 0 (subAt [1, 0, 0] (bodyOf Try.f52)) 13 (nth undef [v0]) [(2, (.int .i64 0))] [] G fun e0 t1 G2 =>
  ifE e0 (.exit 0) (
  some (.tuple #[], G2)) (none)
theorem m52 {e : Ex} {E : Ev} (h : ExLe Q e E) (v0 : Value) (G : GS) : Ref (s52 true e v0 G) (s52 false (Ex.of E) v0 G) := by
  unfold s52
  repeat' (with_reducible first | exact Ref.rfl' _ | exact ROp.r | refine Ref.bP ?_ fun _ => ?_ | refine Ref.bS ?_ fun _ _ => ?_ | exact Ref.cl (by assumption) | refine Ref.ifV ?_ ?_ | refine LpLe.rx (by assumption) ?_ | refine Ref.xitq ?_ | exact UOk.z | refine UOk.c (by assumption) ?_ | exact Ref.nil _ | refine Ref.bVe fun _ _ => ?_ | refine Ref.bLq (by assumption) ?_ fun _ _ _ => ?_ | refine Ref.ifE ?_ ?_ | refine Ref.chk ?_ ?_ | refine Imp.and ?_ ?_ | refine Imp.or ?_ | exact Imp.rfl' _ | refine Imp.sameO ?_ | refine Ref.gd ?_ | exact Ref.cValue (by assumption) | refine Ref.bX ?_ fun _ _ _ => ?_ | exact Ref.scQ (by assumption) | exact Ref.xRangeQ (by assumption) | exact Ref.cInvoke (by assumption))
theorem f52 {orc : FuncId → Bool} {e : Ex} (h : ExLe Q e (E orc)) (v0 : Value) (G : GS) : Ref (s52 true e v0 G) ((E orc).cl 52 [v0] G) :=
  fun r hr => cl_sxE_some Q orc (vs := [v0]) G Try.func52 (by kernel_rfl) (by kernel_rfl) (by kernel_rfl) (by kernel_rfl) (by kernel_rfl) (m52 h v0 G r hr)
/-- coxswain/coxswainlaw04.first -/
noncomputable def s53 (q : Bool) (e : Ex) (G : GS) : Option (Value × GS) :=
  bS (e.ev.cl 32 [(.int .i64 3)] G) fun x0 G1 =>
  bP (pExtract x0 0) fun x2 =>
  bP (pExtract x0 1) fun x3 =>
  bP (bn Q q .neq 26 (.tmp 7) (.const (.int .i64 0)) x3 (.int .i64 0)) fun x4 =>
  bS (gd x4 false (some (x2, G1)) G1) fun x5 G6 =>
  bS (gd x4 false (bP (ep Q q false 52 (.tmp 10) (.const (.pointer none)) x5 (.pointer none)) fun y => some (y, G6)) G6) fun x7 G8 =>
  bP (pickV x4 (.bool true) x7) fun x9 =>
  bS (gd x9 false (some (x2, G8)) G8) fun x10 G11 =>
  bS (gd x9 false (bS (e.ev.cl 34 [x10, (.int .i64 2), (.int .i64 7)] G11) fun y G => some (y, G)) G11) fun x12 G13 =>
  bS (gd x9 false (bP (bn Q q .neq 26 (.tmp 15) (.const (.int .i64 0)) x12 (.int .i64 0)) fun y => some (y, G13)) G13) fun x14 G15 =>
  bP (pickV x9 (.bool true) x14) fun x16 =>
  bS (gd x16 false (some (x2, G15)) G15) fun x17 G18 =>
  bS (gd x16 false (bS (e.ev.cl 34 [x17, (.int .i64 0), (.int .i64 9)] G18) fun y G => some (y, G)) G18) fun x19 G20 =>
  bS (gd x16 false (bP (bn Q q .neq 26 (.tmp 20) (.const (.int .i64 0)) x19 (.int .i64 0)) fun y => some (y, G20)) G20) fun x21 G22 =>
  bP (pickV x16 (.bool true) x21) fun x23 =>
  bS (gd x23 false (some (x2, G22)) G22) fun x24 G25 =>
  bS (gd x23 false (bS (e.ev.cl 34 [x24, (.int .i64 2), (.int .i64 1)] G25) fun y G => some (y, G)) G25) fun x26 G27 =>
  bS (gd x23 false (bP (bn Q q .neq 26 (.tmp 25) (.const (.int .i64 14)) x26 (.int .i64 14)) fun y => some (y, G27)) G27) fun x28 G29 =>
  bP (pickV x23 (.bool true) x28) fun x30 =>
  bS (gd x30 false (some (x2, G29)) G29) fun x31 G32 =>
  bS (gd x30 false (bS (e.ev.cl 36 [x31, (.int .i64 2)] G32) fun y G => some (y, G)) G32) fun x33 G34 =>
  bS (gd x30 false (bP (bn Q q .neq 26 (.tmp 30) (.const (.int .i64 0)) x33 (.int .i64 0)) fun y => some (y, G34)) G34) fun x35 G36 =>
  bP (pickV x30 (.bool true) x35) fun x37 =>
  bS (gd x37 false (some (x2, G36)) G36) fun x38 G39 =>
  bS (gd x37 false (bS (e.ev.cl 36 [x38, (.int .i64 2)] G39) fun y G => some (y, G)) G39) fun x40 G41 =>
  bS (gd x37 false (bP (bn Q q .neq 26 (.tmp 35) (.const (.int .i64 0)) x40 (.int .i64 0)) fun y => some (y, G41)) G41) fun x42 G43 =>
  bP (pickV x37 (.bool true) x42) fun x44 =>
  bS (gd x44 false (some (x2, G43)) G43) fun x45 G46 =>
  bS (gd x44 false (bS (e.ev.cl 36 [x45, (.int .i64 0)] G46) fun y G => some (y, G)) G46) fun x47 G48 =>
  bS (gd x44 false (bP (bn Q q .neq 26 (.tmp 40) (.const (.int .i64 0)) x47 (.int .i64 0)) fun y => some (y, G48)) G48) fun x49 G50 =>
  bP (pickV x44 (.bool true) x49) fun x51 =>
  bS (gd x51 false (some (x2, G50)) G50) fun x52 G53 =>
  bS (gd x51 false (bS (e.ev.cl 36 [x52, (.int .i64 1)] G53) fun y G => some (y, G)) G53) fun x54 G55 =>
  bS (gd x51 false (bP (bn Q q .neq 26 (.tmp 45) (.const (.int .i64 15)) x54 (.int .i64 15)) fun y => some (y, G55)) G55) fun x56 G57 =>
  bP (pickV x51 (.bool true) x56) fun x58 =>
  ifV x58 (
  some ((.pointer none), G57)) (
  some (x2, G57))
theorem m53 {e : Ex} {E : Ev} (h : ExLe Q e E) (G : GS) : Ref (s53 true e  G) (s53 false (Ex.of E)  G) := by
  unfold s53
  repeat' (with_reducible first | exact Ref.rfl' _ | exact ROp.r | refine Ref.bP ?_ fun _ => ?_ | refine Ref.bS ?_ fun _ _ => ?_ | exact Ref.cl (by assumption) | refine Ref.ifV ?_ ?_ | refine LpLe.rx (by assumption) ?_ | refine Ref.xitq ?_ | exact UOk.z | refine UOk.c (by assumption) ?_ | exact Ref.nil _ | refine Ref.bVe fun _ _ => ?_ | refine Ref.bLq (by assumption) ?_ fun _ _ _ => ?_ | refine Ref.ifE ?_ ?_ | refine Ref.chk ?_ ?_ | refine Imp.and ?_ ?_ | refine Imp.or ?_ | exact Imp.rfl' _ | refine Imp.sameO ?_ | refine Ref.gd ?_ | exact Ref.cValue (by assumption) | refine Ref.bX ?_ fun _ _ _ => ?_ | exact Ref.scQ (by assumption) | exact Ref.xRangeQ (by assumption) | exact Ref.cInvoke (by assumption))
theorem f53 {orc : FuncId → Bool} {e : Ex} (h : ExLe Q e (E orc)) (ho : orc 53 = false) (G : GS) : Ref (s53 true e  G) ((E orc).cl 53 [] G) :=
  fun r hr => cl_sxE_some Q orc (vs := []) G Try.func53 (by kernel_rfl) (by kernel_rfl) ho (by kernel_rfl) (by kernel_rfl) (m53 h  G r hr)
instance ilp54_0 : LpIs Q 54 0 (subAt [1, 1, 1, 0, 1, 0, 0] (bodyOf Try.f54)) 111 := ⟨by kernel_rfl, by kernel_rfl⟩
noncomputable def b54_0 (q : Bool) (e : Ex) (lp : Env → GS → Option (Exit × Env × GS)) (τ : Env) (G : GS) : Option (Exit × Env × GS) :=
  bV q (τ 7) fun a7_ =>
  bV q (τ 8) fun a8_ =>
  bV q (τ 9) fun a9_ =>
  bP (ln Q q 67 a8_) fun x0 =>
  bP (bn Q q .lss 3 (.tmp 17) (.tmp 19) a9_ x0) fun x1 =>
  ifV x1 (
  bP (ias Q q 67 3 a8_ a9_) fun x2 =>
  bP (fa Q q 87 2 2 x2) fun x3 =>
  bP (ld Q q 3 x3 G) fun x4 =>
  bP (bn Q q .add 3 (.tmp 23) (.tmp 28) a7_ x4) fun x5 =>
  bP (bn Q q .add 3 (.tmp 21) (.const (.int .i64 1)) a9_ (.int .i64 1)) fun x6 =>
  lp (xq q 111 τ [(9, x6), (22, x6), (21, a9_), (7, x5), (29, x5), (28, x4), (27, x3), (26, x2), (25, a9_), (24, a8_), (23, a7_), (20, x1), (19, x0), (18, a8_), (17, a9_)] [(8, a8_)]) G) (
  some ((.exit 0), xq q 111 τ [(20, x1), (19, x0), (18, a8_), (17, a9_)] [(7, a7_), (8, a8_), (9, a9_)], G))
theorem mb54_0 {e : Ex} {E : Ev} (h : ExLe Q e E) {lp lp' : Env → GS → Option (Exit × Env × GS)} (hlp : LpLe lp lp') (τ : Env) (G : GS) : Ref (b54_0 true e lp τ G) (b54_0 false (Ex.of E) lp' τ G) := by
  unfold b54_0
  repeat' (with_reducible first | exact Ref.rfl' _ | exact ROp.r | refine Ref.bP ?_ fun _ => ?_ | refine Ref.bS ?_ fun _ _ => ?_ | exact Ref.cl (by assumption) | refine Ref.ifV ?_ ?_ | refine LpLe.rx (by assumption) ?_ | refine Ref.xitq ?_ | exact UOk.z | refine UOk.c (by assumption) ?_ | exact Ref.nil _ | refine Ref.bVe fun _ _ => ?_ | refine Ref.bLq (by assumption) ?_ fun _ _ _ => ?_ | refine Ref.ifE ?_ ?_ | refine Ref.chk ?_ ?_ | refine Imp.and ?_ ?_ | refine Imp.or ?_ | exact Imp.rfl' _ | refine Imp.sameO ?_ | refine Ref.gd ?_ | exact Ref.cValue (by assumption) | refine Ref.bX ?_ fun _ _ _ => ?_ | exact Ref.scQ (by assumption) | exact Ref.xRangeQ (by assumption) | exact Ref.cInvoke (by assumption))
set_option maxHeartbeats 8000000 in
theorem l54_0 {orc : FuncId → Bool} {e : Ex} (h : ExLe Q e (E orc)) (lp : Env → GS → Option (Exit × Env × GS)) (hlp : ∀ τ G, Ref (lp τ G) (mapE ((E orc).lp (subAt [1, 1, 1, 0, 1, 0, 0] (bodyOf Try.f54)) (lst 111 τ) G))) (T : List Value) (G : GS) (hT : T.length = 111) : Ref (b54_0 true e lp (nth undef T) G) (mapE ((E orc).lp (subAt [1, 1, 1, 0, 1, 0, 0] (bodyOf Try.f54)) T G)) :=
  fun r hr => lp_sxN Q orc G hT (by kernel_rfl) (mb54_0 h ⟨hlp⟩ _ _ r hr)
instance ilp54_1 : LpIs Q 54 1 (subAt [1, 1, 1, 1, 1, 0, 1, 0, 0] (bodyOf Try.f54)) 111 := ⟨by kernel_rfl, by kernel_rfl⟩
noncomputable def jbl54_1_0 (q : Bool) (e : Ex) (lp : Env → GS → Option (Exit × Env × GS)) (τ : Env) (G : GS) : Option (Exit × Env × GS) :=
  bV q (τ 0) fun a0_ =>
  bV q (τ 1) fun a1_ =>
  bV q (τ 7) fun a7_ =>
  bV q (τ 10) fun a10_ =>
  bV q (τ 11) fun a11_ =>
  bS (e.ev.cl 44 [a0_, a11_] G) fun x9 G10 =>
  bP (bn Q q .add 3 (.tmp 53) (.tmp 56) a7_ x9) fun x11 =>
  bP (bn Q q .add 3 (.tmp 34) (.const (.int .i64 1)) a11_ (.int .i64 1)) fun x12 =>
  lp (xq q 111 τ [(11, x12), (35, x12), (34, a11_), (7, x11), (57, x11), (56, x9), (55, a11_), (54, a0_), (53, a7_)] [(0, a0_), (1, a1_), (10, a10_)]) G10
noncomputable def jl54_1_0 (q : Bool) (e : Ex) (lp : Env → GS → Option (Exit × Env × GS)) (τ : Env) (G : GS) : Option (Exit × Env × GS) := jbl54_1_0 q e lp τ G
theorem mjl54_1_0 {e : Ex} {E : Ev} (h : ExLe Q e E) {lp lp' : Env → GS → Option (Exit × Env × GS)} (hlp : LpLe lp lp') (τ : Env) (G : GS) : Ref (jl54_1_0 true e lp τ G) (jl54_1_0 false (Ex.of E) lp' τ G) := by
  unfold jl54_1_0 jbl54_1_0
  repeat' (with_reducible first | exact Ref.rfl' _ | exact ROp.r | refine Ref.bP ?_ fun _ => ?_ | refine Ref.bS ?_ fun _ _ => ?_ | exact Ref.cl (by assumption) | refine Ref.ifV ?_ ?_ | refine LpLe.rx (by assumption) ?_ | refine Ref.xitq ?_ | exact UOk.z | refine UOk.c (by assumption) ?_ | exact Ref.nil _ | refine Ref.bVe fun _ _ => ?_ | refine Ref.bLq (by assumption) ?_ fun _ _ _ => ?_ | refine Ref.ifE ?_ ?_ | refine Ref.chk ?_ ?_ | refine Imp.and ?_ ?_ | refine Imp.or ?_ | exact Imp.rfl' _ | refine Imp.sameO ?_ | refine Ref.gd ?_ | exact Ref.cValue (by assumption) | refine Ref.bX ?_ fun _ _ _ => ?_ | exact Ref.scQ (by assumption) | exact Ref.xRangeQ (by assumption) | exact Ref.cInvoke (by assumption))
theorem mkjl54_1_0 {e : Ex} {E : Ev} (h : ExLe Q e E) {lp lp' : Env → GS → Option (Exit × Env × GS)} (hlp : LpLe lp lp') {τ : Env} {l U : List (Nat × Value)} {G : GS} (hU : UOk τ U) : Ref (jl54_1_0 true e lp (xq true 111 τ l U) G) (jl54_1_0 false (Ex.of E) lp' (xq false 111 τ l U) G) := by
  rw [xq_eq hU]
  exact mjl54_1_0 h hlp _ _
noncomputable def bb54_1 (q : Bool) (e : Ex) (lp : Env → GS → Option (Exit × Env × GS)) (J0 : Env → GS → Option (Exit × Env × GS)) (τ : Env) (G : GS) : Option (Exit × Env × GS) :=
  bV q (τ 0) fun a0_ =>
  bV q (τ 1) fun a1_ =>
  bV q (τ 7) fun a7_ =>
  bV q (τ 10) fun a10_ =>
  bV q (τ 11) fun a11_ =>
  bP (ln Q q 88 a1_) fun x0 =>
  bP (bn Q q .lss 3 (.tmp 30) (.tmp 32) a11_ x0) fun x1 =>
  ifV x1 (
  bS (e.ev.cl 40 [a0_, a11_] G) fun x2 G3 =>
  bP (pExtract x2 0) fun x4 =>
  bP (pExtract x2 1) fun x5 =>
  bP (ias Q q 88 1 a1_ a11_) fun x6 =>
  bP (ld Q q 4 x6 G3) fun x7 =>
  bP (eb Q q true 4 (.tmp 42) (.tmp 46) x5 x7) fun x8 =>
  ifV x8 (
  some (.ret, xq q 111 τ [(6, (.bool false)), (47, x8), (46, x7), (45, x6), (44, a11_), (43, a1_), (42, x5), (13, x5), (12, x4), (41, x5), (40, x4), (36, x2), (39, x2), (38, a11_), (37, a0_), (33, x1), (32, x0), (31, a1_), (30, a11_)] [(0, a0_), (1, a1_), (7, a7_), (10, a10_), (11, a11_)], G3)) (
  ifV x5 (
  bS (bs Q q 65 1 (rep z3 1) 1 [(0, 0, 1)] [a11_] G3) fun x13 G14 =>
  bS (ap Q q 65 65 1 8 a10_ x13 G14) fun x15 G16 =>
  J0 (xq q 111 τ [(10, x15), (52, x15), (51, x13), (50, a11_), (49, a10_), (48, x5), (47, x8), (46, x7), (45, x6), (44, a11_), (43, a1_), (42, x5), (13, x5), (12, x4), (41, x5), (40, x4), (36, x2), (39, x2), (38, a11_), (37, a0_), (33, x1), (32, x0), (31, a1_), (30, a11_)] [(0, a0_), (1, a1_), (7, a7_), (11, a11_)]) G16) (
  J0 (xq q 111 τ [(48, x5), (47, x8), (46, x7), (45, x6), (44, a11_), (43, a1_), (42, x5), (13, x5), (12, x4), (41, x5), (40, x4), (36, x2), (39, x2), (38, a11_), (37, a0_), (33, x1), (32, x0), (31, a1_), (30, a11_)] [(0, a0_), (1, a1_), (7, a7_), (10, a10_), (11, a11_)]) G3))) (
  some ((.exit 2), xq q 111 τ [(33, x1), (32, x0), (31, a1_), (30, a11_)] [(0, a0_), (1, a1_), (7, a7_), (10, a10_), (11, a11_)], G))
noncomputable def b54_1 (q : Bool) (e : Ex) (lp : Env → GS → Option (Exit × Env × GS)) (τ : Env) (G : GS) : Option (Exit × Env × GS) := bb54_1 q e lp (jl54_1_0 q e lp) τ G
theorem mb54_1 {e : Ex} {E : Ev} (h : ExLe Q e E) {lp lp' : Env → GS → Option (Exit × Env × GS)} (hlp : LpLe lp lp') (τ : Env) (G : GS) : Ref (b54_1 true e lp τ G) (b54_1 false (Ex.of E) lp' τ G) := by
  unfold b54_1 bb54_1
  repeat' (with_reducible first | exact Ref.rfl' _ | exact ROp.r | refine Ref.bP ?_ fun _ => ?_ | refine Ref.bS ?_ fun _ _ => ?_ | exact Ref.cl (by assumption) | refine Ref.ifV ?_ ?_ | refine LpLe.rx (by assumption) ?_ | refine Ref.xitq ?_ | exact UOk.z | refine UOk.c (by assumption) ?_ | exact Ref.nil _ | refine Ref.bVe fun _ _ => ?_ | refine Ref.bLq (by assumption) ?_ fun _ _ _ => ?_ | refine Ref.ifE ?_ ?_ | refine Ref.chk ?_ ?_ | refine Imp.and ?_ ?_ | refine Imp.or ?_ | exact Imp.rfl' _ | refine Imp.sameO ?_ | refine Ref.gd ?_ | exact Ref.cValue (by assumption) | refine Ref.bX ?_ fun _ _ _ => ?_ | exact Ref.scQ (by assumption) | exact Ref.xRangeQ (by assumption) | exact Ref.cInvoke (by assumption) | refine mkjl54_1_0 (by assumption) (by assumption) ?_)
noncomputable def jtl54_1 (J0 : Env → GS → Option (Exit × Env × GS)) : JT (Exit × Env × GS) :=
  (.n none .e (.n none (.n none (.n none .e (.n none .e (.n (some (fun T G => J0 (nth undef T) G)) .e .e))) .e) .e))
set_option maxHeartbeats 8000000 in
theorem jrl54_1_0 (orc : FuncId → Bool) (J0 : Env → GS → Option (Exit × Env × GS)) (T : List Value) (G : GS) : runC Q (evL Q orc) 111 (jtl54_1 J0) (subAt [1, 1, 1, 1, 1, 0, 1, 0, 0] (bodyOf Try.f54)) (seqXE (fun τ G' => mapE ((E orc).lp (subAt [1, 1, 1, 1, 1, 0, 1, 0, 0] (bodyOf Try.f54)) (lst 111 (nth undef (lst 111 τ))) G')) fun e τ G' => some (e, nth undef (lst 111 τ), G')) [true, false, false, true, true] (nth undef T) G = jbl54_1_0 false (Ex.of (E orc)) (fun τ G => mapE ((E orc).lp (subAt [1, 1, 1, 1, 1, 0, 1, 0, 0] (bodyOf Try.f54)) (lst 111 τ) G))  (nth undef T) G := by kernel_rfl
set_option maxHeartbeats 8000000 in
theorem jol54_1 (orc : FuncId → Bool) : JOk Q orc 111 (jtl54_1 (jl54_1_0 false (Ex.of (E orc)) (fun τ G => mapE ((E orc).lp (subAt [1, 1, 1, 1, 1, 0, 1, 0, 0] (bodyOf Try.f54)) (lst 111 τ) G))) ) (subAt [1, 1, 1, 1, 1, 0, 1, 0, 0] (bodyOf Try.f54)) (seqXE (fun τ G' => mapE ((E orc).lp (subAt [1, 1, 1, 1, 1, 0, 1, 0, 0] (bodyOf Try.f54)) (lst 111 (nth undef (lst 111 τ))) G')) fun e τ G' => some (e, nth undef (lst 111 τ), G')) :=
  jOk Q orc (l := [([true, false, false, true, true], (fun T G => jl54_1_0 false (Ex.of (E orc)) (fun τ G => mapE ((E orc).lp (subAt [1, 1, 1, 1, 1, 0, 1, 0, 0] (bodyOf Try.f54)) (lst 111 τ) G)) (nth undef T) G))]) (by kernel_rfl) (AllE.c (fun T G => jrl54_1_0 orc (jl54_1_0 false (Ex.of (E orc)) (fun τ G => mapE ((E orc).lp (subAt [1, 1, 1, 1, 1, 0, 1, 0, 0] (bodyOf Try.f54)) (lst 111 τ) G))) T G) (AllE.z))
set_option maxHeartbeats 8000000 in
theorem jel54_1 (orc : FuncId → Bool) (J0 : Env → GS → Option (Exit × Env × GS)) (T : List Value) (G : GS) : sxC Q (evL Q orc) 111 (jtl54_1 J0) (subAt [1, 1, 1, 1, 1, 0, 1, 0, 0] (bodyOf Try.f54)) (nth undef T) G (seqXE (fun τ G' => mapE ((E orc).lp (subAt [1, 1, 1, 1, 1, 0, 1, 0, 0] (bodyOf Try.f54)) (lst 111 (nth undef (lst 111 τ))) G')) fun e τ G' => some (e, nth undef (lst 111 τ), G')) = bb54_1 false (Ex.of (E orc)) (fun τ G => mapE ((E orc).lp (subAt [1, 1, 1, 1, 1, 0, 1, 0, 0] (bodyOf Try.f54)) (lst 111 τ) G)) J0 (nth undef T) G := by kernel_rfl
set_option maxHeartbeats 8000000 in
theorem l54_1 {orc : FuncId → Bool} {e : Ex} (h : ExLe Q e (E orc)) (lp : Env → GS → Option (Exit × Env × GS)) (hlp : ∀ τ G, Ref (lp τ G) (mapE ((E orc).lp (subAt [1, 1, 1, 1, 1, 0, 1, 0, 0] (bodyOf Try.f54)) (lst 111 τ) G))) (T : List Value) (G : GS) (hT : T.length = 111) : Ref (b54_1 true e lp (nth undef T) G) (mapE ((E orc).lp (subAt [1, 1, 1, 1, 1, 0, 1, 0, 0] (bodyOf Try.f54)) T G)) :=
  fun r hr => lp_sxC Q orc G (jtl54_1 (jl54_1_0 false (Ex.of (E orc)) (fun τ G => mapE ((E orc).lp (subAt [1, 1, 1, 1, 1, 0, 1, 0, 0] (bodyOf Try.f54)) (lst 111 τ) G))) ) hT (jol54_1 orc) (jel54_1 orc (jl54_1_0 false (Ex.of (E orc)) (fun τ G => mapE ((E orc).lp (subAt [1, 1, 1, 1, 1, 0, 1, 0, 0] (bodyOf Try.f54)) (lst 111 τ) G))) T G) (mb54_1 h ⟨hlp⟩ _ _ r hr)
instance ilp54_2 : LpIs Q 54 2 (subAt [1, 1, 1, 1, 1, 1, 0, 1, 0, 0] (bodyOf Try.f54)) 111 := ⟨by kernel_rfl, by kernel_rfl⟩
noncomputable def b54_2 (q : Bool) (e : Ex) (lp : Env → GS → Option (Exit × Env × GS)) (τ : Env) (G : GS) : Option (Exit × Env × GS) :=
  bV q (τ 0) fun a0_ =>
  bV q (τ 10) fun a10_ =>
  bV q (τ 14) fun a14_ =>
  bP (ln Q q 65 a10_) fun x0 =>
  bP (bn Q q .lss 3 (.tmp 58) (.tmp 60) a14_ x0) fun x1 =>
  ifV x1 (
  bS (e.ev.cl 47 [a0_, a14_] (G.room 21)) fun x3 G2 =>
  bP (ias Q q 65 1 a10_ a14_) fun x4 =>
  bP (ld Q q 3 x4 G2) fun x5 =>
  chk ((sameO (ld Q q 3 x4 (G.room 21)) x5 && true)) <|
  bP (bn Q q .neq 3 (.tmp 66) (.tmp 70) x3 x5) fun x6 =>
  bS (gd x6 false (some (a0_, G2)) G2) fun x7 _ =>
  bS (gd x6 false (some (a14_, G2)) G2) fun x8 _ =>
  bS (gd x6 false (some (a10_, G2)) G2) fun x9 _ =>
  bS (gd x6 false (bP (ln Q q 65 x9) fun y => some (y, G2)) G2) fun x10 _ =>
  bS (gd x6 false (bP (bn Q q .sub 3 (.tmp 74) (.tmp 76) x8 x10) fun y => some (y, G2)) G2) fun x11 _ =>
  bS (gd x6 false (bS (e.ev.cl 47 [x7, x11] G2) fun y G => some (y, G)) G2) fun x13 G12 =>
  bS (gd x6 false (some (a10_, G12)) G12) fun x14 _ =>
  bS (gd x6 false (some (a14_, G12)) G12) fun x15 _ =>
  bS (gd x6 false (bP (ias Q q 65 1 x14 x15) fun y => some (y, G12)) G12) fun x16 _ =>
  bS (gd x6 false (bP (ld Q q 3 x16 G12) fun y => some (y, G12)) G12) fun x17 _ =>
  chk (((!(gB x6 false) || (!(gB x6 false) || sameO (ld Q q 3 x16 G2) x17)) && true)) <|
  bS (gd x6 false (bP (bn Q q .neq 3 (.tmp 78) (.tmp 82) x13 x17) fun y => some (y, G12)) G12) fun x18 _ =>
  bP (pickV x6 (.bool true) x18) fun x19 =>
  ifV x19 (
  some (.ret, xq q 111 τ [(6, (.bool false)), (84, x19), (83, x18), (82, x17), (81, x16), (80, x15), (79, x14), (78, x13), (77, x11), (76, x10), (75, x9), (74, x8), (73, x7), (72, x6), (71, x6), (70, x5), (69, x4), (68, a14_), (67, a10_), (66, x3), (65, a14_), (64, a0_), (61, x1), (60, x0), (59, a10_), (58, a14_)] [(0, a0_), (10, a10_), (14, a14_)], G12)) (
  bP (bn Q q .add 3 (.tmp 62) (.const (.int .i64 1)) a14_ (.int .i64 1)) fun x20 =>
  lp (xq q 111 τ [(14, x20), (63, x20), (62, a14_), (84, x19), (83, x18), (82, x17), (81, x16), (80, x15), (79, x14), (78, x13), (77, x11), (76, x10), (75, x9), (74, x8), (73, x7), (72, x6), (71, x6), (70, x5), (69, x4), (68, a14_), (67, a10_), (66, x3), (65, a14_), (64, a0_), (61, x1), (60, x0), (59, a10_), (58, a14_)] [(0, a0_), (10, a10_)]) G12)) (
  some ((.exit 4), xq q 111 τ [(61, x1), (60, x0), (59, a10_), (58, a14_)] [(0, a0_), (10, a10_), (14, a14_)], G))
theorem mb54_2 {e : Ex} {E : Ev} (h : ExLe Q e E) {lp lp' : Env → GS → Option (Exit × Env × GS)} (hlp : LpLe lp lp') (τ : Env) (G : GS) : Ref (b54_2 true e lp τ G) (b54_2 false (Ex.of E) lp' τ G) := by
  unfold b54_2
  repeat' (with_reducible first | exact Ref.rfl' _ | exact ROp.r | refine Ref.bP ?_ fun _ => ?_ | refine Ref.bS ?_ fun _ _ => ?_ | exact Ref.cl (by assumption) | refine Ref.ifV ?_ ?_ | refine LpLe.rx (by assumption) ?_ | refine Ref.xitq ?_ | exact UOk.z | refine UOk.c (by assumption) ?_ | exact Ref.nil _ | refine Ref.bVe fun _ _ => ?_ | refine Ref.bLq (by assumption) ?_ fun _ _ _ => ?_ | refine Ref.ifE ?_ ?_ | refine Ref.chk ?_ ?_ | refine Imp.and ?_ ?_ | refine Imp.or ?_ | exact Imp.rfl' _ | refine Imp.sameO ?_ | refine Ref.gd ?_ | exact Ref.cValue (by assumption) | refine Ref.bX ?_ fun _ _ _ => ?_ | exact Ref.scQ (by assumption) | exact Ref.xRangeQ (by assumption) | exact Ref.cInvoke (by assumption))
set_option maxHeartbeats 8000000 in
theorem l54_2 {orc : FuncId → Bool} {e : Ex} (h : ExLe Q e (E orc)) (lp : Env → GS → Option (Exit × Env × GS)) (hlp : ∀ τ G, Ref (lp τ G) (mapE ((E orc).lp (subAt [1, 1, 1, 1, 1, 1, 0, 1, 0, 0] (bodyOf Try.f54)) (lst 111 τ) G))) (T : List Value) (G : GS) (hT : T.length = 111) : Ref (b54_2 true e lp (nth undef T) G) (mapE ((E orc).lp (subAt [1, 1, 1, 1, 1, 1, 0, 1, 0, 0] (bodyOf Try.f54)) T G)) :=
  fun r hr => lp_sxN Q orc G hT (by kernel_rfl) (mb54_2 h ⟨hlp⟩ _ _ r hr)
/-- coxswain/coxswainlaw04.stands -/
noncomputable def s54 (q : Bool) (e : Ex) (v0 v1 v2 : Value) (G : GS) : Option (Value × GS) :=
  bS (e.ev.cl 43 [v0] G) fun x0 G1 =>
  bLq q e 54 0 (subAt [1, 1, 1, 0, 1, 0, 0] (bodyOf Try.f54)) 111 (nth undef [v0, v1, v2]) [(9, (.int .i64 0)), (8, x0), (16, x0), (15, v0), (7, (.int .i64 0)), (6, (.bool false))] [] G1 fun e2 t3 G4 =>
  ifE e2 (.exit 0) (
  bLq q e 54 1 (subAt [1, 1, 1, 1, 1, 0, 1, 0, 0] (bodyOf Try.f54)) 111 t3 [(11, (.int .i64 0)), (10, (.slice none 0 0))] [] G4 fun e5 t6 G7 =>
  bV q (t6 6) fun t6x6_ =>
  ifE e5 (.exit 2) (
  bLq q e 54 2 (subAt [1, 1, 1, 1, 1, 1, 0, 1, 0, 0] (bodyOf Try.f54)) 111 t6 [(14, (.int .i64 0))] [] G7 fun e8 t9 G10 =>
  bV q (t9 0) fun t9x0_ =>
  bV q (t9 2) fun t9x2_ =>
  bV q (t9 6) fun t9x6_ =>
  bV q (t9 7) fun t9x7_ =>
  bV q (t9 10) fun t9x10_ =>
  ifE e8 (.exit 4) (
  bP (bn Q q .eql 3 (.tmp 85) (.tmp 86) t9x7_ t9x2_) fun x11 =>
  bS (gd x11 true (some (t9x0_, G10)) G10) fun x12 G13 =>
  bS (gd x11 true (bS (e.ev.cl 49 [x12] G13) fun y G => some (y, G)) G13) fun x14 G15 =>
  bS (gd x11 true (some (t9x2_, G15)) G15) fun x16 G17 =>
  bS (gd x11 true (bP (bn Q q .eql 3 (.tmp 90) (.tmp 91) x14 x16) fun y => some (y, G17)) G17) fun x18 G19 =>
  bP (pickV x11 x18 (.bool false)) fun x20 =>
  bS (gd x20 true (some (t9x0_, G19)) G19) fun x21 G22 =>
  bS (gd x20 true (bS (e.ev.cl 42 [x21] G22) fun y G => some (y, G)) G22) fun x23 G24 =>
  bS (gd x20 true (some (t9x10_, G24)) G24) fun x25 G26 =>
  bS (gd x20 true (bS (e.ev.cl 45 [x23, x25] G26) fun y G => some (y, G)) G26) fun x27 G28 =>
  bP (pickV x20 x27 (.bool false)) fun x29 =>
  bS (gd x29 true (some (t9x10_, G28)) G28) fun x30 G31 =>
  bS (gd x29 true (bP (ln Q q 65 x30) fun y => some (y, G31)) G31) fun x32 G33 =>
  bS (gd x29 true (bP (bn Q q .gtr 3 (.tmp 102) (.const (.int .i64 0)) x32 (.int .i64 0)) fun y => some (y, G33)) G33) fun x34 G35 =>
  bS (gd x29 true (some (x34, G35)) G35) fun x36 G37 =>
  bS (gd x36 false (some (t9x0_, G37)) G37) fun x38 G39 =>
  bS (gd x36 false (some (t9x2_, G39)) G39) fun x40 G41 =>
  bS (gd x36 false (bS (e.ev.cl 47 [x38, x40] G41) fun y G => some (y, G)) G41) fun x42 G43 =>
  bS (gd x36 false (bP (bn Q q .eql 3 (.tmp 107) (.const (.int .i64 (-1))) x42 (.int .i64 (-1))) fun y => some (y, G43)) G43) fun x44 G45 =>
  bS (gd x29 true (bP (pickV x36 (.bool true) x44) fun y => some (y, G45)) G45) fun x46 G47 =>
  bP (pickV x29 x46 (.bool false)) fun x48 =>
  some (x48, G47)) (ifE e8 .ret (
  some (t9x6_, G10)) (none))) (ifE e5 .ret (
  some (t6x6_, G7)) (none))) (none)
theorem m54 {e : Ex} {E : Ev} (h : ExLe Q e E) (v0 v1 v2 : Value) (G : GS) : Ref (s54 true e v0 v1 v2 G) (s54 false (Ex.of E) v0 v1 v2 G) := by
  unfold s54
  repeat' (with_reducible first | exact Ref.rfl' _ | exact ROp.r | refine Ref.bP ?_ fun _ => ?_ | refine Ref.bS ?_ fun _ _ => ?_ | exact Ref.cl (by assumption) | refine Ref.ifV ?_ ?_ | refine LpLe.rx (by assumption) ?_ | refine Ref.xitq ?_ | exact UOk.z | refine UOk.c (by assumption) ?_ | exact Ref.nil _ | refine Ref.bVe fun _ _ => ?_ | refine Ref.bLq (by assumption) ?_ fun _ _ _ => ?_ | refine Ref.ifE ?_ ?_ | refine Ref.chk ?_ ?_ | refine Imp.and ?_ ?_ | refine Imp.or ?_ | exact Imp.rfl' _ | refine Imp.sameO ?_ | refine Ref.gd ?_ | exact Ref.cValue (by assumption) | refine Ref.bX ?_ fun _ _ _ => ?_ | exact Ref.scQ (by assumption) | exact Ref.xRangeQ (by assumption) | exact Ref.cInvoke (by assumption))
set_option maxHeartbeats 8000000 in
theorem f54 {orc : FuncId → Bool} {e : Ex} (h : ExLe Q e (E orc)) (v0 v1 v2 : Value) (G : GS) : Ref (s54 true e v0 v1 v2 G) ((E orc).cl 54 [v0, v1, v2] G) :=
  fun r hr => cl_sxE_some Q orc (vs := [v0, v1, v2]) G Try.func54 (by kernel_rfl) (by kernel_rfl) (by kernel_rfl) (by kernel_rfl) (by kernel_rfl) (m54 h v0 v1 v2 G r hr)
/-- (*coxswain/frame.Frame).ask -/
noncomputable def s62 (q : Bool) (e : Ex) (v0 v1 : Value) (G : GS) : Option (Value × GS) :=
  bP (ep Q q false 52 (.tmp 6) (.const (.pointer none)) v0 (.pointer none)) fun x0 =>
  bS (gd x0 false (some (v0, G)) G) fun x1 G2 =>
  bS (gd x0 false (bP (pNil x1) fun y => some (y, G2)) G2) fun x3 G4 =>
  bS (gd x0 false (bP (fa Q q 82 0 0 x3) fun y => some (y, G4)) G4) fun x5 G6 =>
  bS (gd x0 false (bP (fa Q q 80 0 0 x5) fun y => some (y, G6)) G6) fun x7 G8 =>
  bS (gd x0 false (bP (ld Q q 78 x7 G8) fun y => some (y, G8)) G8) fun x9 G10 =>
  bS (gd x0 false (bP (es Q q false 78 (.tmp 13) (.const (.slice none 0 0)) x9 (.slice none 0 0)) fun y => some (y, G10)) G10) fun x11 G12 =>
  bP (pickV x0 (.bool true) x11) fun x13 =>
  ifV x13 (
  some ((.int .i64 1), G12)) (
  bP (bn Q q .lss 3 (.tmp 17) (.const (.int .i64 0)) v1 (.int .i64 0)) fun x14 =>
  bS (gd x14 false (some (v1, G12)) G12) fun x15 G16 =>
  bS (gd x14 false (some (v0, G16)) G16) fun x17 G18 =>
  bS (gd x14 false (bP (pNil x17) fun y => some (y, G18)) G18) fun x19 G20 =>
  bS (gd x14 false (bP (fa Q q 82 0 0 x19) fun y => some (y, G20)) G20) fun x21 G22 =>
  bS (gd x14 false (bP (fa Q q 80 0 0 x21) fun y => some (y, G22)) G22) fun x23 G24 =>
  bS (gd x14 false (bP (ld Q q 78 x23 G24) fun y => some (y, G24)) G24) fun x25 G26 =>
  bS (gd x14 false (bP (ln Q q 78 x25) fun y => some (y, G26)) G26) fun x27 G28 =>
  bS (gd x14 false (bP (bn Q q .geq 3 (.tmp 20) (.tmp 26) x15 x27) fun y => some (y, G28)) G28) fun x29 G30 =>
  bP (pickV x14 (.bool true) x29) fun x31 =>
  ifV x31 (
  some ((.int .i64 3), G30)) (
  some ((.int .i64 0), G30)))
theorem m62 {e : Ex} {E : Ev} (h : ExLe Q e E) (v0 v1 : Value) (G : GS) : Ref (s62 true e v0 v1 G) (s62 false (Ex.of E) v0 v1 G) := by
  unfold s62
  repeat' (with_reducible first | exact Ref.rfl' _ | exact ROp.r | refine Ref.bP ?_ fun _ => ?_ | refine Ref.bS ?_ fun _ _ => ?_ | exact Ref.cl (by assumption) | refine Ref.ifV ?_ ?_ | refine LpLe.rx (by assumption) ?_ | refine Ref.xitq ?_ | exact UOk.z | refine UOk.c (by assumption) ?_ | exact Ref.nil _ | refine Ref.bVe fun _ _ => ?_ | refine Ref.bLq (by assumption) ?_ fun _ _ _ => ?_ | refine Ref.ifE ?_ ?_ | refine Ref.chk ?_ ?_ | refine Imp.and ?_ ?_ | refine Imp.or ?_ | exact Imp.rfl' _ | refine Imp.sameO ?_ | refine Ref.gd ?_ | exact Ref.cValue (by assumption) | refine Ref.bX ?_ fun _ _ _ => ?_ | exact Ref.scQ (by assumption) | exact Ref.xRangeQ (by assumption) | exact Ref.cInvoke (by assumption))
theorem f62 {orc : FuncId → Bool} {e : Ex} (h : ExLe Q e (E orc)) (v0 v1 : Value) (G : GS) : Ref (s62 true e v0 v1 G) ((E orc).cl 62 [v0, v1] G) :=
  fun r hr => cl_sxE_some Q orc (vs := [v0, v1]) G Try.func62 (by kernel_rfl) (by kernel_rfl) (by kernel_rfl) (by kernel_rfl) (by kernel_rfl) (m62 h v0 v1 G r hr)
/-- (*coxswain/frame.table[coxswain/frame.slot]).at -/
noncomputable def s63 (q : Bool) (e : Ex) (v0 v1 : Value) (G : GS) : Option (Value × GS) :=
  bP (bn Q q .lss 3 (.tmp 5) (.const (.int .i64 0)) v1 (.int .i64 0)) fun x0 =>
  bS (gd x0 false (some (v1, G)) G) fun x1 G2 =>
  bS (gd x0 false (some (v0, G2)) G2) fun x3 G4 =>
  bS (gd x0 false (bP (pNil x3) fun y => some (y, G4)) G4) fun x5 G6 =>
  bS (gd x0 false (bP (fa Q q 80 0 0 x5) fun y => some (y, G6)) G6) fun x7 G8 =>
  bS (gd x0 false (bP (ld Q q 78 x7 G8) fun y => some (y, G8)) G8) fun x9 G10 =>
  bS (gd x0 false (bP (ln Q q 78 x9) fun y => some (y, G10)) G10) fun x11 G12 =>
  bS (gd x0 false (bP (bn Q q .geq 3 (.tmp 8) (.tmp 13) x1 x11) fun y => some (y, G12)) G12) fun x13 G14 =>
  bP (pickV x0 (.bool true) x13) fun x15 =>
  ifV x15 (
  some ((.pointer none), G14)) (
  bP (pNil v0) fun x16 =>
  bP (fa Q q 80 0 0 x16) fun x17 =>
  bP (ld Q q 78 x17 G14) fun x18 =>
  bP (ias Q q 78 1 x18 v1) fun x19 =>
  bP (ld Q q 96 x19 G14) fun x20 =>
  some (x20, G14))
theorem m63 {e : Ex} {E : Ev} (h : ExLe Q e E) (v0 v1 : Value) (G : GS) : Ref (s63 true e v0 v1 G) (s63 false (Ex.of E) v0 v1 G) := by
  unfold s63
  repeat' (with_reducible first | exact Ref.rfl' _ | exact ROp.r | refine Ref.bP ?_ fun _ => ?_ | refine Ref.bS ?_ fun _ _ => ?_ | exact Ref.cl (by assumption) | refine Ref.ifV ?_ ?_ | refine LpLe.rx (by assumption) ?_ | refine Ref.xitq ?_ | exact UOk.z | refine UOk.c (by assumption) ?_ | exact Ref.nil _ | refine Ref.bVe fun _ _ => ?_ | refine Ref.bLq (by assumption) ?_ fun _ _ _ => ?_ | refine Ref.ifE ?_ ?_ | refine Ref.chk ?_ ?_ | refine Imp.and ?_ ?_ | refine Imp.or ?_ | exact Imp.rfl' _ | refine Imp.sameO ?_ | refine Ref.gd ?_ | exact Ref.cValue (by assumption) | refine Ref.bX ?_ fun _ _ _ => ?_ | exact Ref.scQ (by assumption) | exact Ref.xRangeQ (by assumption) | exact Ref.cInvoke (by assumption))
theorem f63 {orc : FuncId → Bool} {e : Ex} (h : ExLe Q e (E orc)) (v0 v1 : Value) (G : GS) : Ref (s63 true e v0 v1 G) ((E orc).cl 63 [v0, v1] G) :=
  fun r hr => cl_sxE_some Q orc (vs := [v0, v1]) G Try.func63 (by kernel_rfl) (by kernel_rfl) (by kernel_rfl) (by kernel_rfl) (by kernel_rfl) (m63 h v0 v1 G r hr)
instance ilp64_0 : LpIs Q 64 0 (subAt [1, 1, 0, 1, 0, 0] (bodyOf Try.f64)) 37 := ⟨by kernel_rfl, by kernel_rfl⟩
noncomputable def b64_0 (q : Bool) (e : Ex) (lp : Env → GS → Option (Exit × Env × GS)) (τ : Env) (G : GS) : Option (Exit × Env × GS) :=
  bV q (τ 0) fun a0_ =>
  bV q (τ 1) fun a1_ =>
  bV q (τ 6) fun a6_ =>
  bP (pNil a0_) fun x0 =>
  bP (fa Q q 73 1 1 x0) fun x1 =>
  bP (ld Q q 67 x1 G) fun x2 =>
  bP (ln Q q 67 x2) fun x3 =>
  bP (bn Q q .lss 3 (.tmp 17) (.tmp 22) a6_ x3) fun x4 =>
  ifV x4 (
  bP (pNil a0_) fun x5 =>
  bP (fa Q q 73 1 1 x5) fun x6 =>
  bP (ld Q q 67 x6 G) fun x7 =>
  bP (ias Q q 67 3 x7 a6_) fun x8 =>
  bP (fa Q q 87 0 0 x8) fun x9 =>
  bP (ld Q q 3 x9 G) fun x10 =>
  bP (bn Q q .eql 3 (.tmp 33) (.tmp 34) x10 a1_) fun x11 =>
  ifV x11 (
  some (.ret, xq q 37 τ [(5, (.int .i64 0)), (4, a6_), (36, a6_), (35, x11), (34, a1_), (33, x10), (32, x9), (31, x8), (30, a6_), (29, x7), (28, x6), (27, x5), (26, a0_), (23, x4), (22, x3), (21, x2), (20, x1), (19, x0), (18, a0_), (17, a6_)] [(0, a0_), (1, a1_), (6, a6_)], G)) (
  bP (bn Q q .add 3 (.tmp 24) (.const (.int .i64 1)) a6_ (.int .i64 1)) fun x12 =>
  lp (xq q 37 τ [(6, x12), (25, x12), (24, a6_), (35, x11), (34, a1_), (33, x10), (32, x9), (31, x8), (30, a6_), (29, x7), (28, x6), (27, x5), (26, a0_), (23, x4), (22, x3), (21, x2), (20, x1), (19, x0), (18, a0_), (17, a6_)] [(0, a0_), (1, a1_)]) G)) (
  some ((.exit 0), xq q 37 τ [(23, x4), (22, x3), (21, x2), (20, x1), (19, x0), (18, a0_), (17, a6_)] [(0, a0_), (1, a1_), (6, a6_)], G))
theorem mb64_0 {e : Ex} {E : Ev} (h : ExLe Q e E) {lp lp' : Env → GS → Option (Exit × Env × GS)} (hlp : LpLe lp lp') (τ : Env) (G : GS) : Ref (b64_0 true e lp τ G) (b64_0 false (Ex.of E) lp' τ G) := by
  unfold b64_0
  repeat' (with_reducible first | exact Ref.rfl' _ | exact ROp.r | refine Ref.bP ?_ fun _ => ?_ | refine Ref.bS ?_ fun _ _ => ?_ | exact Ref.cl (by assumption) | refine Ref.ifV ?_ ?_ | refine LpLe.rx (by assumption) ?_ | refine Ref.xitq ?_ | exact UOk.z | refine UOk.c (by assumption) ?_ | exact Ref.nil _ | refine Ref.bVe fun _ _ => ?_ | refine Ref.bLq (by assumption) ?_ fun _ _ _ => ?_ | refine Ref.ifE ?_ ?_ | refine Ref.chk ?_ ?_ | refine Imp.and ?_ ?_ | refine Imp.or ?_ | exact Imp.rfl' _ | refine Imp.sameO ?_ | refine Ref.gd ?_ | exact Ref.cValue (by assumption) | refine Ref.bX ?_ fun _ _ _ => ?_ | exact Ref.scQ (by assumption) | exact Ref.xRangeQ (by assumption) | exact Ref.cInvoke (by assumption))
theorem l64_0 {orc : FuncId → Bool} {e : Ex} (h : ExLe Q e (E orc)) (lp : Env → GS → Option (Exit × Env × GS)) (hlp : ∀ τ G, Ref (lp τ G) (mapE ((E orc).lp (subAt [1, 1, 0, 1, 0, 0] (bodyOf Try.f64)) (lst 37 τ) G))) (T : List Value) (G : GS) (hT : T.length = 37) : Ref (b64_0 true e lp (nth undef T) G) (mapE ((E orc).lp (subAt [1, 1, 0, 1, 0, 0] (bodyOf Try.f64)) T G)) :=
  fun r hr => lp_sxN Q orc G hT (by kernel_rfl) (mb64_0 h ⟨hlp⟩ _ _ r hr)
/-- (*coxswain/coxswainref04.Frame).at -/
noncomputable def s64 (q : Bool) (e : Ex) (v0 v1 : Value) (G : GS) : Option (Value × GS) :=
  bP (bn Q q .lss 3 (.tmp 7) (.const (.int .i64 0)) v1 (.int .i64 0)) fun x0 =>
  bS (gd x0 false (some (v1, G)) G) fun x1 G2 =>
  bS (gd x0 false (some (v0, G2)) G2) fun x3 G4 =>
  bS (gd x0 false (bP (pNil x3) fun y => some (y, G4)) G4) fun x5 G6 =>
  bS (gd x0 false (bP (fa Q q 73 0 0 x5) fun y => some (y, G6)) G6) fun x7 G8 =>
  bS (gd x0 false (bP (ld Q q 3 x7 G8) fun y => some (y, G8)) G8) fun x9 G10 =>
  bS (gd x0 false (bP (bn Q q .geq 3 (.tmp 10) (.tmp 14) x1 x9) fun y => some (y, G10)) G10) fun x11 G12 =>
  bP (pickV x0 (.bool true) x11) fun x13 =>
  ifV x13 (
  some (.tuple #[(.int .i64 (-1)), (.int .i64 3)], G12)) (
  bLq q e 64 0 (subAt [1, 1, 0, 1, 0, 0] (bodyOf Try.f64)) 37 (nth undef [v0, v1]) [(6, (.int .i64 0)), (16, x13), (15, x11), (14, x9), (13, x7), (12, x5), (11, x3), (10, x1), (9, x0), (8, x0), (7, v1), (5, (.int .i64 0)), (4, (.int .i64 0))] [] G12 fun e14 t15 G16 =>
  bV q (t15 4) fun t15x4_ =>
  bV q (t15 5) fun t15x5_ =>
  ifE e14 (.exit 0) (
  some (.tuple #[(.int .i64 (-1)), (.int .i64 15)], G16)) (ifE e14 .ret (
  some (.tuple #[t15x4_, t15x5_], G16)) (none)))
theorem m64 {e : Ex} {E : Ev} (h : ExLe Q e E) (v0 v1 : Value) (G : GS) : Ref (s64 true e v0 v1 G) (s64 false (Ex.of E) v0 v1 G) := by
  unfold s64
  repeat' (with_reducible first | exact Ref.rfl' _ | exact ROp.r | refine Ref.bP ?_ fun _ => ?_ | refine Ref.bS ?_ fun _ _ => ?_ | exact Ref.cl (by assumption) | refine Ref.ifV ?_ ?_ | refine LpLe.rx (by assumption) ?_ | refine Ref.xitq ?_ | exact UOk.z | refine UOk.c (by assumption) ?_ | exact Ref.nil _ | refine Ref.bVe fun _ _ => ?_ | refine Ref.bLq (by assumption) ?_ fun _ _ _ => ?_ | refine Ref.ifE ?_ ?_ | refine Ref.chk ?_ ?_ | refine Imp.and ?_ ?_ | refine Imp.or ?_ | exact Imp.rfl' _ | refine Imp.sameO ?_ | refine Ref.gd ?_ | exact Ref.cValue (by assumption) | refine Ref.bX ?_ fun _ _ _ => ?_ | exact Ref.scQ (by assumption) | exact Ref.xRangeQ (by assumption) | exact Ref.cInvoke (by assumption))
theorem f64 {orc : FuncId → Bool} {e : Ex} (h : ExLe Q e (E orc)) (v0 v1 : Value) (G : GS) : Ref (s64 true e v0 v1 G) ((E orc).cl 64 [v0, v1] G) :=
  fun r hr => cl_sxE_some Q orc (vs := [v0, v1]) G Try.func64 (by kernel_rfl) (by kernel_rfl) (by kernel_rfl) (by kernel_rfl) (by kernel_rfl) (m64 h v0 v1 G r hr)
/-- (*coxswain/frame.Frame).of -/
noncomputable def s65 (q : Bool) (e : Ex) (v0 v1 : Value) (G : GS) : Option (Value × GS) :=
  bS (e.ev.cl 62 [v0, v1] G) fun x0 G1 =>
  bP (bn Q q .neq 26 (.tmp 7) (.const (.int .i64 0)) x0 (.int .i64 0)) fun x2 =>
  ifV x2 (
  some ((.pointer none), G1)) (
  bP (pNil v0) fun x3 =>
  bP (fa Q q 82 0 0 x3) fun x4 =>
  bS (e.ev.cl 63 [x4, v1] G1) fun x5 G6 =>
  some (x5, G6))
theorem m65 {e : Ex} {E : Ev} (h : ExLe Q e E) (v0 v1 : Value) (G : GS) : Ref (s65 true e v0 v1 G) (s65 false (Ex.of E) v0 v1 G) := by
  unfold s65
  repeat' (with_reducible first | exact Ref.rfl' _ | exact ROp.r | refine Ref.bP ?_ fun _ => ?_ | refine Ref.bS ?_ fun _ _ => ?_ | exact Ref.cl (by assumption) | refine Ref.ifV ?_ ?_ | refine LpLe.rx (by assumption) ?_ | refine Ref.xitq ?_ | exact UOk.z | refine UOk.c (by assumption) ?_ | exact Ref.nil _ | refine Ref.bVe fun _ _ => ?_ | refine Ref.bLq (by assumption) ?_ fun _ _ _ => ?_ | refine Ref.ifE ?_ ?_ | refine Ref.chk ?_ ?_ | refine Imp.and ?_ ?_ | refine Imp.or ?_ | exact Imp.rfl' _ | refine Imp.sameO ?_ | refine Ref.gd ?_ | exact Ref.cValue (by assumption) | refine Ref.bX ?_ fun _ _ _ => ?_ | exact Ref.scQ (by assumption) | exact Ref.xRangeQ (by assumption) | exact Ref.cInvoke (by assumption))
theorem f65 {orc : FuncId → Bool} {e : Ex} (h : ExLe Q e (E orc)) (v0 v1 : Value) (G : GS) : Ref (s65 true e v0 v1 G) ((E orc).cl 65 [v0, v1] G) :=
  fun r hr => cl_sxE_some Q orc (vs := [v0, v1]) G Try.func65 (by kernel_rfl) (by kernel_rfl) (by kernel_rfl) (by kernel_rfl) (by kernel_rfl) (m65 h v0 v1 G r hr)
/-- (*coxswain/frame.table[coxswain/frame.slot]).all -/
noncomputable def s66 (q : Bool) (e : Ex) (v0 : Value) (G : GS) : Option (Value × GS) :=
  bS (bx q v0 G) fun x0 G1 =>
  some ((.func (.func 72) #[] #[x0]), G1)
theorem m66 {e : Ex} {E : Ev} (h : ExLe Q e E) (v0 : Value) (G : GS) : Ref (s66 true e v0 G) (s66 false (Ex.of E) v0 G) := by
  unfold s66
  repeat' (with_reducible first | exact Ref.rfl' _ | exact ROp.r | refine Ref.bP ?_ fun _ => ?_ | refine Ref.bS ?_ fun _ _ => ?_ | exact Ref.cl (by assumption) | refine Ref.ifV ?_ ?_ | refine LpLe.rx (by assumption) ?_ | refine Ref.xitq ?_ | exact UOk.z | refine UOk.c (by assumption) ?_ | exact Ref.nil _ | refine Ref.bVe fun _ _ => ?_ | refine Ref.bLq (by assumption) ?_ fun _ _ _ => ?_ | refine Ref.ifE ?_ ?_ | refine Ref.chk ?_ ?_ | refine Imp.and ?_ ?_ | refine Imp.or ?_ | exact Imp.rfl' _ | refine Imp.sameO ?_ | refine Ref.gd ?_ | exact Ref.cValue (by assumption) | refine Ref.bX ?_ fun _ _ _ => ?_ | exact Ref.scQ (by assumption) | exact Ref.xRangeQ (by assumption) | exact Ref.cInvoke (by assumption))
theorem f66 {orc : FuncId → Bool} {e : Ex} (h : ExLe Q e (E orc)) (v0 : Value) (G : GS) : Ref (s66 true e v0 G) ((E orc).cl 66 [v0] G) :=
  fun r hr => cl_sxE_some Q orc (vs := [v0]) G Try.func66 (by kernel_rfl) (by kernel_rfl) (by kernel_rfl) (by kernel_rfl) (by kernel_rfl) (m66 h v0 G r hr)
instance ilp72_0 : LpIs Q 72 0 (subAt [1, 0, 0] (bodyOf Try.f72)) 25 := ⟨by kernel_rfl, by kernel_rfl⟩
noncomputable def b72_0 (q : Bool) (e : Ex) (lp : Env → GS → Option (Exit × Env × GS)) (τ : Env) (G : GS) : Option (Exit × Env × GS) :=
  bV q (τ 0) fun a0_ =>
  bV q (τ 8) fun a8_ =>
  bV q (τ 9) fun a9_ =>
  bV q (τ 10) fun a10_ =>
  bP (bn Q q .lss 3 (.tmp 10) (.tmp 9) a10_ a9_) fun x0 =>
  ifV x0 (
  bP (ias Q q 78 1 a8_ a10_) fun x1 =>
  bP (ld Q q 96 x1 G) fun x2 =>
  bP (ep Q q true 96 (.tmp 15) (.const (.pointer none)) x2 (.pointer none)) fun x3 =>
  bS (gd x3 true (some (a0_, G)) G) fun x4 G5 =>
  bS (gd x3 true (some (a10_, G5)) G5) fun x6 G7 =>
  bS (gd x3 true (some (x2, G7)) G7) fun x8 G9 =>
  bS (gd x3 true (bS (cValue e.ev x4 [x6, x8] G9) fun y G => some (y, G)) G9) fun x10 G11 =>
  bS (gd x3 true (bP (un Q q .not x10) fun y => some (y, G11)) G11) fun x12 G13 =>
  bP (pickV x3 x12 (.bool false)) fun x14 =>
  ifV x14 (
  some (.ret, xq q 25 τ [(23, x14), (22, x12), (21, x10), (20, x8), (19, x6), (18, x4), (17, x3), (16, x3), (15, x2), (4, x2), (3, a10_), (14, x2), (13, x1), (12, a10_), (11, x0)] [(0, a0_), (8, a8_), (9, a9_), (10, a10_)], G13)) (
  bP (bn Q q .add 3 (.tmp 10) (.const (.int .i64 1)) a10_ (.int .i64 1)) fun x15 =>
  lp (xq q 25 τ [(10, x15), (24, x15), (23, x14), (22, x12), (21, x10), (20, x8), (19, x6), (18, x4), (17, x3), (16, x3), (15, x2), (4, x2), (3, a10_), (14, x2), (13, x1), (12, a10_), (11, x0)] [(0, a0_), (8, a8_), (9, a9_)]) G13)) (
  some ((.exit 0), xq q 25 τ [(11, x0)] [(0, a0_), (8, a8_), (9, a9_), (10, a10_)], G))
theorem mb72_0 {e : Ex} {E : Ev} (h : ExLe Q e E) {lp lp' : Env → GS → Option (Exit × Env × GS)} (hlp : LpLe lp lp') (τ : Env) (G : GS) : Ref (b72_0 true e lp τ G) (b72_0 false (Ex.of E) lp' τ G) := by
  unfold b72_0
  repeat' (with_reducible first | exact Ref.rfl' _ | exact ROp.r | refine Ref.bP ?_ fun _ => ?_ | refine Ref.bS ?_ fun _ _ => ?_ | exact Ref.cl (by assumption) | refine Ref.ifV ?_ ?_ | refine LpLe.rx (by assumption) ?_ | refine Ref.xitq ?_ | exact UOk.z | refine UOk.c (by assumption) ?_ | exact Ref.nil _ | refine Ref.bVe fun _ _ => ?_ | refine Ref.bLq (by assumption) ?_ fun _ _ _ => ?_ | refine Ref.ifE ?_ ?_ | refine Ref.chk ?_ ?_ | refine Imp.and ?_ ?_ | refine Imp.or ?_ | exact Imp.rfl' _ | refine Imp.sameO ?_ | refine Ref.gd ?_ | exact Ref.cValue (by assumption) | refine Ref.bX ?_ fun _ _ _ => ?_ | exact Ref.scQ (by assumption) | exact Ref.xRangeQ (by assumption) | exact Ref.cInvoke (by assumption))
theorem l72_0 {orc : FuncId → Bool} {e : Ex} (h : ExLe Q e (E orc)) (lp : Env → GS → Option (Exit × Env × GS)) (hlp : ∀ τ G, Ref (lp τ G) (mapE ((E orc).lp (subAt [1, 0, 0] (bodyOf Try.f72)) (lst 25 τ) G))) (T : List Value) (G : GS) (hT : T.length = 25) : Ref (b72_0 true e lp (nth undef T) G) (mapE ((E orc).lp (subAt [1, 0, 0] (bodyOf Try.f72)) T G)) :=
  fun r hr => lp_sxN Q orc G hT (by kernel_rfl) (mb72_0 h ⟨hlp⟩ _ _ r hr)
/-- (*coxswain/frame.table[coxswain/frame.slot]).all$1 -/
noncomputable def s72 (q : Bool) (e : Ex) (v0 v1 : Value) (G : GS) : Option (Value × GS) :=
  bP (ld Q q 108 v1 G) fun x0 =>
  bP (pNil x0) fun x1 =>
  bP (fa Q q 80 0 0 x1) fun x2 =>
  bP (ld Q q 78 x2 G) fun x3 =>
  bP (ln Q q 78 x3) fun x4 =>
  bLq q e 72 0 (subAt [1, 0, 0] (bodyOf Try.f72)) 25 (nth undef [v0, v1]) [(10, (.int .i64 0)), (9, x4), (8, x3), (7, x2), (6, x1), (5, x0)] [] G fun e5 t6 G7 =>
  ifE e5 (.exit 0) (
  some (.tuple #[], G7)) (ifE e5 .ret (
  some (.tuple #[], G7)) (none))
theorem m72 {e : Ex} {E : Ev} (h : ExLe Q e E) (v0 v1 : Value) (G : GS) : Ref (s72 true e v0 v1 G) (s72 false (Ex.of E) v0 v1 G) := by
  unfold s72
  repeat' (with_reducible first | exact Ref.rfl' _ | exact ROp.r | refine Ref.bP ?_ fun _ => ?_ | refine Ref.bS ?_ fun _ _ => ?_ | exact Ref.cl (by assumption) | refine Ref.ifV ?_ ?_ | refine LpLe.rx (by assumption) ?_ | refine Ref.xitq ?_ | exact UOk.z | refine UOk.c (by assumption) ?_ | exact Ref.nil _ | refine Ref.bVe fun _ _ => ?_ | refine Ref.bLq (by assumption) ?_ fun _ _ _ => ?_ | refine Ref.ifE ?_ ?_ | refine Ref.chk ?_ ?_ | refine Imp.and ?_ ?_ | refine Imp.or ?_ | exact Imp.rfl' _ | refine Imp.sameO ?_ | refine Ref.gd ?_ | exact Ref.cValue (by assumption) | refine Ref.bX ?_ fun _ _ _ => ?_ | exact Ref.scQ (by assumption) | exact Ref.xRangeQ (by assumption) | exact Ref.cInvoke (by assumption))
theorem f72 {orc : FuncId → Bool} {e : Ex} (h : ExLe Q e (E orc)) (v0 v1 : Value) (G : GS) : Ref (s72 true e v0 v1 G) ((E orc).cl 72 [v0, v1] G) :=
  fun r hr => cl_sxE_some Q orc (vs := [v0, v1]) G Try.func72 (by kernel_rfl) (by kernel_rfl) (by kernel_rfl) (by kernel_rfl) (by kernel_rfl) (m72 h v0 v1 G r hr)
noncomputable def clT (orc : FuncId → Bool) (e : Ex) (f : FuncId) (vs : List Value) (G : GS) : Option (Value × GS) :=
  fork f 43 (
fork f 34 (
fork f 31 (
fork f 12 (
fork f 9 (
leaf f 9 (app2 (s9 true e) vs G)) (
leaf f 12 (app2 (s12 true e) vs G))) (
fork f 21 (
leaf f 21 (app2 (s21 true e) vs G)) (
leaf f 31 (app0 (orc 31) (s31 true e) vs G)))) (
fork f 32 (
fork f 11 (
leaf f 11 (app0 (orc 11) (s11 true e) vs G)) (
leaf f 32 (app1 (s32 true e) vs G))) (
fork f 33 (
leaf f 33 (app1 (s33 true e) vs G)) (
leaf f 34 (app3 (s34 true e) vs G))))) (
fork f 38 (
fork f 36 (
fork f 35 (
leaf f 35 (app3 (s35 true e) vs G)) (
leaf f 36 (app2 (s36 true e) vs G))) (
fork f 37 (
leaf f 37 (app2 (s37 true e) vs G)) (
leaf f 38 (app2 (s38 true e) vs G)))) (
fork f 40 (
fork f 39 (
leaf f 39 (app2 (s39 true e) vs G)) (
leaf f 40 (app2 (s40 true e) vs G))) (
fork f 41 (
leaf f 41 (app2 (s41 true e) vs G)) (
fork f 42 (
leaf f 42 (app1 (s42 true e) vs G)) (
leaf f 43 (app1 (s43 true e) vs G))))))) (
fork f 51 (
fork f 47 (
fork f 45 (
fork f 44 (
leaf f 44 (app2 (s44 true e) vs G)) (
leaf f 45 (app2 (s45 true e) vs G))) (
fork f 46 (
leaf f 46 (app1 (s46 true e) vs G)) (
leaf f 47 (app2 (s47 true e) vs G)))) (
fork f 49 (
fork f 48 (
leaf f 48 (app2 (s48 true e) vs G)) (
leaf f 49 (app1 (s49 true e) vs G))) (
fork f 50 (
leaf f 50 (app2 (s50 true e) vs G)) (
leaf f 51 (app1 (s51 true e) vs G))))) (
fork f 62 (
fork f 53 (
fork f 52 (
leaf f 52 (app1 (s52 true e) vs G)) (
leaf f 53 (app0 (orc 53) (s53 true e) vs G))) (
fork f 54 (
leaf f 54 (app3 (s54 true e) vs G)) (
leaf f 62 (app2 (s62 true e) vs G)))) (
fork f 64 (
fork f 63 (
leaf f 63 (app2 (s63 true e) vs G)) (
leaf f 64 (app2 (s64 true e) vs G))) (
fork f 65 (
leaf f 65 (app2 (s65 true e) vs G)) (
fork f 66 (
leaf f 66 (app1 (s66 true e) vs G)) (
leaf f 72 (app2 (s72 true e) vs G)))))))
theorem clT_ok {orc : FuncId → Bool} {e : Ex} (h : ExLe Q e (E orc)) (f : FuncId) (vs : List Value) (G : GS) : Ref (clT orc e f vs G) ((E orc).cl f vs G) :=
  Ref.fork (
Ref.fork (
Ref.fork (
Ref.fork (
Ref.fork (
Ref.leaf (y := fun f => (E orc).cl f vs G) (Ref.app2 (fun u0 u1 G => f9 h u0 u1 G) vs G)) (
Ref.leaf (y := fun f => (E orc).cl f vs G) (Ref.app2 (fun u0 u1 G => f12 h u0 u1 G) vs G))) (
Ref.fork (
Ref.leaf (y := fun f => (E orc).cl f vs G) (Ref.app2 (fun u0 u1 G => f21 h u0 u1 G) vs G)) (
Ref.leaf (y := fun f => (E orc).cl f vs G) (Ref.app0 (fun ho G => f31 h ho G) vs G)))) (
Ref.fork (
Ref.fork (
Ref.leaf (y := fun f => (E orc).cl f vs G) (Ref.app0 (fun ho G => f11 h ho G) vs G)) (
Ref.leaf (y := fun f => (E orc).cl f vs G) (Ref.app1 (fun u0 G => f32 h u0 G) vs G))) (
Ref.fork (
Ref.leaf (y := fun f => (E orc).cl f vs G) (Ref.app1 (fun u0 G => f33 h u0 G) vs G)) (
Ref.leaf (y := fun f => (E orc).cl f vs G) (Ref.app3 (fun u0 u1 u2 G => f34 h u0 u1 u2 G) vs G))))) (
Ref.fork (
Ref.fork (
Ref.fork (
Ref.leaf (y := fun f => (E orc).cl f vs G) (Ref.app3 (fun u0 u1 u2 G => f35 h u0 u1 u2 G) vs G)) (
Ref.leaf (y := fun f => (E orc).cl f vs G) (Ref.app2 (fun u0 u1 G => f36 h u0 u1 G) vs G))) (
Ref.fork (
Ref.leaf (y := fun f => (E orc).cl f vs G) (Ref.app2 (fun u0 u1 G => f37 h u0 u1 G) vs G)) (
Ref.leaf (y := fun f => (E orc).cl f vs G) (Ref.app2 (fun u0 u1 G => f38 h u0 u1 G) vs G)))) (
Ref.fork (
Ref.fork (
Ref.leaf (y := fun f => (E orc).cl f vs G) (Ref.app2 (fun u0 u1 G => f39 h u0 u1 G) vs G)) (
Ref.leaf (y := fun f => (E orc).cl f vs G) (Ref.app2 (fun u0 u1 G => f40 h u0 u1 G) vs G))) (
Ref.fork (
Ref.leaf (y := fun f => (E orc).cl f vs G) (Ref.app2 (fun u0 u1 G => f41 h u0 u1 G) vs G)) (
Ref.fork (
Ref.leaf (y := fun f => (E orc).cl f vs G) (Ref.app1 (fun u0 G => f42 h u0 G) vs G)) (
Ref.leaf (y := fun f => (E orc).cl f vs G) (Ref.app1 (fun u0 G => f43 h u0 G) vs G))))))) (
Ref.fork (
Ref.fork (
Ref.fork (
Ref.fork (
Ref.leaf (y := fun f => (E orc).cl f vs G) (Ref.app2 (fun u0 u1 G => f44 h u0 u1 G) vs G)) (
Ref.leaf (y := fun f => (E orc).cl f vs G) (Ref.app2 (fun u0 u1 G => f45 h u0 u1 G) vs G))) (
Ref.fork (
Ref.leaf (y := fun f => (E orc).cl f vs G) (Ref.app1 (fun u0 G => f46 h u0 G) vs G)) (
Ref.leaf (y := fun f => (E orc).cl f vs G) (Ref.app2 (fun u0 u1 G => f47 h u0 u1 G) vs G)))) (
Ref.fork (
Ref.fork (
Ref.leaf (y := fun f => (E orc).cl f vs G) (Ref.app2 (fun u0 u1 G => f48 h u0 u1 G) vs G)) (
Ref.leaf (y := fun f => (E orc).cl f vs G) (Ref.app1 (fun u0 G => f49 h u0 G) vs G))) (
Ref.fork (
Ref.leaf (y := fun f => (E orc).cl f vs G) (Ref.app2 (fun u0 u1 G => f50 h u0 u1 G) vs G)) (
Ref.leaf (y := fun f => (E orc).cl f vs G) (Ref.app1 (fun u0 G => f51 h u0 G) vs G))))) (
Ref.fork (
Ref.fork (
Ref.fork (
Ref.leaf (y := fun f => (E orc).cl f vs G) (Ref.app1 (fun u0 G => f52 h u0 G) vs G)) (
Ref.leaf (y := fun f => (E orc).cl f vs G) (Ref.app0 (fun ho G => f53 h ho G) vs G))) (
Ref.fork (
Ref.leaf (y := fun f => (E orc).cl f vs G) (Ref.app3 (fun u0 u1 u2 G => f54 h u0 u1 u2 G) vs G)) (
Ref.leaf (y := fun f => (E orc).cl f vs G) (Ref.app2 (fun u0 u1 G => f62 h u0 u1 G) vs G)))) (
Ref.fork (
Ref.fork (
Ref.leaf (y := fun f => (E orc).cl f vs G) (Ref.app2 (fun u0 u1 G => f63 h u0 u1 G) vs G)) (
Ref.leaf (y := fun f => (E orc).cl f vs G) (Ref.app2 (fun u0 u1 G => f64 h u0 u1 G) vs G))) (
Ref.fork (
Ref.leaf (y := fun f => (E orc).cl f vs G) (Ref.app2 (fun u0 u1 G => f65 h u0 u1 G) vs G)) (
Ref.fork (
Ref.leaf (y := fun f => (E orc).cl f vs G) (Ref.app1 (fun u0 G => f66 h u0 G) vs G)) (
Ref.leaf (y := fun f => (E orc).cl f vs G) (Ref.app2 (fun u0 u1 G => f72 h u0 u1 G) vs G)))))))
noncomputable def lpT (FUEL : Nat) (e : Ex) (f k : Nat) (τ : Env) (G : GS) : Option (Exit × Env × GS) :=
  fork f 46 (
fork f 12 (
fork f 9 (
leaf f 9 (leaf k 0 (lpS 176 (b9_0 true e) FUEL τ G))) (
leaf f 12 (leaf k 0 (lpS 119 (b12_0 true e) FUEL τ G)))) (
fork f 35 (
leaf f 35 (leaf k 0 (lpS 70 (b35_0 true e) FUEL τ G))) (
fork f 45 (
leaf f 45 (leaf k 0 (lpS 31 (b45_0 true e) FUEL τ G))) (
leaf f 46 (leaf k 0 (lpS 26 (b46_0 true e) FUEL τ G)))))) (
fork f 52 (
fork f 50 (
leaf f 50 (leaf k 0 (lpS 31 (b50_0 true e) FUEL τ G))) (
fork f 51 (
leaf f 51 (leaf k 0 (lpS 12 (b51_0 true e) FUEL τ G))) (
leaf f 52 (leaf k 0 (lpS 13 (b52_0 true e) FUEL τ G))))) (
fork f 54 (
leaf f 54 (fork k 0 (leaf k 0 (lpS 111 (b54_0 true e) FUEL τ G)) (fork k 1 (leaf k 1 (lpS 111 (b54_1 true e) FUEL τ G)) (leaf k 2 (lpS 111 (b54_2 true e) FUEL τ G))))) (
fork f 64 (
leaf f 64 (leaf k 0 (lpS 37 (b64_0 true e) FUEL τ G))) (
leaf f 72 (leaf k 0 (lpS 25 (b72_0 true e) FUEL τ G))))))
theorem lpT_ok {orc : FuncId → Bool} {e : Ex} (h : ExLe Q e (E orc)) (FUEL f k : Nat) (τ : Env) (G : GS) : Ref (lpT FUEL e f k τ G) (mapE ((E orc).lp (codeAt Q f k) (lst (nOf Q f) τ) G)) :=
  Ref.fork (
Ref.fork (
Ref.fork (
Ref.leaf (y := fun f => mapE ((E orc).lp (codeAt Q f k) (lst (nOf Q f) τ) G)) (Ref.leaf (y := fun k => mapE ((E orc).lp (codeAt Q 9 k) (lst (nOf Q 9) τ) G)) (lp_leaf (c := (subAt [1, 1, 1, 1, 1, 0, 1, 0, 0] (bodyOf Try.f9))) (l9_0 h) _ _ _))) (
Ref.leaf (y := fun f => mapE ((E orc).lp (codeAt Q f k) (lst (nOf Q f) τ) G)) (Ref.leaf (y := fun k => mapE ((E orc).lp (codeAt Q 12 k) (lst (nOf Q 12) τ) G)) (lp_leaf (c := (subAt [1, 1, 1, 1, 1, 1, 1, 1, 0, 1, 0, 0] (bodyOf Try.f12))) (l12_0 h) _ _ _)))) (
Ref.fork (
Ref.leaf (y := fun f => mapE ((E orc).lp (codeAt Q f k) (lst (nOf Q f) τ) G)) (Ref.leaf (y := fun k => mapE ((E orc).lp (codeAt Q 35 k) (lst (nOf Q 35) τ) G)) (lp_leaf (c := (subAt [1, 1, 1, 1, 0, 0, 0] (bodyOf Try.f35))) (l35_0 h) _ _ _))) (
Ref.fork (
Ref.leaf (y := fun f => mapE ((E orc).lp (codeAt Q f k) (lst (nOf Q f) τ) G)) (Ref.leaf (y := fun k => mapE ((E orc).lp (codeAt Q 45 k) (lst (nOf Q 45) τ) G)) (lp_leaf (c := (subAt [1, 1, 0, 1, 0, 0] (bodyOf Try.f45))) (l45_0 h) _ _ _))) (
Ref.leaf (y := fun f => mapE ((E orc).lp (codeAt Q f k) (lst (nOf Q f) τ) G)) (Ref.leaf (y := fun k => mapE ((E orc).lp (codeAt Q 46 k) (lst (nOf Q 46) τ) G)) (lp_leaf (c := (subAt [1, 1, 0, 1, 0, 0] (bodyOf Try.f46))) (l46_0 h) _ _ _)))))) (
Ref.fork (
Ref.fork (
Ref.leaf (y := fun f => mapE ((E orc).lp (codeAt Q f k) (lst (nOf Q f) τ) G)) (Ref.leaf (y := fun k => mapE ((E orc).lp (codeAt Q 50 k) (lst (nOf Q 50) τ) G)) (lp_leaf (c := (subAt [1, 1, 0, 1, 0, 0] (bodyOf Try.f50))) (l50_0 h) _ _ _))) (
Ref.fork (
Ref.leaf (y := fun f => mapE ((E orc).lp (codeAt Q f k) (lst (nOf Q f) τ) G)) (Ref.leaf (y := fun k => mapE ((E orc).lp (codeAt Q 51 k) (lst (nOf Q 51) τ) G)) (lp_leaf (c := (subAt [1, 0, 0] (bodyOf Try.f51))) (l51_0 h) _ _ _))) (
Ref.leaf (y := fun f => mapE ((E orc).lp (codeAt Q f k) (lst (nOf Q f) τ) G)) (Ref.leaf (y := fun k => mapE ((E orc).lp (codeAt Q 52 k) (lst (nOf Q 52) τ) G)) (lp_leaf (c := (subAt [1, 0, 0] (bodyOf Try.f52))) (l52_0 h) _ _ _))))) (
Ref.fork (
Ref.leaf (y := fun f => mapE ((E orc).lp (codeAt Q f k) (lst (nOf Q f) τ) G)) (Ref.fork (Ref.leaf (y := fun k => mapE ((E orc).lp (codeAt Q 54 k) (lst (nOf Q 54) τ) G)) (lp_leaf (c := (subAt [1, 1, 1, 0, 1, 0, 0] (bodyOf Try.f54))) (l54_0 h) _ _ _)) (Ref.fork (Ref.leaf (y := fun k => mapE ((E orc).lp (codeAt Q 54 k) (lst (nOf Q 54) τ) G)) (lp_leaf (c := (subAt [1, 1, 1, 1, 1, 0, 1, 0, 0] (bodyOf Try.f54))) (l54_1 h) _ _ _)) (Ref.leaf (y := fun k => mapE ((E orc).lp (codeAt Q 54 k) (lst (nOf Q 54) τ) G)) (lp_leaf (c := (subAt [1, 1, 1, 1, 1, 1, 0, 1, 0, 0] (bodyOf Try.f54))) (l54_2 h) _ _ _))))) (
Ref.fork (
Ref.leaf (y := fun f => mapE ((E orc).lp (codeAt Q f k) (lst (nOf Q f) τ) G)) (Ref.leaf (y := fun k => mapE ((E orc).lp (codeAt Q 64 k) (lst (nOf Q 64) τ) G)) (lp_leaf (c := (subAt [1, 1, 0, 1, 0, 0] (bodyOf Try.f64))) (l64_0 h) _ _ _))) (
Ref.leaf (y := fun f => mapE ((E orc).lp (codeAt Q f k) (lst (nOf Q f) τ) G)) (Ref.leaf (y := fun k => mapE ((E orc).lp (codeAt Q 72 k) (lst (nOf Q 72) τ) G)) (lp_leaf (c := (subAt [1, 0, 0] (bodyOf Try.f72))) (l72_0 h) _ _ _))))))
noncomputable def kE (orc : FuncId → Bool) (n : Nat) : Ex := Nat.rec (motive := fun _ => Ex) ⟨Ev.zero, fun _ _ _ _ => none⟩ (fun _ e => ⟨⟨(evO Q orc 0).ex, clT orc e, (evO Q orc 2000).rd, (evO Q orc 2000).sc, (evO Q orc 0).lp⟩, lpT 6000 e⟩) n
theorem kE_ok (orc : FuncId → Bool) : ∀ n, ExLe Q (kE orc n) (E orc)
  | 0 => ⟨zero_le _, fun _ _ _ _ => .nil _⟩
  | n + 1 => ⟨⟨(le_evL Q orc 0).ex, fun f vs G r hr => clT_ok (kE_ok orc n) f vs G r hr, (le_evL Q orc 2000).rd, (le_evL Q orc 2000).sc, (le_evL Q orc 0).lp⟩, lpT_ok (kE_ok orc n) 6000⟩
/-- what the tables find true is true -/
theorem at_kE {orc : FuncId → Bool} {n f : Nat} {vs : List Value} (h : isTrue ((kE orc n).ev.cl f vs GS.empty) = true) : ∃ G', (E orc).cl f vs GS.empty = some (.bool true, G') := isTrue_of ((kE_ok orc n).ev.cl f vs GS.empty) h
theorem closed_kE {orc : FuncId → Bool} (ho : OrcOk Q orc) (hmix : Q.follows .mixedOrders = true) {n f : Nat} (h : isTrue ((kE orc n).ev.cl f [] GS.empty) = true) (w : World) : Calls Q f #[] w fun e w' => e = .returned (.bool true) ∧ Go.RowKit.Below w.heap.size w w' :=
  let ⟨_, hG⟩ := at_kE h
  law_plain hmix ho hG fun _ => trivial
end Go.Proofs.Ytglafaecdpilgaa.Lift
