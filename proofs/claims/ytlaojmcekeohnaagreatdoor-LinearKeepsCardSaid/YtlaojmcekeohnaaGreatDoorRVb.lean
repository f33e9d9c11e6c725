import Derived.Test.YtlaojmcekeohnaaGreatDoorRVa
namespace Go.Proofs.YtlaojmcekeohnaaGreatDoor.Lift
open Go Go.Proofs.YtlaojmcekeohnaaGreatDoor.Gh Go.Proofs
set_option linter.unusedVariables false
set_option maxRecDepth 100000
variable {orc:FuncId→Bool} {e:Ex}
noncomputable section
def b226_1 (q:Bool) (e:Ex) (lp:LpF) (τ:Env) (G:GS):OL :=
 bV q (τ 0) fun a0_ =>
 bV q (τ 1) fun a1_ =>
 bV q (τ 2) fun a2_ =>
 bV q (τ 6) fun a6_ =>
 bV q (τ 8) fun a8_ =>
 bV q (τ 17) fun a17_ =>
 bV q (τ 18) fun a18_ =>
 bV q (τ 82) fun a82_ =>
 bV q (τ 83) fun a83_ =>
 bV q (τ 84) fun a84_ =>
 bP (bn Q q .lss 3 (.tmp 84) (.tmp 83) a84_ a83_) fun x0 =>
 ifV x0 (
 bP (ias Q q 180 3 a82_ a84_) fun x1 =>
 bP (lda Q q 27 3 x1 G) fun x2 =>
 bS (al Q q 27 z27 G) fun x3 G4 =>
 bP (st Q q 27 3 x3 x2 G4) fun G5 =>
 bP (fa Q q 104 1 1 a6_) fun x6 =>
 bP (ld Q q 100 x6 G5) fun x7 =>
 bP (fa Q q 29 3 3 a18_) fun x8 =>
 bP (lda Q q 24 4 x8 G5) fun x9 =>
 bP (lda Q q 27 3 x3 G5) fun x10 =>
 bS (cValue e.ev x7 [a0_,x9,x10] G5) fun x11 G12 =>
 bP (pExtract x11 0) fun x13 =>
 bP (pExtract x11 1) fun x14 =>
 bS (gP x14 true (ld Q q 321 a8_ (G12.room 16)) (G12.room 16)) fun x15 _ =>
 bS (gV x14 true x13 (G12.room 16)) fun x16 _ =>
 bS (gV x14 true a1_ (G12.room 16)) fun x17 _ =>
 bS (gV x14 true a17_ (G12.room 16)) fun x18 _ =>
 bS (gP x14 true (bn Q q .shl 3 (.const (.int .i64 1)) (.tmp 103) (.int .i64 1) x18) (G12.room 16)) fun x19 _ =>
 bS (gP x14 true (bn Q q .or 3 (.tmp 102) (.tmp 104) x17 x19) (G12.room 16)) fun x20 _ =>
 bS (gV x14 true a2_ (G12.room 16)) fun x21 _ =>
 bS (gS x14 true (e.ev.cl 98 [x21] (G12.room 16)) (G12.room 16)) fun x23 G22 =>
 chk (((!(gB x14 true)||(!(gB x14 true)||sameO (ld Q q 321 a8_ G22) x15))&&true)) <|
 bS (gV x14 true a17_ G22) fun x24 _ =>
 bS (gd x14 true (bS (bs Q q 35 1 (rep z3 1) 1 [(0,0,1)] [x24] (G22.at' (G12.nx+11))) fun y G'=>some (y,(G'.back G22))) G22) fun x25 G26 =>
 bS (gS x14 true (ap Q q 35 35 1 8 x23 x25 G26) G26) fun x28 G27 =>
 chk (((!(gB x14 true)||(!(gB x14 true)||sameO (ld Q q 321 a8_ G27) x15))&&true)) <|
 bS (gS x14 true (cValue e.ev x15 [x16,x20,x28] G27) G27) fun x30 G29 =>
 bS (gP x14 true (un Q q .not x30) G29) fun x31 _ =>
 bP (pickV x14 x31 (.bool false)) fun x32 =>
 ifV x32 (
 some (.ret,xq q 120 τ [(12,(.bool false)),(113,x32),(112,x31),(111,x30),(110,x28),(109,x25),(108,x24),(107,x23),(106,x21),(105,x20),(104,x19),(103,x18),(102,x17),(101,x16),(100,x15),(99,x14),(98,x14),(22,x14),(21,x13),(97,x14),(96,x13),(88,x11),(95,x11),(94,x10),(93,x9),(92,x8),(91,a0_),(90,x7),(89,x6),(20,x3),(87,x2),(86,x1),(85,x0)] [(0,a0_),(1,a1_),(2,a2_),(6,a6_),(8,a8_),(17,a17_),(18,a18_),(82,a82_),(83,a83_),(84,a84_)],G29)) (
 bP (bn Q q .add 3 (.tmp 84) (.const (.int .i64 1)) a84_ (.int .i64 1)) fun x33 =>
 lp (xq q 120 τ [(84,x33),(114,x33),(113,x32),(112,x31),(111,x30),(110,x28),(109,x25),(108,x24),(107,x23),(106,x21),(105,x20),(104,x19),(103,x18),(102,x17),(101,x16),(100,x15),(99,x14),(98,x14),(22,x14),(21,x13),(97,x14),(96,x13),(88,x11),(95,x11),(94,x10),(93,x9),(92,x8),(91,a0_),(90,x7),(89,x6),(20,x3),(87,x2),(86,x1),(85,x0)] [(0,a0_),(1,a1_),(2,a2_),(6,a6_),(8,a8_),(17,a17_),(18,a18_),(82,a82_),(83,a83_)]) G29)) (
 some ((.exit 2),xq q 120 τ [(85,x0)] [(0,a0_),(1,a1_),(2,a2_),(6,a6_),(8,a8_),(17,a17_),(18,a18_),(82,a82_),(83,a83_),(84,a84_)],G))
theorem mb226_1 {e:Ex} {E:Ev} (h:ExLe Q e E) {lp lp':LpF} (hlp:LpLe lp lp') (τ:Env) (G:GS):Ref (b226_1 true e lp τ G) (b226_1 false (Ex.of E) lp' τ G):=by
 unfold b226_1
 exact Ref.gq
set_option maxHeartbeats 8000000 in
theorem l226_1 {orc:FuncId→Bool} {e:Ex} (h:ExLe Q e (E orc)) (lp:LpF) (hlp:∀ τ G,Ref (lp τ G) (mapE ((E orc).lp (subAt [1,1,1,1,1,0,1,0,0,1,1,0,0,1,1,1,0,0] (bodyOf Tryz.f226)) (lst 120 τ) G))) (T:List Value) (G:GS) (hT:T.length=120):Ref (b226_1 true e lp (nth undef T) G) (mapE ((E orc).lp (subAt [1,1,1,1,1,0,1,0,0,1,1,0,0,1,1,1,0,0] (bodyOf Tryz.f226)) T G)) :=
 fun r hr=>lp_sxN Q orc G hT (by kernel_rfl) (mb226_1 h ⟨hlp⟩ _ _ r hr)
def s226 (q:Bool) (e:Ex) (v0 v1 v2 v3 v4 v5 v6 v7 v8:Value) (G:GS):OG :=
 bP (ln Q q 35 v2) fun x0 =>
 bP (ld Q q 35 v3 G) fun x1 =>
 bP (ln Q q 35 x1) fun x2 =>
 bP (bn Q q .geq 3 (.tmp 24) (.tmp 26) x0 x2) fun x3 =>
 bS (gP x3 true (ld Q q 38 v4 G) G) fun x4 G5 =>
 bS (gV x3 true v1 G5) fun x6 G7 =>
 bS (gS x3 true (e.ev.cl 101 [x4,x6] G7) G7) fun x8 G9 =>
 bP (pickV x3 x8 (.bool false)) fun x10 =>
 ifV x10 (
 bP (ld Q q 55 v5 (G9.room 5)) fun x11 =>
 bS (e.ev.cl 98 [v2] (G9.room 5)) fun x13 G12 =>
 chk ((sameO (ld Q q 55 v5 G12) x11&&true)) <|
 bS (cValue e.ev x11 [x13] G12) fun x15 G14 =>
 some (x15,G14)) (
 bP (fa Q q 104 3 3 v6) fun x16 =>
 bP (ld Q q 102 x16 G9) fun x17 =>
 bS (cValue e.ev x17 [v0] G9) fun x18 G19 =>
 bP (bd Q q 323 z323 [(0,0,1),(1,1,1)] [v1,x18]) fun x20 =>
 bS (al Q q 323 z323 G19) fun x21 G22 =>
 bP (st Q q 323 2 x21 x20 G22) fun G23 =>
 bP (ld Q q 320 v7 G23) fun x24 =>
 bP (lda Q q 323 2 x21 G23) fun x25 =>
 bP (gLookup Q 320 x24 x25 true G23) fun x26 =>
 bP (pExtract x26 0) fun x27 =>
 bP (pExtract x26 1) fun x28 =>
 bS (al Q q 324 z324 G23) fun x29 G30 =>
 bP (st Q q 324 0 x29 x27 G30) fun G31 =>
 bS (gV x28 true x3 G31) fun x32 G33 =>
 bP (pickV x28 x32 (.bool false)) fun x34 =>
 ifV x34 (
 some ((.bool true),G33)) (
 bP (ld Q q 38 v4 G33) fun x35 =>
 bP (ln Q q 38 x35) fun x36 =>
 bLq q e 226 0 (subAt [1,1,1,1,1,0,1,0,0] (bodyOf Tryz.f226)) 120 (nth undef [v0,v1,v2,v3,v4,v5,v6,v7,v8]) [(56,(.int .i64 0)),(55,x36),(54,x35),(53,x34),(52,x32),(51,x28),(50,x28),(16,x28),(15,x29),(49,x28),(48,x27),(44,x26),(47,x26),(46,x25),(45,x24),(14,x21),(43,x20),(42,x18),(41,v0),(40,x17),(39,x16),(38,v1),(33,x10),(32,x8),(31,x6),(30,x4),(29,x3),(28,x3),(13,x3),(27,x3),(26,x2),(25,x1),(24,x0),(23,v2),(12,(.bool false))] [] G33 fun e37 t38 G39 =>
 bV q (t38 7) fun t38x7_ =>
 bV q (t38 12) fun t38x12_ =>
 bV q (t38 13) fun t38x13_ =>
 bV q (t38 14) fun t38x14_ =>
 ifE e37 (.exit 0) (
 ifV t38x13_ (
 bP (ld Q q 320 t38x7_ G39) fun x40 =>
 bP (lda Q q 323 2 t38x14_ G39) fun x41 =>
 bP (bd Q q 324 z324 [] []) fun x42 =>
 bP (gMapPut Q 320 x40 x41 x42 G39) fun G43 =>
 some ((.bool true),G43)) (
 some ((.bool true),G39))) (ifE e37 .ret (
 some (t38x12_,G39)) (none))))
theorem m226 {e:Ex} {E:Ev} (h:ExLe Q e E) (v0 v1 v2 v3 v4 v5 v6 v7 v8:Value) (G:GS):Ref (s226 true e v0 v1 v2 v3 v4 v5 v6 v7 v8 G) (s226 false (Ex.of E) v0 v1 v2 v3 v4 v5 v6 v7 v8 G):=by
 unfold s226
 exact Ref.gq
set_option maxHeartbeats 8000000 in
theorem f226 {orc:FuncId→Bool} {e:Ex} (h:ExLe Q e (E orc)) (v0 v1 v2 v3 v4 v5 v6 v7 v8:Value) (G:GS):Ref (s226 true e v0 v1 v2 v3 v4 v5 v6 v7 v8 G) ((E orc).cl 226 [v0,v1,v2,v3,v4,v5,v6,v7,v8] G) :=
 fun r hr=>cl_sxE_some Q orc (vs:=[v0,v1,v2,v3,v4,v5,v6,v7,v8]) G Tryz.func226 (by kernel_rfl) (by kernel_rfl) (by kernel_rfl) (by kernel_rfl) (by kernel_rfl) (by kernel_rfl) (m226 h v0 v1 v2 v3 v4 v5 v6 v7 v8 G r hr)
def s231 (q:Bool) (e:Ex) (v0 v1 v2 v3:Value) (G:GS):OG :=
 bS (bx q v0 G) fun x0 G1 =>
 bS (nm G1) fun x2 G3 =>
 bS (al Q q 320 z320 G3) fun x4 G5 =>
 bP (st Q q 320 1 x4 x2 G5) fun G6 =>
 bS (al Q q 331 z331 G6) fun x7 G8 =>
 bP (st Q q 331 1 x7 (.func (.func 232) #[] #[v1,v2,x0,v3,x4,x7]) G8) fun G9 =>
 bP (ld Q q 331 x7 G9) fun x10 =>
 fl q 112 0 0 107 v3 G9 fun x12 =>
 bS (cValue e.ev x10 [x12,(.int .i64 0),(.slice none 0 0)] G9) fun x13 G14 =>
 some (.tuple #[],G14)
theorem f231 (h:ExLe Q e (E orc)) (v0 v1 v2 v3:Value) (G:GS):Ref (s231 true e v0 v1 v2 v3 G) ((E orc).cl 231 [v0,v1,v2,v3] G):=cS (S:=fun q e=>s231 q e v0 v1 v2 v3 G) Tryz.func231 (by unfold s231; exact Ref.gq)
def b232_0 (q:Bool) (e:Ex) (lp:LpF) (τ:Env) (G:GS):OL :=
 bV q (τ 0) fun a0_ =>
 bV q (τ 1) fun a1_ =>
 bV q (τ 2) fun a2_ =>
 bV q (τ 3) fun a3_ =>
 bV q (τ 4) fun a4_ =>
 bV q (τ 6) fun a6_ =>
 bV q (τ 13) fun a13_ =>
 bV q (τ 54) fun a54_ =>
 bV q (τ 55) fun a55_ =>
 bV q (τ 56) fun a56_ =>
 bP (bn Q q .lss 3 (.tmp 56) (.tmp 55) a56_ a55_) fun x0 =>
 ifV x0 (
 bP (ias Q q 38 10 a54_ a56_) fun x1 =>
 bP (lda Q q 29 10 x1 G) fun x2 =>
 bS (al Q q 29 z29 G) fun x3 G4 =>
 bP (st Q q 29 10 x3 x2 G4) fun G5 =>
 bP (un Q q .not a13_) fun x6 =>
 bS (gV x6 true a56_ G5) fun x7 G8 =>
 bS (gP x6 true (ld Q q 35 a3_ G8) G8) fun x9 G10 =>
 bS (gV x6 true a2_ G10) fun x11 G12 =>
 bS (gP x6 true (ln Q q 35 x11) G12) fun x13 G14 =>
 bS (gP x6 true (ias Q q 35 1 x9 x13) G14) fun x15 G16 =>
 bS (gP x6 true (ld Q q 3 x15 G16) G16) fun x17 G18 =>
 bS (gP x6 true (bn Q q .neq 3 (.tmp 64) (.tmp 69) x7 x17) G18) fun x19 G20 =>
 bP (pickV x6 x19 (.bool false)) fun x21 =>
 bS (gP x21 false (ld Q q 38 a4_ G20) G20) fun x22 G23 =>
 bS (gV x21 false a1_ G23) fun x24 G25 =>
 bS (gV x21 false a56_ G25) fun x26 G27 =>
 bS (gS x21 false (e.ev.cl 102 [x22,x24,x26] G27) G27) fun x28 G29 =>
 bS (gP x21 false (un Q q .not x28) G29) fun x30 G31 =>
 bP (pickV x21 (.bool true) x30) fun x32 =>
 ifV x32 (
 bP (bn Q q .add 3 (.tmp 56) (.const (.int .i64 1)) a56_ (.int .i64 1)) fun x33 =>
 lp (xq q 120 τ [(56,x33),(115,x33),(78,x32),(77,x30),(76,x28),(75,x26),(74,x24),(73,x22),(72,x21),(71,x21),(70,x19),(69,x17),(68,x15),(67,x13),(66,x11),(65,x9),(64,x7),(63,x6),(62,x6),(61,a13_),(17,a56_),(18,x3),(60,x2),(59,x1),(58,a56_),(57,x0)] [(0,a0_),(1,a1_),(2,a2_),(3,a3_),(4,a4_),(6,a6_),(13,a13_),(54,a54_),(55,a55_)]) G31) (
 bP (lda Q q 112 4 a6_ G31) fun x34 =>
 bP (lda Q q 29 10 x3 G31) fun x35 =>
 bS (e.ev.cl 120 [x34,a0_,x35] G31) fun x36 G37 =>
 bP (ln Q q 180 x36) fun x38 =>
 bLq q e 232 1 (subAt [1,1,1,1,1,0,1,0,0,1,1,0,0,1,1,1,0,0] (bodyOf Tryz.f232)) 120 τ [(84,(.int .i64 0)),(83,x38),(82,x36),(81,x35),(80,a0_),(79,x34),(78,x32),(77,x30),(76,x28),(75,x26),(74,x24),(73,x22),(72,x21),(71,x21),(70,x19),(69,x17),(68,x15),(67,x13),(66,x11),(65,x9),(64,x7),(63,x6),(62,x6),(61,a13_),(17,a56_),(18,x3),(60,x2),(59,x1),(58,a56_),(57,x0)] [] G37 fun e39 t40 G41 =>
 bV q (t40 0) fun t40x0_ =>
 bV q (t40 1) fun t40x1_ =>
 bV q (t40 2) fun t40x2_ =>
 bV q (t40 3) fun t40x3_ =>
 bV q (t40 4) fun t40x4_ =>
 bV q (t40 6) fun t40x6_ =>
 bV q (t40 13) fun t40x13_ =>
 bV q (t40 54) fun t40x54_ =>
 bV q (t40 55) fun t40x55_ =>
 bV q (t40 56) fun t40x56_ =>
 ifE e39 (.exit 2) (
 bP (bn Q q .add 3 (.tmp 56) (.const (.int .i64 1)) t40x56_ (.int .i64 1)) fun x42 =>
 lp (xq q 120 t40 [(56,x42),(115,x42)] [(0,t40x0_),(1,t40x1_),(2,t40x2_),(3,t40x3_),(4,t40x4_),(6,t40x6_),(13,t40x13_),(54,t40x54_),(55,t40x55_)]) G41) (ifE e39 .ret (
 some (.ret,xq q 120 t40 [] [(0,t40x0_),(1,t40x1_),(2,t40x2_),(3,t40x3_),(4,t40x4_),(6,t40x6_),(13,t40x13_),(54,t40x54_),(55,t40x55_),(56,t40x56_)],G41)) (none)))) (
 some ((.exit 0),xq q 120 τ [(57,x0)] [(0,a0_),(1,a1_),(2,a2_),(3,a3_),(4,a4_),(6,a6_),(13,a13_),(54,a54_),(55,a55_),(56,a56_)],G))
theorem mb232_0 {e:Ex} {E:Ev} (h:ExLe Q e E) {lp lp':LpF} (hlp:LpLe lp lp') (τ:Env) (G:GS):Ref (b232_0 true e lp τ G) (b232_0 false (Ex.of E) lp' τ G):=by
 unfold b232_0
 exact Ref.gq
set_option maxHeartbeats 8000000 in
theorem l232_0 {orc:FuncId→Bool} {e:Ex} (h:ExLe Q e (E orc)) (lp:LpF) (hlp:∀ τ G,Ref (lp τ G) (mapE ((E orc).lp (subAt [1,1,1,1,1,0,1,0,0] (bodyOf Tryz.f232)) (lst 120 τ) G))) (T:List Value) (G:GS) (hT:T.length=120):Ref (b232_0 true e lp (nth undef T) G) (mapE ((E orc).lp (subAt [1,1,1,1,1,0,1,0,0] (bodyOf Tryz.f232)) T G)) :=
 fun r hr=>lp_sxN Q orc G hT (by kernel_rfl) (mb232_0 h ⟨hlp⟩ _ _ r hr)
def b232_1 (q:Bool) (e:Ex) (lp:LpF) (τ:Env) (G:GS):OL :=
 bV q (τ 0) fun a0_ =>
 bV q (τ 1) fun a1_ =>
 bV q (τ 2) fun a2_ =>
 bV q (τ 6) fun a6_ =>
 bV q (τ 8) fun a8_ =>
 bV q (τ 17) fun a17_ =>
 bV q (τ 18) fun a18_ =>
 bV q (τ 82) fun a82_ =>
 bV q (τ 83) fun a83_ =>
 bV q (τ 84) fun a84_ =>
 bP (bn Q q .lss 3 (.tmp 84) (.tmp 83) a84_ a83_) fun x0 =>
 ifV x0 (
 bP (ias Q q 180 3 a82_ a84_) fun x1 =>
 bP (lda Q q 27 3 x1 G) fun x2 =>
 bS (al Q q 27 z27 G) fun x3 G4 =>
 bP (st Q q 27 3 x3 x2 G4) fun G5 =>
 bP (fa Q q 112 1 1 a6_) fun x6 =>
 bP (ld Q q 108 x6 G5) fun x7 =>
 bP (fa Q q 29 3 3 a18_) fun x8 =>
 bP (lda Q q 24 4 x8 G5) fun x9 =>
 bP (lda Q q 27 3 x3 G5) fun x10 =>
 bS (cValue e.ev x7 [a0_,x9,x10] G5) fun x11 G12 =>
 bP (pExtract x11 0) fun x13 =>
 bP (pExtract x11 1) fun x14 =>
 bS (gP x14 true (ld Q q 331 a8_ (G12.room 16)) (G12.room 16)) fun x15 _ =>
 bS (gV x14 true x13 (G12.room 16)) fun x16 _ =>
 bS (gV x14 true a1_ (G12.room 16)) fun x17 _ =>
 bS (gV x14 true a17_ (G12.room 16)) fun x18 _ =>
 bS (gP x14 true (bn Q q .shl 3 (.const (.int .i64 1)) (.tmp 103) (.int .i64 1) x18) (G12.room 16)) fun x19 _ =>
 bS (gP x14 true (bn Q q .or 3 (.tmp 102) (.tmp 104) x17 x19) (G12.room 16)) fun x20 _ =>
 bS (gV x14 true a2_ (G12.room 16)) fun x21 _ =>
 bS (gS x14 true (e.ev.cl 98 [x21] (G12.room 16)) (G12.room 16)) fun x23 G22 =>
 chk (((!(gB x14 true)||(!(gB x14 true)||sameO (ld Q q 331 a8_ G22) x15))&&true)) <|
 bS (gV x14 true a17_ G22) fun x24 _ =>
 bS (gd x14 true (bS (bs Q q 35 1 (rep z3 1) 1 [(0,0,1)] [x24] (G22.at' (G12.nx+11))) fun y G'=>some (y,(G'.back G22))) G22) fun x25 G26 =>
 bS (gS x14 true (ap Q q 35 35 1 8 x23 x25 G26) G26) fun x28 G27 =>
 chk (((!(gB x14 true)||(!(gB x14 true)||sameO (ld Q q 331 a8_ G27) x15))&&true)) <|
 bS (gS x14 true (cValue e.ev x15 [x16,x20,x28] G27) G27) fun x30 G29 =>
 bS (gP x14 true (un Q q .not x30) G29) fun x31 _ =>
 bP (pickV x14 x31 (.bool false)) fun x32 =>
 ifV x32 (
 some (.ret,xq q 120 τ [(12,(.bool false)),(113,x32),(112,x31),(111,x30),(110,x28),(109,x25),(108,x24),(107,x23),(106,x21),(105,x20),(104,x19),(103,x18),(102,x17),(101,x16),(100,x15),(99,x14),(98,x14),(22,x14),(21,x13),(97,x14),(96,x13),(88,x11),(95,x11),(94,x10),(93,x9),(92,x8),(91,a0_),(90,x7),(89,x6),(20,x3),(87,x2),(86,x1),(85,x0)] [(0,a0_),(1,a1_),(2,a2_),(6,a6_),(8,a8_),(17,a17_),(18,a18_),(82,a82_),(83,a83_),(84,a84_)],G29)) (
 bP (bn Q q .add 3 (.tmp 84) (.const (.int .i64 1)) a84_ (.int .i64 1)) fun x33 =>
 lp (xq q 120 τ [(84,x33),(114,x33),(113,x32),(112,x31),(111,x30),(110,x28),(109,x25),(108,x24),(107,x23),(106,x21),(105,x20),(104,x19),(103,x18),(102,x17),(101,x16),(100,x15),(99,x14),(98,x14),(22,x14),(21,x13),(97,x14),(96,x13),(88,x11),(95,x11),(94,x10),(93,x9),(92,x8),(91,a0_),(90,x7),(89,x6),(20,x3),(87,x2),(86,x1),(85,x0)] [(0,a0_),(1,a1_),(2,a2_),(6,a6_),(8,a8_),(17,a17_),(18,a18_),(82,a82_),(83,a83_)]) G29)) (
 some ((.exit 2),xq q 120 τ [(85,x0)] [(0,a0_),(1,a1_),(2,a2_),(6,a6_),(8,a8_),(17,a17_),(18,a18_),(82,a82_),(83,a83_),(84,a84_)],G))
theorem mb232_1 {e:Ex} {E:Ev} (h:ExLe Q e E) {lp lp':LpF} (hlp:LpLe lp lp') (τ:Env) (G:GS):Ref (b232_1 true e lp τ G) (b232_1 false (Ex.of E) lp' τ G):=by
 unfold b232_1
 exact Ref.gq
set_option maxHeartbeats 8000000 in
theorem l232_1 {orc:FuncId→Bool} {e:Ex} (h:ExLe Q e (E orc)) (lp:LpF) (hlp:∀ τ G,Ref (lp τ G) (mapE ((E orc).lp (subAt [1,1,1,1,1,0,1,0,0,1,1,0,0,1,1,1,0,0] (bodyOf Tryz.f232)) (lst 120 τ) G))) (T:List Value) (G:GS) (hT:T.length=120):Ref (b232_1 true e lp (nth undef T) G) (mapE ((E orc).lp (subAt [1,1,1,1,1,0,1,0,0,1,1,0,0,1,1,1,0,0] (bodyOf Tryz.f232)) T G)) :=
 fun r hr=>lp_sxN Q orc G hT (by kernel_rfl) (mb232_1 h ⟨hlp⟩ _ _ r hr)
def s232 (q:Bool) (e:Ex) (v0 v1 v2 v3 v4 v5 v6 v7 v8:Value) (G:GS):OG :=
 bP (ln Q q 35 v2) fun x0 =>
 bP (ld Q q 35 v3 G) fun x1 =>
 bP (ln Q q 35 x1) fun x2 =>
 bP (bn Q q .geq 3 (.tmp 24) (.tmp 26) x0 x2) fun x3 =>
 bS (gP x3 true (ld Q q 38 v4 G) G) fun x4 G5 =>
 bS (gV x3 true v1 G5) fun x6 G7 =>
 bS (gS x3 true (e.ev.cl 101 [x4,x6] G7) G7) fun x8 G9 =>
 bP (pickV x3 x8 (.bool false)) fun x10 =>
 ifV x10 (
 bP (ld Q q 55 v5 (G9.room 5)) fun x11 =>
 bS (e.ev.cl 98 [v2] (G9.room 5)) fun x13 G12 =>
 chk ((sameO (ld Q q 55 v5 G12) x11&&true)) <|
 bS (cValue e.ev x11 [x13] G12) fun x15 G14 =>
 some (x15,G14)) (
 bP (fa Q q 112 3 3 v6) fun x16 =>
 bP (ld Q q 110 x16 G9) fun x17 =>
 bS (cValue e.ev x17 [v0] G9) fun x18 G19 =>
 bP (bd Q q 323 z323 [(0,0,1),(1,1,1)] [v1,x18]) fun x20 =>
 bS (al Q q 323 z323 G19) fun x21 G22 =>
 bP (st Q q 323 2 x21 x20 G22) fun G23 =>
 bP (ld Q q 320 v7 G23) fun x24 =>
 bP (lda Q q 323 2 x21 G23) fun x25 =>
 bP (gLookup Q 320 x24 x25 true G23) fun x26 =>
 bP (pExtract x26 0) fun x27 =>
 bP (pExtract x26 1) fun x28 =>
 bS (al Q q 324 z324 G23) fun x29 G30 =>
 bP (st Q q 324 0 x29 x27 G30) fun G31 =>
 bS (gV x28 true x3 G31) fun x32 G33 =>
 bP (pickV x28 x32 (.bool false)) fun x34 =>
 ifV x34 (
 some ((.bool true),G33)) (
 bP (ld Q q 38 v4 G33) fun x35 =>
 bP (ln Q q 38 x35) fun x36 =>
 bLq q e 232 0 (subAt [1,1,1,1,1,0,1,0,0] (bodyOf Tryz.f232)) 120 (nth undef [v0,v1,v2,v3,v4,v5,v6,v7,v8]) [(56,(.int .i64 0)),(55,x36),(54,x35),(53,x34),(52,x32),(51,x28),(50,x28),(16,x28),(15,x29),(49,x28),(48,x27),(44,x26),(47,x26),(46,x25),(45,x24),(14,x21),(43,x20),(42,x18),(41,v0),(40,x17),(39,x16),(38,v1),(33,x10),(32,x8),(31,x6),(30,x4),(29,x3),(28,x3),(13,x3),(27,x3),(26,x2),(25,x1),(24,x0),(23,v2),(12,(.bool false))] [] G33 fun e37 t38 G39 =>
 bV q (t38 7) fun t38x7_ =>
 bV q (t38 12) fun t38x12_ =>
 bV q (t38 13) fun t38x13_ =>
 bV q (t38 14) fun t38x14_ =>
 ifE e37 (.exit 0) (
 ifV t38x13_ (
 bP (ld Q q 320 t38x7_ G39) fun x40 =>
 bP (lda Q q 323 2 t38x14_ G39) fun x41 =>
 bP (bd Q q 324 z324 [] []) fun x42 =>
 bP (gMapPut Q 320 x40 x41 x42 G39) fun G43 =>
 some ((.bool true),G43)) (
 some ((.bool true),G39))) (ifE e37 .ret (
 some (t38x12_,G39)) (none))))
theorem m232 {e:Ex} {E:Ev} (h:ExLe Q e E) (v0 v1 v2 v3 v4 v5 v6 v7 v8:Value) (G:GS):Ref (s232 true e v0 v1 v2 v3 v4 v5 v6 v7 v8 G) (s232 false (Ex.of E) v0 v1 v2 v3 v4 v5 v6 v7 v8 G):=by
 unfold s232
 exact Ref.gq
set_option maxHeartbeats 8000000 in
theorem f232 {orc:FuncId→Bool} {e:Ex} (h:ExLe Q e (E orc)) (v0 v1 v2 v3 v4 v5 v6 v7 v8:Value) (G:GS):Ref (s232 true e v0 v1 v2 v3 v4 v5 v6 v7 v8 G) ((E orc).cl 232 [v0,v1,v2,v3,v4,v5,v6,v7,v8] G) :=
 fun r hr=>cl_sxE_some Q orc (vs:=[v0,v1,v2,v3,v4,v5,v6,v7,v8]) G Tryz.func232 (by kernel_rfl) (by kernel_rfl) (by kernel_rfl) (by kernel_rfl) (by kernel_rfl) (by kernel_rfl) (m232 h v0 v1 v2 v3 v4 v5 v6 v7 v8 G r hr)
def s233 (q:Bool) (e:Ex) (v0 v1 v2 v3:Value) (G:GS):OG :=
 bS (bx q v0 G) fun x0 G1 =>
 bS (nm G1) fun x2 G3 =>
 bS (al Q q 320 z320 G3) fun x4 G5 =>
 bP (st Q q 320 1 x4 x2 G5) fun G6 =>
 bS (al Q q 332 z332 G6) fun x7 G8 =>
 bP (st Q q 332 1 x7 (.func (.func 234) #[] #[v1,v2,x0,v3,x4,x7]) G8) fun G9 =>
 bP (ld Q q 332 x7 G9) fun x10 =>
 fl q 119 0 0 35 v3 G9 fun x12 =>
 bS (cValue e.ev x10 [x12,(.int .i64 0),(.slice none 0 0)] G9) fun x13 G14 =>
 some (.tuple #[],G14)
theorem f233 (h:ExLe Q e (E orc)) (v0 v1 v2 v3:Value) (G:GS):Ref (s233 true e v0 v1 v2 v3 G) ((E orc).cl 233 [v0,v1,v2,v3] G):=cS (S:=fun q e=>s233 q e v0 v1 v2 v3 G) Tryz.func233 (by unfold s233; exact Ref.gq)
def b234_0 (q:Bool) (e:Ex) (lp:LpF) (τ:Env) (G:GS):OL :=
 bV q (τ 0) fun a0_ =>
 bV q (τ 1) fun a1_ =>
 bV q (τ 2) fun a2_ =>
 bV q (τ 3) fun a3_ =>
 bV q (τ 4) fun a4_ =>
 bV q (τ 6) fun a6_ =>
 bV q (τ 13) fun a13_ =>
 bV q (τ 54) fun a54_ =>
 bV q (τ 55) fun a55_ =>
 bV q (τ 56) fun a56_ =>
 bP (bn Q q .lss 3 (.tmp 56) (.tmp 55) a56_ a55_) fun x0 =>
 ifV x0 (
 bP (ias Q q 38 10 a54_ a56_) fun x1 =>
 bP (lda Q q 29 10 x1 G) fun x2 =>
 bS (al Q q 29 z29 G) fun x3 G4 =>
 bP (st Q q 29 10 x3 x2 G4) fun G5 =>
 bP (un Q q .not a13_) fun x6 =>
 bS (gV x6 true a56_ G5) fun x7 G8 =>
 bS (gP x6 true (ld Q q 35 a3_ G8) G8) fun x9 G10 =>
 bS (gV x6 true a2_ G10) fun x11 G12 =>
 bS (gP x6 true (ln Q q 35 x11) G12) fun x13 G14 =>
 bS (gP x6 true (ias Q q 35 1 x9 x13) G14) fun x15 G16 =>
 bS (gP x6 true (ld Q q 3 x15 G16) G16) fun x17 G18 =>
 bS (gP x6 true (bn Q q .neq 3 (.tmp 64) (.tmp 69) x7 x17) G18) fun x19 G20 =>
 bP (pickV x6 x19 (.bool false)) fun x21 =>
 bS (gP x21 false (ld Q q 38 a4_ G20) G20) fun x22 G23 =>
 bS (gV x21 false a1_ G23) fun x24 G25 =>
 bS (gV x21 false a56_ G25) fun x26 G27 =>
 bS (gS x21 false (e.ev.cl 102 [x22,x24,x26] G27) G27) fun x28 G29 =>
 bS (gP x21 false (un Q q .not x28) G29) fun x30 G31 =>
 bP (pickV x21 (.bool true) x30) fun x32 =>
 ifV x32 (
 bP (bn Q q .add 3 (.tmp 56) (.const (.int .i64 1)) a56_ (.int .i64 1)) fun x33 =>
 lp (xq q 120 τ [(56,x33),(115,x33),(78,x32),(77,x30),(76,x28),(75,x26),(74,x24),(73,x22),(72,x21),(71,x21),(70,x19),(69,x17),(68,x15),(67,x13),(66,x11),(65,x9),(64,x7),(63,x6),(62,x6),(61,a13_),(17,a56_),(18,x3),(60,x2),(59,x1),(58,a56_),(57,x0)] [(0,a0_),(1,a1_),(2,a2_),(3,a3_),(4,a4_),(6,a6_),(13,a13_),(54,a54_),(55,a55_)]) G31) (
 bP (lda Q q 119 4 a6_ G31) fun x34 =>
 bP (lda Q q 29 10 x3 G31) fun x35 =>
 bS (e.ev.cl 121 [x34,a0_,x35] G31) fun x36 G37 =>
 bP (ln Q q 180 x36) fun x38 =>
 bLq q e 234 1 (subAt [1,1,1,1,1,0,1,0,0,1,1,0,0,1,1,1,0,0] (bodyOf Tryz.f234)) 120 τ [(84,(.int .i64 0)),(83,x38),(82,x36),(81,x35),(80,a0_),(79,x34),(78,x32),(77,x30),(76,x28),(75,x26),(74,x24),(73,x22),(72,x21),(71,x21),(70,x19),(69,x17),(68,x15),(67,x13),(66,x11),(65,x9),(64,x7),(63,x6),(62,x6),(61,a13_),(17,a56_),(18,x3),(60,x2),(59,x1),(58,a56_),(57,x0)] [] G37 fun e39 t40 G41 =>
 bV q (t40 0) fun t40x0_ =>
 bV q (t40 1) fun t40x1_ =>
 bV q (t40 2) fun t40x2_ =>
 bV q (t40 3) fun t40x3_ =>
 bV q (t40 4) fun t40x4_ =>
 bV q (t40 6) fun t40x6_ =>
 bV q (t40 13) fun t40x13_ =>
 bV q (t40 54) fun t40x54_ =>
 bV q (t40 55) fun t40x55_ =>
 bV q (t40 56) fun t40x56_ =>
 ifE e39 (.exit 2) (
 bP (bn Q q .add 3 (.tmp 56) (.const (.int .i64 1)) t40x56_ (.int .i64 1)) fun x42 =>
 lp (xq q 120 t40 [(56,x42),(115,x42)] [(0,t40x0_),(1,t40x1_),(2,t40x2_),(3,t40x3_),(4,t40x4_),(6,t40x6_),(13,t40x13_),(54,t40x54_),(55,t40x55_)]) G41) (ifE e39 .ret (
 some (.ret,xq q 120 t40 [] [(0,t40x0_),(1,t40x1_),(2,t40x2_),(3,t40x3_),(4,t40x4_),(6,t40x6_),(13,t40x13_),(54,t40x54_),(55,t40x55_),(56,t40x56_)],G41)) (none)))) (
 some ((.exit 0),xq q 120 τ [(57,x0)] [(0,a0_),(1,a1_),(2,a2_),(3,a3_),(4,a4_),(6,a6_),(13,a13_),(54,a54_),(55,a55_),(56,a56_)],G))
theorem mb234_0 {e:Ex} {E:Ev} (h:ExLe Q e E) {lp lp':LpF} (hlp:LpLe lp lp') (τ:Env) (G:GS):Ref (b234_0 true e lp τ G) (b234_0 false (Ex.of E) lp' τ G):=by
 unfold b234_0
 exact Ref.gq
set_option maxHeartbeats 8000000 in
theorem l234_0 {orc:FuncId→Bool} {e:Ex} (h:ExLe Q e (E orc)) (lp:LpF) (hlp:∀ τ G,Ref (lp τ G) (mapE ((E orc).lp (subAt [1,1,1,1,1,0,1,0,0] (bodyOf Tryz.f234)) (lst 120 τ) G))) (T:List Value) (G:GS) (hT:T.length=120):Ref (b234_0 true e lp (nth undef T) G) (mapE ((E orc).lp (subAt [1,1,1,1,1,0,1,0,0] (bodyOf Tryz.f234)) T G)) :=
 fun r hr=>lp_sxN Q orc G hT (by kernel_rfl) (mb234_0 h ⟨hlp⟩ _ _ r hr)
def b234_1 (q:Bool) (e:Ex) (lp:LpF) (τ:Env) (G:GS):OL :=
 bV q (τ 0) fun a0_ =>
 bV q (τ 1) fun a1_ =>
 bV q (τ 2) fun a2_ =>
 bV q (τ 6) fun a6_ =>
 bV q (τ 8) fun a8_ =>
 bV q (τ 17) fun a17_ =>
 bV q (τ 18) fun a18_ =>
 bV q (τ 82) fun a82_ =>
 bV q (τ 83) fun a83_ =>
 bV q (τ 84) fun a84_ =>
 bP (bn Q q .lss 3 (.tmp 84) (.tmp 83) a84_ a83_) fun x0 =>
 ifV x0 (
 bP (ias Q q 180 3 a82_ a84_) fun x1 =>
 bP (lda Q q 27 3 x1 G) fun x2 =>
 bS (al Q q 27 z27 G) fun x3 G4 =>
 bP (st Q q 27 3 x3 x2 G4) fun G5 =>
 bP (fa Q q 119 1 1 a6_) fun x6 =>
 bP (ld Q q 115 x6 G5) fun x7 =>
 bP (fa Q q 29 3 3 a18_) fun x8 =>
 bP (lda Q q 24 4 x8 G5) fun x9 =>
 bP (lda Q q 27 3 x3 G5) fun x10 =>
 bS (cValue e.ev x7 [a0_,x9,x10] G5) fun x11 G12 =>
 bP (pExtract x11 0) fun x13 =>
 bP (pExtract x11 1) fun x14 =>
 bS (gP x14 true (ld Q q 332 a8_ (G12.room 16)) (G12.room 16)) fun x15 _ =>
 bS (gV x14 true x13 (G12.room 16)) fun x16 _ =>
 bS (gV x14 true a1_ (G12.room 16)) fun x17 _ =>
 bS (gV x14 true a17_ (G12.room 16)) fun x18 _ =>
 bS (gP x14 true (bn Q q .shl 3 (.const (.int .i64 1)) (.tmp 103) (.int .i64 1) x18) (G12.room 16)) fun x19 _ =>
 bS (gP x14 true (bn Q q .or 3 (.tmp 102) (.tmp 104) x17 x19) (G12.room 16)) fun x20 _ =>
 bS (gV x14 true a2_ (G12.room 16)) fun x21 _ =>
 bS (gS x14 true (e.ev.cl 98 [x21] (G12.room 16)) (G12.room 16)) fun x23 G22 =>
 chk (((!(gB x14 true)||(!(gB x14 true)||sameO (ld Q q 332 a8_ G22) x15))&&true)) <|
 bS (gV x14 true a17_ G22) fun x24 _ =>
 bS (gd x14 true (bS (bs Q q 35 1 (rep z3 1) 1 [(0,0,1)] [x24] (G22.at' (G12.nx+11))) fun y G'=>some (y,(G'.back G22))) G22) fun x25 G26 =>
 bS (gS x14 true (ap Q q 35 35 1 8 x23 x25 G26) G26) fun x28 G27 =>
 chk (((!(gB x14 true)||(!(gB x14 true)||sameO (ld Q q 332 a8_ G27) x15))&&true)) <|
 bS (gS x14 true (cValue e.ev x15 [x16,x20,x28] G27) G27) fun x30 G29 =>
 bS (gP x14 true (un Q q .not x30) G29) fun x31 _ =>
 bP (pickV x14 x31 (.bool false)) fun x32 =>
 ifV x32 (
 some (.ret,xq q 120 τ [(12,(.bool false)),(113,x32),(112,x31),(111,x30),(110,x28),(109,x25),(108,x24),(107,x23),(106,x21),(105,x20),(104,x19),(103,x18),(102,x17),(101,x16),(100,x15),(99,x14),(98,x14),(22,x14),(21,x13),(97,x14),(96,x13),(88,x11),(95,x11),(94,x10),(93,x9),(92,x8),(91,a0_),(90,x7),(89,x6),(20,x3),(87,x2),(86,x1),(85,x0)] [(0,a0_),(1,a1_),(2,a2_),(6,a6_),(8,a8_),(17,a17_),(18,a18_),(82,a82_),(83,a83_),(84,a84_)],G29)) (
 bP (bn Q q .add 3 (.tmp 84) (.const (.int .i64 1)) a84_ (.int .i64 1)) fun x33 =>
 lp (xq q 120 τ [(84,x33),(114,x33),(113,x32),(112,x31),(111,x30),(110,x28),(109,x25),(108,x24),(107,x23),(106,x21),(105,x20),(104,x19),(103,x18),(102,x17),(101,x16),(100,x15),(99,x14),(98,x14),(22,x14),(21,x13),(97,x14),(96,x13),(88,x11),(95,x11),(94,x10),(93,x9),(92,x8),(91,a0_),(90,x7),(89,x6),(20,x3),(87,x2),(86,x1),(85,x0)] [(0,a0_),(1,a1_),(2,a2_),(6,a6_),(8,a8_),(17,a17_),(18,a18_),(82,a82_),(83,a83_)]) G29)) (
 some ((.exit 2),xq q 120 τ [(85,x0)] [(0,a0_),(1,a1_),(2,a2_),(6,a6_),(8,a8_),(17,a17_),(18,a18_),(82,a82_),(83,a83_),(84,a84_)],G))
theorem mb234_1 {e:Ex} {E:Ev} (h:ExLe Q e E) {lp lp':LpF} (hlp:LpLe lp lp') (τ:Env) (G:GS):Ref (b234_1 true e lp τ G) (b234_1 false (Ex.of E) lp' τ G):=by
 unfold b234_1
 exact Ref.gq
set_option maxHeartbeats 8000000 in
theorem l234_1 {orc:FuncId→Bool} {e:Ex} (h:ExLe Q e (E orc)) (lp:LpF) (hlp:∀ τ G,Ref (lp τ G) (mapE ((E orc).lp (subAt [1,1,1,1,1,0,1,0,0,1,1,0,0,1,1,1,0,0] (bodyOf Tryz.f234)) (lst 120 τ) G))) (T:List Value) (G:GS) (hT:T.length=120):Ref (b234_1 true e lp (nth undef T) G) (mapE ((E orc).lp (subAt [1,1,1,1,1,0,1,0,0,1,1,0,0,1,1,1,0,0] (bodyOf Tryz.f234)) T G)) :=
 fun r hr=>lp_sxN Q orc G hT (by kernel_rfl) (mb234_1 h ⟨hlp⟩ _ _ r hr)
def s234 (q:Bool) (e:Ex) (v0 v1 v2 v3 v4 v5 v6 v7 v8:Value) (G:GS):OG :=
 bP (ln Q q 35 v2) fun x0 =>
 bP (ld Q q 35 v3 G) fun x1 =>
 bP (ln Q q 35 x1) fun x2 =>
 bP (bn Q q .geq 3 (.tmp 24) (.tmp 26) x0 x2) fun x3 =>
 bS (gP x3 true (ld Q q 38 v4 G) G) fun x4 G5 =>
 bS (gV x3 true v1 G5) fun x6 G7 =>
 bS (gS x3 true (e.ev.cl 101 [x4,x6] G7) G7) fun x8 G9 =>
 bP (pickV x3 x8 (.bool false)) fun x10 =>
 ifV x10 (
 bP (ld Q q 55 v5 (G9.room 5)) fun x11 =>
 bS (e.ev.cl 98 [v2] (G9.room 5)) fun x13 G12 =>
 chk ((sameO (ld Q q 55 v5 G12) x11&&true)) <|
 bS (cValue e.ev x11 [x13] G12) fun x15 G14 =>
 some (x15,G14)) (
 bP (fa Q q 119 3 3 v6) fun x16 =>
 bP (ld Q q 117 x16 G9) fun x17 =>
 bS (cValue e.ev x17 [v0] G9) fun x18 G19 =>
 bP (bd Q q 323 z323 [(0,0,1),(1,1,1)] [v1,x18]) fun x20 =>
 bS (al Q q 323 z323 G19) fun x21 G22 =>
 bP (st Q q 323 2 x21 x20 G22) fun G23 =>
 bP (ld Q q 320 v7 G23) fun x24 =>
 bP (lda Q q 323 2 x21 G23) fun x25 =>
 bP (gLookup Q 320 x24 x25 true G23) fun x26 =>
 bP (pExtract x26 0) fun x27 =>
 bP (pExtract x26 1) fun x28 =>
 bS (al Q q 324 z324 G23) fun x29 G30 =>
 bP (st Q q 324 0 x29 x27 G30) fun G31 =>
 bS (gV x28 true x3 G31) fun x32 G33 =>
 bP (pickV x28 x32 (.bool false)) fun x34 =>
 ifV x34 (
 some ((.bool true),G33)) (
 bP (ld Q q 38 v4 G33) fun x35 =>
 bP (ln Q q 38 x35) fun x36 =>
 bLq q e 234 0 (subAt [1,1,1,1,1,0,1,0,0] (bodyOf Tryz.f234)) 120 (nth undef [v0,v1,v2,v3,v4,v5,v6,v7,v8]) [(56,(.int .i64 0)),(55,x36),(54,x35),(53,x34),(52,x32),(51,x28),(50,x28),(16,x28),(15,x29),(49,x28),(48,x27),(44,x26),(47,x26),(46,x25),(45,x24),(14,x21),(43,x20),(42,x18),(41,v0),(40,x17),(39,x16),(38,v1),(33,x10),(32,x8),(31,x6),(30,x4),(29,x3),(28,x3),(13,x3),(27,x3),(26,x2),(25,x1),(24,x0),(23,v2),(12,(.bool false))] [] G33 fun e37 t38 G39 =>
 bV q (t38 7) fun t38x7_ =>
 bV q (t38 12) fun t38x12_ =>
 bV q (t38 13) fun t38x13_ =>
 bV q (t38 14) fun t38x14_ =>
 ifE e37 (.exit 0) (
 ifV t38x13_ (
 bP (ld Q q 320 t38x7_ G39) fun x40 =>
 bP (lda Q q 323 2 t38x14_ G39) fun x41 =>
 bP (bd Q q 324 z324 [] []) fun x42 =>
 bP (gMapPut Q 320 x40 x41 x42 G39) fun G43 =>
 some ((.bool true),G43)) (
 some ((.bool true),G39))) (ifE e37 .ret (
 some (t38x12_,G39)) (none))))
theorem m234 {e:Ex} {E:Ev} (h:ExLe Q e E) (v0 v1 v2 v3 v4 v5 v6 v7 v8:Value) (G:GS):Ref (s234 true e v0 v1 v2 v3 v4 v5 v6 v7 v8 G) (s234 false (Ex.of E) v0 v1 v2 v3 v4 v5 v6 v7 v8 G):=by
 unfold s234
 exact Ref.gq
set_option maxHeartbeats 8000000 in
theorem f234 {orc:FuncId→Bool} {e:Ex} (h:ExLe Q e (E orc)) (v0 v1 v2 v3 v4 v5 v6 v7 v8:Value) (G:GS):Ref (s234 true e v0 v1 v2 v3 v4 v5 v6 v7 v8 G) ((E orc).cl 234 [v0,v1,v2,v3,v4,v5,v6,v7,v8] G) :=
 fun r hr=>cl_sxE_some Q orc (vs:=[v0,v1,v2,v3,v4,v5,v6,v7,v8]) G Tryz.func234 (by kernel_rfl) (by kernel_rfl) (by kernel_rfl) (by kernel_rfl) (by kernel_rfl) (by kernel_rfl) (m234 h v0 v1 v2 v3 v4 v5 v6 v7 v8 G r hr)
def s235 (q:Bool) (e:Ex) (v0 v1:Value) (G:GS):OG :=
 bS (bx q v0 G) fun x0 G1 =>
 bS (al Q q 276 z276 G1) fun x2 G3 =>
 bP (bn Q q .quo 3 (.tmp 5) (.const (.int .i64 64)) v1 (.int .i64 64)) fun x4 =>
 bP (iaa Q q 276 16 1 x0 x4) fun x5 =>
 bP (ld Q q 22 x5 (G3.room 10)) fun x6 =>
 bP (bn Q q .rem 3 (.tmp 9) (.const (.int .i64 64)) v1 (.int .i64 64)) fun x7 =>
 bP (bn Q q .shl 22 (.const (.int .u64 1)) (.tmp 10) (.int .u64 1) x7) fun x8 =>
 bP (bn Q q .or 22 (.tmp 8) (.tmp 11) x6 x8) fun x9 =>
 bP (iaa Q q 276 16 1 x0 x4) fun x10 =>
 bP (st Q q 22 1 x10 x9 (G3.room 10)) fun G11 =>
 bP (lda Q q 276 16 x0 G11) fun x12 =>
 bP (st Q q 276 16 x2 x12 G11) fun G13 =>
 bP (lda Q q 276 16 x2 G13) fun x14 =>
 some (x14,G13)
theorem f235 (h:ExLe Q e (E orc)) (v0 v1:Value) (G:GS):Ref (s235 true e v0 v1 G) ((E orc).cl 235 [v0,v1] G):=cS (S:=fun q e=>s235 q e v0 v1 G) Tryz.func235 (by unfold s235; exact Ref.gq)
def b236_0 (q:Bool) (e:Ex) (lp:LpF) (τ:Env) (G:GS):OL :=
 bV q (τ 5) fun a5_ =>
 bV q (τ 6) fun a6_ =>
 bP (bn Q q .lss 3 (.tmp 6) (.const (.int .i64 16)) a6_ (.int .i64 16)) fun x0 =>
 ifV x0 (
 bP (ix Q q 276 16 a5_ a6_) fun x1 =>
 bLq q e 236 1 (subAt [1,0,0,1,1,0,0,1,0,0] (bodyOf Tryz.f236)) 25 τ [(4,x1),(3,a6_),(9,x1),(8,a6_),(7,x0)] [] G fun e2 t3 G4 =>
 bV q (t3 5) fun t3x5_ =>
 bV q (t3 6) fun t3x6_ =>
 ifE e2 (.exit 2) (
 bP (bn Q q .add 3 (.tmp 6) (.const (.int .i64 1)) t3x6_ (.int .i64 1)) fun x5 =>
 lp (xq q 25 t3 [(6,x5),(24,x5)] [(5,t3x5_)]) G4) (ifE e2 .ret (
 some (.ret,xq q 25 t3 [] [(5,t3x5_),(6,t3x6_)],G4)) (none))) (
 some ((.exit 0),xq q 25 τ [(7,x0)] [(5,a5_),(6,a6_)],G))
theorem l236_0 (h:ExLe Q e (E orc)):LT orc 25 (subAt [1,0,0] (bodyOf Tryz.f236)) (b236_0 true e):=cL fun hlp τ G=>by unfold b236_0; exact Ref.gq
def b236_1 (q:Bool) (e:Ex) (lp:LpF) (τ:Env) (G:GS):OL :=
 bV q (τ 0) fun a0_ =>
 bV q (τ 3) fun a3_ =>
 bV q (τ 4) fun a4_ =>
 bP (bn Q q .neq 22 (.tmp 10) (.const (.int .u64 0)) a4_ (.int .u64 0)) fun x0 =>
 ifV x0 (
 bP (bn Q q .mul 3 (.tmp 17) (.const (.int .i64 64)) a3_ (.int .i64 64)) fun x1 =>
 bS (e.ev.cl 237 [a4_] G) fun x2 G3 =>
 bP (bn Q q .add 3 (.tmp 18) (.tmp 20) x1 x2) fun x4 =>
 bS (cValue e.ev a0_ [x4] G3) fun x5 G6 =>
 bP (un Q q .not x5) fun x7 =>
 ifV x7 (
 some (.ret,xq q 25 τ [(23,x7),(22,x5),(21,x4),(20,x2),(19,a4_),(18,x1),(17,a3_),(16,a0_),(11,x0),(10,a4_)] [(0,a0_),(3,a3_),(4,a4_)],G6)) (
 bP (bn Q q .sub 22 (.tmp 13) (.const (.int .u64 1)) a4_ (.int .u64 1)) fun x8 =>
 bP (bn Q q .and 22 (.tmp 12) (.tmp 14) a4_ x8) fun x9 =>
 lp (xq q 25 τ [(4,x9),(15,x9),(14,x8),(13,a4_),(12,a4_),(23,x7),(22,x5),(21,x4),(20,x2),(19,a4_),(18,x1),(17,a3_),(16,a0_),(11,x0),(10,a4_)] [(0,a0_),(3,a3_)]) G6)) (
 some ((.exit 2),xq q 25 τ [(11,x0),(10,a4_)] [(0,a0_),(3,a3_),(4,a4_)],G))
theorem l236_1 (h:ExLe Q e (E orc)):LT orc 25 (subAt [1,0,0,1,1,0,0,1,0,0] (bodyOf Tryz.f236)) (b236_1 true e):=cL fun hlp τ G=>by unfold b236_1; exact Ref.gq
def s236 (q:Bool) (e:Ex) (v0 v1:Value) (G:GS):OG :=
 bP (lda Q q 276 16 v1 G) fun x0 =>
 bLq q e 236 0 (subAt [1,0,0] (bodyOf Tryz.f236)) 25 (nth undef [v0,v1]) [(6,(.int .i64 0)),(5,x0)] [] G fun e1 t2 G3 =>
 ifE e1 (.exit 0) (
 some (.tuple #[],G3)) (ifE e1 .ret (
 some (.tuple #[],G3)) (none))
theorem f236 (h:ExLe Q e (E orc)) (v0 v1:Value) (G:GS):Ref (s236 true e v0 v1 G) ((E orc).cl 236 [v0,v1] G):=cS (S:=fun q e=>s236 q e v0 v1 G) Tryz.func236 (by unfold s236; exact Ref.gq)
def s238 (q:Bool) (e:Ex) (v0:Value) (G:GS):OG :=
 bP (bn Q q .neq 22 (.tmp 3) (.tmp 4) v0 v0) fun x0 =>
 some (x0,G)
theorem f238 (h:ExLe Q e (E orc)) (v0:Value) (G:GS):Ref (s238 true e v0 G) ((E orc).cl 238 [v0] G):=cS (S:=fun q e=>s238 q e v0 G) Tryz.func238 (by unfold s238; exact Ref.gq)
def clT (orc:FuncId→Bool) (e:Ex) (f:FuncId) (vs:List Value) (G:GS):OG :=
fork f 115 (fork f 45 (fork f 18 (fork f 12 (fork f 9 (fork f 3 (leaf f 3 (app0 (orc 3) (hasTab Q G) (s3 true e) vs G)) (
fork f 4 (leaf f 4 (app4 (s4 true e) vs G)) (
leaf f 9 (app5 (s9 true e) vs G)))) (
fork f 10 (leaf f 10 (app3 (s10 true e) vs G)) (
fork f 11 (leaf f 11 (app4 (s11 true e) vs G)) (
leaf f 12 (app4 (s12 true e) vs G))))) (
fork f 15 (fork f 13 (leaf f 13 (app0 (orc 13) (hasTab Q G) (s13 true e) vs G)) (
fork f 14 (leaf f 14 (app3 (s14 true e) vs G)) (
leaf f 15 (app1 (s15 true e) vs G)))) (
fork f 16 (leaf f 16 (app4 (s16 true e) vs G)) (
fork f 17 (leaf f 17 (app2 (s17 true e) vs G)) (
leaf f 18 (app0 (orc 18) (hasTab Q G) (s18 true e) vs G)))))) (
fork f 39 (fork f 21 (fork f 19 (leaf f 19 (app2 (s19 true e) vs G)) (
fork f 20 (leaf f 20 (app2 (s20 true e) vs G)) (
leaf f 21 (app2 (s21 true e) vs G)))) (
fork f 22 (leaf f 22 (app2 (s22 true e) vs G)) (
fork f 38 (leaf f 38 (app2 (s38 true e) vs G)) (
leaf f 39 (app3 (s39 true e) vs G))))) (
fork f 42 (fork f 40 (leaf f 40 (app2 (s40 true e) vs G)) (
fork f 41 (leaf f 41 (app1 (s41 true e) vs G)) (
leaf f 42 (app2 (s42 true e) vs G)))) (
fork f 43 (leaf f 43 (app0 (orc 43) (hasTab Q G) (s43 true e) vs G)) (
fork f 44 (leaf f 44 (app2 (s44 true e) vs G)) (
leaf f 45 (app1 (s45 true e) vs G))))))) (
fork f 101 (fork f 52 (fork f 48 (fork f 46 (leaf f 46 (app2 (s46 true e) vs G)) (
fork f 47 (leaf f 47 (app3 (s47 true e) vs G)) (
leaf f 48 (app3 (s48 true e) vs G)))) (
fork f 49 (leaf f 49 (app3 (s49 true e) vs G)) (
fork f 50 (leaf f 50 (app2 (s50 true e) vs G)) (
leaf f 52 (app4 (s52 true e) vs G))))) (
fork f 98 (fork f 53 (leaf f 53 (app2 (s53 true e) vs G)) (
fork f 54 (leaf f 54 (app3 (s54 true e) vs G)) (
leaf f 98 (app1 (s98 true e) vs G)))) (
fork f 99 (leaf f 99 (app1 (s99 true e) vs G)) (
fork f 100 (leaf f 100 (app3 (s100 true e) vs G)) (
leaf f 101 (app2 (s101 true e) vs G)))))) (
fork f 108 (fork f 104 (fork f 102 (leaf f 102 (app3 (s102 true e) vs G)) (
fork f 103 (leaf f 103 (app4 (s103 true e) vs G)) (
leaf f 104 (app2 (s104 true e) vs G)))) (
fork f 105 (leaf f 105 (txt kA vs G)) (
fork f 107 (leaf f 107 (app3 (s107 true e) vs G)) (
leaf f 108 (app2 (s108 true e) vs G))))) (
fork f 112 (fork f 109 (leaf f 109 (txt kB vs G)) (
fork f 111 (leaf f 111 (app3 (s111 true e) vs G)) (
leaf f 112 (app2 (s112 true e) vs G)))) (
fork f 113 (leaf f 113 (app3 (s113 true e) vs G)) (
fork f 114 (leaf f 114 (app2 (s114 true e) vs G)) (
leaf f 115 (txt kC vs G)))))))) (
fork f 181 (fork f 127 (fork f 121 (fork f 118 (fork f 116 (leaf f 116 (app2 (s116 true e) vs G)) (
fork f 117 (leaf f 117 (app2 (s117 true e) vs G)) (
leaf f 118 (app2 (s118 true e) vs G)))) (
fork f 119 (leaf f 119 (app3 (s119 true e) vs G)) (
fork f 120 (leaf f 120 (app3 (s120 true e) vs G)) (
leaf f 121 (app3 (s121 true e) vs G))))) (
fork f 124 (fork f 122 (leaf f 122 (app2 (s122 true e) vs G)) (
fork f 123 (leaf f 123 (app3 (s123 true e) vs G)) (
leaf f 124 (app1 (s124 true e) vs G)))) (
fork f 125 (leaf f 125 (app1 (s125 true e) vs G)) (
fork f 126 (leaf f 126 (app1 (s126 true e) vs G)) (
leaf f 127 (app0 (orc 127) (hasTab Q G) (s127 true e) vs G)))))) (
fork f 175 (fork f 130 (fork f 128 (leaf f 128 (app1 (s128 true e) vs G)) (
fork f 129 (leaf f 129 (app1 (s129 true e) vs G)) (
leaf f 130 (app2 (s130 true e) vs G)))) (
fork f 171 (leaf f 171 (app3 (s171 true e) vs G)) (
fork f 173 (leaf f 173 (app3 (s173 true e) vs G)) (
leaf f 175 (app3 (s175 true e) vs G))))) (
fork f 178 (fork f 176 (leaf f 176 (app1 (s176 true e) vs G)) (
fork f 177 (leaf f 177 (app1 (s177 true e) vs G)) (
leaf f 178 (app1 (s178 true e) vs G)))) (
fork f 179 (leaf f 179 (app2 (s179 true e) vs G)) (
fork f 180 (leaf f 180 (app2 (s180 true e) vs G)) (
leaf f 181 (app1 (s181 true e) vs G))))))) (
fork f 193 (fork f 187 (fork f 184 (fork f 182 (leaf f 182 (app2 (s182 true e) vs G)) (
fork f 183 (leaf f 183 (app1 (s183 true e) vs G)) (
leaf f 184 (app2 (s184 true e) vs G)))) (
fork f 185 (leaf f 185 (app2 (s185 true e) vs G)) (
fork f 186 (leaf f 186 (app1 (s186 true e) vs G)) (
leaf f 187 (app2 (s187 true e) vs G))))) (
fork f 190 (fork f 188 (leaf f 188 (app2 (s188 true e) vs G)) (
fork f 189 (leaf f 189 (app1 (s189 true e) vs G)) (
leaf f 190 (app1 (s190 true e) vs G)))) (
fork f 191 (leaf f 191 (app1 (s191 true e) vs G)) (
fork f 192 (leaf f 192 (app2 (s192 true e) vs G)) (
leaf f 193 (app2 (s193 true e) vs G)))))) (
fork f 231 (fork f 196 (fork f 194 (leaf f 194 (app2 (s194 true e) vs G)) (
fork f 195 (leaf f 195 (app2 (s195 true e) vs G)) (
leaf f 196 (app2 (s196 true e) vs G)))) (
fork f 225 (leaf f 225 (app4 (s225 true e) vs G)) (
fork f 226 (leaf f 226 (app9 (s226 true e) vs G)) (
leaf f 231 (app4 (s231 true e) vs G))))) (
fork f 234 (fork f 232 (leaf f 232 (app9 (s232 true e) vs G)) (
fork f 233 (leaf f 233 (app4 (s233 true e) vs G)) (
leaf f 234 (app9 (s234 true e) vs G)))) (
fork f 236 (fork f 235 (leaf f 235 (app2 (s235 true e) vs G)) (
leaf f 236 (app2 (s236 true e) vs G))) (
fork f 237 (leaf f 237 (pur vs G)) (
leaf f 238 (app1 (s238 true e) vs G))))))))
theorem clT_ok (h:ExLe Q e (E orc)) (f:FuncId) (vs:List Value) (G:GS):Ref (clT orc e f vs G) ((E orc).cl f vs G) :=
Ref.fork (Ref.fork (Ref.fork (Ref.fork (Ref.fork (Ref.fork (cf (Ref.app0 (f3 h) vs G)) (
Ref.fork (cf (Ref.app4 (f4 h) vs G)) (
cf (Ref.app5 (f9 h) vs G)))) (
Ref.fork (cf (Ref.app3 (f10 h) vs G)) (
Ref.fork (cf (Ref.app4 (f11 h) vs G)) (
cf (Ref.app4 (f12 h) vs G))))) (
Ref.fork (Ref.fork (cf (Ref.app0 (f13 h) vs G)) (
Ref.fork (cf (Ref.app3 (f14 h) vs G)) (
cf (Ref.app1 (f15 h) vs G)))) (
Ref.fork (cf (Ref.app4 (f16 h) vs G)) (
Ref.fork (cf (Ref.app2 (f17 h) vs G)) (
cf (Ref.app0 (f18 h) vs G)))))) (
Ref.fork (Ref.fork (Ref.fork (cf (Ref.app2 (f19 h) vs G)) (
Ref.fork (cf (Ref.app2 (f20 h) vs G)) (
cf (Ref.app2 (f21 h) vs G)))) (
Ref.fork (cf (Ref.app2 (f22 h) vs G)) (
Ref.fork (cf (Ref.app2 (f38 h) vs G)) (
cf (Ref.app3 (f39 h) vs G))))) (
Ref.fork (Ref.fork (cf (Ref.app2 (f40 h) vs G)) (
Ref.fork (cf (Ref.app1 (f41 h) vs G)) (
cf (Ref.app2 (f42 h) vs G)))) (
Ref.fork (cf (Ref.app0 (f43 h) vs G)) (
Ref.fork (cf (Ref.app2 (f44 h) vs G)) (
cf (Ref.app1 (f45 h) vs G))))))) (
Ref.fork (Ref.fork (Ref.fork (Ref.fork (cf (Ref.app2 (f46 h) vs G)) (
Ref.fork (cf (Ref.app3 (f47 h) vs G)) (
cf (Ref.app3 (f48 h) vs G)))) (
Ref.fork (cf (Ref.app3 (f49 h) vs G)) (
Ref.fork (cf (Ref.app2 (f50 h) vs G)) (
cf (Ref.app4 (f52 h) vs G))))) (
Ref.fork (Ref.fork (cf (Ref.app2 (f53 h) vs G)) (
Ref.fork (cf (Ref.app3 (f54 h) vs G)) (
cf (Ref.app1 (f98 h) vs G)))) (
Ref.fork (cf (Ref.app1 (f99 h) vs G)) (
Ref.fork (cf (Ref.app3 (f100 h) vs G)) (
cf (Ref.app2 (f101 h) vs G)))))) (
Ref.fork (Ref.fork (Ref.fork (cf (Ref.app3 (f102 h) vs G)) (
Ref.fork (cf (Ref.app4 (f103 h) vs G)) (
cf (Ref.app2 (f104 h) vs G)))) (
Ref.fork (cf (Ref.txA (P:=Q) (by kernel_rfl) (by kernel_rfl) (by kernel_rfl) vs G)) (
Ref.fork (cf (Ref.app3 (f107 h) vs G)) (
cf (Ref.app2 (f108 h) vs G))))) (
Ref.fork (Ref.fork (cf (Ref.txB (P:=Q) (by kernel_rfl) (by kernel_rfl) (by kernel_rfl) (by kernel_rfl) vs G)) (
Ref.fork (cf (Ref.app3 (f111 h) vs G)) (
cf (Ref.app2 (f112 h) vs G)))) (
Ref.fork (cf (Ref.app3 (f113 h) vs G)) (
Ref.fork (cf (Ref.app2 (f114 h) vs G)) (
cf (Ref.txC (P:=Q) (by kernel_rfl) (by kernel_rfl) (by kernel_rfl) (by kernel_rfl) (by kernel_rfl) vs G)))))))) (
Ref.fork (Ref.fork (Ref.fork (Ref.fork (Ref.fork (cf (Ref.app2 (f116 h) vs G)) (
Ref.fork (cf (Ref.app2 (f117 h) vs G)) (
cf (Ref.app2 (f118 h) vs G)))) (
Ref.fork (cf (Ref.app3 (f119 h) vs G)) (
Ref.fork (cf (Ref.app3 (f120 h) vs G)) (
cf (Ref.app3 (f121 h) vs G))))) (
Ref.fork (Ref.fork (cf (Ref.app2 (f122 h) vs G)) (
Ref.fork (cf (Ref.app3 (f123 h) vs G)) (
cf (Ref.app1 (f124 h) vs G)))) (
Ref.fork (cf (Ref.app1 (f125 h) vs G)) (
Ref.fork (cf (Ref.app1 (f126 h) vs G)) (
cf (Ref.app0 (f127 h) vs G)))))) (
Ref.fork (Ref.fork (Ref.fork (cf (Ref.app1 (f128 h) vs G)) (
Ref.fork (cf (Ref.app1 (f129 h) vs G)) (
cf (Ref.app2 (f130 h) vs G)))) (
Ref.fork (cf (Ref.app3 (f171 h) vs G)) (
Ref.fork (cf (Ref.app3 (f173 h) vs G)) (
cf (Ref.app3 (f175 h) vs G))))) (
Ref.fork (Ref.fork (cf (Ref.app1 (f176 h) vs G)) (
Ref.fork (cf (Ref.app1 (f177 h) vs G)) (
cf (Ref.app1 (f178 h) vs G)))) (
Ref.fork (cf (Ref.app2 (f179 h) vs G)) (
Ref.fork (cf (Ref.app2 (f180 h) vs G)) (
cf (Ref.app1 (f181 h) vs G))))))) (
Ref.fork (Ref.fork (Ref.fork (Ref.fork (cf (Ref.app2 (f182 h) vs G)) (
Ref.fork (cf (Ref.app1 (f183 h) vs G)) (
cf (Ref.app2 (f184 h) vs G)))) (
Ref.fork (cf (Ref.app2 (f185 h) vs G)) (
Ref.fork (cf (Ref.app1 (f186 h) vs G)) (
cf (Ref.app2 (f187 h) vs G))))) (
Ref.fork (Ref.fork (cf (Ref.app2 (f188 h) vs G)) (
Ref.fork (cf (Ref.app1 (f189 h) vs G)) (
cf (Ref.app1 (f190 h) vs G)))) (
Ref.fork (cf (Ref.app1 (f191 h) vs G)) (
Ref.fork (cf (Ref.app2 (f192 h) vs G)) (
cf (Ref.app2 (f193 h) vs G)))))) (
Ref.fork (Ref.fork (Ref.fork (cf (Ref.app2 (f194 h) vs G)) (
Ref.fork (cf (Ref.app2 (f195 h) vs G)) (
cf (Ref.app2 (f196 h) vs G)))) (
Ref.fork (cf (Ref.app4 (f225 h) vs G)) (
Ref.fork (cf (Ref.app9 (f226 h) vs G)) (
cf (Ref.app4 (f231 h) vs G))))) (
Ref.fork (Ref.fork (cf (Ref.app9 (f232 h) vs G)) (
Ref.fork (cf (Ref.app4 (f233 h) vs G)) (
cf (Ref.app9 (f234 h) vs G)))) (
Ref.fork (Ref.fork (cf (Ref.app2 (f235 h) vs G)) (
cf (Ref.app2 (f236 h) vs G))) (
Ref.fork (cf (Ref.pur (P:=Q) (by kernel_rfl) vs G)) (
cf (Ref.app1 (f238 h) vs G))))))))
def lpT (FUEL:Nat) (e:Ex) (f k:Nat) (τ:Env) (G:GS):OL :=
fork f 101 (fork f 42 (fork f 22 (fork f 4 (leaf f 4 (fork k 0 (leaf k 0 (lpS 157 (b4_0 true e) FUEL τ G)) (leaf k 1 (lpS 157 (b4_1 true e) FUEL τ G)))) (
fork f 20 (leaf f 20 (leaf k 0 (lpS 18 (b20_0 true e) FUEL τ G))) (
leaf f 22 (leaf k 0 (lpS 19 (b22_0 true e) FUEL τ G))))) (
fork f 39 (fork f 38 (leaf f 38 (leaf k 0 (lpS 31 (b38_0 true e) FUEL τ G))) (
leaf f 39 (leaf k 0 (lpS 60 (b39_0 true e) FUEL τ G)))) (
fork f 40 (leaf f 40 (fork k 0 (leaf k 0 (lpS 56 (b40_0 true e) FUEL τ G)) (leaf k 1 (lpS 56 (b40_1 true e) FUEL τ G)))) (
leaf f 42 (fork k 0 (leaf k 0 (lpS 56 (b42_0 true e) FUEL τ G)) (leaf k 1 (lpS 56 (b42_1 true e) FUEL τ G))))))) (
fork f 47 (fork f 44 (leaf f 44 (fork k 0 (leaf k 0 (lpS 56 (b44_0 true e) FUEL τ G)) (leaf k 1 (lpS 56 (b44_1 true e) FUEL τ G)))) (
fork f 46 (leaf f 46 (fork k 0 (leaf k 0 (lpS 42 (b46_0 true e) FUEL τ G)) (leaf k 1 (lpS 42 (b46_1 true e) FUEL τ G)))) (
leaf f 47 (fork k 1 (fork k 0 (leaf k 0 (lpS 125 (b47_0 true e) FUEL τ G)) (leaf k 1 (lpS 125 (b47_1 true e) FUEL τ G))) (fork k 2 (leaf k 2 (lpS 125 (b47_2 true e) FUEL τ G)) (leaf k 3 (lpS 125 (b47_3 true e) FUEL τ G))))))) (
fork f 49 (fork f 48 (leaf f 48 (fork k 1 (fork k 0 (leaf k 0 (lpS 125 (b48_0 true e) FUEL τ G)) (leaf k 1 (lpS 125 (b48_1 true e) FUEL τ G))) (fork k 2 (leaf k 2 (lpS 125 (b48_2 true e) FUEL τ G)) (leaf k 3 (lpS 125 (b48_3 true e) FUEL τ G))))) (
leaf f 49 (fork k 1 (fork k 0 (leaf k 0 (lpS 125 (b49_0 true e) FUEL τ G)) (leaf k 1 (lpS 125 (b49_1 true e) FUEL τ G))) (fork k 2 (leaf k 2 (lpS 125 (b49_2 true e) FUEL τ G)) (leaf k 3 (lpS 125 (b49_3 true e) FUEL τ G)))))) (
fork f 99 (leaf f 99 (leaf k 0 (lpS 25 (b99_0 true e) FUEL τ G))) (
leaf f 101 (leaf k 0 (lpS 25 (b101_0 true e) FUEL τ G))))))) (
fork f 177 (fork f 116 (fork f 102 (leaf f 102 (leaf k 0 (lpS 40 (b102_0 true e) FUEL τ G))) (
fork f 114 (leaf f 114 (leaf k 0 (lpS 26 (b114_0 true e) FUEL τ G))) (
leaf f 116 (leaf k 0 (lpS 19 (b116_0 true e) FUEL τ G))))) (
fork f 126 (fork f 125 (leaf f 125 (leaf k 0 (lpS 23 (b125_0 true e) FUEL τ G))) (
leaf f 126 (leaf k 0 (lpS 29 (b126_0 true e) FUEL τ G)))) (
fork f 176 (leaf f 176 (leaf k 0 (lpS 16 (b176_0 true e) FUEL τ G))) (
leaf f 177 (leaf k 0 (lpS 19 (b177_0 true e) FUEL τ G)))))) (
fork f 194 (fork f 181 (leaf f 181 (fork k 0 (leaf k 0 (lpS 32 (b181_0 true e) FUEL τ G)) (leaf k 1 (lpS 32 (b181_1 true e) FUEL τ G)))) (
fork f 185 (leaf f 185 (leaf k 0 (lpS 19 (b185_0 true e) FUEL τ G))) (
leaf f 194 (leaf k 0 (lpS 44 (b194_0 true e) FUEL τ G))))) (
fork f 232 (fork f 226 (leaf f 226 (fork k 0 (leaf k 0 (lpS 120 (b226_0 true e) FUEL τ G)) (leaf k 1 (lpS 120 (b226_1 true e) FUEL τ G)))) (
leaf f 232 (fork k 0 (leaf k 0 (lpS 120 (b232_0 true e) FUEL τ G)) (leaf k 1 (lpS 120 (b232_1 true e) FUEL τ G))))) (
fork f 234 (leaf f 234 (fork k 0 (leaf k 0 (lpS 120 (b234_0 true e) FUEL τ G)) (leaf k 1 (lpS 120 (b234_1 true e) FUEL τ G)))) (
leaf f 236 (fork k 0 (leaf k 0 (lpS 25 (b236_0 true e) FUEL τ G)) (leaf k 1 (lpS 25 (b236_1 true e) FUEL τ G))))))))
theorem lpT_ok (h:ExLe Q e (E orc)) (FUEL f k:Nat) (τ:Env) (G:GS):Ref (lpT FUEL e f k τ G) (mapE ((E orc).lp (codeAt Q f k) (lst (nOf Q f) τ) G)) :=
Ref.fork (Ref.fork (Ref.fork (Ref.fork (cl' (Ref.fork (ck (lp_leaf (l4_0 h) _ _ _)) (ck (lp_leaf (l4_1 h) _ _ _)))) (
Ref.fork (cl' (ck (lp_leaf (l20_0 h) _ _ _))) (
cl' (ck (lp_leaf (l22_0 h) _ _ _))))) (
Ref.fork (Ref.fork (cl' (ck (lp_leaf (l38_0 h) _ _ _))) (
cl' (ck (lp_leaf (l39_0 h) _ _ _)))) (
Ref.fork (cl' (Ref.fork (ck (lp_leaf (l40_0 h) _ _ _)) (ck (lp_leaf (l40_1 h) _ _ _)))) (
cl' (Ref.fork (ck (lp_leaf (l42_0 h) _ _ _)) (ck (lp_leaf (l42_1 h) _ _ _))))))) (
Ref.fork (Ref.fork (cl' (Ref.fork (ck (lp_leaf (l44_0 h) _ _ _)) (ck (lp_leaf (l44_1 h) _ _ _)))) (
Ref.fork (cl' (Ref.fork (ck (lp_leaf (l46_0 h) _ _ _)) (ck (lp_leaf (l46_1 h) _ _ _)))) (
cl' (Ref.fork (Ref.fork (ck (lp_leaf (l47_0 h) _ _ _)) (ck (lp_leaf (l47_1 h) _ _ _))) (Ref.fork (ck (lp_leaf (l47_2 h) _ _ _)) (ck (lp_leaf (l47_3 h) _ _ _))))))) (
Ref.fork (Ref.fork (cl' (Ref.fork (Ref.fork (ck (lp_leaf (l48_0 h) _ _ _)) (ck (lp_leaf (l48_1 h) _ _ _))) (Ref.fork (ck (lp_leaf (l48_2 h) _ _ _)) (ck (lp_leaf (l48_3 h) _ _ _))))) (
cl' (Ref.fork (Ref.fork (ck (lp_leaf (l49_0 h) _ _ _)) (ck (lp_leaf (l49_1 h) _ _ _))) (Ref.fork (ck (lp_leaf (l49_2 h) _ _ _)) (ck (lp_leaf (l49_3 h) _ _ _)))))) (
Ref.fork (cl' (ck (lp_leaf (l99_0 h) _ _ _))) (
cl' (ck (lp_leaf (l101_0 h) _ _ _))))))) (
Ref.fork (Ref.fork (Ref.fork (cl' (ck (lp_leaf (l102_0 h) _ _ _))) (
Ref.fork (cl' (ck (lp_leaf (l114_0 h) _ _ _))) (
cl' (ck (lp_leaf (l116_0 h) _ _ _))))) (
Ref.fork (Ref.fork (cl' (ck (lp_leaf (l125_0 h) _ _ _))) (
cl' (ck (lp_leaf (l126_0 h) _ _ _)))) (
Ref.fork (cl' (ck (lp_leaf (l176_0 h) _ _ _))) (
cl' (ck (lp_leaf (l177_0 h) _ _ _)))))) (
Ref.fork (Ref.fork (cl' (Ref.fork (ck (lp_leaf (l181_0 h) _ _ _)) (ck (lp_leaf (l181_1 h) _ _ _)))) (
Ref.fork (cl' (ck (lp_leaf (l185_0 h) _ _ _))) (
cl' (ck (lp_leaf (l194_0 h) _ _ _))))) (
Ref.fork (Ref.fork (cl' (Ref.fork (ck (lp_leaf (l226_0 h) _ _ _)) (ck (lp_leaf (l226_1 h) _ _ _)))) (
cl' (Ref.fork (ck (lp_leaf (l232_0 h) _ _ _)) (ck (lp_leaf (l232_1 h) _ _ _))))) (
Ref.fork (cl' (Ref.fork (ck (lp_leaf (l234_0 h) _ _ _)) (ck (lp_leaf (l234_1 h) _ _ _)))) (
cl' (Ref.fork (ck (lp_leaf (l236_0 h) _ _ _)) (ck (lp_leaf (l236_1 h) _ _ _))))))))
def kE (orc:FuncId→Bool) (n:Nat):Ex:=Nat.rec (motive:=fun _=>Ex) ⟨Ev.zero,fun _ _ _ _=>none⟩ (fun _ e=>⟨⟨(evO Q orc 0).ex,clT orc e,(evO Q orc 2000).rd,(evO Q orc 2000).sc,(evO Q orc 0).lp⟩,lpT 6000 e⟩) n
theorem kE_ok (orc:FuncId→Bool):∀ n,ExLe Q (kE orc n) (E orc)
 | 0=>⟨zero_le _,fun _ _ _ _=>.nil _⟩
 | n+1=>⟨⟨(le_evL Q orc 0).ex,fun f vs G r hr=>clT_ok (kE_ok orc n) f vs G r hr,(le_evL Q orc 2000).rd,(le_evL Q orc 2000).sc,(le_evL Q orc 0).lp⟩,lpT_ok (kE_ok orc n) 6000⟩
end
end Go.Proofs.YtlaojmcekeohnaaGreatDoor.Lift
