import Derived.Test.YtlaojmcekeohnaaGreatDoorRAa
namespace Go.Proofs.YtlaojmcekeohnaaGreatDoor.Lift
open Go Go.Proofs.YtlaojmcekeohnaaGreatDoor.Gh Go.Proofs
set_option linter.unusedVariables false
set_option maxRecDepth 100000
variable {orc:FuncId → Bool} {e:Ex}
noncomputable section
def s214 (q:Bool) (e:Ex) (v0 v1:Value) (G:GS):OG :=
 nl q 309 0 0 305 v0 G fun x2 =>
 bS (e.ev.cl 247 [x2,v1] G) fun x3 G4 =>
 bP (un Q q .not x3) fun x5 =>
 ifV x5 (
 some (.tuple #[],G4)) (
 nl q 309 0 0 305 v0 G4 fun x8 =>
 bS (e.ev.cl 248 [x8] G4) fun x9 G10 =>
 bP (pExtract x9 0) fun x11 =>
 bP (pExtract x9 1) fun x12 =>
 nf q 309 4 9 v0 fun x14 =>
 bP (st Q q 3 1 x14 x11 G10) fun G15 =>
 nf q 309 3 8 v0 fun x17 =>
 bP (st Q q 307 1 x17 (.func (.func 249) #[] #[]) G15) fun G18 =>
 bP (bn Q q .neq 25 (.tmp 28) (.const (.int .i64 0)) x12 (.int .i64 0)) fun x19 =>
 ifV x19 (
 nf q 309 3 8 v0 fun x21 =>
 bP (st Q q 307 1 x21 (.func (.func 250) #[] #[]) G18) fun G22 =>
 some (.tuple #[],G22)) (
 some (.tuple #[],G18)))
theorem f214 (h:ExLe Q e (E orc)) (v0 v1:Value) (G:GS):Ref (s214 true e v0 v1 G) ((E orc).cl 214 [v0,v1] G):=cS (S:=fun q e=>s214 q e v0 v1 G) Tryz.func214 (by unfold s214; exact Ref.gq)
def s215 (q:Bool) (e:Ex) (v0:Value) (G:GS):OG :=
 bS (bx q v0 G) fun x0 G1 =>
 fl q 69 2 2 3 x0 G1 fun x3 =>
 bP (bn Q q .geq 3 (.tmp 4) (.const (.int .i64 1)) x3 (.int .i64 1)) fun x4 =>
 bS (gP x4 true (fa Q q 69 2 2 x0) G1) fun x5 G6 =>
 bS (gP x4 true (ld Q q 3 x5 G6) G6) fun x7 G8 =>
 bS (gP x4 true (bn Q q .leq 3 (.tmp 8) (.const (.int .i64 4096)) x7 (.int .i64 4096)) G8) fun x9 G10 =>
 bP (pickV x4 x9 (.bool false)) fun x11 =>
 some (x11,G10)
theorem f215 (h:ExLe Q e (E orc)) (v0:Value) (G:GS):Ref (s215 true e v0 G) ((E orc).cl 215 [v0] G):=cS (S:=fun q e=>s215 q e v0 G) Tryz.func215 (by unfold s215; exact Ref.gq)
def s217 (q:Bool) (e:Ex) (v0:Value) (G:GS):OG :=
 bP (bd Q q 342 z342 [(0,0,1)] [v0]) fun x0 =>
 bS (e.ev.cl 251 [x0] G) fun x1 G2 =>
 bP (pExtract x1 0) fun x3 =>
 bP (pExtract x1 1) fun x4 =>
 some (x3,G2)
theorem f217 (h:ExLe Q e (E orc)) (v0:Value) (G:GS):Ref (s217 true e v0 G) ((E orc).cl 217 [v0] G):=cS (S:=fun q e=>s217 q e v0 G) Tryz.func217 (by unfold s217; exact Ref.gq)
def s218 (q:Bool) (e:Ex) (G:GS):OG :=
 bS (al Q q 313 z313 G) fun x0 G1 =>
 bP (bd Q q 312 z312 [(0,0,1),(1,1,1)] [(.int .i64 0),(.int .i64 16)]) fun x2 =>
 bP (bd Q q 312 z312 [(0,0,1),(1,1,1)] [(.int .i64 16),(.int .i64 32)]) fun x3 =>
 bP (bd Q q 313 z313 [(0,0,2),(1,2,2)] [x2,x3]) fun x4 =>
 bP (st Q q 313 4 x0 x4 G1) fun G5 =>
 bP (lda Q q 313 4 x0 G5) fun x6 =>
 some (x6,G5)
theorem f218 (h:ExLe Q e (E orc)) (ho:orc 218 = false) (G:GS):Ref (s218 true e  G) ((E orc).cl 218 [] G):=cS (S:=fun q e=>s218 q e  G) (ho:=ho) Tryz.func218 (by unfold s218; exact Ref.gq)
def s219 (q:Bool) (e:Ex) (v0 v1:Value) (G:GS):OG :=
 bS (bx q v1 G) fun x0 G1 =>
 fl q 312 0 0 3 x0 (G1.room 11) fun x3 =>
 bP (bn Q q .shr 22 (.tmp 5) (.tmp 7) v0 x3) fun x4 =>
 fl q 312 1 1 3 x0 (G1.room 11) fun x6 =>
 bP (bn Q q .shl 22 (.const (.int .u64 1)) (.tmp 10) (.int .u64 1) x6) fun x7 =>
 bP (bn Q q .sub 22 (.tmp 11) (.const (.int .u64 1)) x7 (.int .u64 1)) fun x8 =>
 bP (bn Q q .and 22 (.tmp 8) (.tmp 12) x4 x8) fun x9 =>
 bP (cv Q q 22 3 .u64 .i64 x9) fun x10 =>
 some (x10,(G1.room 11))
theorem f219 (h:ExLe Q e (E orc)) (v0 v1:Value) (G:GS):Ref (s219 true e v0 v1 G) ((E orc).cl 219 [v0,v1] G):=cS (S:=fun q e=>s219 q e v0 v1 G) Tryz.func219 (by unfold s219; exact Ref.gq)
def s220 (q:Bool) (e:Ex) (v0:Value) (G:GS):OG :=
 bP (bn Q q .shr 22 (.tmp 3) (.const (.int .u64 63)) v0 (.int .u64 63)) fun x0 =>
 bP (bn Q q .eql 22 (.tmp 4) (.const (.int .u64 1)) x0 (.int .u64 1)) fun x1 =>
 some (x1,G)
theorem f220 (h:ExLe Q e (E orc)) (v0:Value) (G:GS):Ref (s220 true e v0 G) ((E orc).cl 220 [v0] G):=cS (S:=fun q e=>s220 q e v0 G) Tryz.func220 (by unfold s220; exact Ref.gq)
def s221 (q:Bool) (e:Ex) (v0:Value) (G:GS):OG :=
 bS (bx q v0 G) fun x0 G1 =>
 fl q 260 0 0 3 x0 G1 fun x3 =>
 bP (bd Q q 345 z345 [(0,0,1),(1,1,1),(2,2,1)] [x3,(.int .i64 (-1)),(.int .i64 65534)]) fun x4 =>
 fl q 260 1 1 3 x0 G1 fun x6 =>
 bP (bd Q q 345 z345 [(0,0,1),(1,1,1),(2,2,1)] [x6,(.int .i64 0),(.int .i64 4294967295)]) fun x7 =>
 bS (bs Q q 358 2 (rep z345 2) 3 [(0,0,3),(1,3,3)] [x4,x7] G1) fun x8 G9 =>
 bS (e.ev.cl 252 [x8] G9) fun x10 G11 =>
 bP (un Q q .not x10) fun x12 =>
 ifV x12 (
 some (.tuple #[(.int .u64 0),(.int .i64 3)],G11)) (
 fl q 260 0 0 3 x0 G11 fun x14 =>
 bP (bn Q q .eql 3 (.tmp 17) (.const (.int .i64 (-1))) x14 (.int .i64 (-1))) fun x15 =>
 bS (gP x15 true (fa Q q 260 1 1 x0) G11) fun x16 G17 =>
 bS (gP x15 true (ld Q q 3 x16 G17) G17) fun x18 G19 =>
 bS (gP x15 true (bn Q q .neq 3 (.tmp 21) (.const (.int .i64 0)) x18 (.int .i64 0)) G19) fun x20 G21 =>
 bP (pickV x15 x20 (.bool false)) fun x22 =>
 ifV x22 (
 some (.tuple #[(.int .u64 0),(.int .i64 5)],G21)) (
 bS (e.ev.cl 218 [] G21) fun x23 G24 =>
 bS (al Q q 313 z313 G24) fun x25 G26 =>
 bP (st Q q 313 4 x25 x23 G26) fun G27 =>
 bP (sla Q q 313 2 2 x25 none none none (G27.room 13)) fun x28 =>
 fl q 260 0 0 3 x0 (G27.room 13) fun x30 =>
 bP (bn Q q .add 3 (.tmp 27) (.const (.int .i64 1)) x30 (.int .i64 1)) fun x31 =>
 fl q 260 1 1 3 x0 (G27.room 13) fun x33 =>
 bS (bs Q q 35 2 (rep z3 2) 1 [(0,0,1),(1,1,1)] [x31,x33] ((G27.room 13).at' (G27.nx + 6))) fun x34 G35 =>
 bS (e.ev.cl 254 [x28,x34] (G35.back (G27.room 13))) fun x37 G36 =>
 bP (fa Q q 260 2 2 x0) fun x38 =>
 bP (ld Q q 4 x38 G36) fun x39 =>
 chk ((sameO (ld Q q 4 x38 (G35.back (G27.room 13))) x39 && true)) <|
 bS (e.ev.cl 253 [x37,x39] G36) fun x41 G40 =>
 some (.tuple #[x41,(.int .i64 0)],G40)))
theorem f221 (h:ExLe Q e (E orc)) (v0:Value) (G:GS):Ref (s221 true e v0 G) ((E orc).cl 221 [v0] G):=cS (S:=fun q e=>s221 q e v0 G) Tryz.func221 (by unfold s221; exact Ref.gq)
def s226 (q:Bool) (e:Ex) (v0 v1 v2 v3 v4 v5 v6 v7 v8:Value) (G:GS):OG :=
 bP (ln Q q 35 v2) fun x0 =>
 bP (ld Q q 35 v3 G) fun x1 =>
 bP (ln Q q 35 x1) fun x2 =>
 bP (bn Q q .geq 3 (.tmp 24) (.tmp 26) x0 x2) fun x3 =>
 bS (gP x3 true (ld Q q 38 v4 G) G) fun x4 G5 =>
 bS (gV x3 true v1 G5) fun x6 G7 =>
 bS (gS x3 true (e.ev.cl 101 [x4,x6] G7) G7) fun x8 G9 =>
 bP (pickV x3 x8 (.bool false)) fun x10 =>
 ifV x10 (
 bP (ld Q q 55 v5 (G9.room 5)) fun x11 =>
 bS (e.ev.cl 98 [v2] (G9.room 5)) fun x13 G12 =>
 chk ((sameO (ld Q q 55 v5 G12) x11 && true)) <|
 bS (cValue e.ev x11 [x13] G12) fun x15 G14 =>
 some (x15,G14)) (
 bP (fa Q q 104 3 3 v6) fun x16 =>
 bP (ld Q q 102 x16 G9) fun x17 =>
 bS (cValue e.ev x17 [v0] G9) fun x18 G19 =>
 bP (bd Q q 323 z323 [(0,0,1),(1,1,1)] [v1,x18]) fun x20 =>
 bS (al Q q 323 z323 G19) fun x21 G22 =>
 bP (st Q q 323 2 x21 x20 G22) fun G23 =>
 bP (ld Q q 320 v7 G23) fun x24 =>
 bP (lda Q q 323 2 x21 G23) fun x25 =>
 bP (gLookup Q 320 x24 x25 true G23) fun x26 =>
 bP (pExtract x26 0) fun x27 =>
 bP (pExtract x26 1) fun x28 =>
 bS (al Q q 324 z324 G23) fun x29 G30 =>
 bP (st Q q 324 0 x29 x27 G30) fun G31 =>
 bS (gV x28 true x3 G31) fun x32 G33 =>
 bP (pickV x28 x32 (.bool false)) fun x34 =>
 ifV x34 (
 some ((.bool true),G33)) (
 bP (ld Q q 38 v4 G33) fun x35 =>
 bP (ln Q q 38 x35) fun x36 =>
 bLq q e 226 0 (subAt [1,1,1,1,1,0,1,0,0] (bodyOf Tryz.f226)) 120 (nth undef [v0,v1,v2,v3,v4,v5,v6,v7,v8]) [(56,(.int .i64 0)),(55,x36),(54,x35),(53,x34),(52,x32),(51,x28),(50,x28),(16,x28),(15,x29),(49,x28),(48,x27),(44,x26),(47,x26),(46,x25),(45,x24),(14,x21),(43,x20),(42,x18),(41,v0),(40,x17),(39,x16),(38,v1),(33,x10),(32,x8),(31,x6),(30,x4),(29,x3),(28,x3),(13,x3),(27,x3),(26,x2),(25,x1),(24,x0),(23,v2),(12,(.bool false))] [] G33 fun e37 t38 G39 =>
 bV q (t38 7) fun t38x7_ =>
 bV q (t38 12) fun t38x12_ =>
 bV q (t38 13) fun t38x13_ =>
 bV q (t38 14) fun t38x14_ =>
 ifE e37 (.exit 0) (
 ifV t38x13_ (
 bP (ld Q q 320 t38x7_ G39) fun x40 =>
 bP (lda Q q 323 2 t38x14_ G39) fun x41 =>
 bP (bd Q q 324 z324 [] []) fun x42 =>
 bP (gMapPut Q 320 x40 x41 x42 G39) fun G43 =>
 some ((.bool true),G43)) (
 some ((.bool true),G39))) (ifE e37 .ret (
 some (t38x12_,G39)) (none))))
theorem m226 {e:Ex} {E:Ev} (h:ExLe Q e E) (v0 v1 v2 v3 v4 v5 v6 v7 v8:Value) (G:GS):Ref (s226 true e v0 v1 v2 v3 v4 v5 v6 v7 v8 G) (s226 false (Ex.of E) v0 v1 v2 v3 v4 v5 v6 v7 v8 G):=by
 unfold s226
 exact Ref.gq
set_option maxHeartbeats 8000000 in
theorem f226 {orc:FuncId → Bool} {e:Ex} (h:ExLe Q e (E orc)) (v0 v1 v2 v3 v4 v5 v6 v7 v8:Value) (G:GS):Ref (s226 true e v0 v1 v2 v3 v4 v5 v6 v7 v8 G) ((E orc).cl 226 [v0,v1,v2,v3,v4,v5,v6,v7,v8] G) :=
 fun r hr=>cl_sxE_some Q orc (vs:=[v0,v1,v2,v3,v4,v5,v6,v7,v8]) G Tryz.func226 (by kernel_rfl) (by kernel_rfl) (by kernel_rfl) (by kernel_rfl) (by kernel_rfl) (by kernel_rfl) (m226 h v0 v1 v2 v3 v4 v5 v6 v7 v8 G r hr)
def s232 (q:Bool) (e:Ex) (v0 v1 v2 v3 v4 v5 v6 v7 v8:Value) (G:GS):OG :=
 bP (ln Q q 35 v2) fun x0 =>
 bP (ld Q q 35 v3 G) fun x1 =>
 bP (ln Q q 35 x1) fun x2 =>
 bP (bn Q q .geq 3 (.tmp 24) (.tmp 26) x0 x2) fun x3 =>
 bS (gP x3 true (ld Q q 38 v4 G) G) fun x4 G5 =>
 bS (gV x3 true v1 G5) fun x6 G7 =>
 bS (gS x3 true (e.ev.cl 101 [x4,x6] G7) G7) fun x8 G9 =>
 bP (pickV x3 x8 (.bool false)) fun x10 =>
 ifV x10 (
 bP (ld Q q 55 v5 (G9.room 5)) fun x11 =>
 bS (e.ev.cl 98 [v2] (G9.room 5)) fun x13 G12 =>
 chk ((sameO (ld Q q 55 v5 G12) x11 && true)) <|
 bS (cValue e.ev x11 [x13] G12) fun x15 G14 =>
 some (x15,G14)) (
 bP (fa Q q 112 3 3 v6) fun x16 =>
 bP (ld Q q 110 x16 G9) fun x17 =>
 bS (cValue e.ev x17 [v0] G9) fun x18 G19 =>
 bP (bd Q q 323 z323 [(0,0,1),(1,1,1)] [v1,x18]) fun x20 =>
 bS (al Q q 323 z323 G19) fun x21 G22 =>
 bP (st Q q 323 2 x21 x20 G22) fun G23 =>
 bP (ld Q q 320 v7 G23) fun x24 =>
 bP (lda Q q 323 2 x21 G23) fun x25 =>
 bP (gLookup Q 320 x24 x25 true G23) fun x26 =>
 bP (pExtract x26 0) fun x27 =>
 bP (pExtract x26 1) fun x28 =>
 bS (al Q q 324 z324 G23) fun x29 G30 =>
 bP (st Q q 324 0 x29 x27 G30) fun G31 =>
 bS (gV x28 true x3 G31) fun x32 G33 =>
 bP (pickV x28 x32 (.bool false)) fun x34 =>
 ifV x34 (
 some ((.bool true),G33)) (
 bP (ld Q q 38 v4 G33) fun x35 =>
 bP (ln Q q 38 x35) fun x36 =>
 bLq q e 232 0 (subAt [1,1,1,1,1,0,1,0,0] (bodyOf Tryz.f232)) 120 (nth undef [v0,v1,v2,v3,v4,v5,v6,v7,v8]) [(56,(.int .i64 0)),(55,x36),(54,x35),(53,x34),(52,x32),(51,x28),(50,x28),(16,x28),(15,x29),(49,x28),(48,x27),(44,x26),(47,x26),(46,x25),(45,x24),(14,x21),(43,x20),(42,x18),(41,v0),(40,x17),(39,x16),(38,v1),(33,x10),(32,x8),(31,x6),(30,x4),(29,x3),(28,x3),(13,x3),(27,x3),(26,x2),(25,x1),(24,x0),(23,v2),(12,(.bool false))] [] G33 fun e37 t38 G39 =>
 bV q (t38 7) fun t38x7_ =>
 bV q (t38 12) fun t38x12_ =>
 bV q (t38 13) fun t38x13_ =>
 bV q (t38 14) fun t38x14_ =>
 ifE e37 (.exit 0) (
 ifV t38x13_ (
 bP (ld Q q 320 t38x7_ G39) fun x40 =>
 bP (lda Q q 323 2 t38x14_ G39) fun x41 =>
 bP (bd Q q 324 z324 [] []) fun x42 =>
 bP (gMapPut Q 320 x40 x41 x42 G39) fun G43 =>
 some ((.bool true),G43)) (
 some ((.bool true),G39))) (ifE e37 .ret (
 some (t38x12_,G39)) (none))))
theorem m232 {e:Ex} {E:Ev} (h:ExLe Q e E) (v0 v1 v2 v3 v4 v5 v6 v7 v8:Value) (G:GS):Ref (s232 true e v0 v1 v2 v3 v4 v5 v6 v7 v8 G) (s232 false (Ex.of E) v0 v1 v2 v3 v4 v5 v6 v7 v8 G):=by
 unfold s232
 exact Ref.gq
set_option maxHeartbeats 8000000 in
theorem f232 {orc:FuncId → Bool} {e:Ex} (h:ExLe Q e (E orc)) (v0 v1 v2 v3 v4 v5 v6 v7 v8:Value) (G:GS):Ref (s232 true e v0 v1 v2 v3 v4 v5 v6 v7 v8 G) ((E orc).cl 232 [v0,v1,v2,v3,v4,v5,v6,v7,v8] G) :=
 fun r hr=>cl_sxE_some Q orc (vs:=[v0,v1,v2,v3,v4,v5,v6,v7,v8]) G Tryz.func232 (by kernel_rfl) (by kernel_rfl) (by kernel_rfl) (by kernel_rfl) (by kernel_rfl) (by kernel_rfl) (m232 h v0 v1 v2 v3 v4 v5 v6 v7 v8 G r hr)
def s233 (q:Bool) (e:Ex) (v0 v1 v2 v3:Value) (G:GS):OG :=
 bS (bx q v0 G) fun x0 G1 =>
 bS (nm G1) fun x2 G3 =>
 bS (al Q q 320 z320 G3) fun x4 G5 =>
 bP (st Q q 320 1 x4 x2 G5) fun G6 =>
 bS (al Q q 332 z332 G6) fun x7 G8 =>
 bP (st Q q 332 1 x7 (.func (.func 234) #[] #[v1,v2,x0,v3,x4,x7]) G8) fun G9 =>
 bP (ld Q q 332 x7 G9) fun x10 =>
 fl q 119 0 0 35 v3 G9 fun x12 =>
 bS (cValue e.ev x10 [x12,(.int .i64 0),(.slice none 0 0)] G9) fun x13 G14 =>
 some (.tuple #[],G14)
theorem f233 (h:ExLe Q e (E orc)) (v0 v1 v2 v3:Value) (G:GS):Ref (s233 true e v0 v1 v2 v3 G) ((E orc).cl 233 [v0,v1,v2,v3] G):=cS (S:=fun q e=>s233 q e v0 v1 v2 v3 G) Tryz.func233 (by unfold s233; exact Ref.gq)
def b234_0 (q:Bool) (e:Ex) (lp:LpF) (τ:Env) (G:GS):OL :=
 bV q (τ 0) fun a0_ =>
 bV q (τ 1) fun a1_ =>
 bV q (τ 2) fun a2_ =>
 bV q (τ 3) fun a3_ =>
 bV q (τ 4) fun a4_ =>
 bV q (τ 6) fun a6_ =>
 bV q (τ 13) fun a13_ =>
 bV q (τ 54) fun a54_ =>
 bV q (τ 55) fun a55_ =>
 bV q (τ 56) fun a56_ =>
 bP (bn Q q .lss 3 (.tmp 56) (.tmp 55) a56_ a55_) fun x0 =>
 ifV x0 (
 bP (ias Q q 38 10 a54_ a56_) fun x1 =>
 bP (lda Q q 29 10 x1 G) fun x2 =>
 bS (al Q q 29 z29 G) fun x3 G4 =>
 bP (st Q q 29 10 x3 x2 G4) fun G5 =>
 bP (un Q q .not a13_) fun x6 =>
 bS (gV x6 true a56_ G5) fun x7 G8 =>
 bS (gP x6 true (ld Q q 35 a3_ G8) G8) fun x9 G10 =>
 bS (gV x6 true a2_ G10) fun x11 G12 =>
 bS (gP x6 true (ln Q q 35 x11) G12) fun x13 G14 =>
 bS (gP x6 true (ias Q q 35 1 x9 x13) G14) fun x15 G16 =>
 bS (gP x6 true (ld Q q 3 x15 G16) G16) fun x17 G18 =>
 bS (gP x6 true (bn Q q .neq 3 (.tmp 64) (.tmp 69) x7 x17) G18) fun x19 G20 =>
 bP (pickV x6 x19 (.bool false)) fun x21 =>
 bS (gP x21 false (ld Q q 38 a4_ G20) G20) fun x22 G23 =>
 bS (gV x21 false a1_ G23) fun x24 G25 =>
 bS (gV x21 false a56_ G25) fun x26 G27 =>
 bS (gS x21 false (e.ev.cl 102 [x22,x24,x26] G27) G27) fun x28 G29 =>
 bS (gP x21 false (un Q q .not x28) G29) fun x30 G31 =>
 bP (pickV x21 (.bool true) x30) fun x32 =>
 ifV x32 (
 bP (bn Q q .add 3 (.tmp 56) (.const (.int .i64 1)) a56_ (.int .i64 1)) fun x33 =>
 lp (xq q 120 τ [(56,x33),(115,x33),(78,x32),(77,x30),(76,x28),(75,x26),(74,x24),(73,x22),(72,x21),(71,x21),(70,x19),(69,x17),(68,x15),(67,x13),(66,x11),(65,x9),(64,x7),(63,x6),(62,x6),(61,a13_),(17,a56_),(18,x3),(60,x2),(59,x1),(58,a56_),(57,x0)] [(0,a0_),(1,a1_),(2,a2_),(3,a3_),(4,a4_),(6,a6_),(13,a13_),(54,a54_),(55,a55_)]) G31) (
 bP (lda Q q 119 4 a6_ G31) fun x34 =>
 bP (lda Q q 29 10 x3 G31) fun x35 =>
 bS (e.ev.cl 121 [x34,a0_,x35] G31) fun x36 G37 =>
 bP (ln Q q 180 x36) fun x38 =>
 bLq q e 234 1 (subAt [1,1,1,1,1,0,1,0,0,1,1,0,0,1,1,1,0,0] (bodyOf Tryz.f234)) 120 τ [(84,(.int .i64 0)),(83,x38),(82,x36),(81,x35),(80,a0_),(79,x34),(78,x32),(77,x30),(76,x28),(75,x26),(74,x24),(73,x22),(72,x21),(71,x21),(70,x19),(69,x17),(68,x15),(67,x13),(66,x11),(65,x9),(64,x7),(63,x6),(62,x6),(61,a13_),(17,a56_),(18,x3),(60,x2),(59,x1),(58,a56_),(57,x0)] [] G37 fun e39 t40 G41 =>
 bV q (t40 0) fun t40x0_ =>
 bV q (t40 1) fun t40x1_ =>
 bV q (t40 2) fun t40x2_ =>
 bV q (t40 3) fun t40x3_ =>
 bV q (t40 4) fun t40x4_ =>
 bV q (t40 6) fun t40x6_ =>
 bV q (t40 13) fun t40x13_ =>
 bV q (t40 54) fun t40x54_ =>
 bV q (t40 55) fun t40x55_ =>
 bV q (t40 56) fun t40x56_ =>
 ifE e39 (.exit 2) (
 bP (bn Q q .add 3 (.tmp 56) (.const (.int .i64 1)) t40x56_ (.int .i64 1)) fun x42 =>
 lp (xq q 120 t40 [(56,x42),(115,x42)] [(0,t40x0_),(1,t40x1_),(2,t40x2_),(3,t40x3_),(4,t40x4_),(6,t40x6_),(13,t40x13_),(54,t40x54_),(55,t40x55_)]) G41) (ifE e39 .ret (
 some (.ret,xq q 120 t40 [] [(0,t40x0_),(1,t40x1_),(2,t40x2_),(3,t40x3_),(4,t40x4_),(6,t40x6_),(13,t40x13_),(54,t40x54_),(55,t40x55_),(56,t40x56_)],G41)) (none)))) (
 some ((.exit 0),xq q 120 τ [(57,x0)] [(0,a0_),(1,a1_),(2,a2_),(3,a3_),(4,a4_),(6,a6_),(13,a13_),(54,a54_),(55,a55_),(56,a56_)],G))
theorem mb234_0 {e:Ex} {E:Ev} (h:ExLe Q e E) {lp lp':LpF} (hlp:LpLe lp lp') (τ:Env) (G:GS):Ref (b234_0 true e lp τ G) (b234_0 false (Ex.of E) lp' τ G):=by
 unfold b234_0
 exact Ref.gq
set_option maxHeartbeats 8000000 in
theorem l234_0 {orc:FuncId → Bool} {e:Ex} (h:ExLe Q e (E orc)) (lp:LpF) (hlp:∀ τ G,Ref (lp τ G) (mapE ((E orc).lp (subAt [1,1,1,1,1,0,1,0,0] (bodyOf Tryz.f234)) (lst 120 τ) G))) (T:List Value) (G:GS) (hT:T.length = 120):Ref (b234_0 true e lp (nth undef T) G) (mapE ((E orc).lp (subAt [1,1,1,1,1,0,1,0,0] (bodyOf Tryz.f234)) T G)) :=
 fun r hr=>lp_sxN Q orc G hT (by kernel_rfl) (mb234_0 h ⟨hlp⟩ _ _ r hr)
def b234_1 (q:Bool) (e:Ex) (lp:LpF) (τ:Env) (G:GS):OL :=
 bV q (τ 0) fun a0_ =>
 bV q (τ 1) fun a1_ =>
 bV q (τ 2) fun a2_ =>
 bV q (τ 6) fun a6_ =>
 bV q (τ 8) fun a8_ =>
 bV q (τ 17) fun a17_ =>
 bV q (τ 18) fun a18_ =>
 bV q (τ 82) fun a82_ =>
 bV q (τ 83) fun a83_ =>
 bV q (τ 84) fun a84_ =>
 bP (bn Q q .lss 3 (.tmp 84) (.tmp 83) a84_ a83_) fun x0 =>
 ifV x0 (
 bP (ias Q q 180 3 a82_ a84_) fun x1 =>
 bP (lda Q q 27 3 x1 G) fun x2 =>
 bS (al Q q 27 z27 G) fun x3 G4 =>
 bP (st Q q 27 3 x3 x2 G4) fun G5 =>
 bP (fa Q q 119 1 1 a6_) fun x6 =>
 bP (ld Q q 115 x6 G5) fun x7 =>
 bP (fa Q q 29 3 3 a18_) fun x8 =>
 bP (lda Q q 24 4 x8 G5) fun x9 =>
 bP (lda Q q 27 3 x3 G5) fun x10 =>
 bS (cValue e.ev x7 [a0_,x9,x10] G5) fun x11 G12 =>
 bP (pExtract x11 0) fun x13 =>
 bP (pExtract x11 1) fun x14 =>
 bS (gP x14 true (ld Q q 332 a8_ (G12.room 16)) (G12.room 16)) fun x15 _ =>
 bS (gV x14 true x13 (G12.room 16)) fun x16 _ =>
 bS (gV x14 true a1_ (G12.room 16)) fun x17 _ =>
 bS (gV x14 true a17_ (G12.room 16)) fun x18 _ =>
 bS (gP x14 true (bn Q q .shl 3 (.const (.int .i64 1)) (.tmp 103) (.int .i64 1) x18) (G12.room 16)) fun x19 _ =>
 bS (gP x14 true (bn Q q .or 3 (.tmp 102) (.tmp 104) x17 x19) (G12.room 16)) fun x20 _ =>
 bS (gV x14 true a2_ (G12.room 16)) fun x21 _ =>
 bS (gS x14 true (e.ev.cl 98 [x21] (G12.room 16)) (G12.room 16)) fun x23 G22 =>
 chk (((!(gB x14 true) || (!(gB x14 true) || sameO (ld Q q 332 a8_ G22) x15)) && true)) <|
 bS (gV x14 true a17_ G22) fun x24 _ =>
 bS (gd x14 true (bS (bs Q q 35 1 (rep z3 1) 1 [(0,0,1)] [x24] (G22.at' (G12.nx + 11))) fun y G'=>some (y,(G'.back G22))) G22) fun x25 G26 =>
 bS (gS x14 true (ap Q q 35 35 1 8 x23 x25 G26) G26) fun x28 G27 =>
 chk (((!(gB x14 true) || (!(gB x14 true) || sameO (ld Q q 332 a8_ G27) x15)) && true)) <|
 bS (gS x14 true (cValue e.ev x15 [x16,x20,x28] G27) G27) fun x30 G29 =>
 bS (gP x14 true (un Q q .not x30) G29) fun x31 _ =>
 bP (pickV x14 x31 (.bool false)) fun x32 =>
 ifV x32 (
 some (.ret,xq q 120 τ [(12,(.bool false)),(113,x32),(112,x31),(111,x30),(110,x28),(109,x25),(108,x24),(107,x23),(106,x21),(105,x20),(104,x19),(103,x18),(102,x17),(101,x16),(100,x15),(99,x14),(98,x14),(22,x14),(21,x13),(97,x14),(96,x13),(88,x11),(95,x11),(94,x10),(93,x9),(92,x8),(91,a0_),(90,x7),(89,x6),(20,x3),(87,x2),(86,x1),(85,x0)] [(0,a0_),(1,a1_),(2,a2_),(6,a6_),(8,a8_),(17,a17_),(18,a18_),(82,a82_),(83,a83_),(84,a84_)],G29)) (
 bP (bn Q q .add 3 (.tmp 84) (.const (.int .i64 1)) a84_ (.int .i64 1)) fun x33 =>
 lp (xq q 120 τ [(84,x33),(114,x33),(113,x32),(112,x31),(111,x30),(110,x28),(109,x25),(108,x24),(107,x23),(106,x21),(105,x20),(104,x19),(103,x18),(102,x17),(101,x16),(100,x15),(99,x14),(98,x14),(22,x14),(21,x13),(97,x14),(96,x13),(88,x11),(95,x11),(94,x10),(93,x9),(92,x8),(91,a0_),(90,x7),(89,x6),(20,x3),(87,x2),(86,x1),(85,x0)] [(0,a0_),(1,a1_),(2,a2_),(6,a6_),(8,a8_),(17,a17_),(18,a18_),(82,a82_),(83,a83_)]) G29)) (
 some ((.exit 2),xq q 120 τ [(85,x0)] [(0,a0_),(1,a1_),(2,a2_),(6,a6_),(8,a8_),(17,a17_),(18,a18_),(82,a82_),(83,a83_),(84,a84_)],G))
theorem mb234_1 {e:Ex} {E:Ev} (h:ExLe Q e E) {lp lp':LpF} (hlp:LpLe lp lp') (τ:Env) (G:GS):Ref (b234_1 true e lp τ G) (b234_1 false (Ex.of E) lp' τ G):=by
 unfold b234_1
 exact Ref.gq
set_option maxHeartbeats 8000000 in
theorem l234_1 {orc:FuncId → Bool} {e:Ex} (h:ExLe Q e (E orc)) (lp:LpF) (hlp:∀ τ G,Ref (lp τ G) (mapE ((E orc).lp (subAt [1,1,1,1,1,0,1,0,0,1,1,0,0,1,1,1,0,0] (bodyOf Tryz.f234)) (lst 120 τ) G))) (T:List Value) (G:GS) (hT:T.length = 120):Ref (b234_1 true e lp (nth undef T) G) (mapE ((E orc).lp (subAt [1,1,1,1,1,0,1,0,0,1,1,0,0,1,1,1,0,0] (bodyOf Tryz.f234)) T G)) :=
 fun r hr=>lp_sxN Q orc G hT (by kernel_rfl) (mb234_1 h ⟨hlp⟩ _ _ r hr)
def s234 (q:Bool) (e:Ex) (v0 v1 v2 v3 v4 v5 v6 v7 v8:Value) (G:GS):OG :=
 bP (ln Q q 35 v2) fun x0 =>
 bP (ld Q q 35 v3 G) fun x1 =>
 bP (ln Q q 35 x1) fun x2 =>
 bP (bn Q q .geq 3 (.tmp 24) (.tmp 26) x0 x2) fun x3 =>
 bS (gP x3 true (ld Q q 38 v4 G) G) fun x4 G5 =>
 bS (gV x3 true v1 G5) fun x6 G7 =>
 bS (gS x3 true (e.ev.cl 101 [x4,x6] G7) G7) fun x8 G9 =>
 bP (pickV x3 x8 (.bool false)) fun x10 =>
 ifV x10 (
 bP (ld Q q 55 v5 (G9.room 5)) fun x11 =>
 bS (e.ev.cl 98 [v2] (G9.room 5)) fun x13 G12 =>
 chk ((sameO (ld Q q 55 v5 G12) x11 && true)) <|
 bS (cValue e.ev x11 [x13] G12) fun x15 G14 =>
 some (x15,G14)) (
 bP (fa Q q 119 3 3 v6) fun x16 =>
 bP (ld Q q 117 x16 G9) fun x17 =>
 bS (cValue e.ev x17 [v0] G9) fun x18 G19 =>
 bP (bd Q q 323 z323 [(0,0,1),(1,1,1)] [v1,x18]) fun x20 =>
 bS (al Q q 323 z323 G19) fun x21 G22 =>
 bP (st Q q 323 2 x21 x20 G22) fun G23 =>
 bP (ld Q q 320 v7 G23) fun x24 =>
 bP (lda Q q 323 2 x21 G23) fun x25 =>
 bP (gLookup Q 320 x24 x25 true G23) fun x26 =>
 bP (pExtract x26 0) fun x27 =>
 bP (pExtract x26 1) fun x28 =>
 bS (al Q q 324 z324 G23) fun x29 G30 =>
 bP (st Q q 324 0 x29 x27 G30) fun G31 =>
 bS (gV x28 true x3 G31) fun x32 G33 =>
 bP (pickV x28 x32 (.bool false)) fun x34 =>
 ifV x34 (
 some ((.bool true),G33)) (
 bP (ld Q q 38 v4 G33) fun x35 =>
 bP (ln Q q 38 x35) fun x36 =>
 bLq q e 234 0 (subAt [1,1,1,1,1,0,1,0,0] (bodyOf Tryz.f234)) 120 (nth undef [v0,v1,v2,v3,v4,v5,v6,v7,v8]) [(56,(.int .i64 0)),(55,x36),(54,x35),(53,x34),(52,x32),(51,x28),(50,x28),(16,x28),(15,x29),(49,x28),(48,x27),(44,x26),(47,x26),(46,x25),(45,x24),(14,x21),(43,x20),(42,x18),(41,v0),(40,x17),(39,x16),(38,v1),(33,x10),(32,x8),(31,x6),(30,x4),(29,x3),(28,x3),(13,x3),(27,x3),(26,x2),(25,x1),(24,x0),(23,v2),(12,(.bool false))] [] G33 fun e37 t38 G39 =>
 bV q (t38 7) fun t38x7_ =>
 bV q (t38 12) fun t38x12_ =>
 bV q (t38 13) fun t38x13_ =>
 bV q (t38 14) fun t38x14_ =>
 ifE e37 (.exit 0) (
 ifV t38x13_ (
 bP (ld Q q 320 t38x7_ G39) fun x40 =>
 bP (lda Q q 323 2 t38x14_ G39) fun x41 =>
 bP (bd Q q 324 z324 [] []) fun x42 =>
 bP (gMapPut Q 320 x40 x41 x42 G39) fun G43 =>
 some ((.bool true),G43)) (
 some ((.bool true),G39))) (ifE e37 .ret (
 some (t38x12_,G39)) (none))))
theorem m234 {e:Ex} {E:Ev} (h:ExLe Q e E) (v0 v1 v2 v3 v4 v5 v6 v7 v8:Value) (G:GS):Ref (s234 true e v0 v1 v2 v3 v4 v5 v6 v7 v8 G) (s234 false (Ex.of E) v0 v1 v2 v3 v4 v5 v6 v7 v8 G):=by
 unfold s234
 exact Ref.gq
set_option maxHeartbeats 8000000 in
theorem f234 {orc:FuncId → Bool} {e:Ex} (h:ExLe Q e (E orc)) (v0 v1 v2 v3 v4 v5 v6 v7 v8:Value) (G:GS):Ref (s234 true e v0 v1 v2 v3 v4 v5 v6 v7 v8 G) ((E orc).cl 234 [v0,v1,v2,v3,v4,v5,v6,v7,v8] G) :=
 fun r hr=>cl_sxE_some Q orc (vs:=[v0,v1,v2,v3,v4,v5,v6,v7,v8]) G Tryz.func234 (by kernel_rfl) (by kernel_rfl) (by kernel_rfl) (by kernel_rfl) (by kernel_rfl) (by kernel_rfl) (m234 h v0 v1 v2 v3 v4 v5 v6 v7 v8 G r hr)
def s235 (q:Bool) (e:Ex) (v0 v1:Value) (G:GS):OG :=
 bS (bx q v0 G) fun x0 G1 =>
 bS (al Q q 276 z276 G1) fun x2 G3 =>
 bP (bn Q q .quo 3 (.tmp 5) (.const (.int .i64 64)) v1 (.int .i64 64)) fun x4 =>
 bP (iaa Q q 276 16 1 x0 x4) fun x5 =>
 bP (ld Q q 22 x5 (G3.room 10)) fun x6 =>
 bP (bn Q q .rem 3 (.tmp 9) (.const (.int .i64 64)) v1 (.int .i64 64)) fun x7 =>
 bP (bn Q q .shl 22 (.const (.int .u64 1)) (.tmp 10) (.int .u64 1) x7) fun x8 =>
 bP (bn Q q .or 22 (.tmp 8) (.tmp 11) x6 x8) fun x9 =>
 bP (iaa Q q 276 16 1 x0 x4) fun x10 =>
 bP (st Q q 22 1 x10 x9 (G3.room 10)) fun G11 =>
 bP (lda Q q 276 16 x0 G11) fun x12 =>
 bP (st Q q 276 16 x2 x12 G11) fun G13 =>
 bP (lda Q q 276 16 x2 G13) fun x14 =>
 some (x14,G13)
theorem f235 (h:ExLe Q e (E orc)) (v0 v1:Value) (G:GS):Ref (s235 true e v0 v1 G) ((E orc).cl 235 [v0,v1] G):=cS (S:=fun q e=>s235 q e v0 v1 G) Tryz.func235 (by unfold s235; exact Ref.gq)
def b236_0 (q:Bool) (e:Ex) (lp:LpF) (τ:Env) (G:GS):OL :=
 bV q (τ 5) fun a5_ =>
 bV q (τ 6) fun a6_ =>
 bP (bn Q q .lss 3 (.tmp 6) (.const (.int .i64 16)) a6_ (.int .i64 16)) fun x0 =>
 ifV x0 (
 bP (ix Q q 276 16 a5_ a6_) fun x1 =>
 bLq q e 236 1 (subAt [1,0,0,1,1,0,0,1,0,0] (bodyOf Tryz.f236)) 25 τ [(4,x1),(3,a6_),(9,x1),(8,a6_),(7,x0)] [] G fun e2 t3 G4 =>
 bV q (t3 5) fun t3x5_ =>
 bV q (t3 6) fun t3x6_ =>
 ifE e2 (.exit 2) (
 bP (bn Q q .add 3 (.tmp 6) (.const (.int .i64 1)) t3x6_ (.int .i64 1)) fun x5 =>
 lp (xq q 25 t3 [(6,x5),(24,x5)] [(5,t3x5_)]) G4) (ifE e2 .ret (
 some (.ret,xq q 25 t3 [] [(5,t3x5_),(6,t3x6_)],G4)) (none))) (
 some ((.exit 0),xq q 25 τ [(7,x0)] [(5,a5_),(6,a6_)],G))
theorem l236_0 (h:ExLe Q e (E orc)):LT orc 25 (subAt [1,0,0] (bodyOf Tryz.f236)) (b236_0 true e):=cL fun hlp τ G=>by unfold b236_0; exact Ref.gq
def b236_1 (q:Bool) (e:Ex) (lp:LpF) (τ:Env) (G:GS):OL :=
 bV q (τ 0) fun a0_ =>
 bV q (τ 3) fun a3_ =>
 bV q (τ 4) fun a4_ =>
 bP (bn Q q .neq 22 (.tmp 10) (.const (.int .u64 0)) a4_ (.int .u64 0)) fun x0 =>
 ifV x0 (
 bP (bn Q q .mul 3 (.tmp 17) (.const (.int .i64 64)) a3_ (.int .i64 64)) fun x1 =>
 bS (e.ev.cl 237 [a4_] G) fun x2 G3 =>
 bP (bn Q q .add 3 (.tmp 18) (.tmp 20) x1 x2) fun x4 =>
 bS (cValue e.ev a0_ [x4] G3) fun x5 G6 =>
 bP (un Q q .not x5) fun x7 =>
 ifV x7 (
 some (.ret,xq q 25 τ [(23,x7),(22,x5),(21,x4),(20,x2),(19,a4_),(18,x1),(17,a3_),(16,a0_),(11,x0),(10,a4_)] [(0,a0_),(3,a3_),(4,a4_)],G6)) (
 bP (bn Q q .sub 22 (.tmp 13) (.const (.int .u64 1)) a4_ (.int .u64 1)) fun x8 =>
 bP (bn Q q .and 22 (.tmp 12) (.tmp 14) a4_ x8) fun x9 =>
 lp (xq q 25 τ [(4,x9),(15,x9),(14,x8),(13,a4_),(12,a4_),(23,x7),(22,x5),(21,x4),(20,x2),(19,a4_),(18,x1),(17,a3_),(16,a0_),(11,x0),(10,a4_)] [(0,a0_),(3,a3_)]) G6)) (
 some ((.exit 2),xq q 25 τ [(11,x0),(10,a4_)] [(0,a0_),(3,a3_),(4,a4_)],G))
theorem l236_1 (h:ExLe Q e (E orc)):LT orc 25 (subAt [1,0,0,1,1,0,0,1,0,0] (bodyOf Tryz.f236)) (b236_1 true e):=cL fun hlp τ G=>by unfold b236_1; exact Ref.gq
def s236 (q:Bool) (e:Ex) (v0 v1:Value) (G:GS):OG :=
 bP (lda Q q 276 16 v1 G) fun x0 =>
 bLq q e 236 0 (subAt [1,0,0] (bodyOf Tryz.f236)) 25 (nth undef [v0,v1]) [(6,(.int .i64 0)),(5,x0)] [] G fun e1 t2 G3 =>
 ifE e1 (.exit 0) (
 some (.tuple #[],G3)) (ifE e1 .ret (
 some (.tuple #[],G3)) (none))
theorem f236 (h:ExLe Q e (E orc)) (v0 v1:Value) (G:GS):Ref (s236 true e v0 v1 G) ((E orc).cl 236 [v0,v1] G):=cS (S:=fun q e=>s236 q e v0 v1 G) Tryz.func236 (by unfold s236; exact Ref.gq)
def s242 (q:Bool) (e:Ex) (v0 v1:Value) (G:GS):OG :=
 nf q 300 0 0 v0 fun x1 =>
 fl q 69 0 0 3 x1 G fun x3 =>
 bS (e.ev.cl 59 [v1,x3] G) fun x4 G5 =>
 nf q 300 1 3 v0 fun x7 =>
 bP (st Q q 22 1 x7 x4 G5) fun G8 =>
 nf q 300 0 0 v0 fun x10 =>
 bP (lda Q q 69 3 x10 (G8.room 10)) fun x11 =>
 nl q 300 1 3 22 v0 (G8.room 10) fun x14 =>
 bS (e.ev.cl 263 [x11,x14] (G8.room 10)) fun x16 G15 =>
 some (x16,G15)
theorem f242 (h:ExLe Q e (E orc)) (v0 v1:Value) (G:GS):Ref (s242 true e v0 v1 G) ((E orc).cl 242 [v0,v1] G):=cS (S:=fun q e=>s242 q e v0 v1 G) Tryz.func242 (by unfold s242; exact Ref.gq)
def s243 (q:Bool) (e:Ex) (v0 v1:Value) (G:GS):OG :=
 nf q 303 0 0 v0 fun x1 =>
 bP (fa Q q 300 0 0 x1) fun x2 =>
 bP (fa Q q 69 1 1 x2) fun x3 =>
 bP (ld Q q 3 x3 (G.room 20)) fun x4 =>
 nf q 303 0 0 v0 fun x6 =>
 bP (fa Q q 300 2 4 x6) fun x7 =>
 bP (ld Q q 3 x7 (G.room 20)) fun x8 =>
 bP (bn Q q .add 3 (.tmp 10) (.tmp 15) x4 x8) fun x9 =>
 nf q 303 0 0 v0 fun x11 =>
 fl q 300 3 5 3 x11 (G.room 20) fun x13 =>
 bS (e.ev.cl 217 [x13] (G.room 20)) fun x15 G14 =>
 chk ((sameO (ld Q q 3 x7 G14) x8 && (sameO (ld Q q 3 x3 G14) x4 && true))) <|
 bS (e.ev.cl 150 [v1,x9,x15] G14) fun x17 G16 =>
 nf q 303 1 9 v0 fun x19 =>
 bP (st Q q 301 1 x19 (.func (.func 264) #[] #[]) G16) fun G20 =>
 some (.tuple #[],G20)
theorem f243 (h:ExLe Q e (E orc)) (v0 v1:Value) (G:GS):Ref (s243 true e v0 v1 G) ((E orc).cl 243 [v0,v1] G):=cS (S:=fun q e=>s243 q e v0 v1 G) Tryz.func243 (by unfold s243; exact Ref.gq)
def s244 (q:Bool) (e:Ex) (v0 v1:Value) (G:GS):OG :=
 nl q 247 0 0 243 v0 G fun x2 =>
 bS (e.ev.cl 265 [x2,v1] G) fun x3 G4 =>
 ifV x3 (
 nf q 247 3 8 v0 fun x6 =>
 bP (st Q q 245 1 x6 .nilFunc G4) fun G7 =>
 some (.tuple #[],G7)) (
 some (.tuple #[],G4))
theorem f244 (h:ExLe Q e (E orc)) (v0 v1:Value) (G:GS):Ref (s244 true e v0 v1 G) ((E orc).cl 244 [v0,v1] G):=cS (S:=fun q e=>s244 q e v0 v1 G) Tryz.func244 (by unfold s244; exact Ref.gq)
def s245 (q:Bool) (e:Ex) (v0 v1 v2:Value) (G:GS):OG :=
 bS (e.ev.cl 136 [v0,v1] G) fun x0 G1 =>
 bP (bd Q q 223 z223 [(0,0,1),(1,1,1)] [x0,v2]) fun x2 =>
 bS (al Q q 223 z223 G1) fun x3 G4 =>
 bP (st Q q 223 3 x3 x2 G4) fun G5 =>
 fl q 223 0 0 220 x3 G5 fun x7 =>
 bP (lda Q q 223 3 x3 G5) fun x8 =>
 bS (e.ev.cl 137 [v0,(.int .i64 4),v1,x7,(.func (.func 266) #[x8] #[])] G5) fun x9 G10 =>
 bP (fd Q q 225 3 3 x9) fun x11 =>
 some (x11,G10)
theorem f245 (h:ExLe Q e (E orc)) (v0 v1 v2:Value) (G:GS):Ref (s245 true e v0 v1 v2 G) ((E orc).cl 245 [v0,v1,v2] G):=cS (S:=fun q e=>s245 q e v0 v1 v2 G) Tryz.func245 (by unfold s245; exact Ref.gq)
def s246 (q:Bool) (e:Ex) (v0 v1:Value) (G:GS):OG :=
 nf q 339 1 9 v0 fun x1 =>
 bP (st Q q 337 1 x1 (.func (.func 267) #[] #[]) G) fun G2 =>
 nf q 339 0 0 v0 fun x4 =>
 bS (e.ev.cl 242 [x4,v1] G2) fun x5 G6 =>
 nf q 339 0 0 v0 fun x8 =>
 bP (fa Q q 300 2 4 x8) fun x9 =>
 bP (st Q q 3 1 x9 x5 G6) fun G10 =>
 nf q 339 0 0 v0 fun x12 =>
 fl q 300 2 4 3 x12 G10 fun x14 =>
 bP (bn Q q .lss 3 (.tmp 20) (.const (.int .i64 0)) x14 (.int .i64 0)) fun x15 =>
 ifV x15 (
 nf q 339 0 0 v0 fun x17 =>
 bS (e.ev.cl 209 [x17,(.int .i64 15)] G10) fun x18 G19 =>
 some (.tuple #[],G19)) (
 some (.tuple #[],G10))
theorem f246 (h:ExLe Q e (E orc)) (v0 v1:Value) (G:GS):Ref (s246 true e v0 v1 G) ((E orc).cl 246 [v0,v1] G):=cS (S:=fun q e=>s246 q e v0 v1 G) Tryz.func246 (by unfold s246; exact Ref.gq)
def s247 (q:Bool) (e:Ex) (v0 v1:Value) (G:GS):OG :=
 bP (ep Q q false 305 (.tmp 5) (.const (.pointer none)) v0 (.pointer none)) fun x0 =>
 bS (gV x0 false v0 G) fun x1 G2 =>
 bS (gP x0 false (pNil x1) G2) fun x3 G4 =>
 bS (gP x0 false (fa Q q 339 0 0 x3) G4) fun x5 G6 =>
 bS (gS x0 false (e.ev.cl 268 [x5] G6) G6) fun x7 G8 =>
 bP (pickV x0 (.bool true) x7) fun x9 =>
 ifV x9 (
 some ((.bool true),G8)) (
 nl q 339 1 9 337 v0 G8 fun x12 =>
 bS (cValue e.ev x12 [v0,v1] G8) fun x13 G14 =>
 nf q 339 0 0 v0 fun x16 =>
 fl q 300 5 7 4 x16 G14 fun x18 =>
 some (x18,G14))
theorem f247 (h:ExLe Q e (E orc)) (v0 v1:Value) (G:GS):Ref (s247 true e v0 v1 G) ((E orc).cl 247 [v0,v1] G):=cS (S:=fun q e=>s247 q e v0 v1 G) Tryz.func247 (by unfold s247; exact Ref.gq)
def s248 (q:Bool) (e:Ex) (v0:Value) (G:GS):OG :=
 bP (ep Q q false 305 (.tmp 4) (.const (.pointer none)) v0 (.pointer none)) fun x0 =>
 ifV x0 (
 some (.tuple #[(.int .i64 0),(.int .i64 1)],G)) (
 nf q 339 0 0 v0 fun x2 =>
 bS (e.ev.cl 269 [x2] G) fun x3 G4 =>
 bP (pExtract x3 0) fun x5 =>
 bP (pExtract x3 1) fun x6 =>
 some (.tuple #[x5,x6],G4))
theorem f248 (h:ExLe Q e (E orc)) (v0:Value) (G:GS):Ref (s248 true e v0 G) ((E orc).cl 248 [v0] G):=cS (S:=fun q e=>s248 q e v0 G) Tryz.func248 (by unfold s248; exact Ref.gq)
def s249 (q:Bool) (e:Ex) (v0 v1:Value) (G:GS):OG :=
 nf q 309 4 9 v0 fun x1 =>
 bP (ld Q q 3 x1 (G.room 26)) fun x2 =>
 nf q 309 1 1 v0 fun x4 =>
 fl q 71 1 3 3 x4 (G.room 26) fun x6 =>
 nl q 309 4 9 3 v0 (G.room 26) fun x9 =>
 bP (bn Q q .add 3 (.tmp 15) (.tmp 19) x6 x9) fun x10 =>
 bS (e.ev.cl 59 [v1,x10] (G.room 26)) fun x12 G11 =>
 chk ((sameO (ld Q q 3 x1 G11) x2 && true)) <|
 bS (e.ev.cl 211 [x12] G11) fun x14 G13 =>
 chk ((sameO (ld Q q 3 x1 G13) x2 && true)) <|
 bP (bd Q q 260 z260 [(0,0,1),(1,1,1)] [x2,x14]) fun x15 =>
 bS (e.ev.cl 221 [x15] G13) fun x17 G16 =>
 bP (pExtract x17 0) fun x18 =>
 bP (pExtract x17 1) fun x19 =>
 nf q 309 5 10 v0 fun x21 =>
 bP (st Q q 22 1 x21 x18 G16) fun G22 =>
 nf q 309 3 8 v0 fun x24 =>
 bP (st Q q 307 1 x24 .nilFunc G22) fun G25 =>
 some (.tuple #[],G25)
theorem f249 (h:ExLe Q e (E orc)) (v0 v1:Value) (G:GS):Ref (s249 true e v0 v1 G) ((E orc).cl 249 [v0,v1] G):=cS (S:=fun q e=>s249 q e v0 v1 G) Tryz.func249 (by unfold s249; exact Ref.gq)
def jb250_0 (q:Bool) (e:Ex) (τ:Env) (G:GS):OG :=
 bV q (τ 0) fun a0_ =>
 nf q 309 3 8 a0_ fun x4 =>
 bP (st Q q 307 1 x4 .nilFunc G) fun G5 =>
 some (.tuple #[],G5)
def j250_0 (q:Bool) (e:Ex) (τ:Env) (G:GS):OG:=jb250_0 q e τ G
theorem mj250_0 {e:Ex} {E:Ev} (h:ExLe Q e E) (τ:Env) (G:GS):Ref (j250_0 true e τ G) (j250_0 false (Ex.of E) τ G):=by
 unfold j250_0 jb250_0
 exact Ref.gq
theorem mkj250_0 {e:Ex} {E:Ev} (h:ExLe Q e E) {τ:Env} {l U:List (Nat × Value)} {G:GS} (hU:UOk τ U):Ref (j250_0 true e (xq true 28 τ l U) G) (j250_0 false (Ex.of E) (xq false 28 τ l U) G):=by
 rw [xq_eq hU]
 exact mj250_0 h _ _
def sb250 (q:Bool) (e:Ex) (J0:Env → GS → OG) (v0 v1:Value) (G:GS):OG :=
 bP (pNil v0) fun x0 =>
 bP (fa Q q 309 6 11 x0) fun x1 =>
 bP (st Q q 25 1 x1 (.int .i64 7) G) fun G2 =>
 bP (pNil v0) fun x6 =>
 bP (fa Q q 309 1 1 x6) fun x7 =>
 bP (fa Q q 71 2 4 x7) fun x8 =>
 bP (ld Q q 3 x8 (G2.room 15)) fun x9 =>
 bS (e.ev.cl 59 [v1,x9] (G2.room 15)) fun x11 G10 =>
 bP (pNil v0) fun x12 =>
 bP (fa Q q 309 1 1 x12) fun x13 =>
 bP (fa Q q 71 0 0 x13) fun x14 =>
 bP (fa Q q 69 2 2 x14) fun x15 =>
 bP (ld Q q 3 x15 G10) fun x16 =>
 chk ((sameO (ld Q q 3 x15 (G2.room 15)) x16 && true)) <|
 bP (cv Q q 3 22 .i64 .u64 x16) fun x17 =>
 bP (bn Q q .geq 22 (.tmp 13) (.tmp 20) x11 x17) fun x18 =>
 ifV x18 (
 bP (pNil v0) fun x19 =>
 bP (fa Q q 309 6 11 x19) fun x20 =>
 bP (st Q q 25 1 x20 (.int .i64 12) G10) fun G21 =>
 J0 (xq q 28 (nth undef [v0,v1]) [(24,x20),(23,x19),(22,v0),(21,x18),(20,x17),(19,x16),(18,x15),(17,x14),(16,x13),(15,x12),(14,v0),(13,x11),(12,x9),(11,x8),(10,x7),(9,x6),(8,v0),(7,v1),(6,x1),(5,x0),(4,v0)] []) G21) (
 J0 (xq q 28 (nth undef [v0,v1]) [(21,x18),(20,x17),(19,x16),(18,x15),(17,x14),(16,x13),(15,x12),(14,v0),(13,x11),(12,x9),(11,x8),(10,x7),(9,x6),(8,v0),(7,v1),(6,x1),(5,x0),(4,v0)] []) G10)
def s250 (q:Bool) (e:Ex) (v0 v1:Value) (G:GS):OG:=sb250 q e (j250_0 q e) v0 v1 G
theorem m250 {e:Ex} {E:Ev} (h:ExLe Q e E) (v0 v1:Value) (G:GS):Ref (s250 true e v0 v1 G) (s250 false (Ex.of E) v0 v1 G):=by
 unfold s250 sb250
 have j0:=@mkj250_0 e E h
 exact Ref.gj
def jt250 (J0:Env → GS → OG):JT (Value × GS) :=
 (.n none .e (.n (some (fun T G=>J0 (nth undef T) G)) .e .e))
theorem jr250_0 (orc:FuncId → Bool) (J0:Env → GS → OG) (T:List Value) (G:GS):runC Q (evL Q orc) Tryz.f250.ntmps (jt250 J0) (bodyOf Tryz.f250) (retE Q Tryz.f250.results.toList) [true] (nth undef T) G = jb250_0 false (Ex.of (E orc))  (nth undef T) G:=by kernel_rfl
theorem jo250 (orc:FuncId → Bool):JOk Q orc Tryz.f250.ntmps (jt250 (j250_0 false (Ex.of (E orc))) ) (bodyOf Tryz.f250) (retE Q Tryz.f250.results.toList) :=
 jOk Q orc (l:=[([true],(fun T G=>j250_0 false (Ex.of (E orc)) (nth undef T) G))]) (by kernel_rfl) (AllE.c (fun T G=>jr250_0 orc (j250_0 false (Ex.of (E orc))) T G) (AllE.z))
theorem je250 (orc:FuncId → Bool) (J0:Env → GS → OG) (v0 v1:Value) (G:GS):sxC Q (evL Q orc) Tryz.f250.ntmps (jt250 J0) (bodyOf Tryz.f250) (nth undef [v0,v1]) G (retE Q Tryz.f250.results.toList) = sb250 false (Ex.of (E orc)) J0 v0 v1 G:=by kernel_rfl
theorem f250 {orc:FuncId → Bool} {e:Ex} (h:ExLe Q e (E orc)) (v0 v1:Value) (G:GS):Ref (s250 true e v0 v1 G) ((E orc).cl 250 [v0,v1] G) :=
 fun r hr=>cl_sxC Q orc (vs:=[v0,v1]) G (jt250 (j250_0 false (Ex.of (E orc))) ) Tryz.func250 (by kernel_rfl) (by kernel_rfl) (by kernel_rfl) (by kernel_rfl) (by kernel_rfl) (jo250 orc) (je250 orc (j250_0 false (Ex.of (E orc))) v0 v1 G) (m250 h v0 v1 G r hr)
def s251 (q:Bool) (e:Ex) (v0:Value) (G:GS):OG :=
 bS (bx q v0 G) fun x0 G1 =>
 fl q 342 0 0 3 x0 G1 fun x3 =>
 bP (bd Q q 345 z345 [(0,0,1),(1,1,1),(2,2,1)] [x3,(.int .i64 (-1)),(.int .i64 65534)]) fun x4 =>
 fl q 342 1 1 3 x0 G1 fun x6 =>
 bP (bd Q q 345 z345 [(0,0,1),(1,1,1),(2,2,1)] [x6,(.int .i64 0),(.int .i64 281474976710655)]) fun x7 =>
 bS (bs Q q 358 2 (rep z345 2) 3 [(0,0,3),(1,3,3)] [x4,x7] G1) fun x8 G9 =>
 bS (e.ev.cl 252 [x8] G9) fun x10 G11 =>
 bP (un Q q .not x10) fun x12 =>
 ifV x12 (
 some (.tuple #[(.int .u64 0),(.int .i64 3)],G11)) (
 bS (e.ev.cl 270 [] G11) fun x13 G14 =>
 bS (al Q q 313 z313 G14) fun x15 G16 =>
 bP (st Q q 313 4 x15 x13 G16) fun G17 =>
 bP (sla Q q 313 2 2 x15 none none none (G17.room 10)) fun x18 =>
 fl q 342 0 0 3 x0 (G17.room 10) fun x20 =>
 bP (bn Q q .add 3 (.tmp 17) (.const (.int .i64 1)) x20 (.int .i64 1)) fun x21 =>
 fl q 342 1 1 3 x0 (G17.room 10) fun x23 =>
 bS (bs Q q 35 2 (rep z3 2) 1 [(0,0,1),(1,1,1)] [x21,x23] ((G17.room 10).at' (G17.nx + 6))) fun x24 G25 =>
 bS (e.ev.cl 254 [x18,x24] (G25.back (G17.room 10))) fun x27 G26 =>
 some (.tuple #[x27,(.int .i64 0)],G26))
theorem f251 (h:ExLe Q e (E orc)) (v0:Value) (G:GS):Ref (s251 true e v0 G) ((E orc).cl 251 [v0] G):=cS (S:=fun q e=>s251 q e v0 G) Tryz.func251 (by unfold s251; exact Ref.gq)
def b252_0 (q:Bool) (e:Ex) (lp:LpF) (τ:Env) (G:GS):OL :=
 bV q (τ 5) fun a5_ =>
 bV q (τ 6) fun a6_ =>
 bV q (τ 7) fun a7_ =>
 bP (bn Q q .lss 3 (.tmp 7) (.tmp 6) a7_ a6_) fun x0 =>
 ifV x0 (
 bP (ias Q q 358 3 a5_ a7_) fun x1 =>
 bP (lda Q q 345 3 x1 G) fun x2 =>
 bS (al Q q 345 z345 G) fun x3 G4 =>
 bP (st Q q 345 3 x3 x2 G4) fun G5 =>
 bP (fa Q q 345 0 0 x3) fun x6 =>
 bP (ld Q q 3 x6 G5) fun x7 =>
 bP (fa Q q 345 1 1 x3) fun x8 =>
 bP (ld Q q 3 x8 G5) fun x9 =>
 bP (bn Q q .lss 3 (.tmp 12) (.tmp 14) x7 x9) fun x10 =>
 bS (gP x10 false (fa Q q 345 0 0 x3) G5) fun x11 G12 =>
 bS (gP x10 false (ld Q q 3 x11 G12) G12) fun x13 G14 =>
 bS (gP x10 false (fa Q q 345 2 2 x3) G14) fun x15 G16 =>
 bS (gP x10 false (ld Q q 3 x15 G16) G16) fun x17 G18 =>
 bS (gP x10 false (bn Q q .gtr 3 (.tmp 18) (.tmp 20) x13 x17) G18) fun x19 G20 =>
 bP (pickV x10 (.bool true) x19) fun x21 =>
 ifV x21 (
 some (.ret,xq q 24 τ [(2,(.bool false)),(22,x21),(21,x19),(20,x17),(19,x15),(18,x13),(17,x11),(16,x10),(15,x10),(14,x9),(13,x8),(12,x7),(11,x6),(4,x3),(10,x2),(9,x1),(8,x0)] [(5,a5_),(6,a6_),(7,a7_)],G20)) (
 bP (bn Q q .add 3 (.tmp 7) (.const (.int .i64 1)) a7_ (.int .i64 1)) fun x22 =>
 lp (xq q 24 τ [(7,x22),(23,x22),(22,x21),(21,x19),(20,x17),(19,x15),(18,x13),(17,x11),(16,x10),(15,x10),(14,x9),(13,x8),(12,x7),(11,x6),(4,x3),(10,x2),(9,x1),(8,x0)] [(5,a5_),(6,a6_)]) G20)) (
 some ((.exit 0),xq q 24 τ [(8,x0)] [(5,a5_),(6,a6_),(7,a7_)],G))
theorem l252_0 (h:ExLe Q e (E orc)):LT orc 24 (subAt [1,0,1,0,0] (bodyOf Tryz.f252)) (b252_0 true e):=cL fun hlp τ G=>by unfold b252_0; exact Ref.gq
def s252 (q:Bool) (e:Ex) (v0:Value) (G:GS):OG :=
 bP (ln Q q 358 v0) fun x0 =>
 bLq q e 252 0 (subAt [1,0,1,0,0] (bodyOf Tryz.f252)) 24 (nth undef [v0]) [(7,(.int .i64 0)),(6,x0),(5,v0),(2,(.bool false))] [] G fun e1 t2 G3 =>
 bV q (t2 2) fun t2x2_ =>
 ifE e1 (.exit 0) (
 some ((.bool true),G3)) (ifE e1 .ret (
 some (t2x2_,G3)) (none))
theorem f252 (h:ExLe Q e (E orc)) (v0:Value) (G:GS):Ref (s252 true e v0 G) ((E orc).cl 252 [v0] G):=cS (S:=fun q e=>s252 q e v0 G) Tryz.func252 (by unfold s252; exact Ref.gq)
def s253 (q:Bool) (e:Ex) (v0 v1:Value) (G:GS):OG :=
 ifV v1 (
 bP (bn Q q .or 22 (.tmp 6) (.const (.int .u64 9223372036854775808)) v0 (.int .u64 9223372036854775808)) fun x0 =>
 some (x0,G)) (
 bP (bn Q q .andNot 22 (.tmp 8) (.const (.int .u64 9223372036854775808)) v0 (.int .u64 9223372036854775808)) fun x1 =>
 some (x1,G))
theorem f253 (h:ExLe Q e (E orc)) (v0 v1:Value) (G:GS):Ref (s253 true e v0 v1 G) ((E orc).cl 253 [v0,v1] G):=cS (S:=fun q e=>s253 q e v0 v1 G) Tryz.func253 (by unfold s253; exact Ref.gq)
def b254_0 (q:Bool) (e:Ex) (lp:LpF) (τ:Env) (G:GS):OL :=
 bV q (τ 1) fun a1_ =>
 bV q (τ 5) fun a5_ =>
 bV q (τ 8) fun a8_ =>
 bV q (τ 9) fun a9_ =>
 bV q (τ 10) fun a10_ =>
 bP (bn Q q .lss 3 (.tmp 10) (.tmp 9) a10_ a9_) fun x0 =>
 ifV x0 (
 bP (ias Q q 348 2 a8_ a10_) fun x1 =>
 bP (lda Q q 312 2 x1 G) fun x2 =>
 bS (al Q q 312 z312 G) fun x3 G4 =>
 bP (st Q q 312 2 x3 x2 G4) fun G5 =>
 bP (lda Q q 312 2 x3 (G5.room 8)) fun x6 =>
 bP (ias Q q 35 1 a1_ a10_) fun x7 =>
 bP (ld Q q 3 x7 (G5.room 8)) fun x8 =>
 bS (e.ev.cl 271 [a5_,x6,x8] (G5.room 8)) fun x10 G9 =>
 bP (bn Q q .add 3 (.tmp 10) (.const (.int .i64 1)) a10_ (.int .i64 1)) fun x11 =>
 lp (xq q 24 τ [(10,x11),(22,x11),(5,x10),(21,x10),(20,x8),(19,x7),(18,a10_),(17,a1_),(16,x6),(15,a5_),(6,a10_),(7,x3),(14,x2),(13,x1),(12,a10_),(11,x0)] [(1,a1_),(8,a8_),(9,a9_)]) G9) (
 some ((.exit 0),xq q 24 τ [(11,x0)] [(1,a1_),(5,a5_),(8,a8_),(9,a9_),(10,a10_)],G))
theorem l254_0 (h:ExLe Q e (E orc)):LT orc 24 (subAt [1,1,0,1,0,0] (bodyOf Tryz.f254)) (b254_0 true e):=cL fun hlp τ G=>by unfold b254_0; exact Ref.gq
def s254 (q:Bool) (e:Ex) (v0 v1:Value) (G:GS):OG :=
 bP (ln Q q 348 v0) fun x0 =>
 bLq q e 254 0 (subAt [1,1,0,1,0,0] (bodyOf Tryz.f254)) 24 (nth undef [v0,v1]) [(10,(.int .i64 0)),(9,x0),(8,v0),(5,(.int .u64 0)),(4,(.int .u64 0))] [] G fun e1 t2 G3 =>
 bV q (t2 5) fun t2x5_ =>
 ifE e1 (.exit 0) (
 some (t2x5_,G3)) (none)
theorem f254 (h:ExLe Q e (E orc)) (v0 v1:Value) (G:GS):Ref (s254 true e v0 v1 G) ((E orc).cl 254 [v0,v1] G):=cS (S:=fun q e=>s254 q e v0 v1 G) Tryz.func254 (by unfold s254; exact Ref.gq)
def s260 (q:Bool) (e:Ex) (v0 v1 v2 v3:Value) (G:GS):OG :=
 bS (e.ev.cl 136 [v0,v1] G) fun x0 G1 =>
 bP (bd Q q 223 z223 [(0,0,1),(1,1,1),(2,2,1)] [x0,v2,v3]) fun x2 =>
 bS (al Q q 223 z223 G1) fun x3 G4 =>
 bP (st Q q 223 3 x3 x2 G4) fun G5 =>
 fl q 223 0 0 220 x3 G5 fun x7 =>
 bP (lda Q q 223 3 x3 G5) fun x8 =>
 bS (e.ev.cl 137 [v0,(.int .i64 3),v1,x7,(.func (.func 273) #[x8] #[])] G5) fun x9 G10 =>
 bP (fd Q q 225 4 4 x9) fun x11 =>
 some (x11,G10)
theorem f260 (h:ExLe Q e (E orc)) (v0 v1 v2 v3:Value) (G:GS):Ref (s260 true e v0 v1 v2 v3 G) ((E orc).cl 260 [v0,v1,v2,v3] G):=cS (S:=fun q e=>s260 q e v0 v1 v2 v3 G) Tryz.func260 (by unfold s260; exact Ref.gq)
def s263 (q:Bool) (e:Ex) (v0 v1:Value) (G:GS):OG :=
 bS (bx q v0 G) fun x0 G1 =>
 bS (e.ev.cl 274 [v1] G1) fun x2 G3 =>
 bP (pExtract x2 0) fun x4 =>
 bP (pExtract x2 1) fun x5 =>
 bS (al Q q 342 z342 G3) fun x6 G7 =>
 bP (st Q q 342 2 x6 x4 G7) fun G8 =>
 fl q 342 0 0 3 x6 G8 fun x10 =>
 fl q 69 2 2 3 x0 G8 fun x12 =>
 bP (bn Q q .geq 3 (.tmp 13) (.tmp 15) x10 x12) fun x13 =>
 ifV x13 (
 some ((.int .i64 (-1)),G8)) (
 fl q 342 0 0 3 x6 G8 fun x15 =>
 some (x15,G8))
theorem f263 (h:ExLe Q e (E orc)) (v0 v1:Value) (G:GS):Ref (s263 true e v0 v1 G) ((E orc).cl 263 [v0,v1] G):=cS (S:=fun q e=>s263 q e v0 v1 G) Tryz.func263 (by unfold s263; exact Ref.gq)
def s264 (q:Bool) (e:Ex) (v0 v1:Value) (G:GS):OG :=
 nf q 303 1 9 v0 fun x1 =>
 bP (st Q q 301 1 x1 (.func (.func 208) #[] #[]) G) fun G2 =>
 nf q 303 0 0 v0 fun x4 =>
 nf q 303 0 0 v0 fun x6 =>
 fl q 300 2 4 3 x6 (G2.room 10) fun x8 =>
 bS (e.ev.cl 275 [x4,v1,x8] (G2.room 10)) fun x10 G9 =>
 ifV x10 (
 nf q 303 0 0 v0 fun x12 =>
 bS (e.ev.cl 209 [x12,(.int .i64 0)] G9) fun x13 G14 =>
 some (.tuple #[],G14)) (
 some (.tuple #[],G9))
theorem f264 (h:ExLe Q e (E orc)) (v0 v1:Value) (G:GS):Ref (s264 true e v0 v1 G) ((E orc).cl 264 [v0,v1] G):=cS (S:=fun q e=>s264 q e v0 v1 G) Tryz.func264 (by unfold s264; exact Ref.gq)
def s265 (q:Bool) (e:Ex) (v0 v1:Value) (G:GS):OG :=
 bP (ep Q q false 243 (.tmp 5) (.const (.pointer none)) v0 (.pointer none)) fun x0 =>
 bS (gV x0 false v0 G) fun x1 G2 =>
 bS (gP x0 false (pNil x1) G2) fun x3 G4 =>
 bS (gP x0 false (fa Q q 303 0 0 x3) G4) fun x5 G6 =>
 bS (gS x0 false (e.ev.cl 268 [x5] G6) G6) fun x7 G8 =>
 bP (pickV x0 (.bool true) x7) fun x9 =>
 ifV x9 (
 some ((.bool true),G8)) (
 nl q 303 1 9 301 v0 G8 fun x12 =>
 bS (cValue e.ev x12 [v0,v1] G8) fun x13 G14 =>
 nf q 303 0 0 v0 fun x16 =>
 fl q 300 5 7 4 x16 G14 fun x18 =>
 some (x18,G14))
theorem f265 (h:ExLe Q e (E orc)) (v0 v1:Value) (G:GS):Ref (s265 true e v0 v1 G) ((E orc).cl 265 [v0,v1] G):=cS (S:=fun q e=>s265 q e v0 v1 G) Tryz.func265 (by unfold s265; exact Ref.gq)
def s266 (q:Bool) (e:Ex) (v0:Value) (G:GS):OG :=
 bS (bx q v0 G) fun x0 G1 =>
 fl q 223 0 0 220 x0 (G1.room 9) fun x3 =>
 bP (pNil x3) fun x4 =>
 bP (ld Q q 237 x4 (G1.room 9)) fun x5 =>
 fl q 223 1 1 22 x0 (G1.room 9) fun x7 =>
 bP (bn Q q .add 22 (.tmp 7) (.tmp 9) x5 x7) fun x8 =>
 some (.tuple #[x8,(.bool true)],(G1.room 9))
theorem f266 (h:ExLe Q e (E orc)) (v0:Value) (G:GS):Ref (s266 true e v0 G) ((E orc).cl 266 [v0] G):=cS (S:=fun q e=>s266 q e v0 G) Tryz.func266 (by unfold s266; exact Ref.gq)
def s267 (q:Bool) (e:Ex) (v0 v1:Value) (G:GS):OG :=
 nf q 339 0 0 v0 fun x1 =>
 bP (fa Q q 300 0 0 x1) fun x2 =>
 bP (lda Q q 69 3 x2 (G.room 25)) fun x3 =>
 nf q 339 0 0 v0 fun x5 =>
 bP (fa Q q 300 0 0 x5) fun x6 =>
 fl q 69 1 1 3 x6 (G.room 25) fun x8 =>
 nf q 339 0 0 v0 fun x10 =>
 fl q 300 2 4 3 x10 (G.room 25) fun x12 =>
 bP (bn Q q .add 3 (.tmp 16) (.tmp 21) x8 x12) fun x13 =>
 bS (e.ev.cl 59 [v1,x13] (G.room 25)) fun x15 G14 =>
 chk ((sameO (lda Q q 69 3 x2 G14) x3 && true)) <|
 bS (e.ev.cl 263 [x3,x15] G14) fun x17 G16 =>
 nf q 339 0 0 v0 fun x19 =>
 bP (fa Q q 300 3 5 x19) fun x20 =>
 bP (st Q q 3 1 x20 x17 G16) fun G21 =>
 nf q 339 1 9 v0 fun x23 =>
 bP (st Q q 337 1 x23 (.func (.func 276) #[] #[]) G21) fun G24 =>
 some (.tuple #[],G24)
theorem f267 (h:ExLe Q e (E orc)) (v0 v1:Value) (G:GS):Ref (s267 true e v0 v1 G) ((E orc).cl 267 [v0,v1] G):=cS (S:=fun q e=>s267 q e v0 v1 G) Tryz.func267 (by unfold s267; exact Ref.gq)
def s268 (q:Bool) (e:Ex) (v0:Value) (G:GS):OG :=
 bP (ep Q q false 335 (.tmp 3) (.const (.pointer none)) v0 (.pointer none)) fun x0 =>
 bS (gV x0 false v0 G) fun x1 G2 =>
 bS (gP x0 false (pNil x1) G2) fun x3 G4 =>
 bS (gP x0 false (fa Q q 300 4 6 x3) G4) fun x5 G6 =>
 bS (gP x0 false (ld Q q 4 x5 G6) G6) fun x7 G8 =>
 bS (gP x0 false (un Q q .not x7) G8) fun x9 G10 =>
 bP (pickV x0 (.bool true) x9) fun x11 =>
 bS (gV x11 false v0 G10) fun x12 G13 =>
 bS (gP x11 false (pNil x12) G13) fun x14 G15 =>
 bS (gP x11 false (fa Q q 300 5 7 x14) G15) fun x16 G17 =>
 bS (gP x11 false (ld Q q 4 x16 G17) G17) fun x18 G19 =>
 bP (pickV x11 (.bool true) x18) fun x20 =>
 some (x20,G19)
theorem f268 (h:ExLe Q e (E orc)) (v0:Value) (G:GS):Ref (s268 true e v0 G) ((E orc).cl 268 [v0] G):=cS (S:=fun q e=>s268 q e v0 G) Tryz.func268 (by unfold s268; exact Ref.gq)
def s269 (q:Bool) (e:Ex) (v0:Value) (G:GS):OG :=
 bS (e.ev.cl 277 [v0] G) fun x0 G1 =>
 bP (bn Q q .neq 25 (.tmp 7) (.const (.int .i64 0)) x0 (.int .i64 0)) fun x2 =>
 ifV x2 (
 some (.tuple #[(.int .i64 0),x0],G1)) (
 nl q 300 2 4 3 v0 G1 fun x5 =>
 some (.tuple #[x5,(.int .i64 0)],G1))
theorem f269 (h:ExLe Q e (E orc)) (v0:Value) (G:GS):Ref (s269 true e v0 G) ((E orc).cl 269 [v0] G):=cS (S:=fun q e=>s269 q e v0 G) Tryz.func269 (by unfold s269; exact Ref.gq)
def s270 (q:Bool) (e:Ex) (G:GS):OG :=
 bS (al Q q 313 z313 G) fun x0 G1 =>
 bP (bd Q q 312 z312 [(0,0,1),(1,1,1)] [(.int .i64 0),(.int .i64 16)]) fun x2 =>
 bP (bd Q q 312 z312 [(0,0,1),(1,1,1)] [(.int .i64 16),(.int .i64 48)]) fun x3 =>
 bP (bd Q q 313 z313 [(0,0,2),(1,2,2)] [x2,x3]) fun x4 =>
 bP (st Q q 313 4 x0 x4 G1) fun G5 =>
 bP (lda Q q 313 4 x0 G5) fun x6 =>
 some (x6,G5)
theorem f270 (h:ExLe Q e (E orc)) (ho:orc 270 = false) (G:GS):Ref (s270 true e  G) ((E orc).cl 270 [] G):=cS (S:=fun q e=>s270 q e  G) (ho:=ho) Tryz.func270 (by unfold s270; exact Ref.gq)
def s271 (q:Bool) (e:Ex) (v0 v1 v2:Value) (G:GS):OG :=
 bS (bx q v1 G) fun x0 G1 =>
 bP (cv Q q 3 22 .i64 .u64 v2) fun x2 =>
 fl q 312 0 0 3 x0 G1 fun x4 =>
 bP (bn Q q .shl 22 (.tmp 9) (.tmp 11) x2 x4) fun x5 =>
 bP (bn Q q .or 315 (.tmp 7) (.tmp 12) v0 x5) fun x6 =>
 some (x6,G1)
theorem f271 (h:ExLe Q e (E orc)) (v0 v1 v2:Value) (G:GS):Ref (s271 true e v0 v1 v2 G) ((E orc).cl 271 [v0,v1,v2] G):=cS (S:=fun q e=>s271 q e v0 v1 v2 G) Tryz.func271 (by unfold s271; exact Ref.gq)
def s273 (q:Bool) (e:Ex) (v0:Value) (G:GS):OG :=
 bS (bx q v0 G) fun x0 G1 =>
 fl q 223 0 0 220 x0 (G1.room 7) fun x3 =>
 bP (pNil x3) fun x4 =>
 bP (ld Q q 237 x4 (G1.room 7)) fun x5 =>
 fl q 223 1 1 22 x0 (G1.room 7) fun x7 =>
 bP (bn Q q .neq 22 (.tmp 7) (.tmp 9) x5 x7) fun x8 =>
 ifV x8 (
 fl q 223 0 0 220 x0 (G1.room 7) fun x10 =>
 bP (pNil x10) fun x11 =>
 bP (ld Q q 237 x11 (G1.room 7)) fun x12 =>
 some (.tuple #[x12,(.bool false)],(G1.room 7))) (
 fl q 223 2 2 22 x0 (G1.room 7) fun x14 =>
 some (.tuple #[x14,(.bool true)],(G1.room 7)))
theorem f273 (h:ExLe Q e (E orc)) (v0:Value) (G:GS):Ref (s273 true e v0 G) ((E orc).cl 273 [v0] G):=cS (S:=fun q e=>s273 q e v0 G) Tryz.func273 (by unfold s273; exact Ref.gq)
def s274 (q:Bool) (e:Ex) (v0:Value) (G:GS):OG :=
 bS (al Q q 342 z342 G) fun x0 G1 =>
 bS (e.ev.cl 270 [] G1) fun x2 G3 =>
 bS (al Q q 313 z313 G3) fun x4 G5 =>
 bP (st Q q 313 4 x4 x2 G5) fun G6 =>
 bP (iaa Q q 313 2 2 x4 (.int .i64 0)) fun x7 =>
 bP (lda Q q 312 2 x7 (G6.room 12)) fun x8 =>
 bS (e.ev.cl 219 [v0,x8] (G6.room 12)) fun x10 G9 =>
 bP (bn Q q .sub 3 (.tmp 9) (.const (.int .i64 1)) x10 (.int .i64 1)) fun x11 =>
 bP (iaa Q q 313 2 2 x4 (.int .i64 1)) fun x12 =>
 bP (lda Q q 312 2 x12 G9) fun x13 =>
 chk ((sameO (lda Q q 312 2 x12 (G6.room 12)) x13 && true)) <|
 bS (e.ev.cl 219 [v0,x13] G9) fun x15 G14 =>
 bP (bd Q q 342 z342 [(0,0,1),(1,1,1)] [x11,x15]) fun x16 =>
 bP (st Q q 342 2 x0 x16 G14) fun G17 =>
 bP (lda Q q 342 2 x0 G17) fun x18 =>
 some (.tuple #[x18,(.int .i64 0)],G17)
theorem f274 (h:ExLe Q e (E orc)) (v0:Value) (G:GS):Ref (s274 true e v0 G) ((E orc).cl 274 [v0] G):=cS (S:=fun q e=>s274 q e v0 G) Tryz.func274 (by unfold s274; exact Ref.gq)
def s275 (q:Bool) (e:Ex) (v0 v1 v2:Value) (G:GS):OG :=
 nl q 300 1 3 22 v0 G fun x2 =>
 bS (e.ev.cl 274 [x2] G) fun x3 G4 =>
 bP (pExtract x3 0) fun x5 =>
 bP (pExtract x3 1) fun x6 =>
 bS (al Q q 342 z342 G4) fun x7 G8 =>
 bP (st Q q 342 2 x7 x5 G8) fun G9 =>
 fl q 342 1 1 3 x7 G9 fun x11 =>
 bP (bn Q q .add 3 (.tmp 22) (.const (.int .i64 1)) x11 (.int .i64 1)) fun x12 =>
 bP (bn Q q .and 3 (.tmp 23) (.const (.int .i64 281474976710655)) x12 (.int .i64 281474976710655)) fun x13 =>
 bP (bd Q q 342 z342 [(0,0,1),(1,1,1)] [v2,x13]) fun x14 =>
 bS (e.ev.cl 251 [x14] G9) fun x15 G16 =>
 bP (pExtract x15 0) fun x17 =>
 bP (pExtract x15 1) fun x18 =>
 nf q 300 0 0 v0 fun x20 =>
 fl q 69 0 0 3 x20 (G16.room 13) fun x22 =>
 nl q 300 1 3 22 v0 (G16.room 13) fun x25 =>
 bS (e.ev.cl 260 [v1,x22,x25,x17] (G16.room 13)) fun x27 G26 =>
 some (x27,G26)
theorem f275 (h:ExLe Q e (E orc)) (v0 v1 v2:Value) (G:GS):Ref (s275 true e v0 v1 v2 G) ((E orc).cl 275 [v0,v1,v2] G):=cS (S:=fun q e=>s275 q e v0 v1 v2 G) Tryz.func275 (by unfold s275; exact Ref.gq)
def s276 (q:Bool) (e:Ex) (v0 v1:Value) (G:GS):OG :=
 nf q 339 1 9 v0 fun x1 =>
 bP (st Q q 337 1 x1 (.func (.func 246) #[] #[]) G) fun G2 =>
 nf q 339 0 0 v0 fun x4 =>
 nf q 339 0 0 v0 fun x6 =>
 fl q 300 3 5 3 x6 (G2.room 10) fun x8 =>
 bS (e.ev.cl 275 [x4,v1,x8] (G2.room 10)) fun x10 G9 =>
 ifV x10 (
 nf q 339 0 0 v0 fun x12 =>
 bS (e.ev.cl 209 [x12,(.int .i64 0)] G9) fun x13 G14 =>
 some (.tuple #[],G14)) (
 some (.tuple #[],G9))
theorem f276 (h:ExLe Q e (E orc)) (v0 v1:Value) (G:GS):Ref (s276 true e v0 v1 G) ((E orc).cl 276 [v0,v1] G):=cS (S:=fun q e=>s276 q e v0 v1 G) Tryz.func276 (by unfold s276; exact Ref.gq)
def s277 (q:Bool) (e:Ex) (v0:Value) (G:GS):OG :=
 bP (ep Q q false 335 (.tmp 4) (.const (.pointer none)) v0 (.pointer none)) fun x0 =>
 bS (gV x0 false v0 G) fun x1 G2 =>
 bS (gP x0 false (pNil x1) G2) fun x3 G4 =>
 bS (gP x0 false (fa Q q 300 4 6 x3) G4) fun x5 G6 =>
 bS (gP x0 false (ld Q q 4 x5 G6) G6) fun x7 G8 =>
 bS (gP x0 false (un Q q .not x7) G8) fun x9 G10 =>
 bP (pickV x0 (.bool true) x9) fun x11 =>
 ifV x11 (
 some ((.int .i64 1),G10)) (
 nl q 300 5 7 4 v0 G10 fun x14 =>
 bP (un Q q .not x14) fun x15 =>
 ifV x15 (
 some ((.int .i64 14),G10)) (
 nl q 300 6 8 25 v0 G10 fun x18 =>
 some (x18,G10)))
theorem f277 (h:ExLe Q e (E orc)) (v0:Value) (G:GS):Ref (s277 true e v0 G) ((E orc).cl 277 [v0] G):=cS (S:=fun q e=>s277 q e v0 G) Tryz.func277 (by unfold s277; exact Ref.gq)
end
end Go.Proofs.YtlaojmcekeohnaaGreatDoor.Lift
