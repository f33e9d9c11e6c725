import Derived.Test.YtlaojmcekeohnaaGreatDoorRMa
namespace Go.Proofs.YtlaojmcekeohnaaGreatDoor.Lift
open Go Go.Proofs.YtlaojmcekeohnaaGreatDoor.Gh Go.Proofs
set_option linter.unusedVariables false
set_option maxRecDepth 100000
variable {orc:FuncId → Bool} {e:Ex}
noncomputable section
def s170 (q:Bool) (e:Ex) (v0 v1:Value) (G:GS):OG :=
 nf q 271 0 0 v0 fun x1 =>
 bP (fa Q q 214 0 0 x1) fun x2 =>
 bP (lda Q q 57 4 x2 (G.room 24)) fun x3 =>
 nl q 271 1 7 22 v0 (G.room 24) fun x6 =>
 bS (e.ev.cl 147 [x3,x6] (G.room 24)) fun x8 G7 =>
 nf q 271 0 0 v0 fun x10 =>
 bP (fa Q q 214 0 0 x10) fun x11 =>
 bP (lda Q q 57 4 x11 G7) fun x12 =>
 chk ((sameO (lda Q q 57 4 x11 (G.room 24)) x12 && true)) <|
 nf q 271 1 7 v0 fun x14 =>
 bP (ld Q q 22 x14 G7) fun x15 =>
 chk ((sameO (ld Q q 22 x14 (G.room 24)) x15 && true)) <|
 bS (e.ev.cl 201 [x12,x15] G7) fun x17 G16 =>
 bP (bn Q q .add 295 (.tmp 24) (.const (.int .u32 1)) x17 (.int .u32 1)) fun x18 =>
 bS (e.ev.cl 223 [x18] G16) fun x20 G19 =>
 bS (e.ev.cl 150 [v1,x8,x20] G19) fun x22 G21 =>
 nf q 271 0 0 v0 fun x24 =>
 bP (fa Q q 214 1 4 x24) fun x25 =>
 bP (st Q q 212 1 x25 (.func (.func 224) #[v0] #[]) G21) fun G26 =>
 some (.tuple #[],G26)
theorem f170 (h:ExLe Q e (E orc)) (v0 v1:Value) (G:GS):Ref (s170 true e v0 v1 G) ((E orc).cl 170 [v0,v1] G):=cS (S:=fun q e=>s170 q e v0 v1 G) Tryz.func170 (by unfold s170; exact Ref.gq)
def s171 (q:Bool) (e:Ex) (v0 v1 v2:Value) (G:GS):OG :=
 bS (bx q v0 G) fun x0 G1 =>
 bS (bx q v1 G1) fun x2 G3 =>
 bS (bx q v2 G3) fun x4 G5 =>
 some ((.func (.func 225) #[] #[x4,x2,x0]),G5)
theorem f171 (h:ExLe Q e (E orc)) (v0 v1 v2:Value) (G:GS):Ref (s171 true e v0 v1 v2 G) ((E orc).cl 171 [v0,v1,v2] G):=cS (S:=fun q e=>s171 q e v0 v1 v2 G) Tryz.func171 (by unfold s171; exact Ref.gq)
def s176 (q:Bool) (e:Ex) (v0:Value) (G:GS):OG :=
 bS (al Q q 276 z276 G) fun x0 G1 =>
 bS (al Q q 276 z276 G1) fun x2 G3 =>
 bP (mx Q q #[3,3] v0 (.int .i64 0)) fun x4 =>
 bP (mn Q q #[3,3] x4 (.int .i64 1024)) fun x5 =>
 bLq q e 176 0 (subAt [1,1,0,1,0,0] (bodyOf Tryz.f176)) 16 (nth undef [v0]) [(8,(.int .i64 0)),(7,x5),(6,x4),(5,v0),(3,x2),(2,x0)] [] G3 fun e6 t7 G8 =>
 bV q (t7 2) fun t7x2_ =>
 bV q (t7 3) fun t7x3_ =>
 ifE e6 (.exit 0) (
 bP (lda Q q 276 16 t7x3_ G8) fun x9 =>
 bP (st Q q 276 16 t7x2_ x9 G8) fun G10 =>
 bP (lda Q q 276 16 t7x2_ G10) fun x11 =>
 some (x11,G10)) (none)
theorem f176 (h:ExLe Q e (E orc)) (v0:Value) (G:GS):Ref (s176 true e v0 G) ((E orc).cl 176 [v0] G):=cS (S:=fun q e=>s176 q e v0 G) Tryz.func176 (by unfold s176; exact Ref.gq)
def s177 (q:Bool) (e:Ex) (v0:Value) (G:GS):OG :=
 bS (al Q q 276 z276 G) fun x0 G1 =>
 bS (al Q q 276 z276 G1) fun x2 G3 =>
 bP (ln Q q 35 v0) fun x4 =>
 bLq q e 177 0 (subAt [1,1,0,1,0,0] (bodyOf Tryz.f177)) 19 (nth undef [v0]) [(8,(.int .i64 0)),(7,x4),(6,v0),(3,x2),(2,x0)] [] G3 fun e5 t6 G7 =>
 bV q (t6 2) fun t6x2_ =>
 bV q (t6 3) fun t6x3_ =>
 ifE e5 (.exit 0) (
 bP (lda Q q 276 16 t6x3_ G7) fun x8 =>
 bP (st Q q 276 16 t6x2_ x8 G7) fun G9 =>
 bP (lda Q q 276 16 t6x2_ G9) fun x10 =>
 some (x10,G9)) (none)
theorem f177 (h:ExLe Q e (E orc)) (v0:Value) (G:GS):Ref (s177 true e v0 G) ((E orc).cl 177 [v0] G):=cS (S:=fun q e=>s177 q e v0 G) Tryz.func177 (by unfold s177; exact Ref.gq)
def s181 (q:Bool) (e:Ex) (v0:Value) (G:GS):OG :=
 bP (ln Q q 35 v0) fun x0 =>
 bLq q e 181 0 (subAt [1,0,1,0,0] (bodyOf Tryz.f181)) 32 (nth undef [v0]) [(8,(.int .i64 0)),(7,x0),(6,v0),(2,(.int .i64 0))] [] G fun e1 t2 G3 =>
 bV q (t2 2) fun t2x2_ =>
 ifE e1 (.exit 0) (
 bLq q e 181 1 (subAt [1,1,0,1,0,0] (bodyOf Tryz.f181)) 32 t2 [(5,(.int .i64 1))] [] G3 fun e4 t5 G6 =>
 bV q (t5 2) fun t5x2_ =>
 ifE e4 (.exit 2) (
 some ((.int .i64 0),G6)) (ifE e4 .ret (
 some (t5x2_,G6)) (none))) (ifE e1 .ret (
 some (t2x2_,G3)) (none))
theorem f181 (h:ExLe Q e (E orc)) (v0:Value) (G:GS):Ref (s181 true e v0 G) ((E orc).cl 181 [v0] G):=cS (S:=fun q e=>s181 q e v0 G) Tryz.func181 (by unfold s181; exact Ref.gq)
def s186 (q:Bool) (e:Ex) (v0:Value) (G:GS):OG :=
 bS (al Q q 202 z202 G) fun x0 G1 =>
 bP (lda Q q 202 1026 v0 G1) fun x2 =>
 bP (st Q q 202 1026 x0 x2 G1) fun G3 =>
 bP (lda Q q 202 1026 x0 G3) fun x4 =>
 some (x4,G3)
theorem f186 (h:ExLe Q e (E orc)) (v0:Value) (G:GS):Ref (s186 true e v0 G) ((E orc).cl 186 [v0] G):=cS (S:=fun q e=>s186 q e v0 G) Tryz.func186 (by unfold s186; exact Ref.gq)
def s187 (q:Bool) (e:Ex) (v0 v1:Value) (G:GS):OG :=
 bS (al Q q 202 z202 G) fun x0 G1 =>
 bP (lda Q q 202 1026 v0 G1) fun x2 =>
 fl q 24 3 3 22 v1 G1 fun x4 =>
 bS (e.ev.cl 188 [x2,x4] G1) fun x5 G6 =>
 bP (st Q q 202 1026 x0 x5 G6) fun G7 =>
 bP (lda Q q 202 1026 x0 G7) fun x8 =>
 some (x8,G7)
theorem f187 (h:ExLe Q e (E orc)) (v0 v1:Value) (G:GS):Ref (s187 true e v0 v1 G) ((E orc).cl 187 [v0,v1] G):=cS (S:=fun q e=>s187 q e v0 v1 G) Tryz.func187 (by unfold s187; exact Ref.gq)
def s188 (q:Bool) (e:Ex) (v0 v1:Value) (G:GS):OG :=
 bS (bx q v0 G) fun x0 G1 =>
 bS (al Q q 202 z202 G1) fun x2 G3 =>
 fl q 202 1 1024 3 x0 G3 fun x5 =>
 fl q 202 2 1025 3 x0 G3 fun x7 =>
 bP (bn Q q .add 3 (.tmp 6) (.tmp 8) x5 x7) fun x8 =>
 bP (bn Q q .rem 3 (.tmp 9) (.const (.int .i64 1024)) x8 (.int .i64 1024)) fun x9 =>
 bP (fa Q q 202 0 0 x0) fun x10 =>
 bP (iaa Q q 200 1024 1 x10 x9) fun x11 =>
 bP (st Q q 22 1 x11 v1 G3) fun G12 =>
 fl q 202 2 1025 3 x0 G12 fun x14 =>
 bP (bn Q q .add 3 (.tmp 15) (.const (.int .i64 1)) x14 (.int .i64 1)) fun x15 =>
 bP (fa Q q 202 2 1025 x0) fun x16 =>
 bP (st Q q 3 1 x16 x15 G12) fun G17 =>
 bP (lda Q q 202 1026 x0 G17) fun x18 =>
 bP (st Q q 202 1026 x2 x18 G17) fun G19 =>
 bP (lda Q q 202 1026 x2 G19) fun x20 =>
 some (x20,G19)
theorem f188 (h:ExLe Q e (E orc)) (v0 v1:Value) (G:GS):Ref (s188 true e v0 v1 G) ((E orc).cl 188 [v0,v1] G):=cS (S:=fun q e=>s188 q e v0 v1 G) Tryz.func188 (by unfold s188; exact Ref.gq)
def s189 (q:Bool) (e:Ex) (v0:Value) (G:GS):OG :=
 bS (bx q v0 G) fun x0 G1 =>
 fl q 202 1 1024 3 x0 G1 fun x3 =>
 bP (fa Q q 202 0 0 x0) fun x4 =>
 bP (iaa Q q 200 1024 1 x4 x3) fun x5 =>
 bP (ld Q q 22 x5 G1) fun x6 =>
 some (x6,G1)
theorem f189 (h:ExLe Q e (E orc)) (v0:Value) (G:GS):Ref (s189 true e v0 G) ((E orc).cl 189 [v0] G):=cS (S:=fun q e=>s189 q e v0 G) Tryz.func189 (by unfold s189; exact Ref.gq)
def s190 (q:Bool) (e:Ex) (v0:Value) (G:GS):OG :=
 bS (al Q q 202 z202 G) fun x0 G1 =>
 bP (lda Q q 202 1026 v0 G1) fun x2 =>
 bS (e.ev.cl 191 [x2] G1) fun x3 G4 =>
 bP (st Q q 202 1026 x0 x3 G4) fun G5 =>
 bP (lda Q q 202 1026 x0 G5) fun x6 =>
 some (x6,G5)
theorem f190 (h:ExLe Q e (E orc)) (v0:Value) (G:GS):Ref (s190 true e v0 G) ((E orc).cl 190 [v0] G):=cS (S:=fun q e=>s190 q e v0 G) Tryz.func190 (by unfold s190; exact Ref.gq)
def s191 (q:Bool) (e:Ex) (v0:Value) (G:GS):OG :=
 bS (bx q v0 G) fun x0 G1 =>
 bS (al Q q 202 z202 G1) fun x2 G3 =>
 fl q 202 1 1024 3 x0 G3 fun x5 =>
 bP (bn Q q .add 3 (.tmp 4) (.const (.int .i64 1)) x5 (.int .i64 1)) fun x6 =>
 bP (bn Q q .rem 3 (.tmp 5) (.const (.int .i64 1024)) x6 (.int .i64 1024)) fun x7 =>
 bP (fa Q q 202 1 1024 x0) fun x8 =>
 bP (st Q q 3 1 x8 x7 G3) fun G9 =>
 fl q 202 2 1025 3 x0 G9 fun x11 =>
 bP (bn Q q .sub 3 (.tmp 9) (.const (.int .i64 1)) x11 (.int .i64 1)) fun x12 =>
 bP (fa Q q 202 2 1025 x0) fun x13 =>
 bP (st Q q 3 1 x13 x12 G9) fun G14 =>
 bP (lda Q q 202 1026 x0 G14) fun x15 =>
 bP (st Q q 202 1026 x2 x15 G14) fun G16 =>
 bP (lda Q q 202 1026 x2 G16) fun x17 =>
 some (x17,G16)
theorem f191 (h:ExLe Q e (E orc)) (v0:Value) (G:GS):Ref (s191 true e v0 G) ((E orc).cl 191 [v0] G):=cS (S:=fun q e=>s191 q e v0 G) Tryz.func191 (by unfold s191; exact Ref.gq)
def s194 (q:Bool) (e:Ex) (v0 v1:Value) (G:GS):OG :=
 bP (ln Q q 107 v0) fun x0 =>
 bLq q e 194 0 (subAt [1,1,0,0,0] (bodyOf Tryz.f194)) 44 (nth undef [v0,v1]) [(7,x0),(6,(.int .i64 0)),(10,x0),(9,v0),(5,(.bool false)),(4,(.int .i64 0))] [] G fun e1 t2 G3 =>
 bV q (t2 0) fun t2x0_ =>
 bV q (t2 1) fun t2x1_ =>
 bV q (t2 6) fun t2x6_ =>
 ifE e1 (.exit 0) (
 bP (ln Q q 107 t2x0_) fun x4 =>
 bP (bn Q q .lss 3 (.tmp 31) (.tmp 33) t2x6_ x4) fun x5 =>
 bS (gV x5 true t2x1_ G3) fun x6 G7 =>
 bS (gV x5 true t2x0_ G7) fun x8 G9 =>
 bS (gV x5 true t2x6_ G9) fun x10 G11 =>
 bS (gP x5 true (ias Q q 107 2 x8 x10) G11) fun x12 G13 =>
 bS (gP x5 true (lda Q q 184 2 x12 G13) G13) fun x14 G15 =>
 bS (gS x5 true (cValue e.ev x6 [x14] G15) G15) fun x16 G17 =>
 bS (gP x5 true (bn Q q .eql 3 (.tmp 41) (.const (.int .i64 0)) x16 (.int .i64 0)) G17) fun x18 G19 =>
 bP (pickV x5 x18 (.bool false)) fun x20 =>
 some (.tuple #[t2x6_,x20],G19)) (none)
theorem f194 (h:ExLe Q e (E orc)) (v0 v1:Value) (G:GS):Ref (s194 true e v0 v1 G) ((E orc).cl 194 [v0,v1] G):=cS (S:=fun q e=>s194 q e v0 v1 G) Tryz.func194 (by unfold s194; exact Ref.gq)
def s197 (q:Bool) (e:Ex) (v0 v1:Value) (G:GS):OG :=
 nf q 218 0 0 v0 fun x1 =>
 bP (fa Q q 214 0 0 x1) fun x2 =>
 bP (lda Q q 57 4 x2 (G.room 16)) fun x3 =>
 nl q 218 2 8 22 v0 (G.room 16) fun x6 =>
 bS (e.ev.cl 147 [x3,x6] (G.room 16)) fun x8 G7 =>
 bS (e.ev.cl 59 [v1,x8] G7) fun x10 G9 =>
 nf q 218 3 9 v0 fun x12 =>
 bP (st Q q 216 1 x12 x10 G9) fun G13 =>
 nf q 218 0 0 v0 fun x15 =>
 bP (fa Q q 214 0 0 x15) fun x16 =>
 bP (lda Q q 57 4 x16 (G13.room 11)) fun x17 =>
 nl q 218 2 8 22 v0 (G13.room 11) fun x20 =>
 bS (e.ev.cl 201 [x17,x20] (G13.room 11)) fun x22 G21 =>
 nl q 218 3 9 216 v0 G21 fun x25 =>
 bS (e.ev.cl 239 [x25,x22] G21) fun x26 G27 =>
 ifV x26 (
 nf q 218 0 0 v0 fun x29 =>
 bP (fa Q q 214 1 4 x29) fun x30 =>
 bP (st Q q 212 1 x30 (.func (.func 240) #[v0] #[]) G27) fun G31 =>
 some (.tuple #[],G31)) (
 nl q 218 3 9 216 v0 G27 fun x34 =>
 bP (bn Q q .sub 295 (.tmp 54) (.const (.int .u32 1)) x22 (.int .u32 1)) fun x35 =>
 bS (e.ev.cl 200 [x34,x35] G27) fun x36 G37 =>
 ifV x36 (
 nf q 218 0 0 v0 fun x39 =>
 bS (e.ev.cl 134 [x39,(.int .i64 7)] G37) fun x40 G41 =>
 some (.tuple #[],G41)) (
 nf q 218 0 0 v0 fun x43 =>
 bP (fa Q q 214 1 4 x43) fun x44 =>
 bP (st Q q 212 1 x44 (.func (.func 241) #[v0] #[]) G37) fun G45 =>
 some (.tuple #[],G45)))
theorem f197 (h:ExLe Q e (E orc)) (v0 v1:Value) (G:GS):Ref (s197 true e v0 v1 G) ((E orc).cl 197 [v0,v1] G):=cS (S:=fun q e=>s197 q e v0 v1 G) Tryz.func197 (by unfold s197; exact Ref.gq)
def s198 (q:Bool) (e:Ex) (v0:Value) (G:GS):OG :=
 bP (ep Q q true 220 (.tmp 3) (.const (.pointer none)) v0 (.pointer none)) fun x0 =>
 some (x0,G)
theorem f198 (h:ExLe Q e (E orc)) (v0:Value) (G:GS):Ref (s198 true e v0 G) ((E orc).cl 198 [v0] G):=cS (S:=fun q e=>s198 q e v0 G) Tryz.func198 (by unfold s198; exact Ref.gq)
def s200 (q:Bool) (e:Ex) (v0 v1:Value) (G:GS):OG :=
 bP (bn Q q .shr 216 (.tmp 5) (.const (.int .u64 32)) v0 (.int .u64 32)) fun x0 =>
 bP (cv Q q 216 295 .u64 .u32 x0) fun x1 =>
 bP (bn Q q .eql 295 (.tmp 7) (.tmp 8) x1 v1) fun x2 =>
 bS (gV x2 true v0 G) fun x3 G4 =>
 bS (gP x2 true (bn Q q .and 216 (.tmp 11) (.const (.int .u64 65536)) x3 (.int .u64 65536)) G4) fun x5 G6 =>
 bS (gP x2 true (bn Q q .neq 216 (.tmp 12) (.const (.int .u64 0)) x5 (.int .u64 0)) G6) fun x7 G8 =>
 bP (pickV x2 x7 (.bool false)) fun x9 =>
 some (x9,G8)
theorem f200 (h:ExLe Q e (E orc)) (v0 v1:Value) (G:GS):Ref (s200 true e v0 v1 G) ((E orc).cl 200 [v0,v1] G):=cS (S:=fun q e=>s200 q e v0 v1 G) Tryz.func200 (by unfold s200; exact Ref.gq)
def s201 (q:Bool) (e:Ex) (v0 v1:Value) (G:GS):OG :=
 bS (bx q v0 G) fun x0 G1 =>
 fl q 57 3 3 3 x0 G1 fun x3 =>
 bP (cv Q q 3 22 .i64 .u64 x3) fun x4 =>
 bP (bn Q q .quo 22 (.tmp 5) (.tmp 8) v1 x4) fun x5 =>
 bP (cv Q q 22 295 .u64 .u32 x5) fun x6 =>
 some (x6,G1)
theorem f201 (h:ExLe Q e (E orc)) (v0 v1:Value) (G:GS):Ref (s201 true e v0 v1 G) ((E orc).cl 201 [v0,v1] G):=cS (S:=fun q e=>s201 q e v0 v1 G) Tryz.func201 (by unfold s201; exact Ref.gq)
def s202 (q:Bool) (e:Ex) (v0 v1:Value) (G:GS):OG :=
 nf q 235 0 0 v0 fun x1 =>
 bP (fa Q q 214 0 0 x1) fun x2 =>
 bP (lda Q q 57 4 x2 (G.room 13)) fun x3 =>
 nl q 235 1 7 22 v0 (G.room 13) fun x6 =>
 bS (e.ev.cl 147 [x3,x6] (G.room 13)) fun x8 G7 =>
 bS (e.ev.cl 59 [v1,x8] G7) fun x10 G9 =>
 nf q 235 0 0 v0 fun x12 =>
 bS (e.ev.cl 134 [x12,(.int .i64 15)] G9) fun x13 G14 =>
 nf q 235 0 0 v0 fun x16 =>
 bP (fa Q q 214 0 0 x16) fun x17 =>
 bP (lda Q q 57 4 x17 (G14.room 12)) fun x18 =>
 nl q 235 1 7 22 v0 (G14.room 12) fun x21 =>
 bS (e.ev.cl 201 [x18,x21] (G14.room 12)) fun x23 G22 =>
 bS (e.ev.cl 200 [x10,x23] G22) fun x25 G24 =>
 ifV x25 (
 bS (e.ev.cl 148 [x10] G24) fun x26 G27 =>
 nf q 235 2 8 v0 fun x29 =>
 bP (st Q q 3 1 x29 x26 G27) fun G30 =>
 nf q 235 0 0 v0 fun x32 =>
 bS (e.ev.cl 134 [x32,(.int .i64 0)] G30) fun x33 G34 =>
 some (.tuple #[],G34)) (
 some (.tuple #[],G24))
theorem f202 (h:ExLe Q e (E orc)) (v0 v1:Value) (G:GS):Ref (s202 true e v0 v1 G) ((E orc).cl 202 [v0,v1] G):=cS (S:=fun q e=>s202 q e v0 v1 G) Tryz.func202 (by unfold s202; exact Ref.gq)
def s203 (q:Bool) (e:Ex) (v0:Value) (G:GS):OG :=
 bS (bx q v0 G) fun x0 G1 =>
 fl q 223 1 1 22 x0 G1 fun x3 =>
 some (.tuple #[x3,(.bool true)],G1)
theorem f203 (h:ExLe Q e (E orc)) (v0:Value) (G:GS):Ref (s203 true e v0 G) ((E orc).cl 203 [v0] G):=cS (S:=fun q e=>s203 q e v0 G) Tryz.func203 (by unfold s203; exact Ref.gq)
def b222_0 (q:Bool) (e:Ex) (lp:LpF) (τ:Env) (G:GS):OL :=
 bV q (τ 0) fun a0_ =>
 bV q (τ 1) fun a1_ =>
 bV q (τ 6) fun a6_ =>
 bV q (τ 7) fun a7_ =>
 bP (bn Q q .lss 3 (.tmp 7) (.tmp 6) a7_ a6_) fun x0 =>
 ifV x0 (
 bP (fa Q q 82 0 0 a1_) fun x1 =>
 bP (ld Q q 3 x1 G) fun x2 =>
 bP (fa Q q 82 2 2 a1_) fun x3 =>
 bP (ld Q q 3 x3 G) fun x4 =>
 bP (bn Q q .add 3 (.tmp 14) (.const (.int .i64 2)) x4 (.int .i64 2)) fun x5 =>
 bP (bn Q q .mul 3 (.tmp 12) (.tmp 15) a7_ x5) fun x6 =>
 bP (bn Q q .add 3 (.tmp 11) (.tmp 16) x2 x6) fun x7 =>
 bP (bn Q q .add 3 (.tmp 21) (.const (.int .i64 1)) x7 (.int .i64 1)) fun x8 =>
 bP (bn Q q .add 3 (.tmp 23) (.const (.int .i64 2)) x7 (.int .i64 2)) fun x9 =>
 bP (fa Q q 82 2 2 a1_) fun x10 =>
 bP (ld Q q 3 x10 G) fun x11 =>
 bP (bd Q q 57 z57 [(0,0,1),(1,1,1),(2,2,1),(3,3,1)] [x7,x8,x9,x11]) fun x12 =>
 bS (cValue e.ev a0_ [a7_,x12] G) fun x13 G14 =>
 bP (un Q q .not x13) fun x15 =>
 ifV x15 (
 some (.ret,xq q 31 τ [(29,x15),(28,x13),(27,x12),(26,x11),(25,x10),(24,x9),(23,x7),(22,x8),(21,x7),(20,x7),(19,a7_),(18,a0_),(4,x7),(17,x7),(16,x6),(15,x5),(14,x4),(13,x3),(12,a7_),(11,x2),(10,x1),(3,a7_),(9,a7_),(8,x0)] [(0,a0_),(1,a1_),(6,a6_),(7,a7_)],G14)) (
 bP (bn Q q .add 3 (.tmp 7) (.const (.int .i64 1)) a7_ (.int .i64 1)) fun x16 =>
 lp (xq q 31 τ [(7,x16),(30,x16),(29,x15),(28,x13),(27,x12),(26,x11),(25,x10),(24,x9),(23,x7),(22,x8),(21,x7),(20,x7),(19,a7_),(18,a0_),(4,x7),(17,x7),(16,x6),(15,x5),(14,x4),(13,x3),(12,a7_),(11,x2),(10,x1),(3,a7_),(9,a7_),(8,x0)] [(0,a0_),(1,a1_),(6,a6_)]) G14)) (
 some ((.exit 0),xq q 31 τ [(8,x0)] [(0,a0_),(1,a1_),(6,a6_),(7,a7_)],G))
theorem l222_0 (h:ExLe Q e (E orc)):LT orc 31 (subAt [1,0,0] (bodyOf Tryz.f222)) (b222_0 true e):=cL fun hlp τ G=>by unfold b222_0; exact Ref.gq
def s222 (q:Bool) (e:Ex) (v0 v1:Value) (G:GS):OG :=
 bP (fa Q q 82 1 1 v1) fun x0 =>
 bP (ld Q q 3 x0 G) fun x1 =>
 bLq q e 222 0 (subAt [1,0,0] (bodyOf Tryz.f222)) 31 (nth undef [v0,v1]) [(7,(.int .i64 0)),(6,x1),(5,x0)] [] G fun e2 t3 G4 =>
 ifE e2 (.exit 0) (
 some (.tuple #[],G4)) (ifE e2 .ret (
 some (.tuple #[],G4)) (none))
theorem f222 (h:ExLe Q e (E orc)) (v0 v1:Value) (G:GS):Ref (s222 true e v0 v1 G) ((E orc).cl 222 [v0,v1] G):=cS (S:=fun q e=>s222 q e v0 v1 G) Tryz.func222 (by unfold s222; exact Ref.gq)
def s223 (q:Bool) (e:Ex) (v0:Value) (G:GS):OG :=
 bP (cv Q q 295 216 .u32 .u64 v0) fun x0 =>
 bP (bn Q q .shl 216 (.tmp 4) (.const (.int .u64 32)) x0 (.int .u64 32)) fun x1 =>
 some (x1,G)
theorem f223 (h:ExLe Q e (E orc)) (v0:Value) (G:GS):Ref (s223 true e v0 G) ((E orc).cl 223 [v0] G):=cS (S:=fun q e=>s223 q e v0 G) Tryz.func223 (by unfold s223; exact Ref.gq)
def s224 (q:Bool) (e:Ex) (v0 v1:Value) (G:GS):OG :=
 nf q 271 0 0 v0 fun x1 =>
 bP (fa Q q 214 0 0 x1) fun x2 =>
 fl q 57 0 0 3 x2 (G.room 13) fun x4 =>
 nl q 271 1 7 22 v0 (G.room 13) fun x7 =>
 bP (bn Q q .add 22 (.tmp 14) (.const (.int .u64 1)) x7 (.int .u64 1)) fun x8 =>
 bS (e.ev.cl 150 [v1,x4,x8] (G.room 13)) fun x10 G9 =>
 nf q 271 0 0 v0 fun x12 =>
 bS (e.ev.cl 134 [x12,(.int .i64 0)] G9) fun x13 G14 =>
 some (.tuple #[],G14)
theorem f224 (h:ExLe Q e (E orc)) (v0 v1:Value) (G:GS):Ref (s224 true e v0 v1 G) ((E orc).cl 224 [v0,v1] G):=cS (S:=fun q e=>s224 q e v0 v1 G) Tryz.func224 (by unfold s224; exact Ref.gq)
def s225 (q:Bool) (e:Ex) (v0 v1 v2 v3:Value) (G:GS):OG :=
 bS (bx q v0 G) fun x0 G1 =>
 bS (nm G1) fun x2 G3 =>
 bS (al Q q 320 z320 G3) fun x4 G5 =>
 bP (st Q q 320 1 x4 x2 G5) fun G6 =>
 bS (al Q q 321 z321 G6) fun x7 G8 =>
 bP (st Q q 321 1 x7 (.func (.func 226) #[] #[v1,v2,x0,v3,x4,x7]) G8) fun G9 =>
 bP (ld Q q 321 x7 G9) fun x10 =>
 fl q 104 0 0 74 v3 G9 fun x12 =>
 bS (cValue e.ev x10 [x12,(.int .i64 0),(.slice none 0 0)] G9) fun x13 G14 =>
 some (.tuple #[],G14)
theorem f225 (h:ExLe Q e (E orc)) (v0 v1 v2 v3:Value) (G:GS):Ref (s225 true e v0 v1 v2 v3 G) ((E orc).cl 225 [v0,v1,v2,v3] G):=cS (S:=fun q e=>s225 q e v0 v1 v2 v3 G) Tryz.func225 (by unfold s225; exact Ref.gq)
def b226_0 (q:Bool) (e:Ex) (lp:LpF) (τ:Env) (G:GS):OL :=
 bV q (τ 0) fun a0_ =>
 bV q (τ 1) fun a1_ =>
 bV q (τ 2) fun a2_ =>
 bV q (τ 3) fun a3_ =>
 bV q (τ 4) fun a4_ =>
 bV q (τ 6) fun a6_ =>
 bV q (τ 13) fun a13_ =>
 bV q (τ 54) fun a54_ =>
 bV q (τ 55) fun a55_ =>
 bV q (τ 56) fun a56_ =>
 bP (bn Q q .lss 3 (.tmp 56) (.tmp 55) a56_ a55_) fun x0 =>
 ifV x0 (
 bP (ias Q q 38 10 a54_ a56_) fun x1 =>
 bP (lda Q q 29 10 x1 G) fun x2 =>
 bS (al Q q 29 z29 G) fun x3 G4 =>
 bP (st Q q 29 10 x3 x2 G4) fun G5 =>
 bP (un Q q .not a13_) fun x6 =>
 bS (gV x6 true a56_ G5) fun x7 G8 =>
 bS (gP x6 true (ld Q q 35 a3_ G8) G8) fun x9 G10 =>
 bS (gV x6 true a2_ G10) fun x11 G12 =>
 bS (gP x6 true (ln Q q 35 x11) G12) fun x13 G14 =>
 bS (gP x6 true (ias Q q 35 1 x9 x13) G14) fun x15 G16 =>
 bS (gP x6 true (ld Q q 3 x15 G16) G16) fun x17 G18 =>
 bS (gP x6 true (bn Q q .neq 3 (.tmp 64) (.tmp 69) x7 x17) G18) fun x19 G20 =>
 bP (pickV x6 x19 (.bool false)) fun x21 =>
 bS (gP x21 false (ld Q q 38 a4_ G20) G20) fun x22 G23 =>
 bS (gV x21 false a1_ G23) fun x24 G25 =>
 bS (gV x21 false a56_ G25) fun x26 G27 =>
 bS (gS x21 false (e.ev.cl 102 [x22,x24,x26] G27) G27) fun x28 G29 =>
 bS (gP x21 false (un Q q .not x28) G29) fun x30 G31 =>
 bP (pickV x21 (.bool true) x30) fun x32 =>
 ifV x32 (
 bP (bn Q q .add 3 (.tmp 56) (.const (.int .i64 1)) a56_ (.int .i64 1)) fun x33 =>
 lp (xq q 120 τ [(56,x33),(115,x33),(78,x32),(77,x30),(76,x28),(75,x26),(74,x24),(73,x22),(72,x21),(71,x21),(70,x19),(69,x17),(68,x15),(67,x13),(66,x11),(65,x9),(64,x7),(63,x6),(62,x6),(61,a13_),(17,a56_),(18,x3),(60,x2),(59,x1),(58,a56_),(57,x0)] [(0,a0_),(1,a1_),(2,a2_),(3,a3_),(4,a4_),(6,a6_),(13,a13_),(54,a54_),(55,a55_)]) G31) (
 bP (lda Q q 104 4 a6_ G31) fun x34 =>
 bP (lda Q q 29 10 x3 G31) fun x35 =>
 bS (e.ev.cl 119 [x34,a0_,x35] G31) fun x36 G37 =>
 bP (ln Q q 180 x36) fun x38 =>
 bLq q e 226 1 (subAt [1,1,1,1,1,0,1,0,0,1,1,0,0,1,1,1,0,0] (bodyOf Tryz.f226)) 120 τ [(84,(.int .i64 0)),(83,x38),(82,x36),(81,x35),(80,a0_),(79,x34),(78,x32),(77,x30),(76,x28),(75,x26),(74,x24),(73,x22),(72,x21),(71,x21),(70,x19),(69,x17),(68,x15),(67,x13),(66,x11),(65,x9),(64,x7),(63,x6),(62,x6),(61,a13_),(17,a56_),(18,x3),(60,x2),(59,x1),(58,a56_),(57,x0)] [] G37 fun e39 t40 G41 =>
 bV q (t40 0) fun t40x0_ =>
 bV q (t40 1) fun t40x1_ =>
 bV q (t40 2) fun t40x2_ =>
 bV q (t40 3) fun t40x3_ =>
 bV q (t40 4) fun t40x4_ =>
 bV q (t40 6) fun t40x6_ =>
 bV q (t40 13) fun t40x13_ =>
 bV q (t40 54) fun t40x54_ =>
 bV q (t40 55) fun t40x55_ =>
 bV q (t40 56) fun t40x56_ =>
 ifE e39 (.exit 2) (
 bP (bn Q q .add 3 (.tmp 56) (.const (.int .i64 1)) t40x56_ (.int .i64 1)) fun x42 =>
 lp (xq q 120 t40 [(56,x42),(115,x42)] [(0,t40x0_),(1,t40x1_),(2,t40x2_),(3,t40x3_),(4,t40x4_),(6,t40x6_),(13,t40x13_),(54,t40x54_),(55,t40x55_)]) G41) (ifE e39 .ret (
 some (.ret,xq q 120 t40 [] [(0,t40x0_),(1,t40x1_),(2,t40x2_),(3,t40x3_),(4,t40x4_),(6,t40x6_),(13,t40x13_),(54,t40x54_),(55,t40x55_),(56,t40x56_)],G41)) (none)))) (
 some ((.exit 0),xq q 120 τ [(57,x0)] [(0,a0_),(1,a1_),(2,a2_),(3,a3_),(4,a4_),(6,a6_),(13,a13_),(54,a54_),(55,a55_),(56,a56_)],G))
theorem mb226_0 {e:Ex} {E:Ev} (h:ExLe Q e E) {lp lp':LpF} (hlp:LpLe lp lp') (τ:Env) (G:GS):Ref (b226_0 true e lp τ G) (b226_0 false (Ex.of E) lp' τ G):=by
 unfold b226_0
 exact Ref.gq
set_option maxHeartbeats 8000000 in
theorem l226_0 {orc:FuncId → Bool} {e:Ex} (h:ExLe Q e (E orc)) (lp:LpF) (hlp:∀ τ G,Ref (lp τ G) (mapE ((E orc).lp (subAt [1,1,1,1,1,0,1,0,0] (bodyOf Tryz.f226)) (lst 120 τ) G))) (T:List Value) (G:GS) (hT:T.length = 120):Ref (b226_0 true e lp (nth undef T) G) (mapE ((E orc).lp (subAt [1,1,1,1,1,0,1,0,0] (bodyOf Tryz.f226)) T G)) :=
 fun r hr=>lp_sxN Q orc G hT (by kernel_rfl) (mb226_0 h ⟨hlp⟩ _ _ r hr)
def b226_1 (q:Bool) (e:Ex) (lp:LpF) (τ:Env) (G:GS):OL :=
 bV q (τ 0) fun a0_ =>
 bV q (τ 1) fun a1_ =>
 bV q (τ 2) fun a2_ =>
 bV q (τ 6) fun a6_ =>
 bV q (τ 8) fun a8_ =>
 bV q (τ 17) fun a17_ =>
 bV q (τ 18) fun a18_ =>
 bV q (τ 82) fun a82_ =>
 bV q (τ 83) fun a83_ =>
 bV q (τ 84) fun a84_ =>
 bP (bn Q q .lss 3 (.tmp 84) (.tmp 83) a84_ a83_) fun x0 =>
 ifV x0 (
 bP (ias Q q 180 3 a82_ a84_) fun x1 =>
 bP (lda Q q 27 3 x1 G) fun x2 =>
 bS (al Q q 27 z27 G) fun x3 G4 =>
 bP (st Q q 27 3 x3 x2 G4) fun G5 =>
 bP (fa Q q 104 1 1 a6_) fun x6 =>
 bP (ld Q q 100 x6 G5) fun x7 =>
 bP (fa Q q 29 3 3 a18_) fun x8 =>
 bP (lda Q q 24 4 x8 G5) fun x9 =>
 bP (lda Q q 27 3 x3 G5) fun x10 =>
 bS (cValue e.ev x7 [a0_,x9,x10] G5) fun x11 G12 =>
 bP (pExtract x11 0) fun x13 =>
 bP (pExtract x11 1) fun x14 =>
 bS (gP x14 true (ld Q q 321 a8_ (G12.room 16)) (G12.room 16)) fun x15 _ =>
 bS (gV x14 true x13 (G12.room 16)) fun x16 _ =>
 bS (gV x14 true a1_ (G12.room 16)) fun x17 _ =>
 bS (gV x14 true a17_ (G12.room 16)) fun x18 _ =>
 bS (gP x14 true (bn Q q .shl 3 (.const (.int .i64 1)) (.tmp 103) (.int .i64 1) x18) (G12.room 16)) fun x19 _ =>
 bS (gP x14 true (bn Q q .or 3 (.tmp 102) (.tmp 104) x17 x19) (G12.room 16)) fun x20 _ =>
 bS (gV x14 true a2_ (G12.room 16)) fun x21 _ =>
 bS (gS x14 true (e.ev.cl 98 [x21] (G12.room 16)) (G12.room 16)) fun x23 G22 =>
 chk (((!(gB x14 true) || (!(gB x14 true) || sameO (ld Q q 321 a8_ G22) x15)) && true)) <|
 bS (gV x14 true a17_ G22) fun x24 _ =>
 bS (gd x14 true (bS (bs Q q 35 1 (rep z3 1) 1 [(0,0,1)] [x24] (G22.at' (G12.nx + 11))) fun y G'=>some (y,(G'.back G22))) G22) fun x25 G26 =>
 bS (gS x14 true (ap Q q 35 35 1 8 x23 x25 G26) G26) fun x28 G27 =>
 chk (((!(gB x14 true) || (!(gB x14 true) || sameO (ld Q q 321 a8_ G27) x15)) && true)) <|
 bS (gS x14 true (cValue e.ev x15 [x16,x20,x28] G27) G27) fun x30 G29 =>
 bS (gP x14 true (un Q q .not x30) G29) fun x31 _ =>
 bP (pickV x14 x31 (.bool false)) fun x32 =>
 ifV x32 (
 some (.ret,xq q 120 τ [(12,(.bool false)),(113,x32),(112,x31),(111,x30),(110,x28),(109,x25),(108,x24),(107,x23),(106,x21),(105,x20),(104,x19),(103,x18),(102,x17),(101,x16),(100,x15),(99,x14),(98,x14),(22,x14),(21,x13),(97,x14),(96,x13),(88,x11),(95,x11),(94,x10),(93,x9),(92,x8),(91,a0_),(90,x7),(89,x6),(20,x3),(87,x2),(86,x1),(85,x0)] [(0,a0_),(1,a1_),(2,a2_),(6,a6_),(8,a8_),(17,a17_),(18,a18_),(82,a82_),(83,a83_),(84,a84_)],G29)) (
 bP (bn Q q .add 3 (.tmp 84) (.const (.int .i64 1)) a84_ (.int .i64 1)) fun x33 =>
 lp (xq q 120 τ [(84,x33),(114,x33),(113,x32),(112,x31),(111,x30),(110,x28),(109,x25),(108,x24),(107,x23),(106,x21),(105,x20),(104,x19),(103,x18),(102,x17),(101,x16),(100,x15),(99,x14),(98,x14),(22,x14),(21,x13),(97,x14),(96,x13),(88,x11),(95,x11),(94,x10),(93,x9),(92,x8),(91,a0_),(90,x7),(89,x6),(20,x3),(87,x2),(86,x1),(85,x0)] [(0,a0_),(1,a1_),(2,a2_),(6,a6_),(8,a8_),(17,a17_),(18,a18_),(82,a82_),(83,a83_)]) G29)) (
 some ((.exit 2),xq q 120 τ [(85,x0)] [(0,a0_),(1,a1_),(2,a2_),(6,a6_),(8,a8_),(17,a17_),(18,a18_),(82,a82_),(83,a83_),(84,a84_)],G))
theorem mb226_1 {e:Ex} {E:Ev} (h:ExLe Q e E) {lp lp':LpF} (hlp:LpLe lp lp') (τ:Env) (G:GS):Ref (b226_1 true e lp τ G) (b226_1 false (Ex.of E) lp' τ G):=by
 unfold b226_1
 exact Ref.gq
set_option maxHeartbeats 8000000 in
theorem l226_1 {orc:FuncId → Bool} {e:Ex} (h:ExLe Q e (E orc)) (lp:LpF) (hlp:∀ τ G,Ref (lp τ G) (mapE ((E orc).lp (subAt [1,1,1,1,1,0,1,0,0,1,1,0,0,1,1,1,0,0] (bodyOf Tryz.f226)) (lst 120 τ) G))) (T:List Value) (G:GS) (hT:T.length = 120):Ref (b226_1 true e lp (nth undef T) G) (mapE ((E orc).lp (subAt [1,1,1,1,1,0,1,0,0,1,1,0,0,1,1,1,0,0] (bodyOf Tryz.f226)) T G)) :=
 fun r hr=>lp_sxN Q orc G hT (by kernel_rfl) (mb226_1 h ⟨hlp⟩ _ _ r hr)
def s226 (q:Bool) (e:Ex) (v0 v1 v2 v3 v4 v5 v6 v7 v8:Value) (G:GS):OG :=
 bP (ln Q q 35 v2) fun x0 =>
 bP (ld Q q 35 v3 G) fun x1 =>
 bP (ln Q q 35 x1) fun x2 =>
 bP (bn Q q .geq 3 (.tmp 24) (.tmp 26) x0 x2) fun x3 =>
 bS (gP x3 true (ld Q q 38 v4 G) G) fun x4 G5 =>
 bS (gV x3 true v1 G5) fun x6 G7 =>
 bS (gS x3 true (e.ev.cl 101 [x4,x6] G7) G7) fun x8 G9 =>
 bP (pickV x3 x8 (.bool false)) fun x10 =>
 ifV x10 (
 bP (ld Q q 55 v5 (G9.room 5)) fun x11 =>
 bS (e.ev.cl 98 [v2] (G9.room 5)) fun x13 G12 =>
 chk ((sameO (ld Q q 55 v5 G12) x11 && true)) <|
 bS (cValue e.ev x11 [x13] G12) fun x15 G14 =>
 some (x15,G14)) (
 bP (fa Q q 104 3 3 v6) fun x16 =>
 bP (ld Q q 102 x16 G9) fun x17 =>
 bS (cValue e.ev x17 [v0] G9) fun x18 G19 =>
 bP (bd Q q 323 z323 [(0,0,1),(1,1,1)] [v1,x18]) fun x20 =>
 bS (al Q q 323 z323 G19) fun x21 G22 =>
 bP (st Q q 323 2 x21 x20 G22) fun G23 =>
 bP (ld Q q 320 v7 G23) fun x24 =>
 bP (lda Q q 323 2 x21 G23) fun x25 =>
 bP (gLookup Q 320 x24 x25 true G23) fun x26 =>
 bP (pExtract x26 0) fun x27 =>
 bP (pExtract x26 1) fun x28 =>
 bS (al Q q 324 z324 G23) fun x29 G30 =>
 bP (st Q q 324 0 x29 x27 G30) fun G31 =>
 bS (gV x28 true x3 G31) fun x32 G33 =>
 bP (pickV x28 x32 (.bool false)) fun x34 =>
 ifV x34 (
 some ((.bool true),G33)) (
 bP (ld Q q 38 v4 G33) fun x35 =>
 bP (ln Q q 38 x35) fun x36 =>
 bLq q e 226 0 (subAt [1,1,1,1,1,0,1,0,0] (bodyOf Tryz.f226)) 120 (nth undef [v0,v1,v2,v3,v4,v5,v6,v7,v8]) [(56,(.int .i64 0)),(55,x36),(54,x35),(53,x34),(52,x32),(51,x28),(50,x28),(16,x28),(15,x29),(49,x28),(48,x27),(44,x26),(47,x26),(46,x25),(45,x24),(14,x21),(43,x20),(42,x18),(41,v0),(40,x17),(39,x16),(38,v1),(33,x10),(32,x8),(31,x6),(30,x4),(29,x3),(28,x3),(13,x3),(27,x3),(26,x2),(25,x1),(24,x0),(23,v2),(12,(.bool false))] [] G33 fun e37 t38 G39 =>
 bV q (t38 7) fun t38x7_ =>
 bV q (t38 12) fun t38x12_ =>
 bV q (t38 13) fun t38x13_ =>
 bV q (t38 14) fun t38x14_ =>
 ifE e37 (.exit 0) (
 ifV t38x13_ (
 bP (ld Q q 320 t38x7_ G39) fun x40 =>
 bP (lda Q q 323 2 t38x14_ G39) fun x41 =>
 bP (bd Q q 324 z324 [] []) fun x42 =>
 bP (gMapPut Q 320 x40 x41 x42 G39) fun G43 =>
 some ((.bool true),G43)) (
 some ((.bool true),G39))) (ifE e37 .ret (
 some (t38x12_,G39)) (none))))
theorem m226 {e:Ex} {E:Ev} (h:ExLe Q e E) (v0 v1 v2 v3 v4 v5 v6 v7 v8:Value) (G:GS):Ref (s226 true e v0 v1 v2 v3 v4 v5 v6 v7 v8 G) (s226 false (Ex.of E) v0 v1 v2 v3 v4 v5 v6 v7 v8 G):=by
 unfold s226
 exact Ref.gq
set_option maxHeartbeats 8000000 in
theorem f226 {orc:FuncId → Bool} {e:Ex} (h:ExLe Q e (E orc)) (v0 v1 v2 v3 v4 v5 v6 v7 v8:Value) (G:GS):Ref (s226 true e v0 v1 v2 v3 v4 v5 v6 v7 v8 G) ((E orc).cl 226 [v0,v1,v2,v3,v4,v5,v6,v7,v8] G) :=
 fun r hr=>cl_sxE_some Q orc (vs:=[v0,v1,v2,v3,v4,v5,v6,v7,v8]) G Tryz.func226 (by kernel_rfl) (by kernel_rfl) (by kernel_rfl) (by kernel_rfl) (by kernel_rfl) (by kernel_rfl) (m226 h v0 v1 v2 v3 v4 v5 v6 v7 v8 G r hr)
def s232 (q:Bool) (e:Ex) (v0 v1 v2 v3 v4 v5 v6 v7 v8:Value) (G:GS):OG :=
 bP (ln Q q 35 v2) fun x0 =>
 bP (ld Q q 35 v3 G) fun x1 =>
 bP (ln Q q 35 x1) fun x2 =>
 bP (bn Q q .geq 3 (.tmp 24) (.tmp 26) x0 x2) fun x3 =>
 bS (gP x3 true (ld Q q 38 v4 G) G) fun x4 G5 =>
 bS (gV x3 true v1 G5) fun x6 G7 =>
 bS (gS x3 true (e.ev.cl 101 [x4,x6] G7) G7) fun x8 G9 =>
 bP (pickV x3 x8 (.bool false)) fun x10 =>
 ifV x10 (
 bP (ld Q q 55 v5 (G9.room 5)) fun x11 =>
 bS (e.ev.cl 98 [v2] (G9.room 5)) fun x13 G12 =>
 chk ((sameO (ld Q q 55 v5 G12) x11 && true)) <|
 bS (cValue e.ev x11 [x13] G12) fun x15 G14 =>
 some (x15,G14)) (
 bP (fa Q q 112 3 3 v6) fun x16 =>
 bP (ld Q q 110 x16 G9) fun x17 =>
 bS (cValue e.ev x17 [v0] G9) fun x18 G19 =>
 bP (bd Q q 323 z323 [(0,0,1),(1,1,1)] [v1,x18]) fun x20 =>
 bS (al Q q 323 z323 G19) fun x21 G22 =>
 bP (st Q q 323 2 x21 x20 G22) fun G23 =>
 bP (ld Q q 320 v7 G23) fun x24 =>
 bP (lda Q q 323 2 x21 G23) fun x25 =>
 bP (gLookup Q 320 x24 x25 true G23) fun x26 =>
 bP (pExtract x26 0) fun x27 =>
 bP (pExtract x26 1) fun x28 =>
 bS (al Q q 324 z324 G23) fun x29 G30 =>
 bP (st Q q 324 0 x29 x27 G30) fun G31 =>
 bS (gV x28 true x3 G31) fun x32 G33 =>
 bP (pickV x28 x32 (.bool false)) fun x34 =>
 ifV x34 (
 some ((.bool true),G33)) (
 bP (ld Q q 38 v4 G33) fun x35 =>
 bP (ln Q q 38 x35) fun x36 =>
 bLq q e 232 0 (subAt [1,1,1,1,1,0,1,0,0] (bodyOf Tryz.f232)) 120 (nth undef [v0,v1,v2,v3,v4,v5,v6,v7,v8]) [(56,(.int .i64 0)),(55,x36),(54,x35),(53,x34),(52,x32),(51,x28),(50,x28),(16,x28),(15,x29),(49,x28),(48,x27),(44,x26),(47,x26),(46,x25),(45,x24),(14,x21),(43,x20),(42,x18),(41,v0),(40,x17),(39,x16),(38,v1),(33,x10),(32,x8),(31,x6),(30,x4),(29,x3),(28,x3),(13,x3),(27,x3),(26,x2),(25,x1),(24,x0),(23,v2),(12,(.bool false))] [] G33 fun e37 t38 G39 =>
 bV q (t38 7) fun t38x7_ =>
 bV q (t38 12) fun t38x12_ =>
 bV q (t38 13) fun t38x13_ =>
 bV q (t38 14) fun t38x14_ =>
 ifE e37 (.exit 0) (
 ifV t38x13_ (
 bP (ld Q q 320 t38x7_ G39) fun x40 =>
 bP (lda Q q 323 2 t38x14_ G39) fun x41 =>
 bP (bd Q q 324 z324 [] []) fun x42 =>
 bP (gMapPut Q 320 x40 x41 x42 G39) fun G43 =>
 some ((.bool true),G43)) (
 some ((.bool true),G39))) (ifE e37 .ret (
 some (t38x12_,G39)) (none))))
theorem m232 {e:Ex} {E:Ev} (h:ExLe Q e E) (v0 v1 v2 v3 v4 v5 v6 v7 v8:Value) (G:GS):Ref (s232 true e v0 v1 v2 v3 v4 v5 v6 v7 v8 G) (s232 false (Ex.of E) v0 v1 v2 v3 v4 v5 v6 v7 v8 G):=by
 unfold s232
 exact Ref.gq
set_option maxHeartbeats 8000000 in
theorem f232 {orc:FuncId → Bool} {e:Ex} (h:ExLe Q e (E orc)) (v0 v1 v2 v3 v4 v5 v6 v7 v8:Value) (G:GS):Ref (s232 true e v0 v1 v2 v3 v4 v5 v6 v7 v8 G) ((E orc).cl 232 [v0,v1,v2,v3,v4,v5,v6,v7,v8] G) :=
 fun r hr=>cl_sxE_some Q orc (vs:=[v0,v1,v2,v3,v4,v5,v6,v7,v8]) G Tryz.func232 (by kernel_rfl) (by kernel_rfl) (by kernel_rfl) (by kernel_rfl) (by kernel_rfl) (by kernel_rfl) (m232 h v0 v1 v2 v3 v4 v5 v6 v7 v8 G r hr)
def s234 (q:Bool) (e:Ex) (v0 v1 v2 v3 v4 v5 v6 v7 v8:Value) (G:GS):OG :=
 bP (ln Q q 35 v2) fun x0 =>
 bP (ld Q q 35 v3 G) fun x1 =>
 bP (ln Q q 35 x1) fun x2 =>
 bP (bn Q q .geq 3 (.tmp 24) (.tmp 26) x0 x2) fun x3 =>
 bS (gP x3 true (ld Q q 38 v4 G) G) fun x4 G5 =>
 bS (gV x3 true v1 G5) fun x6 G7 =>
 bS (gS x3 true (e.ev.cl 101 [x4,x6] G7) G7) fun x8 G9 =>
 bP (pickV x3 x8 (.bool false)) fun x10 =>
 ifV x10 (
 bP (ld Q q 55 v5 (G9.room 5)) fun x11 =>
 bS (e.ev.cl 98 [v2] (G9.room 5)) fun x13 G12 =>
 chk ((sameO (ld Q q 55 v5 G12) x11 && true)) <|
 bS (cValue e.ev x11 [x13] G12) fun x15 G14 =>
 some (x15,G14)) (
 bP (fa Q q 119 3 3 v6) fun x16 =>
 bP (ld Q q 117 x16 G9) fun x17 =>
 bS (cValue e.ev x17 [v0] G9) fun x18 G19 =>
 bP (bd Q q 323 z323 [(0,0,1),(1,1,1)] [v1,x18]) fun x20 =>
 bS (al Q q 323 z323 G19) fun x21 G22 =>
 bP (st Q q 323 2 x21 x20 G22) fun G23 =>
 bP (ld Q q 320 v7 G23) fun x24 =>
 bP (lda Q q 323 2 x21 G23) fun x25 =>
 bP (gLookup Q 320 x24 x25 true G23) fun x26 =>
 bP (pExtract x26 0) fun x27 =>
 bP (pExtract x26 1) fun x28 =>
 bS (al Q q 324 z324 G23) fun x29 G30 =>
 bP (st Q q 324 0 x29 x27 G30) fun G31 =>
 bS (gV x28 true x3 G31) fun x32 G33 =>
 bP (pickV x28 x32 (.bool false)) fun x34 =>
 ifV x34 (
 some ((.bool true),G33)) (
 bP (ld Q q 38 v4 G33) fun x35 =>
 bP (ln Q q 38 x35) fun x36 =>
 bLq q e 234 0 (subAt [1,1,1,1,1,0,1,0,0] (bodyOf Tryz.f234)) 120 (nth undef [v0,v1,v2,v3,v4,v5,v6,v7,v8]) [(56,(.int .i64 0)),(55,x36),(54,x35),(53,x34),(52,x32),(51,x28),(50,x28),(16,x28),(15,x29),(49,x28),(48,x27),(44,x26),(47,x26),(46,x25),(45,x24),(14,x21),(43,x20),(42,x18),(41,v0),(40,x17),(39,x16),(38,v1),(33,x10),(32,x8),(31,x6),(30,x4),(29,x3),(28,x3),(13,x3),(27,x3),(26,x2),(25,x1),(24,x0),(23,v2),(12,(.bool false))] [] G33 fun e37 t38 G39 =>
 bV q (t38 7) fun t38x7_ =>
 bV q (t38 12) fun t38x12_ =>
 bV q (t38 13) fun t38x13_ =>
 bV q (t38 14) fun t38x14_ =>
 ifE e37 (.exit 0) (
 ifV t38x13_ (
 bP (ld Q q 320 t38x7_ G39) fun x40 =>
 bP (lda Q q 323 2 t38x14_ G39) fun x41 =>
 bP (bd Q q 324 z324 [] []) fun x42 =>
 bP (gMapPut Q 320 x40 x41 x42 G39) fun G43 =>
 some ((.bool true),G43)) (
 some ((.bool true),G39))) (ifE e37 .ret (
 some (t38x12_,G39)) (none))))
theorem m234 {e:Ex} {E:Ev} (h:ExLe Q e E) (v0 v1 v2 v3 v4 v5 v6 v7 v8:Value) (G:GS):Ref (s234 true e v0 v1 v2 v3 v4 v5 v6 v7 v8 G) (s234 false (Ex.of E) v0 v1 v2 v3 v4 v5 v6 v7 v8 G):=by
 unfold s234
 exact Ref.gq
set_option maxHeartbeats 8000000 in
theorem f234 {orc:FuncId → Bool} {e:Ex} (h:ExLe Q e (E orc)) (v0 v1 v2 v3 v4 v5 v6 v7 v8:Value) (G:GS):Ref (s234 true e v0 v1 v2 v3 v4 v5 v6 v7 v8 G) ((E orc).cl 234 [v0,v1,v2,v3,v4,v5,v6,v7,v8] G) :=
 fun r hr=>cl_sxE_some Q orc (vs:=[v0,v1,v2,v3,v4,v5,v6,v7,v8]) G Tryz.func234 (by kernel_rfl) (by kernel_rfl) (by kernel_rfl) (by kernel_rfl) (by kernel_rfl) (by kernel_rfl) (m234 h v0 v1 v2 v3 v4 v5 v6 v7 v8 G r hr)
def s236 (q:Bool) (e:Ex) (v0 v1:Value) (G:GS):OG :=
 bP (lda Q q 276 16 v1 G) fun x0 =>
 bLq q e 236 0 (subAt [1,0,0] (bodyOf Tryz.f236)) 25 (nth undef [v0,v1]) [(6,(.int .i64 0)),(5,x0)] [] G fun e1 t2 G3 =>
 ifE e1 (.exit 0) (
 some (.tuple #[],G3)) (ifE e1 .ret (
 some (.tuple #[],G3)) (none))
theorem f236 (h:ExLe Q e (E orc)) (v0 v1:Value) (G:GS):Ref (s236 true e v0 v1 G) ((E orc).cl 236 [v0,v1] G):=cS (S:=fun q e=>s236 q e v0 v1 G) Tryz.func236 (by unfold s236; exact Ref.gq)
def s239 (q:Bool) (e:Ex) (v0 v1:Value) (G:GS):OG :=
 bP (bn Q q .shr 216 (.tmp 5) (.const (.int .u64 32)) v0 (.int .u64 32)) fun x0 =>
 bP (cv Q q 216 295 .u64 .u32 x0) fun x1 =>
 bP (bn Q q .eql 295 (.tmp 7) (.tmp 8) x1 v1) fun x2 =>
 bS (gV x2 true v0 G) fun x3 G4 =>
 bS (gP x2 true (bn Q q .and 216 (.tmp 11) (.const (.int .u64 65536)) x3 (.int .u64 65536)) G4) fun x5 G6 =>
 bS (gP x2 true (bn Q q .eql 216 (.tmp 12) (.const (.int .u64 0)) x5 (.int .u64 0)) G6) fun x7 G8 =>
 bP (pickV x2 x7 (.bool false)) fun x9 =>
 some (x9,G8)
theorem f239 (h:ExLe Q e (E orc)) (v0 v1:Value) (G:GS):Ref (s239 true e v0 v1 G) ((E orc).cl 239 [v0,v1] G):=cS (S:=fun q e=>s239 q e v0 v1 G) Tryz.func239 (by unfold s239; exact Ref.gq)
def s240 (q:Bool) (e:Ex) (v0 v1:Value) (G:GS):OG :=
 nf q 218 0 0 v0 fun x1 =>
 bP (fa Q q 214 1 4 x1) fun x2 =>
 bP (st Q q 212 1 x2 (.func (.func 241) #[v0] #[]) G) fun G3 =>
 nf q 218 0 0 v0 fun x5 =>
 bP (fa Q q 214 0 0 x5) fun x6 =>
 bP (lda Q q 57 4 x6 (G3.room 32)) fun x7 =>
 nl q 218 2 8 22 v0 (G3.room 32) fun x10 =>
 bS (e.ev.cl 147 [x7,x10] (G3.room 32)) fun x12 G11 =>
 nf q 218 3 9 v0 fun x14 =>
 bP (ld Q q 216 x14 G11) fun x15 =>
 chk ((sameO (ld Q q 216 x14 (G3.room 32)) x15 && true)) <|
 nf q 218 0 0 v0 fun x17 =>
 bP (fa Q q 214 0 0 x17) fun x18 =>
 bP (lda Q q 57 4 x18 G11) fun x19 =>
 chk ((sameO (lda Q q 57 4 x18 (G3.room 32)) x19 && true)) <|
 nf q 218 2 8 v0 fun x21 =>
 bP (ld Q q 22 x21 G11) fun x22 =>
 chk ((sameO (ld Q q 22 x21 (G3.room 32)) x22 && true)) <|
 bS (e.ev.cl 201 [x19,x22] G11) fun x24 G23 =>
 chk ((sameO (ld Q q 216 x14 G23) x15 && true)) <|
 bS (e.ev.cl 223 [x24] G23) fun x26 G25 =>
 chk ((sameO (ld Q q 216 x14 G25) x15 && true)) <|
 nf q 218 1 7 v0 fun x28 =>
 bP (ld Q q 3 x28 G25) fun x29 =>
 chk ((sameO (ld Q q 3 x28 G23) x29 && (sameO (ld Q q 3 x28 G11) x29 && (sameO (ld Q q 3 x28 (G3.room 32)) x29 && true)))) <|
 bS (e.ev.cl 261 [x26,x29] G25) fun x31 G30 =>
 chk ((sameO (ld Q q 216 x14 G30) x15 && true)) <|
 bS (e.ev.cl 260 [v1,x12,x15,x31] G30) fun x33 G32 =>
 ifV x33 (
 nf q 218 0 0 v0 fun x35 =>
 bP (fa Q q 214 1 4 x35) fun x36 =>
 bP (st Q q 212 1 x36 (.func (.func 262) #[v0] #[]) G32) fun G37 =>
 some (.tuple #[],G37)) (
 some (.tuple #[],G32))
theorem f240 (h:ExLe Q e (E orc)) (v0 v1:Value) (G:GS):Ref (s240 true e v0 v1 G) ((E orc).cl 240 [v0,v1] G):=cS (S:=fun q e=>s240 q e v0 v1 G) Tryz.func240 (by unfold s240; exact Ref.gq)
def s241 (q:Bool) (e:Ex) (v0 v1:Value) (G:GS):OG :=
 nf q 218 0 0 v0 fun x1 =>
 bP (fa Q q 214 0 0 x1) fun x2 =>
 fl q 57 1 1 3 x2 (G.room 17) fun x4 =>
 nl q 218 2 8 22 v0 (G.room 17) fun x7 =>
 nl q 218 2 8 22 v0 (G.room 17) fun x10 =>
 bP (bn Q q .add 22 (.tmp 18) (.const (.int .u64 1)) x10 (.int .u64 1)) fun x11 =>
 bS (e.ev.cl 260 [v1,x4,x7,x11] (G.room 17)) fun x13 G12 =>
 nf q 218 0 0 v0 fun x15 =>
 bP (fa Q q 214 1 4 x15) fun x16 =>
 bP (st Q q 212 1 x16 (.func (.func 135) #[v0] #[]) G12) fun G17 =>
 some (.tuple #[],G17)
theorem f241 (h:ExLe Q e (E orc)) (v0 v1:Value) (G:GS):Ref (s241 true e v0 v1 G) ((E orc).cl 241 [v0,v1] G):=cS (S:=fun q e=>s241 q e v0 v1 G) Tryz.func241 (by unfold s241; exact Ref.gq)
def s260 (q:Bool) (e:Ex) (v0 v1 v2 v3:Value) (G:GS):OG :=
 bS (e.ev.cl 136 [v0,v1] G) fun x0 G1 =>
 bP (bd Q q 223 z223 [(0,0,1),(1,1,1),(2,2,1)] [x0,v2,v3]) fun x2 =>
 bS (al Q q 223 z223 G1) fun x3 G4 =>
 bP (st Q q 223 3 x3 x2 G4) fun G5 =>
 fl q 223 0 0 220 x3 G5 fun x7 =>
 bP (lda Q q 223 3 x3 G5) fun x8 =>
 bS (e.ev.cl 137 [v0,(.int .i64 3),v1,x7,(.func (.func 273) #[x8] #[])] G5) fun x9 G10 =>
 bP (fd Q q 225 4 4 x9) fun x11 =>
 some (x11,G10)
theorem f260 (h:ExLe Q e (E orc)) (v0 v1 v2 v3:Value) (G:GS):Ref (s260 true e v0 v1 v2 v3 G) ((E orc).cl 260 [v0,v1,v2,v3] G):=cS (S:=fun q e=>s260 q e v0 v1 v2 v3 G) Tryz.func260 (by unfold s260; exact Ref.gq)
def s261 (q:Bool) (e:Ex) (v0 v1:Value) (G:GS):OG :=
 bP (bn Q q .andNot 216 (.tmp 5) (.const (.int .u64 65535)) v0 (.int .u64 65535)) fun x0 =>
 bP (bn Q q .or 216 (.tmp 6) (.const (.int .u64 65536)) x0 (.int .u64 65536)) fun x1 =>
 bP (cv Q q 3 216 .i64 .u64 v1) fun x2 =>
 bP (bn Q q .or 216 (.tmp 7) (.tmp 9) x1 x2) fun x3 =>
 some (x3,G)
theorem f261 (h:ExLe Q e (E orc)) (v0 v1:Value) (G:GS):Ref (s261 true e v0 v1 G) ((E orc).cl 261 [v0,v1] G):=cS (S:=fun q e=>s261 q e v0 v1 G) Tryz.func261 (by unfold s261; exact Ref.gq)
def s262 (q:Bool) (e:Ex) (v0 v1:Value) (G:GS):OG :=
 nf q 218 0 0 v0 fun x1 =>
 bP (fa Q q 214 0 0 x1) fun x2 =>
 fl q 57 1 1 3 x2 (G.room 17) fun x4 =>
 nl q 218 2 8 22 v0 (G.room 17) fun x7 =>
 nl q 218 2 8 22 v0 (G.room 17) fun x10 =>
 bP (bn Q q .add 22 (.tmp 18) (.const (.int .u64 1)) x10 (.int .u64 1)) fun x11 =>
 bS (e.ev.cl 260 [v1,x4,x7,x11] (G.room 17)) fun x13 G12 =>
 nf q 218 0 0 v0 fun x15 =>
 bS (e.ev.cl 134 [x15,(.int .i64 0)] G12) fun x16 G17 =>
 some (.tuple #[],G17)
theorem f262 (h:ExLe Q e (E orc)) (v0 v1:Value) (G:GS):Ref (s262 true e v0 v1 G) ((E orc).cl 262 [v0,v1] G):=cS (S:=fun q e=>s262 q e v0 v1 G) Tryz.func262 (by unfold s262; exact Ref.gq)
def s273 (q:Bool) (e:Ex) (v0:Value) (G:GS):OG :=
 bS (bx q v0 G) fun x0 G1 =>
 fl q 223 0 0 220 x0 (G1.room 7) fun x3 =>
 bP (pNil x3) fun x4 =>
 bP (ld Q q 237 x4 (G1.room 7)) fun x5 =>
 fl q 223 1 1 22 x0 (G1.room 7) fun x7 =>
 bP (bn Q q .neq 22 (.tmp 7) (.tmp 9) x5 x7) fun x8 =>
 ifV x8 (
 fl q 223 0 0 220 x0 (G1.room 7) fun x10 =>
 bP (pNil x10) fun x11 =>
 bP (ld Q q 237 x11 (G1.room 7)) fun x12 =>
 some (.tuple #[x12,(.bool false)],(G1.room 7))) (
 fl q 223 2 2 22 x0 (G1.room 7) fun x14 =>
 some (.tuple #[x14,(.bool true)],(G1.room 7)))
theorem f273 (h:ExLe Q e (E orc)) (v0:Value) (G:GS):Ref (s273 true e v0 G) ((E orc).cl 273 [v0] G):=cS (S:=fun q e=>s273 q e v0 G) Tryz.func273 (by unfold s273; exact Ref.gq)
end
end Go.Proofs.YtlaojmcekeohnaaGreatDoor.Lift
