import Derived.Test.YtedmgpchggogpaaGreatRSa
namespace Go.Proofs.YtedmgpchggogpaaGreat.Lift
open Go Go.Proofs.YtedmgpchggogpaaGreat.Gh Go.Proofs
set_option linter.unusedVariables false
set_option maxRecDepth 100000
variable {orc:FuncId → Bool} {e:Ex}
noncomputable section
def sb89 (q:Bool) (e:Ex) (J0:Env → GS → OG) (v0:Value) (G:GS):OG :=
 bP (pNil v0) fun x0 =>
 bP (fa Q q 143 1 3 x0) fun x1 =>
 bP (ld Q q 141 x1 G) fun x2 =>
 bS (e.ev.cl 127 [x2] G) fun x3 G4 =>
 bP (pExtract x3 0) fun x5 =>
 bP (pExtract x3 1) fun x6 =>
 bS (al Q q 120 z120 G4) fun x7 G8 =>
 bP (st Q q 120 2 x7 x5 G8) fun G9 =>
 bP (fa Q q 120 0 0 x7) fun x10 =>
 bP (ld Q q 23 x10 G9) fun x11 =>
 bP (pNil v0) fun x12 =>
 bP (fa Q q 143 3 5 x12) fun x13 =>
 bP (st Q q 23 1 x13 x11 G9) fun G14 =>
 bP (pNil v0) fun x15 =>
 bP (fa Q q 143 2 4 x15) fun x16 =>
 bP (st Q q 3 1 x16 (.int .i64 1) G14) fun G17 =>
 bP (bn Q q .neq 51 (.tmp 20) (.const (.int .i64 0)) x6 (.int .i64 0)) fun x27 =>
 ifV x27 (
 bP (pNil v0) fun x28 =>
 bP (fa Q q 143 2 4 x28) fun x29 =>
 bP (st Q q 3 1 x29 (.int .i64 9) G17) fun G30 =>
 J0 (xq q 35 (nth undef [v0]) [(24,x29),(23,x28),(22,v0),(21,x27),(20,x6),(19,x16),(18,x15),(17,v0),(16,x13),(15,x12),(14,x11),(13,x10),(12,v0),(3,x6),(2,x7),(11,x6),(10,x5),(4,x3),(9,x3),(8,x2),(7,x1),(6,x0),(5,v0)] []) G30) (
 J0 (xq q 35 (nth undef [v0]) [(21,x27),(20,x6),(19,x16),(18,x15),(17,v0),(16,x13),(15,x12),(14,x11),(13,x10),(12,v0),(3,x6),(2,x7),(11,x6),(10,x5),(4,x3),(9,x3),(8,x2),(7,x1),(6,x0),(5,v0)] []) G17)
def s89 (q:Bool) (e:Ex) (v0:Value) (G:GS):OG:=sb89 q e (j89_0 q e) v0 G
theorem m89 {e:Ex} {E:Ev} (h:ExLe Q e E) (v0:Value) (G:GS):Ref (s89 true e v0 G) (s89 false (Ex.of E) v0 G):=by
 unfold s89 sb89
 have j0:=@mkj89_0 e E h
 exact Ref.gj
def jt89 (J0:Env → GS → OG):JT (Value × GS) :=
 (.n none .e (.n none .e (.n none .e (.n (some (fun T G=>J0 (nth undef T) G)) .e .e))))
theorem jr89_0 (orc:FuncId → Bool) (J0:Env → GS → OG) (T:List Value) (G:GS):runC Q (evL Q orc) Tryz.f89.ntmps (jt89 J0) (bodyOf Tryz.f89) (retE Q Tryz.f89.results.toList) [true,true,true] (nth undef T) G = jb89_0 false (Ex.of (E orc))  (nth undef T) G:=by kernel_rfl
theorem jo89 (orc:FuncId → Bool):JOk Q orc Tryz.f89.ntmps (jt89 (j89_0 false (Ex.of (E orc))) ) (bodyOf Tryz.f89) (retE Q Tryz.f89.results.toList) :=
 jOk Q orc (l:=[([true,true,true],(fun T G=>j89_0 false (Ex.of (E orc)) (nth undef T) G))]) (by kernel_rfl) (AllE.c (fun T G=>jr89_0 orc (j89_0 false (Ex.of (E orc))) T G) (AllE.z))
theorem je89 (orc:FuncId → Bool) (J0:Env → GS → OG) (v0:Value) (G:GS):sxC Q (evL Q orc) Tryz.f89.ntmps (jt89 J0) (bodyOf Tryz.f89) (nth undef [v0]) G (retE Q Tryz.f89.results.toList) = sb89 false (Ex.of (E orc)) J0 v0 G:=by kernel_rfl
theorem f89 {orc:FuncId → Bool} {e:Ex} (h:ExLe Q e (E orc)) (v0:Value) (G:GS):Ref (s89 true e v0 G) ((E orc).cl 89 [v0] G) :=
 fun r hr=>cl_sxC Q orc (vs:=[v0]) G (jt89 (j89_0 false (Ex.of (E orc))) ) Tryz.func89 (by kernel_rfl) (by kernel_rfl) (by kernel_rfl) (by kernel_rfl) (by kernel_rfl) (jo89 orc) (je89 orc (j89_0 false (Ex.of (E orc))) v0 G) (m89 h v0 G r hr)
def s90 (q:Bool) (e:Ex) (v0 v1:Value) (G:GS):OG :=
 bS (e.ev.cl 86 [v0,(.int .i64 1),v1,(.bool false),(.int .u64 0)] G) fun x0 G1 =>
 nf q 154 1 1 v0 fun x3 =>
 fl q 82 3 3 23 x3 G1 fun x5 =>
 some (x5,G1)
theorem f90 (h:ExLe Q e (E orc)) (v0 v1:Value) (G:GS):Ref (s90 true e v0 v1 G) ((E orc).cl 90 [v0,v1] G):=cS (S:=fun q e=>s90 q e v0 v1 G) Tryz.func90 (by unfold s90; exact Ref.gq)
def b91_0 (q:Bool) (e:Ex) (lp:LpF) (τ:Env) (G:GS):OL :=
 bV q (τ 1) fun a1_ =>
 bV q (τ 7) fun a7_ =>
 bV q (τ 8) fun a8_ =>
 bV q (τ 20) fun a20_ =>
 bV q (τ 21) fun a21_ =>
 bP (bn Q q .lss 3 (.tmp 21) (.tmp 20) a21_ a20_) fun x0 =>
 ifV x0 (
 bP (bn Q q .add 3 (.tmp 24) (.tmp 25) a1_ a21_) fun x1 =>
 bP (bn Q q .geq 3 (.tmp 27) (.const (.int .i64 0)) x1 (.int .i64 0)) fun x2 =>
 bS (gV x2 true x1 G) fun x3 G4 =>
 bS (gV x2 true a7_ G4) fun x5 G6 =>
 bS (gP x2 true (ln Q q 22 x5) G6) fun x7 G8 =>
 bS (gP x2 true (bn Q q .lss 3 (.tmp 30) (.tmp 32) x3 x7) G8) fun x9 G10 =>
 bP (pickV x2 x9 (.bool false)) fun x11 =>
 ifV x11 (
 bP (ias Q q 22 1 a7_ x1) fun x12 =>
 bP (ld Q q 23 x12 G10) fun x13 =>
 bP (ias Q q 22 1 a8_ a21_) fun x14 =>
 bP (st Q q 23 1 x14 x13 G10) fun G15 =>
 bP (bn Q q .add 3 (.tmp 21) (.const (.int .i64 1)) a21_ (.int .i64 1)) fun x16 =>
 lp (xq q 44 τ [(21,x16),(42,x16),(41,x14),(40,x13),(39,x12),(38,x1),(37,a7_),(36,a21_),(35,a8_),(34,x11),(33,x9),(32,x7),(31,x5),(30,x3),(29,x2),(28,x2),(27,x1),(10,x1),(26,x1),(25,a21_),(24,a1_),(9,a21_),(23,a21_),(22,x0)] [(1,a1_),(7,a7_),(8,a8_),(20,a20_)]) G15) (
 bP (bn Q q .add 3 (.tmp 21) (.const (.int .i64 1)) a21_ (.int .i64 1)) fun x17 =>
 lp (xq q 44 τ [(21,x17),(42,x17),(34,x11),(33,x9),(32,x7),(31,x5),(30,x3),(29,x2),(28,x2),(27,x1),(10,x1),(26,x1),(25,a21_),(24,a1_),(9,a21_),(23,a21_),(22,x0)] [(1,a1_),(7,a7_),(8,a8_),(20,a20_)]) G10)) (
 some ((.exit 0),xq q 44 τ [(22,x0)] [(1,a1_),(7,a7_),(8,a8_),(20,a20_),(21,a21_)],G))
theorem l91_0 (h:ExLe Q e (E orc)):LT orc 44 (subAt [1,1,1,1,0,1,0,0] (bodyOf Tryz.f91)) (b91_0 true e):=cL fun hlp τ G=>by unfold b91_0; exact Ref.gq
def s91 (q:Bool) (e:Ex) (v0 v1 v2:Value) (G:GS):OG :=
 bS (bx q v0 G) fun x0 G1 =>
 bP (lda Q q 49 3 x0 G1) fun x2 =>
 bS (e.ev.cl 58 [x2] G1) fun x3 G4 =>
 bP (un Q q .not x3) fun x5 =>
 ifV x5 (
 some ((.slice none 0 0),G4)) (
 bS (e.ev.cl 24 [v2] G4) fun x6 G7 =>
 bP (fa Q q 49 2 2 x0) fun x8 =>
 bP (ld Q q 3 x8 G7) fun x9 =>
 bS (mk Q q 22 1 8 z23 x9 x9 G7) fun x10 G11 =>
 bP (ln Q q 22 x10) fun x12 =>
 bLq q e 91 0 (subAt [1,1,1,1,0,1,0,0] (bodyOf Tryz.f91)) 44 (nth undef [v0,v1,v2]) [(21,(.int .i64 0)),(20,x12),(19,x10),(8,x10),(18,x10),(17,x9),(16,x8),(7,x6),(15,x6),(14,v2),(13,x5),(12,x3),(11,x2),(6,(.slice none 0 0)),(3,x0)] [] G11 fun e13 t14 G15 =>
 bV q (t14 8) fun t14x8_ =>
 ifE e13 (.exit 0) (
 some (t14x8_,G15)) (none))
theorem f91 (h:ExLe Q e (E orc)) (v0 v1 v2:Value) (G:GS):Ref (s91 true e v0 v1 v2 G) ((E orc).cl 91 [v0,v1,v2] G):=cS (S:=fun q e=>s91 q e v0 v1 v2 G) Tryz.func91 (by unfold s91; exact Ref.gq)
def b92_0 (q:Bool) (e:Ex) (lp:LpF) (τ:Env) (G:GS):OL :=
 bV q (τ 0) fun a0_ =>
 bV q (τ 1) fun a1_ =>
 bV q (τ 5) fun a5_ =>
 bP (ln Q q 35 a0_) fun x0 =>
 bP (bn Q q .lss 3 (.tmp 6) (.tmp 8) a5_ x0) fun x1 =>
 ifV x1 (
 bP (ias Q q 35 1 a0_ a5_) fun x2 =>
 bP (ld Q q 3 x2 G) fun x3 =>
 bP (bn Q q .eql 3 (.tmp 15) (.tmp 16) x3 a1_) fun x4 =>
 ifV x4 (
 some (.ret,xq q 18 τ [(4,(.bool true)),(17,x4),(16,a1_),(15,x3),(14,x2),(13,a5_),(12,a0_),(9,x1),(8,x0),(7,a0_),(6,a5_)] [(0,a0_),(1,a1_),(5,a5_)],G)) (
 bP (bn Q q .add 3 (.tmp 10) (.const (.int .i64 1)) a5_ (.int .i64 1)) fun x5 =>
 lp (xq q 18 τ [(5,x5),(11,x5),(10,a5_),(17,x4),(16,a1_),(15,x3),(14,x2),(13,a5_),(12,a0_),(9,x1),(8,x0),(7,a0_),(6,a5_)] [(0,a0_),(1,a1_)]) G)) (
 some ((.exit 0),xq q 18 τ [(9,x1),(8,x0),(7,a0_),(6,a5_)] [(0,a0_),(1,a1_),(5,a5_)],G))
theorem l92_0 (h:ExLe Q e (E orc)):LT orc 18 (subAt [1,0,1,0,0] (bodyOf Tryz.f92)) (b92_0 true e):=cL fun hlp τ G=>by unfold b92_0; exact Ref.gq
def s92 (q:Bool) (e:Ex) (v0 v1:Value) (G:GS):OG :=
 bLq q e 92 0 (subAt [1,0,1,0,0] (bodyOf Tryz.f92)) 18 (nth undef [v0,v1]) [(5,(.int .i64 0)),(4,(.bool false))] [] G fun e0 t1 G2 =>
 bV q (t1 4) fun t1x4_ =>
 ifE e0 (.exit 0) (
 some ((.bool false),G2)) (ifE e0 .ret (
 some (t1x4_,G2)) (none))
theorem f92 (h:ExLe Q e (E orc)) (v0 v1:Value) (G:GS):Ref (s92 true e v0 v1 G) ((E orc).cl 92 [v0,v1] G):=cS (S:=fun q e=>s92 q e v0 v1 G) Tryz.func92 (by unfold s92; exact Ref.gq)
def s93 (q:Bool) (e:Ex) (v0:Value) (G:GS):OG :=
 bP (bn Q q .neq 23 (.tmp 3) (.tmp 4) v0 v0) fun x0 =>
 some (x0,G)
theorem f93 (h:ExLe Q e (E orc)) (v0:Value) (G:GS):Ref (s93 true e v0 G) ((E orc).cl 93 [v0] G):=cS (S:=fun q e=>s93 q e v0 G) Tryz.func93 (by unfold s93; exact Ref.gq)
def b96_0 (q:Bool) (e:Ex) (lp:LpF) (τ:Env) (G:GS):OL :=
 bV q (τ 1) fun a1_ =>
 bV q (τ 2) fun a2_ =>
 bV q (τ 18) fun a18_ =>
 bV q (τ 19) fun a19_ =>
 bP (bn Q q .lss 3 (.tmp 19) (.tmp 18) a19_ a18_) fun x0 =>
 ifV x0 (
 bP (fa Q q 39 1 3 a2_) fun x1 =>
 bP (ld Q q 3 x1 G) fun x2 =>
 bP (bn Q q .add 3 (.tmp 24) (.tmp 25) x2 a19_) fun x3 =>
 bS (e.ev.cl 23 [a1_,x3,(.int .u64 1)] G) fun x4 G5 =>
 bP (bn Q q .add 3 (.tmp 19) (.const (.int .i64 1)) a19_ (.int .i64 1)) fun x6 =>
 lp (xq q 29 τ [(19,x6),(28,x6),(27,x4),(26,x3),(25,a19_),(24,x2),(23,x1),(22,a1_),(4,a19_),(21,a19_),(20,x0)] [(1,a1_),(2,a2_),(18,a18_)]) G5) (
 some ((.exit 0),xq q 29 τ [(20,x0)] [(1,a1_),(2,a2_),(18,a18_),(19,a19_)],G))
theorem l96_0 (h:ExLe Q e (E orc)):LT orc 29 (subAt [1,1,1,1,1,0,0] (bodyOf Tryz.f96)) (b96_0 true e):=cL fun hlp τ G=>by unfold b96_0; exact Ref.gq
def s96 (q:Bool) (e:Ex) (v0 v1:Value) (G:GS):OG :=
 bS (bx q v0 G) fun x0 G1 =>
 bP (lda Q q 39 6 x0 G1) fun x2 =>
 bS (e.ev.cl 138 [x2] G1) fun x3 G4 =>
 bP (un Q q .not x3) fun x5 =>
 ifV x5 (
 some (.tuple #[],G4)) (
 bP (fa Q q 39 0 0 x0) fun x6 =>
 bP (lda Q q 37 3 x6 G4) fun x7 =>
 bS (e.ev.cl 139 [x7,v1] G4) fun x8 G9 =>
 bP (fa Q q 39 2 4 x0) fun x10 =>
 bP (ld Q q 3 x10 G9) fun x11 =>
 bS (e.ev.cl 23 [v1,x11,(.int .u64 0)] G9) fun x12 G13 =>
 bP (fa Q q 39 0 0 x0) fun x14 =>
 bP (fa Q q 37 2 2 x14) fun x15 =>
 bP (ld Q q 3 x15 G13) fun x16 =>
 bLq q e 96 0 (subAt [1,1,1,1,1,0,0] (bodyOf Tryz.f96)) 29 (nth undef [v0,v1]) [(19,(.int .i64 0)),(18,x16),(17,x15),(16,x14),(15,x12),(14,x11),(13,x10),(12,v1),(11,x8),(10,v1),(9,x7),(8,x6),(7,x5),(6,x3),(5,x2),(2,x0)] [] G13 fun e17 t18 G19 =>
 ifE e17 (.exit 0) (
 some (.tuple #[],G19)) (none))
theorem f96 (h:ExLe Q e (E orc)) (v0 v1:Value) (G:GS):Ref (s96 true e v0 v1 G) ((E orc).cl 96 [v0,v1] G):=cS (S:=fun q e=>s96 q e v0 v1 G) Tryz.func96 (by unfold s96; exact Ref.gq)
def s97 (q:Bool) (e:Ex) (v0 v1:Value) (G:GS):OG :=
 bS (bx q v0 G) fun x0 G1 =>
 bS (bx q v1 G1) fun x2 G3 =>
 bP (lda Q q 41 3 x0 G3) fun x4 =>
 bS (e.ev.cl 140 [x4] G3) fun x5 G6 =>
 bP (un Q q .not x5) fun x7 =>
 ifV x7 (
 some (.tuple #[],G6)) (
 bP (ld Q q 50 x2 G6) fun x8 =>
 bP (fa Q q 41 0 0 x0) fun x9 =>
 bP (ld Q q 3 x9 G6) fun x10 =>
 bS (e.ev.cl 23 [x8,x10,(.int .u64 0)] G6) fun x11 G12 =>
 bP (lda Q q 41 3 x0 G12) fun x13 =>
 bS (e.ev.cl 141 [x13] G12) fun x14 G15 =>
 bX (xRange e.ev x14 #[15,16] (subAt [1,1,1,1,0,0] (bodyOf Tryz.f97)) (subAt [1,1,1,1,0,1] (bodyOf Tryz.f97)) (lsq q 20 (nth undef [v0,v1]) [(14,x14),(13,x13),(12,x11),(11,x10),(10,x9),(9,x8),(8,x7),(7,x5),(6,x4),(3,x2),(2,x0)]) G15) fun e16 T17 G18 =>
 ifE e16 .normal (
 some (.tuple #[],G18)) (none))
theorem f97 (h:ExLe Q e (E orc)) (v0 v1:Value) (G:GS):Ref (s97 true e v0 v1 G) ((E orc).cl 97 [v0,v1] G):=cS (S:=fun q e=>s97 q e v0 v1 G) Tryz.func97 (by unfold s97; exact Ref.gq)
def r97_0 (q:Bool) (e:Ex) (l:Nat) (τ:Env) (u0 u1:Value) (G:GS):OG :=
 bV q (τ 3) fun a3_ =>
 bP (G.loop l) fun r0=>if r0.st = .ready then
 bP (ld Q q 50 a3_ (G.putLoop l (Lp.setSt r0 .busy))) fun x1 =>
 bS (e.ev.cl 23 [x1,u1,(.int .u64 0)] (G.putLoop l (Lp.setSt r0 .busy))) fun x2 G3 =>
 roundEnd l .normal G3
 else none
theorem mr97_0 {e:Ex} {E:Ev} (h:ExLe Q e E) (l:Nat) (τ:Env) (u0 u1:Value) (G:GS):Ref (r97_0 true e l τ u0 u1 G) (r97_0 false (Ex.of E) l τ u0 u1 G):=by
 unfold r97_0
 repeat' (with_reducible first | exact Ref.rfl' _ | exact ROp.r | refine Ref.bP ?_ fun _=>?_ | refine Ref.bS ?_ fun _ _=>?_ | exact Ref.cl (by assumption) | refine Ref.ifV ?_ ?_ | refine LpLe.rx (by assumption) ?_ | refine Ref.xitq ?_ | exact UOk.z | refine UOk.c (by assumption) ?_ | exact Ref.nil _ | refine Ref.bVe fun _ _=>?_ | refine Ref.bLq (by assumption) ?_ fun _ _ _=>?_ | refine Ref.ifE ?_ ?_ | refine Ref.chk ?_ ?_ | refine Imp.and ?_ ?_ | refine Imp.or ?_ | exact Imp.rfl' _ | refine Imp.sameO ?_ | refine Ref.gd ?_ | exact Ref.cValue (by assumption) | refine Ref.bX ?_ fun _ _ _=>?_ | exact Ref.scQ (by assumption) | exact Ref.xRangeQ (by assumption) | exact Ref.cInvoke (by assumption) | refine Ref.rdy ?_)
theorem d97_0 {orc:FuncId → Bool} {e:Ex} (h:ExLe Q e (E orc)) (l:Nat) (T:List Value) (u0 u1:Value) (G:GS) {st:LoopState} {pend:Option Code} (hl:G.loop l = some ⟨st,pend,T,[15,16],(subAt [1,1,1,1,0,0] (bodyOf Tryz.f97)),(subAt [1,1,1,1,0,1] (bodyOf Tryz.f97))⟩) (hT:T.length = 20):Ref (r97_0 true e l (nth undef T) u0 u1 G) ((E orc).rd l [u0,u1] G) :=
 fun r hr=>rd_sxE Q orc hl (by kernel_rfl) hT (by kernel_rfl) (mr97_0 h l _ u0 u1 G r hr)
def s98 (q:Bool) (e:Ex) (v0 v1:Value) (G:GS):OG :=
 bS (bx q v1 G) fun x0 G1 =>
 bS (al Q q 37 z37 G1) fun x2 G3 =>
 fl q 43 2 9 3 x0 G3 fun x5 =>
 bP (bn Q q .add 3 (.tmp 6) (.tmp 7) x5 v0) fun x6 =>
 bP (fa Q q 43 0 0 x0) fun x7 =>
 bP (fa Q q 39 0 0 x7) fun x8 =>
 fl q 37 1 1 3 x8 G3 fun x10 =>
 bP (fa Q q 43 0 0 x0) fun x11 =>
 bP (fa Q q 39 0 0 x11) fun x12 =>
 fl q 37 2 2 3 x12 G3 fun x14 =>
 bP (bd Q q 37 z37 [(0,0,1),(1,1,1),(2,2,1)] [x6,x10,x14]) fun x15 =>
 bP (st Q q 37 3 x2 x15 G3) fun G16 =>
 bP (lda Q q 37 3 x2 G16) fun x17 =>
 some (x17,G16)
theorem f98 (h:ExLe Q e (E orc)) (v0 v1:Value) (G:GS):Ref (s98 true e v0 v1 G) ((E orc).cl 98 [v0,v1] G):=cS (S:=fun q e=>s98 q e v0 v1 G) Tryz.func98 (by unfold s98; exact Ref.gq)
def s99 (q:Bool) (e:Ex) (v0 v1:Value) (G:GS):OG :=
 bS (bx q v0 G) fun x0 G1 =>
 bS (al Q q 166 z166 G1) fun x2 G3 =>
 bP (lda Q q 45 13 x0 G3) fun x4 =>
 bP (bd Q q 166 z166 [(0,0,13),(1,13,1),(2,14,1)] [x4,v1,(.bool true)]) fun x5 =>
 bS (al Q q 166 z166 G3) fun x6 G7 =>
 bP (st Q q 166 19 x6 x5 G7) fun G8 =>
 bP (lda Q q 45 13 x0 G8) fun x9 =>
 bS (e.ev.cl 142 [x9,(.int .i64 0),(.int .i64 0)] G8) fun x10 G11 =>
 bP (bn Q q .lss 3 (.tmp 11) (.const (.int .i64 0)) x10 (.int .i64 0)) fun x12 =>
 ifV x12 (
 bP (fa Q q 166 6 18 x6) fun x13 =>
 bP (st Q q 51 1 x13 (.int .i64 2) G11) fun G14 =>
 bP (lda Q q 166 19 x6 G14) fun x15 =>
 bP (st Q q 166 19 x2 x15 G14) fun G16 =>
 bP (lda Q q 166 19 x2 G16) fun x17 =>
 some (x17,G16)) (
 bP (bn Q q .lss 3 (.tmp 15) (.const (.int .i64 0)) v1 (.int .i64 0)) fun x18 =>
 bS (gV x18 false v1 G11) fun x19 G20 =>
 bS (gP x18 false (fa Q q 45 3 3 x0) G20) fun x21 G22 =>
 bS (gP x18 false (fa Q q 43 1 6 x21) G22) fun x23 G24 =>
 bS (gP x18 false (fa Q q 41 2 2 x23) G24) fun x25 G26 =>
 bS (gP x18 false (ld Q q 3 x25 G26) G26) fun x27 G28 =>
 bS (gP x18 false (bn Q q .geq 3 (.tmp 18) (.tmp 22) x19 x27) G28) fun x29 G30 =>
 bP (pickV x18 (.bool true) x29) fun x31 =>
 ifV x31 (
 bP (fa Q q 166 6 18 x6) fun x32 =>
 bP (st Q q 51 1 x32 (.int .i64 3) G30) fun G33 =>
 bP (lda Q q 166 19 x6 G33) fun x34 =>
 bP (st Q q 166 19 x2 x34 G33) fun G35 =>
 bP (lda Q q 166 19 x2 G35) fun x36 =>
 some (x36,G35)) (
 bP (lda Q q 166 19 x6 G30) fun x37 =>
 bP (st Q q 166 19 x2 x37 G30) fun G38 =>
 bP (lda Q q 166 19 x2 G38) fun x39 =>
 some (x39,G38)))
theorem f99 (h:ExLe Q e (E orc)) (v0 v1:Value) (G:GS):Ref (s99 true e v0 v1 G) ((E orc).cl 99 [v0,v1] G):=cS (S:=fun q e=>s99 q e v0 v1 G) Tryz.func99 (by unfold s99; exact Ref.gq)
def s100 (q:Bool) (e:Ex) (v0:Value) (G:GS):OG :=
 bS (bx q v0 G) fun x0 G1 =>
 bP (bd Q q 229 z229 [(0,0,1),(2,2,1)] [(.func (.func 143) #[] #[x0]),(.func (.func 145) #[] #[x0])]) fun x2 =>
 bS (bx q x2 G1) fun x3 G4 =>
 bP (ifc Q q 220 x3) fun x5 =>
 some (x5,G4)
theorem f100 (h:ExLe Q e (E orc)) (v0:Value) (G:GS):Ref (s100 true e v0 G) ((E orc).cl 100 [v0] G):=cS (S:=fun q e=>s100 q e v0 G) Tryz.func100 (by unfold s100; exact Ref.gq)
def jb102_0 (q:Bool) (e:Ex) (τ:Env) (G:GS):OG :=
 bV q (τ 0) fun a0_ =>
 nl q 166 4 16 164 a0_ G fun x26 =>
 bP (ln Q q 164 x26) fun x27 =>
 bP (bn Q q .eql 3 (.tmp 54) (.const (.int .i64 0)) x27 (.int .i64 0)) fun x28 =>
 some (x28,G)
def j102_0 (q:Bool) (e:Ex) (τ:Env) (G:GS):OG:=jb102_0 q e τ G
theorem mj102_0 {e:Ex} {E:Ev} (h:ExLe Q e E) (τ:Env) (G:GS):Ref (j102_0 true e τ G) (j102_0 false (Ex.of E) τ G):=by
 unfold j102_0 jb102_0
 exact Ref.gq
theorem mkj102_0 {e:Ex} {E:Ev} (h:ExLe Q e E) {τ:Env} {l U:List (Nat × Value)} {G:GS} (hU:UOk τ U):Ref (j102_0 true e (xq true 56 τ l U) G) (j102_0 false (Ex.of E) (xq false 56 τ l U) G):=by
 rw [xq_eq hU]
 exact mj102_0 h _ _
def sb102 (q:Bool) (e:Ex) (J0:Env → GS → OG) (v0 v1:Value) (G:GS):OG :=
 bP (pNil v0) fun x0 =>
 bP (fa Q q 166 4 16 x0) fun x1 =>
 bP (ld Q q 164 x1 G) fun x2 =>
 bP (ln Q q 164 x2) fun x3 =>
 bP (bn Q q .eql 3 (.tmp 12) (.const (.int .i64 0)) x3 (.int .i64 0)) fun x4 =>
 ifV x4 (
 some ((.bool true),G)) (
 bP (pNil v0) fun x5 =>
 bP (fa Q q 166 4 16 x5) fun x6 =>
 bP (ld Q q 164 x6 G) fun x7 =>
 bP (ias Q q 164 1 x7 (.int .i64 0)) fun x8 =>
 bP (ld Q q 171 x8 G) fun x9 =>
 bP (pNil v0) fun x10 =>
 bP (fa Q q 166 4 16 x10) fun x11 =>
 bP (ld Q q 164 x11 G) fun x12 =>
 bP (sl Q q 164 1 x12 (some (.int .i64 1)) none none G) fun x13 =>
 bP (pNil v0) fun x14 =>
 bP (fa Q q 166 4 16 x14) fun x15 =>
 bP (st Q q 164 1 x15 x13 G) fun G16 =>
 bS (cInvoke Q e.ev x9 "coxswain/ready.run" [v1] G16) fun x17 G18 =>
 bP (pExtract x17 0) fun x19 =>
 bP (pExtract x17 1) fun x20 =>
 bP (pNil v0) fun x21 =>
 bP (fa Q q 166 5 17 x21) fun x22 =>
 bP (st Q q 23 1 x22 x20 G18) fun G23 =>
 bP (un Q q .not x19) fun x29 =>
 ifV x29 (
 bS (bs Q q 164 1 (rep z171 1) 1 [(0,0,1)] [x9] G23) fun x30 G31 =>
 bP (pNil v0) fun x32 =>
 bP (fa Q q 166 4 16 x32) fun x33 =>
 bP (ld Q q 164 x33 G31) fun x34 =>
 bS (ap Q q 164 164 1 16 x30 x34 G31) fun x35 G36 =>
 bP (pNil v0) fun x37 =>
 bP (fa Q q 166 4 16 x37) fun x38 =>
 bP (st Q q 164 1 x38 x35 G36) fun G39 =>
 J0 (xq q 56 (nth undef [v0,v1]) [(49,x38),(48,x37),(47,x35),(46,x34),(45,x33),(44,x32),(43,v0),(42,x30),(41,x9),(40,v0),(39,x29),(38,x19),(37,x22),(36,x21),(35,x20),(34,v0),(7,x20),(6,x19),(33,x20),(32,x19),(28,x17),(31,x17),(30,v1),(29,x9),(27,x15),(26,x14),(25,x13),(24,x12),(23,x11),(22,x10),(21,v0),(20,v0),(5,x9),(19,x9),(18,x8),(17,x7),(16,x6),(15,x5),(14,v0),(13,x4),(12,x3),(11,x2),(10,x1),(9,x0),(8,v0),(4,(.bool false))] []) G39) (
 J0 (xq q 56 (nth undef [v0,v1]) [(39,x29),(38,x19),(37,x22),(36,x21),(35,x20),(34,v0),(7,x20),(6,x19),(33,x20),(32,x19),(28,x17),(31,x17),(30,v1),(29,x9),(27,x15),(26,x14),(25,x13),(24,x12),(23,x11),(22,x10),(21,v0),(20,v0),(5,x9),(19,x9),(18,x8),(17,x7),(16,x6),(15,x5),(14,v0),(13,x4),(12,x3),(11,x2),(10,x1),(9,x0),(8,v0),(4,(.bool false))] []) G23))
def s102 (q:Bool) (e:Ex) (v0 v1:Value) (G:GS):OG:=sb102 q e (j102_0 q e) v0 v1 G
theorem m102 {e:Ex} {E:Ev} (h:ExLe Q e E) (v0 v1:Value) (G:GS):Ref (s102 true e v0 v1 G) (s102 false (Ex.of E) v0 v1 G):=by
 unfold s102 sb102
 have j0:=@mkj102_0 e E h
 exact Ref.gj
def jt102 (J0:Env → GS → OG):JT (Value × GS) :=
 (.n none .e (.n none .e (.n none .e (.n none .e (.n none .e (.n none .e (.n (some (fun T G=>J0 (nth undef T) G)) .e .e)))))))
theorem jr102_0 (orc:FuncId → Bool) (J0:Env → GS → OG) (T:List Value) (G:GS):runC Q (evL Q orc) Tryz.f102.ntmps (jt102 J0) (bodyOf Tryz.f102) (retE Q Tryz.f102.results.toList) [true,true,true,true,true,true] (nth undef T) G = jb102_0 false (Ex.of (E orc))  (nth undef T) G:=by kernel_rfl
theorem jo102 (orc:FuncId → Bool):JOk Q orc Tryz.f102.ntmps (jt102 (j102_0 false (Ex.of (E orc))) ) (bodyOf Tryz.f102) (retE Q Tryz.f102.results.toList) :=
 jOk Q orc (l:=[([true,true,true,true,true,true],(fun T G=>j102_0 false (Ex.of (E orc)) (nth undef T) G))]) (by kernel_rfl) (AllE.c (fun T G=>jr102_0 orc (j102_0 false (Ex.of (E orc))) T G) (AllE.z))
theorem je102 (orc:FuncId → Bool) (J0:Env → GS → OG) (v0 v1:Value) (G:GS):sxC Q (evL Q orc) Tryz.f102.ntmps (jt102 J0) (bodyOf Tryz.f102) (nth undef [v0,v1]) G (retE Q Tryz.f102.results.toList) = sb102 false (Ex.of (E orc)) J0 v0 v1 G:=by kernel_rfl
theorem f102 {orc:FuncId → Bool} {e:Ex} (h:ExLe Q e (E orc)) (v0 v1:Value) (G:GS):Ref (s102 true e v0 v1 G) ((E orc).cl 102 [v0,v1] G) :=
 fun r hr=>cl_sxC Q orc (vs:=[v0,v1]) G (jt102 (j102_0 false (Ex.of (E orc))) ) Tryz.func102 (by kernel_rfl) (by kernel_rfl) (by kernel_rfl) (by kernel_rfl) (by kernel_rfl) (jo102 orc) (je102 orc (j102_0 false (Ex.of (E orc))) v0 v1 G) (m102 h v0 v1 G r hr)
def s103 (q:Bool) (e:Ex) (v0:Value) (G:GS):OG :=
 nl q 166 2 14 4 v0 G fun x2 =>
 bP (un Q q .not x2) fun x3 =>
 ifV x3 (
 some ((.int .i64 1),G)) (
 nl q 166 4 16 164 v0 G fun x6 =>
 bP (ln Q q 164 x6) fun x7 =>
 bP (bn Q q .gtr 3 (.tmp 14) (.const (.int .i64 0)) x7 (.int .i64 0)) fun x8 =>
 ifV x8 (
 some ((.int .i64 14),G)) (
 nl q 166 6 18 51 v0 G fun x11 =>
 some (x11,G)))
theorem f103 (h:ExLe Q e (E orc)) (v0:Value) (G:GS):Ref (s103 true e v0 G) ((E orc).cl 103 [v0] G):=cS (S:=fun q e=>s103 q e v0 G) Tryz.func103 (by unfold s103; exact Ref.gq)
def s104 (q:Bool) (e:Ex) (v0:Value) (G:GS):OG :=
 bP (ep Q q true 106 (.tmp 3) (.const (.pointer none)) v0 (.pointer none)) fun x0 =>
 some (x0,G)
theorem f104 (h:ExLe Q e (E orc)) (v0:Value) (G:GS):Ref (s104 true e v0 G) ((E orc).cl 104 [v0] G):=cS (S:=fun q e=>s104 q e v0 G) Tryz.func104 (by unfold s104; exact Ref.gq)
def s105 (q:Bool) (e:Ex) (v0:Value) (G:GS):OG :=
 bP (lda Q q 45 13 v0 G) fun x0 =>
 bS (e.ev.cl 106 [x0] G) fun x1 G2 =>
 some (x1,G2)
theorem f105 (h:ExLe Q e (E orc)) (v0:Value) (G:GS):Ref (s105 true e v0 G) ((E orc).cl 105 [v0] G):=cS (S:=fun q e=>s105 q e v0 G) Tryz.func105 (by unfold s105; exact Ref.gq)
def s106 (q:Bool) (e:Ex) (v0:Value) (G:GS):OG :=
 bS (bx q v0 G) fun x0 G1 =>
 bP (lda Q q 45 13 x0 G1) fun x2 =>
 bS (e.ev.cl 150 [x2] G1) fun x3 G4 =>
 bP (bd Q q 246 z246 [(0,0,22)] [x3]) fun x5 =>
 bS (bx q x5 G4) fun x6 G7 =>
 some (x6,G7)
theorem f106 (h:ExLe Q e (E orc)) (v0:Value) (G:GS):Ref (s106 true e v0 G) ((E orc).cl 106 [v0] G):=cS (S:=fun q e=>s106 q e v0 G) Tryz.func106 (by unfold s106; exact Ref.gq)
def s107 (q:Bool) (e:Ex) (v0:Value) (G:GS):OG :=
 bP (ep Q q false 179 (.tmp 3) (.const (.pointer none)) v0 (.pointer none)) fun x0 =>
 ifV x0 (
 some ((.int .u64 0),G)) (
 nf q 246 0 0 v0 fun x2 =>
 fl q 243 7 19 23 x2 G fun x4 =>
 some (x4,G))
theorem f107 (h:ExLe Q e (E orc)) (v0:Value) (G:GS):Ref (s107 true e v0 G) ((E orc).cl 107 [v0] G):=cS (S:=fun q e=>s107 q e v0 G) Tryz.func107 (by unfold s107; exact Ref.gq)
def s108 (q:Bool) (e:Ex) (v0 v1:Value) (G:GS):OG :=
 bP (ld Q q 115 v1 (G.room 15)) fun x0 =>
 bP (ld Q q 115 v1 (G.room 15)) fun x1 =>
 bS (e.ev.cl 109 [v0] (G.room 15)) fun x3 G2 =>
 chk ((sameO (ld Q q 115 v1 G2) x1 && (sameO (ld Q q 115 v1 G2) x0 && true))) <|
 bP (pExtract x3 0) fun x4 =>
 bP (pExtract x3 1) fun x5 =>
 nf q 177 1 19 x0 fun x7 =>
 bP (fa Q q 175 0 0 x7) fun x8 =>
 bP (st Q q 120 2 x8 x4 G2) fun G9 =>
 chk ((sameO (ld Q q 115 v1 G9) x1 && true)) <|
 nf q 177 1 19 x1 fun x11 =>
 bP (fa Q q 175 1 2 x11) fun x12 =>
 bP (st Q q 51 1 x12 x5 G9) fun G13 =>
 some (.tuple #[],G13)
theorem f108 (h:ExLe Q e (E orc)) (v0 v1:Value) (G:GS):Ref (s108 true e v0 v1 G) ((E orc).cl 108 [v0,v1] G):=cS (S:=fun q e=>s108 q e v0 v1 G) Tryz.func108 (by unfold s108; exact Ref.gq)
def s109 (q:Bool) (e:Ex) (v0:Value) (G:GS):OG :=
 bS (al Q q 120 z120 G) fun x0 G1 =>
 bP (ep Q q false 179 (.tmp 4) (.const (.pointer none)) v0 (.pointer none)) fun x2 =>
 ifV x2 (
 bP (bd Q q 120 z120 [] []) fun x3 =>
 bP (st Q q 120 2 x0 x3 G1) fun G4 =>
 bP (lda Q q 120 2 x0 G4) fun x5 =>
 some (.tuple #[x5,(.int .i64 1)],G4)) (
 nf q 246 0 0 v0 fun x7 =>
 bS (e.ev.cl 151 [x7] G1) fun x8 G9 =>
 bP (pExtract x8 0) fun x10 =>
 bP (pExtract x8 1) fun x11 =>
 bP (st Q q 120 2 x0 x10 G9) fun G12 =>
 bP (lda Q q 120 2 x0 G12) fun x13 =>
 some (.tuple #[x13,x11],G12))
theorem f109 (h:ExLe Q e (E orc)) (v0:Value) (G:GS):Ref (s109 true e v0 G) ((E orc).cl 109 [v0] G):=cS (S:=fun q e=>s109 q e v0 G) Tryz.func109 (by unfold s109; exact Ref.gq)
def s110 (q:Bool) (e:Ex) (v0:Value) (G:GS):OG :=
 bS (bx q v0 G) fun x0 G1 =>
 bP (bd Q q 254 z254 [(0,0,1)] [(.func (.func 152) #[] #[x0])]) fun x2 =>
 bS (bx q x2 G1) fun x3 G4 =>
 bP (ifc Q q 247 x3) fun x5 =>
 some (x5,G4)
theorem f110 (h:ExLe Q e (E orc)) (v0:Value) (G:GS):Ref (s110 true e v0 G) ((E orc).cl 110 [v0] G):=cS (S:=fun q e=>s110 q e v0 G) Tryz.func110 (by unfold s110; exact Ref.gq)
def s111 (q:Bool) (e:Ex) (v0 v1:Value) (G:GS):OG :=
 bS (bx q v0 G) fun x0 G1 =>
 bS (al Q q 120 z120 G1) fun x2 G3 =>
 bS (e.ev.cl 103 [v1] G3) fun x4 G5 =>
 bP (bn Q q .neq 51 (.tmp 9) (.const (.int .i64 0)) x4 (.int .i64 0)) fun x6 =>
 ifV x6 (
 bP (bd Q q 120 z120 [] []) fun x7 =>
 bP (st Q q 120 2 x2 x7 G5) fun G8 =>
 bP (lda Q q 120 2 x2 G8) fun x9 =>
 some (.tuple #[x9,x4],G8)) (
 bP (fa Q q 175 0 0 x0) fun x10 =>
 bP (lda Q q 120 2 x10 (G5.room 6)) fun x11 =>
 bP (fa Q q 175 1 2 x0) fun x12 =>
 bP (ld Q q 51 x12 (G5.room 6)) fun x13 =>
 bP (st Q q 120 2 x2 x11 (G5.room 6)) fun G14 =>
 chk ((sameO (ld Q q 51 x12 G14) x13 && true)) <|
 bP (lda Q q 120 2 x2 G14) fun x15 =>
 some (.tuple #[x15,x13],G14))
theorem f111 (h:ExLe Q e (E orc)) (v0 v1:Value) (G:GS):Ref (s111 true e v0 v1 G) ((E orc).cl 111 [v0,v1] G):=cS (S:=fun q e=>s111 q e v0 v1 G) Tryz.func111 (by unfold s111; exact Ref.gq)
def s112 (q:Bool) (e:Ex) (v0 v1:Value) (G:GS):OG :=
 bP (ep Q q false 115 (.tmp 5) (.const (.pointer none)) v0 (.pointer none)) fun x0 =>
 bS (gV x0 false v0 G) fun x1 G2 =>
 bS (gP x0 false (pNil x1) G2) fun x3 G4 =>
 bS (gP x0 false (fa Q q 177 0 0 x3) G4) fun x5 G6 =>
 bS (gV x0 false v1 G6) fun x7 G8 =>
 bS (gS x0 false (e.ev.cl 102 [x5,x7] G8) G8) fun x9 G10 =>
 bP (pickV x0 (.bool true) x9) fun x11 =>
 some (x11,G10)
theorem f112 (h:ExLe Q e (E orc)) (v0 v1:Value) (G:GS):Ref (s112 true e v0 v1 G) ((E orc).cl 112 [v0,v1] G):=cS (S:=fun q e=>s112 q e v0 v1 G) Tryz.func112 (by unfold s112; exact Ref.gq)
def s113 (q:Bool) (e:Ex) (v0:Value) (G:GS):OG :=
 bP (ep Q q false 115 (.tmp 3) (.const (.pointer none)) v0 (.pointer none)) fun x0 =>
 ifV x0 (
 some ((.int .u64 0),G)) (
 nf q 177 0 0 v0 fun x2 =>
 fl q 166 5 17 23 x2 G fun x4 =>
 some (x4,G))
theorem f113 (h:ExLe Q e (E orc)) (v0:Value) (G:GS):Ref (s113 true e v0 G) ((E orc).cl 113 [v0] G):=cS (S:=fun q e=>s113 q e v0 G) Tryz.func113 (by unfold s113; exact Ref.gq)
def s114 (q:Bool) (e:Ex) (v0:Value) (G:GS):OG :=
 bS (bx q v0 G) fun x0 G1 =>
 fl q 109 0 0 106 x0 G1 fun x3 =>
 bP (pNil x3) fun x4 =>
 bP (ld Q q 96 x4 G1) fun x5 =>
 some (.tuple #[x5,(.bool false)],G1)
theorem f114 (h:ExLe Q e (E orc)) (v0:Value) (G:GS):Ref (s114 true e v0 G) ((E orc).cl 114 [v0] G):=cS (S:=fun q e=>s114 q e v0 G) Tryz.func114 (by unfold s114; exact Ref.gq)
def s115 (q:Bool) (e:Ex) (v0 v1:Value) (G:GS):OG :=
 bS (bx q v0 G) fun x0 G1 =>
 bP (bn Q q .lss 3 (.tmp 6) (.const (.int .i64 1)) v1 (.int .i64 1)) fun x2 =>
 bS (gV x2 false v1 G1) fun x3 G4 =>
 bS (gP x2 false (bn Q q .gtr 3 (.tmp 9) (.const (.int .i64 4096)) x3 (.int .i64 4096)) G4) fun x5 G6 =>
 bP (pickV x2 (.bool true) x5) fun x7 =>
 ifV x7 (
 some ((.int .i64 3),G6)) (
 bP (fa Q q 39 0 0 x0) fun x8 =>
 bP (lda Q q 37 3 x8 G6) fun x9 =>
 bS (e.ev.cl 154 [x9,v1] G6) fun x10 G11 =>
 bP (bn Q q .neq 51 (.tmp 16) (.const (.int .i64 0)) x10 (.int .i64 0)) fun x12 =>
 bS (gP x12 false (fa Q q 39 3 5 x0) G11) fun x13 G14 =>
 bS (gP x12 false (ld Q q 3 x13 G14) G14) fun x15 G16 =>
 bS (gP x12 false (bn Q q .lss 3 (.tmp 20) (.const (.int .i64 1)) x15 (.int .i64 1)) G16) fun x17 G18 =>
 bP (pickV x12 (.bool true) x17) fun x19 =>
 bS (gP x19 false (fa Q q 39 3 5 x0) G18) fun x20 G21 =>
 bS (gP x19 false (ld Q q 3 x20 G21) G21) fun x22 G23 =>
 bS (gP x19 false (bn Q q .gtr 3 (.tmp 25) (.const (.int .i64 4294967295)) x22 (.int .i64 4294967295)) G23) fun x24 G25 =>
 bP (pickV x19 (.bool true) x24) fun x26 =>
 bS (gP x26 false (lda Q q 39 6 x0 G25) G25) fun x27 G28 =>
 bS (gS x26 false (e.ev.cl 117 [x27] G28) G28) fun x29 G30 =>
 bS (gV x26 false v1 G30) fun x31 G32 =>
 bS (gS x26 false (e.ev.cl 74 [x29,x31] G32) G32) fun x33 G34 =>
 bS (gP x26 false (un Q q .not x33) G34) fun x35 G36 =>
 bP (pickV x26 (.bool true) x35) fun x37 =>
 ifV x37 (
 some ((.int .i64 2),G36)) (
 some ((.int .i64 0),G36)))
theorem f115 (h:ExLe Q e (E orc)) (v0 v1:Value) (G:GS):Ref (s115 true e v0 v1 G) ((E orc).cl 115 [v0,v1] G):=cS (S:=fun q e=>s115 q e v0 v1 G) Tryz.func115 (by unfold s115; exact Ref.gq)
def s116 (q:Bool) (e:Ex) (v0 v1:Value) (G:GS):OG :=
 bS (bx q v0 G) fun x0 G1 =>
 bP (bn Q q .lss 3 (.tmp 5) (.const (.int .i64 1)) v1 (.int .i64 1)) fun x2 =>
 bS (gV x2 false v1 G1) fun x3 G4 =>
 bS (gP x2 false (bn Q q .gtr 3 (.tmp 8) (.const (.int .i64 4096)) x3 (.int .i64 4096)) G4) fun x5 G6 =>
 bP (pickV x2 (.bool true) x5) fun x7 =>
 ifV x7 (
 some ((.int .i64 3),G6)) (
 fl q 41 2 2 3 x0 G6 fun x9 =>
 bS (e.ev.cl 155 [x9] G6) fun x10 G11 =>
 bP (un Q q .not x10) fun x12 =>
 bS (gP x12 false (fa Q q 41 0 0 x0) G11) fun x13 G14 =>
 bS (gP x12 false (ld Q q 3 x13 G14) G14) fun x15 G16 =>
 bS (gP x12 false (bn Q q .lss 3 (.tmp 17) (.const (.int .i64 0)) x15 (.int .i64 0)) G16) fun x17 G18 =>
 bP (pickV x12 (.bool true) x17) fun x19 =>
 bS (gP x19 false (fa Q q 41 0 0 x0) G18) fun x20 G21 =>
 bS (gP x19 false (ld Q q 3 x20 G21) G21) fun x22 G23 =>
 bS (gV x19 false v1 G23) fun x24 G25 =>
 bS (gP x19 false (bn Q q .geq 3 (.tmp 22) (.tmp 23) x22 x24) G25) fun x26 G27 =>
 bP (pickV x19 (.bool true) x26) fun x28 =>
 bS (gP x28 false (fa Q q 41 1 1 x0) G27) fun x29 G30 =>
 bS (gP x28 false (ld Q q 3 x29 G30) G30) fun x31 G32 =>
 bS (gP x28 false (bn Q q .lss 3 (.tmp 28) (.const (.int .i64 0)) x31 (.int .i64 0)) G32) fun x33 G34 =>
 bP (pickV x28 (.bool true) x33) fun x35 =>
 bS (gP x35 false (fa Q q 41 1 1 x0) G34) fun x36 G37 =>
 bS (gP x35 false (ld Q q 3 x36 G37) G37) fun x38 G39 =>
 bS (gV x35 false v1 G39) fun x40 G41 =>
 bS (gP x35 false (fa Q q 41 2 2 x0) G41) fun x42 G43 =>
 bS (gP x35 false (ld Q q 3 x42 G43) G43) fun x44 G45 =>
 bS (gP x35 false (bn Q q .sub 3 (.tmp 34) (.tmp 36) x40 x44) G45) fun x46 G47 =>
 bS (gP x35 false (bn Q q .gtr 3 (.tmp 33) (.tmp 37) x38 x46) G47) fun x48 G49 =>
 bP (pickV x35 (.bool true) x48) fun x50 =>
 bS (gP x50 false (fa Q q 41 0 0 x0) G49) fun x51 G52 =>
 bS (gP x50 false (ld Q q 3 x51 G52) G52) fun x53 G54 =>
 bS (gP x50 false (fa Q q 41 1 1 x0) G54) fun x55 G56 =>
 bS (gP x50 false (ld Q q 3 x55 G56) G56) fun x57 G58 =>
 bS (gP x50 false (bn Q q .geq 3 (.tmp 42) (.tmp 44) x53 x57) G58) fun x59 G60 =>
 bS (gV x50 false x59 G60) fun x61 G62 =>
 bS (gP x61 true (fa Q q 41 0 0 x0) G62) fun x63 G64 =>
 bS (gP x61 true (ld Q q 3 x63 G64) G64) fun x65 G66 =>
 bS (gP x61 true (fa Q q 41 1 1 x0) G66) fun x67 G68 =>
 bS (gP x61 true (ld Q q 3 x67 G68) G68) fun x69 G70 =>
 bS (gP x61 true (fa Q q 41 2 2 x0) G70) fun x71 G72 =>
 bS (gP x61 true (ld Q q 3 x71 G72) G72) fun x73 G74 =>
 bS (gP x61 true (bn Q q .add 3 (.tmp 50) (.tmp 52) x69 x73) G74) fun x75 G76 =>
 bS (gP x61 true (bn Q q .lss 3 (.tmp 48) (.tmp 53) x65 x75) G76) fun x77 G78 =>
 bS (gP x50 false (pickV x61 x77 (.bool false)) G78) fun x79 G80 =>
 bP (pickV x50 (.bool true) x79) fun x81 =>
 ifV x81 (
 some ((.int .i64 2),G80)) (
 some ((.int .i64 0),G80)))
theorem f116 (h:ExLe Q e (E orc)) (v0 v1:Value) (G:GS):Ref (s116 true e v0 v1 G) ((E orc).cl 116 [v0,v1] G):=cS (S:=fun q e=>s116 q e v0 v1 G) Tryz.func116 (by unfold s116; exact Ref.gq)
def b117_0 (q:Bool) (e:Ex) (lp:LpF) (τ:Env) (G:GS):OL :=
 bV q (τ 1) fun a1_ =>
 bV q (τ 3) fun a3_ =>
 bV q (τ 4) fun a4_ =>
 bP (fa Q q 39 0 0 a1_) fun x0 =>
 bP (fa Q q 37 2 2 x0) fun x1 =>
 bP (ld Q q 3 x1 G) fun x2 =>
 bP (bn Q q .lss 3 (.tmp 11) (.tmp 14) a4_ x2) fun x3 =>
 ifV x3 (
 bP (fa Q q 39 0 0 a1_) fun x4 =>
 bP (fa Q q 37 1 1 x4) fun x5 =>
 bP (ld Q q 3 x5 G) fun x6 =>
 bP (bn Q q .add 3 (.tmp 21) (.tmp 22) x6 a4_) fun x7 =>
 bP (fa Q q 39 1 3 a1_) fun x8 =>
 bP (ld Q q 3 x8 G) fun x9 =>
 bP (bn Q q .add 3 (.tmp 25) (.tmp 26) x9 a4_) fun x10 =>
 bS (bs Q q 35 2 (rep z3 2) 1 [(0,0,1),(1,1,1)] [x7,x10] G) fun x11 G12 =>
 bS (ap Q q 35 35 1 8 a3_ x11 G12) fun x13 G14 =>
 bP (bn Q q .add 3 (.tmp 16) (.const (.int .i64 1)) a4_ (.int .i64 1)) fun x15 =>
 lp (xq q 31 τ [(4,x15),(17,x15),(16,a4_),(3,x13),(29,x13),(28,x11),(27,x10),(26,a4_),(25,x9),(24,x8),(23,x7),(22,a4_),(21,x6),(20,x5),(19,x4),(18,a3_),(15,x3),(14,x2),(13,x1),(12,x0),(11,a4_)] [(1,a1_)]) G14) (
 some ((.exit 0),xq q 31 τ [(15,x3),(14,x2),(13,x1),(12,x0),(11,a4_)] [(1,a1_),(3,a3_),(4,a4_)],G))
theorem l117_0 (h:ExLe Q e (E orc)):LT orc 31 (subAt [1,1,0,1,0,0] (bodyOf Tryz.f117)) (b117_0 true e):=cL fun hlp τ G=>by unfold b117_0; exact Ref.gq
def s117 (q:Bool) (e:Ex) (v0:Value) (G:GS):OG :=
 bS (bx q v0 G) fun x0 G1 =>
 bP (fa Q q 39 0 0 x0) fun x2 =>
 bP (fa Q q 37 0 0 x2) fun x3 =>
 bP (ld Q q 3 x3 G1) fun x4 =>
 bP (fa Q q 39 2 4 x0) fun x5 =>
 bP (ld Q q 3 x5 G1) fun x6 =>
 bS (bs Q q 35 2 (rep z3 2) 1 [(0,0,1),(1,1,1)] [x4,x6] G1) fun x7 G8 =>
 bLq q e 117 0 (subAt [1,1,0,1,0,0] (bodyOf Tryz.f117)) 31 (nth undef [v0]) [(4,(.int .i64 0)),(3,x7),(10,x7),(9,x6),(8,x5),(7,x4),(6,x3),(5,x2),(2,(.slice none 0 0)),(1,x0)] [] G8 fun e9 t10 G11 =>
 bV q (t10 3) fun t10x3_ =>
 ifE e9 (.exit 0) (
 some (t10x3_,G11)) (none)
theorem f117 (h:ExLe Q e (E orc)) (v0:Value) (G:GS):Ref (s117 true e v0 G) ((E orc).cl 117 [v0] G):=cS (S:=fun q e=>s117 q e v0 G) Tryz.func117 (by unfold s117; exact Ref.gq)
def b118_0 (q:Bool) (e:Ex) (lp:LpF) (τ:Env) (G:GS):OL :=
 bV q (τ 1) fun a1_ =>
 bV q (τ 2) fun a2_ =>
 bV q (τ 4) fun a4_ =>
 bP (bn Q q .lss 3 (.tmp 13) (.const (.int .i64 3)) a4_ (.int .i64 3)) fun x0 =>
 ifV x0 (
 bP (fa Q q 43 2 9 a2_) fun x1 =>
 bP (ld Q q 3 x1 G) fun x2 =>
 bP (bn Q q .add 3 (.tmp 19) (.tmp 20) x2 a4_) fun x3 =>
 bS (e.ev.cl 35 [a1_,x3,(.int .u64 0)] G) fun x4 G5 =>
 bP (bn Q q .add 3 (.tmp 15) (.const (.int .i64 1)) a4_ (.int .i64 1)) fun x6 =>
 lp (xq q 23 τ [(4,x6),(16,x6),(15,a4_),(22,x4),(21,x3),(20,a4_),(19,x2),(18,x1),(17,a1_),(14,x0),(13,a4_)] [(1,a1_),(2,a2_)]) G5) (
 some ((.exit 0),xq q 23 τ [(14,x0),(13,a4_)] [(1,a1_),(2,a2_),(4,a4_)],G))
theorem l118_0 (h:ExLe Q e (E orc)):LT orc 23 (subAt [1,1,1,1,0,0] (bodyOf Tryz.f118)) (b118_0 true e):=cL fun hlp τ G=>by unfold b118_0; exact Ref.gq
def s118 (q:Bool) (e:Ex) (v0 v1:Value) (G:GS):OG :=
 bS (bx q v0 G) fun x0 G1 =>
 bP (fa Q q 43 0 0 x0) fun x2 =>
 bP (lda Q q 39 6 x2 G1) fun x3 =>
 bS (e.ev.cl 156 [x3,v1] G1) fun x4 G5 =>
 bP (fa Q q 43 1 6 x0) fun x6 =>
 bP (lda Q q 41 3 x6 G5) fun x7 =>
 bS (e.ev.cl 157 [x7,v1] G5) fun x8 G9 =>
 bLq q e 118 0 (subAt [1,1,1,1,0,0] (bodyOf Tryz.f118)) 23 (nth undef [v0,v1]) [(4,(.int .i64 0)),(12,x8),(11,v1),(10,x7),(9,x6),(8,x4),(7,v1),(6,x3),(5,x2),(2,x0)] [] G9 fun e10 t11 G12 =>
 ifE e10 (.exit 0) (
 some (.tuple #[],G12)) (none)
theorem f118 (h:ExLe Q e (E orc)) (v0 v1:Value) (G:GS):Ref (s118 true e v0 v1 G) ((E orc).cl 118 [v0,v1] G):=cS (S:=fun q e=>s118 q e v0 v1 G) Tryz.func118 (by unfold s118; exact Ref.gq)
def s119 (q:Bool) (e:Ex) (v0 v1:Value) (G:GS):OG :=
 bP (bn Q q .lss 3 (.tmp 5) (.const (.int .i64 0)) v1 (.int .i64 0)) fun x0 =>
 bS (gV x0 false v1 G) fun x1 G2 =>
 bS (gV x0 false v0 G2) fun x3 G4 =>
 bS (gP x0 false (pNil x3) G4) fun x5 G6 =>
 bS (gP x0 false (fa Q q 154 0 0 x5) G6) fun x7 G8 =>
 bS (gP x0 false (ld Q q 22 x7 G8) G8) fun x9 G10 =>
 bS (gP x0 false (ln Q q 22 x9) G10) fun x11 G12 =>
 bS (gP x0 false (bn Q q .geq 3 (.tmp 8) (.tmp 13) x1 x11) G12) fun x13 G14 =>
 bP (pickV x0 (.bool true) x13) fun x15 =>
 ifV x15 (
 some ((.int .u64 0),G14)) (
 nl q 154 0 0 22 v0 G14 fun x18 =>
 bP (ias Q q 22 1 x18 v1) fun x19 =>
 bP (ld Q q 23 x19 G14) fun x20 =>
 some (x20,G14))
theorem f119 (h:ExLe Q e (E orc)) (v0 v1:Value) (G:GS):Ref (s119 true e v0 v1 G) ((E orc).cl 119 [v0,v1] G):=cS (S:=fun q e=>s119 q e v0 v1 G) Tryz.func119 (by unfold s119; exact Ref.gq)
def s120 (q:Bool) (e:Ex) (v0 v1 v2:Value) (G:GS):OG :=
 bS (bx q v0 G) fun x0 G1 =>
 bS (al Q q 149 z149 G1) fun x2 G3 =>
 bP (bn Q q .neq 51 (.tmp 7) (.const (.int .i64 0)) v2 (.int .i64 0)) fun x4 =>
 ifV x4 (
 bP (bd Q q 149 z149 [(2,14,1),(7,19,1)] [(.int .i64 9),v2]) fun x5 =>
 bP (st Q q 149 20 x2 x5 G3) fun G6 =>
 bP (lda Q q 149 20 x2 G6) fun x7 =>
 some (x7,G6)) (
 bP (lda Q q 45 13 x0 (G3.room 9)) fun x8 =>
 bP (fa Q q 45 3 3 x0) fun x9 =>
 bP (fa Q q 43 1 6 x9) fun x10 =>
 bP (lda Q q 41 3 x10 (G3.room 9)) fun x11 =>
 bS (e.ev.cl 158 [x11,v1] (G3.room 9)) fun x13 G12 =>
 chk ((sameO (lda Q q 45 13 x0 G12) x8 && true)) <|
 bP (bd Q q 149 z149 [(0,0,13),(1,13,1),(2,14,1),(3,15,1)] [x8,v1,(.int .i64 1),x13]) fun x14 =>
 bP (st Q q 149 20 x2 x14 G12) fun G15 =>
 bP (lda Q q 149 20 x2 G15) fun x16 =>
 some (x16,G15))
theorem f120 (h:ExLe Q e (E orc)) (v0 v1 v2:Value) (G:GS):Ref (s120 true e v0 v1 v2 G) ((E orc).cl 120 [v0,v1,v2] G):=cS (S:=fun q e=>s120 q e v0 v1 v2 G) Tryz.func120 (by unfold s120; exact Ref.gq)
def s121 (q:Bool) (e:Ex) (v0:Value) (G:GS):OG :=
 bS (bx q v0 G) fun x0 G1 =>
 bP (lda Q q 45 13 x0 G1) fun x2 =>
 bS (e.ev.cl 159 [x2] G1) fun x3 G4 =>
 bP (pNil x3) fun x5 =>
 bP (lda Q q 198 26 x5 G4) fun x6 =>
 bP (bd Q q 200 z200 [(0,0,26)] [x6]) fun x7 =>
 bS (bx q x7 G4) fun x8 G9 =>
 nf q 200 0 0 x8 fun x11 =>
 bP (fa Q q 198 1 13 x11) fun x12 =>
 bP (st Q q 4 1 x12 (.bool true) G9) fun G13 =>
 some (x8,G13)
theorem f121 (h:ExLe Q e (E orc)) (v0:Value) (G:GS):Ref (s121 true e v0 G) ((E orc).cl 121 [v0] G):=cS (S:=fun q e=>s121 q e v0 G) Tryz.func121 (by unfold s121; exact Ref.gq)
def s122 (q:Bool) (e:Ex) (v0 v1:Value) (G:GS):OG :=
 nl q 149 3 15 146 v0 G fun x2 =>
 bS (e.ev.cl 160 [x2,v1] G) fun x3 G4 =>
 bP (un Q q .not x3) fun x5 =>
 ifV x5 (
 some ((.bool false),G4)) (
 nl q 149 3 15 146 v0 G4 fun x8 =>
 bS (e.ev.cl 161 [x8] G4) fun x9 G10 =>
 bP (pExtract x9 0) fun x11 =>
 bP (pExtract x9 1) fun x12 =>
 nf q 149 4 16 v0 fun x14 =>
 bP (st Q q 3 1 x14 x11 G10) fun G15 =>
 some ((.bool true),G15))
theorem f122 (h:ExLe Q e (E orc)) (v0 v1:Value) (G:GS):Ref (s122 true e v0 v1 G) ((E orc).cl 122 [v0,v1] G):=cS (S:=fun q e=>s122 q e v0 v1 G) Tryz.func122 (by unfold s122; exact Ref.gq)
def jb123_0 (q:Bool) (e:Ex) (τ:Env) (G:GS):OG :=
 bV q (τ 0) fun a0_ =>
 nl q 198 2 14 3 a0_ G fun x2 =>
 bP (bn Q q .eql 3 (.tmp 45) (.const (.int .i64 99)) x2 (.int .i64 99)) fun x3 =>
 some (x3,G)
def j123_0 (q:Bool) (e:Ex) (τ:Env) (G:GS):OG:=jb123_0 q e τ G
theorem mj123_0 {e:Ex} {E:Ev} (h:ExLe Q e E) (τ:Env) (G:GS):Ref (j123_0 true e τ G) (j123_0 false (Ex.of E) τ G):=by
 unfold j123_0 jb123_0
 exact Ref.gq
theorem mkj123_0 {e:Ex} {E:Ev} (h:ExLe Q e E) {τ:Env} {l U:List (Nat × Value)} {G:GS} (hU:UOk τ U):Ref (j123_0 true e (xq true 47 τ l U) G) (j123_0 false (Ex.of E) (xq false 47 τ l U) G):=by
 rw [xq_eq hU]
 exact mj123_0 h _ _
def jb123_1 (q:Bool) (e:Ex) (J0:Env → GS → OG) (τ:Env) (G:GS):OG :=
 bV q (τ 0) fun a0_ =>
 bV q (τ 1) fun a1_ =>
 bV q (τ 35) fun a35_ =>
 ifV a35_ (
 bS (e.ev.cl 166 [a0_,a1_] G) fun x15 G16 =>
 J0 (xq q 47 τ [(41,x15),(40,a1_),(39,a0_)] []) G16) (
 J0 (xq q 47 τ [] []) G)
def j123_1 (q:Bool) (e:Ex) (τ:Env) (G:GS):OG:=jb123_1 q e (j123_0 q e) τ G
theorem mj123_1 {e:Ex} {E:Ev} (h:ExLe Q e E) (τ:Env) (G:GS):Ref (j123_1 true e τ G) (j123_1 false (Ex.of E) τ G):=by
 unfold j123_1 jb123_1
 have j0:=@mkj123_0 e E h
 exact Ref.gj
theorem mkj123_1 {e:Ex} {E:Ev} (h:ExLe Q e E) {τ:Env} {l U:List (Nat × Value)} {G:GS} (hU:UOk τ U):Ref (j123_1 true e (xq true 47 τ l U) G) (j123_1 false (Ex.of E) (xq false 47 τ l U) G):=by
 rw [xq_eq hU]
 exact mj123_1 h _ _
def jb123_2 (q:Bool) (e:Ex) (J0 J1:Env → GS → OG) (τ:Env) (G:GS):OG :=
 bV q (τ 0) fun a0_ =>
 bV q (τ 1) fun a1_ =>
 bV q (τ 8) fun a8_ =>
 bV q (τ 29) fun a29_ =>
 ifV a29_ (
 bS (e.ev.cl 165 [a0_,a1_] G) fun x13 G14 =>
 J0 (xq q 47 τ [(34,x13),(33,a1_),(32,a0_)] []) G14) (
 bP (bn Q q .eql 3 (.tmp 8) (.const (.int .i64 10)) a8_ (.int .i64 10)) fun x17 =>
 ifV x17 (
 J1 (xq q 47 τ [(35,x17),(36,x17)] []) G) (
 bP (bn Q q .eql 3 (.tmp 8) (.const (.int .i64 11)) a8_ (.int .i64 11)) fun x18 =>
 ifV x18 (
 J1 (xq q 47 τ [(35,x18),(37,x18),(35,x17),(36,x17)] []) G) (
 bP (bn Q q .eql 3 (.tmp 8) (.const (.int .i64 92)) a8_ (.int .i64 92)) fun x19 =>
 J1 (xq q 47 τ [(35,x19),(38,x19),(35,x18),(37,x18),(35,x17),(36,x17)] []) G)))
def j123_2 (q:Bool) (e:Ex) (τ:Env) (G:GS):OG:=jb123_2 q e (j123_0 q e) (j123_1 q e) τ G
theorem mj123_2 {e:Ex} {E:Ev} (h:ExLe Q e E) (τ:Env) (G:GS):Ref (j123_2 true e τ G) (j123_2 false (Ex.of E) τ G):=by
 unfold j123_2 jb123_2
 have j0:=@mkj123_0 e E h
 have j1:=@mkj123_1 e E h
 exact Ref.gj
theorem mkj123_2 {e:Ex} {E:Ev} (h:ExLe Q e E) {τ:Env} {l U:List (Nat × Value)} {G:GS} (hU:UOk τ U):Ref (j123_2 true e (xq true 47 τ l U) G) (j123_2 false (Ex.of E) (xq false 47 τ l U) G):=by
 rw [xq_eq hU]
 exact mj123_2 h _ _
def jb123_3 (q:Bool) (e:Ex) (J0 J1 J2:Env → GS → OG) (τ:Env) (G:GS):OG :=
 bV q (τ 0) fun a0_ =>
 bV q (τ 1) fun a1_ =>
 bV q (τ 8) fun a8_ =>
 bV q (τ 23) fun a23_ =>
 ifV a23_ (
 bS (e.ev.cl 164 [a0_,a1_] G) fun x11 G12 =>
 J0 (xq q 47 τ [(28,x11),(27,a1_),(26,a0_)] []) G12) (
 bP (bn Q q .eql 3 (.tmp 8) (.const (.int .i64 9)) a8_ (.int .i64 9)) fun x20 =>
 ifV x20 (
 J2 (xq q 47 τ [(29,x20),(30,x20)] []) G) (
 bP (bn Q q .eql 3 (.tmp 8) (.const (.int .i64 91)) a8_ (.int .i64 91)) fun x21 =>
 J2 (xq q 47 τ [(29,x21),(31,x21),(29,x20),(30,x20)] []) G))
def j123_3 (q:Bool) (e:Ex) (τ:Env) (G:GS):OG:=jb123_3 q e (j123_0 q e) (j123_1 q e) (j123_2 q e) τ G
theorem mj123_3 {e:Ex} {E:Ev} (h:ExLe Q e E) (τ:Env) (G:GS):Ref (j123_3 true e τ G) (j123_3 false (Ex.of E) τ G):=by
 unfold j123_3 jb123_3
 have j0:=@mkj123_0 e E h
 have j1:=@mkj123_1 e E h
 have j2:=@mkj123_2 e E h
 exact Ref.gj
theorem mkj123_3 {e:Ex} {E:Ev} (h:ExLe Q e E) {τ:Env} {l U:List (Nat × Value)} {G:GS} (hU:UOk τ U):Ref (j123_3 true e (xq true 47 τ l U) G) (j123_3 false (Ex.of E) (xq false 47 τ l U) G):=by
 rw [xq_eq hU]
 exact mj123_3 h _ _
def jb123_4 (q:Bool) (e:Ex) (J0 J1 J2 J3:Env → GS → OG) (τ:Env) (G:GS):OG :=
 bV q (τ 0) fun a0_ =>
 bV q (τ 1) fun a1_ =>
 bV q (τ 8) fun a8_ =>
 bV q (τ 16) fun a16_ =>
 ifV a16_ (
 bS (e.ev.cl 163 [a0_,a1_] G) fun x9 G10 =>
 J0 (xq q 47 τ [(22,x9),(21,a1_),(20,a0_)] []) G10) (
 bP (bn Q q .eql 3 (.tmp 8) (.const (.int .i64 7)) a8_ (.int .i64 7)) fun x22 =>
 ifV x22 (
 J3 (xq q 47 τ [(23,x22),(24,x22)] []) G) (
 bP (bn Q q .eql 3 (.tmp 8) (.const (.int .i64 8)) a8_ (.int .i64 8)) fun x23 =>
 J3 (xq q 47 τ [(23,x23),(25,x23),(23,x22),(24,x22)] []) G))
def j123_4 (q:Bool) (e:Ex) (τ:Env) (G:GS):OG:=jb123_4 q e (j123_0 q e) (j123_1 q e) (j123_2 q e) (j123_3 q e) τ G
theorem mj123_4 {e:Ex} {E:Ev} (h:ExLe Q e E) (τ:Env) (G:GS):Ref (j123_4 true e τ G) (j123_4 false (Ex.of E) τ G):=by
 unfold j123_4 jb123_4
 have j0:=@mkj123_0 e E h
 have j1:=@mkj123_1 e E h
 have j2:=@mkj123_2 e E h
 have j3:=@mkj123_3 e E h
 exact Ref.gj
theorem mkj123_4 {e:Ex} {E:Ev} (h:ExLe Q e E) {τ:Env} {l U:List (Nat × Value)} {G:GS} (hU:UOk τ U):Ref (j123_4 true e (xq true 47 τ l U) G) (j123_4 false (Ex.of E) (xq false 47 τ l U) G):=by
 rw [xq_eq hU]
 exact mj123_4 h _ _
def jb123_5 (q:Bool) (e:Ex) (J0 J1 J2 J3 J4:Env → GS → OG) (τ:Env) (G:GS):OG :=
 bV q (τ 0) fun a0_ =>
 bV q (τ 1) fun a1_ =>
 bV q (τ 8) fun a8_ =>
 bV q (τ 9) fun a9_ =>
 ifV a9_ (
 bS (e.ev.cl 162 [a0_,a1_] G) fun x7 G8 =>
 J0 (xq q 47 τ [(15,x7),(14,a1_),(13,a0_)] []) G8) (
 bP (bn Q q .eql 3 (.tmp 8) (.const (.int .i64 4)) a8_ (.int .i64 4)) fun x24 =>
 ifV x24 (
 J4 (xq q 47 τ [(16,x24),(17,x24)] []) G) (
 bP (bn Q q .eql 3 (.tmp 8) (.const (.int .i64 5)) a8_ (.int .i64 5)) fun x25 =>
 ifV x25 (
 J4 (xq q 47 τ [(16,x25),(18,x25),(16,x24),(17,x24)] []) G) (
 bP (bn Q q .eql 3 (.tmp 8) (.const (.int .i64 6)) a8_ (.int .i64 6)) fun x26 =>
 J4 (xq q 47 τ [(16,x26),(19,x26),(16,x25),(18,x25),(16,x24),(17,x24)] []) G)))
def j123_5 (q:Bool) (e:Ex) (τ:Env) (G:GS):OG:=jb123_5 q e (j123_0 q e) (j123_1 q e) (j123_2 q e) (j123_3 q e) (j123_4 q e) τ G
theorem mj123_5 {e:Ex} {E:Ev} (h:ExLe Q e E) (τ:Env) (G:GS):Ref (j123_5 true e τ G) (j123_5 false (Ex.of E) τ G):=by
 unfold j123_5 jb123_5
 have j0:=@mkj123_0 e E h
 have j1:=@mkj123_1 e E h
 have j2:=@mkj123_2 e E h
 have j3:=@mkj123_3 e E h
 have j4:=@mkj123_4 e E h
 exact Ref.gj
theorem mkj123_5 {e:Ex} {E:Ev} (h:ExLe Q e E) {τ:Env} {l U:List (Nat × Value)} {G:GS} (hU:UOk τ U):Ref (j123_5 true e (xq true 47 τ l U) G) (j123_5 false (Ex.of E) (xq false 47 τ l U) G):=by
 rw [xq_eq hU]
 exact mj123_5 h _ _
def sb123 (q:Bool) (e:Ex) (J0 J1 J2 J3 J4 J5:Env → GS → OG) (v0 v1:Value) (G:GS):OG :=
 bP (pNil v0) fun x4 =>
 bP (fa Q q 198 2 14 x4) fun x5 =>
 bP (ld Q q 3 x5 G) fun x6 =>
 bP (bn Q q .eql 3 (.tmp 8) (.const (.int .i64 1)) x6 (.int .i64 1)) fun x27 =>
 ifV x27 (
 J5 (xq q 47 (nth undef [v0,v1]) [(9,x27),(10,x27),(8,x6),(7,x5),(6,x4),(5,v0),(4,(.bool false))] []) G) (
 bP (bn Q q .eql 3 (.tmp 8) (.const (.int .i64 2)) x6 (.int .i64 2)) fun x28 =>
 ifV x28 (
 J5 (xq q 47 (nth undef [v0,v1]) [(9,x28),(11,x28),(9,x27),(10,x27),(8,x6),(7,x5),(6,x4),(5,v0),(4,(.bool false))] []) G) (
 bP (bn Q q .eql 3 (.tmp 8) (.const (.int .i64 3)) x6 (.int .i64 3)) fun x29 =>
 J5 (xq q 47 (nth undef [v0,v1]) [(9,x29),(12,x29),(9,x28),(11,x28),(9,x27),(10,x27),(8,x6),(7,x5),(6,x4),(5,v0),(4,(.bool false))] []) G))
def s123 (q:Bool) (e:Ex) (v0 v1:Value) (G:GS):OG:=sb123 q e (j123_0 q e) (j123_1 q e) (j123_2 q e) (j123_3 q e) (j123_4 q e) (j123_5 q e) v0 v1 G
theorem m123 {e:Ex} {E:Ev} (h:ExLe Q e E) (v0 v1:Value) (G:GS):Ref (s123 true e v0 v1 G) (s123 false (Ex.of E) v0 v1 G):=by
 unfold s123 sb123
 have j0:=@mkj123_0 e E h
 have j1:=@mkj123_1 e E h
 have j2:=@mkj123_2 e E h
 have j3:=@mkj123_3 e E h
 have j4:=@mkj123_4 e E h
 have j5:=@mkj123_5 e E h
 exact Ref.gj
def jt123 (J0 J1 J2 J3 J4 J5:Env → GS → OG):JT (Value × GS) :=
 (.n none .e (.n (some (fun T G=>J0 (nth undef T) G)) (.n none .e (.n none (.n (some (fun T G=>J5 (nth undef T) G)) .e (.n none .e (.n (some (fun T G=>J4 (nth undef T) G)) .e (.n none .e (.n (some (fun T G=>J3 (nth undef T) G)) .e (.n none .e (.n (some (fun T G=>J2 (nth undef T) G)) .e (.n none .e (.n (some (fun T G=>J1 (nth undef T) G)) .e .e))))))))) .e)) .e))
theorem jr123_0 (orc:FuncId → Bool) (J0 J1 J2 J3 J4 J5:Env → GS → OG) (T:List Value) (G:GS):runC Q (evL Q orc) Tryz.f123.ntmps (jt123 J0 J1 J2 J3 J4 J5) (bodyOf Tryz.f123) (retE Q Tryz.f123.results.toList) [true] (nth undef T) G = jb123_0 false (Ex.of (E orc))  (nth undef T) G:=by kernel_rfl
theorem jr123_5 (orc:FuncId → Bool) (J0 J1 J2 J3 J4 J5:Env → GS → OG) (T:List Value) (G:GS):runC Q (evL Q orc) Tryz.f123.ntmps (jt123 J0 J1 J2 J3 J4 J5) (bodyOf Tryz.f123) (retE Q Tryz.f123.results.toList) [true,false,true,false] (nth undef T) G = jb123_5 false (Ex.of (E orc)) J0 J1 J2 J3 J4 (nth undef T) G:=by kernel_rfl
theorem jr123_4 (orc:FuncId → Bool) (J0 J1 J2 J3 J4 J5:Env → GS → OG) (T:List Value) (G:GS):runC Q (evL Q orc) Tryz.f123.ntmps (jt123 J0 J1 J2 J3 J4 J5) (bodyOf Tryz.f123) (retE Q Tryz.f123.results.toList) [true,false,true,false,true,true] (nth undef T) G = jb123_4 false (Ex.of (E orc)) J0 J1 J2 J3 (nth undef T) G:=by kernel_rfl
theorem jr123_3 (orc:FuncId → Bool) (J0 J1 J2 J3 J4 J5:Env → GS → OG) (T:List Value) (G:GS):runC Q (evL Q orc) Tryz.f123.ntmps (jt123 J0 J1 J2 J3 J4 J5) (bodyOf Tryz.f123) (retE Q Tryz.f123.results.toList) [true,false,true,false,true,true,true,true] (nth undef T) G = jb123_3 false (Ex.of (E orc)) J0 J1 J2 (nth undef T) G:=by kernel_rfl
theorem jr123_2 (orc:FuncId → Bool) (J0 J1 J2 J3 J4 J5:Env → GS → OG) (T:List Value) (G:GS):runC Q (evL Q orc) Tryz.f123.ntmps (jt123 J0 J1 J2 J3 J4 J5) (bodyOf Tryz.f123) (retE Q Tryz.f123.results.toList) [true,false,true,false,true,true,true,true,true,true] (nth undef T) G = jb123_2 false (Ex.of (E orc)) J0 J1 (nth undef T) G:=by kernel_rfl
theorem jr123_1 (orc:FuncId → Bool) (J0 J1 J2 J3 J4 J5:Env → GS → OG) (T:List Value) (G:GS):runC Q (evL Q orc) Tryz.f123.ntmps (jt123 J0 J1 J2 J3 J4 J5) (bodyOf Tryz.f123) (retE Q Tryz.f123.results.toList) [true,false,true,false,true,true,true,true,true,true,true,true] (nth undef T) G = jb123_1 false (Ex.of (E orc)) J0 (nth undef T) G:=by kernel_rfl
theorem jo123 (orc:FuncId → Bool):JOk Q orc Tryz.f123.ntmps (jt123 (j123_0 false (Ex.of (E orc))) (j123_1 false (Ex.of (E orc))) (j123_2 false (Ex.of (E orc))) (j123_3 false (Ex.of (E orc))) (j123_4 false (Ex.of (E orc))) (j123_5 false (Ex.of (E orc))) ) (bodyOf Tryz.f123) (retE Q Tryz.f123.results.toList) :=
 jOk Q orc (l:=[([true],(fun T G=>j123_0 false (Ex.of (E orc)) (nth undef T) G)),([true,false,true,false],(fun T G=>j123_5 false (Ex.of (E orc)) (nth undef T) G)),([true,false,true,false,true,true],(fun T G=>j123_4 false (Ex.of (E orc)) (nth undef T) G)),([true,false,true,false,true,true,true,true],(fun T G=>j123_3 false (Ex.of (E orc)) (nth undef T) G)),([true,false,true,false,true,true,true,true,true,true],(fun T G=>j123_2 false (Ex.of (E orc)) (nth undef T) G)),([true,false,true,false,true,true,true,true,true,true,true,true],(fun T G=>j123_1 false (Ex.of (E orc)) (nth undef T) G))]) (by kernel_rfl) (AllE.c (fun T G=>jr123_0 orc (j123_0 false (Ex.of (E orc))) (j123_1 false (Ex.of (E orc))) (j123_2 false (Ex.of (E orc))) (j123_3 false (Ex.of (E orc))) (j123_4 false (Ex.of (E orc))) (j123_5 false (Ex.of (E orc))) T G) (AllE.c (fun T G=>jr123_5 orc (j123_0 false (Ex.of (E orc))) (j123_1 false (Ex.of (E orc))) (j123_2 false (Ex.of (E orc))) (j123_3 false (Ex.of (E orc))) (j123_4 false (Ex.of (E orc))) (j123_5 false (Ex.of (E orc))) T G) (AllE.c (fun T G=>jr123_4 orc (j123_0 false (Ex.of (E orc))) (j123_1 false (Ex.of (E orc))) (j123_2 false (Ex.of (E orc))) (j123_3 false (Ex.of (E orc))) (j123_4 false (Ex.of (E orc))) (j123_5 false (Ex.of (E orc))) T G) (AllE.c (fun T G=>jr123_3 orc (j123_0 false (Ex.of (E orc))) (j123_1 false (Ex.of (E orc))) (j123_2 false (Ex.of (E orc))) (j123_3 false (Ex.of (E orc))) (j123_4 false (Ex.of (E orc))) (j123_5 false (Ex.of (E orc))) T G) (AllE.c (fun T G=>jr123_2 orc (j123_0 false (Ex.of (E orc))) (j123_1 false (Ex.of (E orc))) (j123_2 false (Ex.of (E orc))) (j123_3 false (Ex.of (E orc))) (j123_4 false (Ex.of (E orc))) (j123_5 false (Ex.of (E orc))) T G) (AllE.c (fun T G=>jr123_1 orc (j123_0 false (Ex.of (E orc))) (j123_1 false (Ex.of (E orc))) (j123_2 false (Ex.of (E orc))) (j123_3 false (Ex.of (E orc))) (j123_4 false (Ex.of (E orc))) (j123_5 false (Ex.of (E orc))) T G) (AllE.z)))))))
theorem je123 (orc:FuncId → Bool) (J0 J1 J2 J3 J4 J5:Env → GS → OG) (v0 v1:Value) (G:GS):sxC Q (evL Q orc) Tryz.f123.ntmps (jt123 J0 J1 J2 J3 J4 J5) (bodyOf Tryz.f123) (nth undef [v0,v1]) G (retE Q Tryz.f123.results.toList) = sb123 false (Ex.of (E orc)) J0 J1 J2 J3 J4 J5 v0 v1 G:=by kernel_rfl
theorem f123 {orc:FuncId → Bool} {e:Ex} (h:ExLe Q e (E orc)) (v0 v1:Value) (G:GS):Ref (s123 true e v0 v1 G) ((E orc).cl 123 [v0,v1] G) :=
 fun r hr=>cl_sxC Q orc (vs:=[v0,v1]) G (jt123 (j123_0 false (Ex.of (E orc))) (j123_1 false (Ex.of (E orc))) (j123_2 false (Ex.of (E orc))) (j123_3 false (Ex.of (E orc))) (j123_4 false (Ex.of (E orc))) (j123_5 false (Ex.of (E orc))) ) Tryz.func123 (by kernel_rfl) (by kernel_rfl) (by kernel_rfl) (by kernel_rfl) (by kernel_rfl) (jo123 orc) (je123 orc (j123_0 false (Ex.of (E orc))) (j123_1 false (Ex.of (E orc))) (j123_2 false (Ex.of (E orc))) (j123_3 false (Ex.of (E orc))) (j123_4 false (Ex.of (E orc))) (j123_5 false (Ex.of (E orc))) v0 v1 G) (m123 h v0 v1 G r hr)
def s124 (q:Bool) (e:Ex) (v0:Value) (G:GS):OG :=
 nl q 198 11 24 23 v0 G fun x2 =>
 some (x2,G)
theorem f124 (h:ExLe Q e (E orc)) (v0:Value) (G:GS):Ref (s124 true e v0 G) ((E orc).cl 124 [v0] G):=cS (S:=fun q e=>s124 q e v0 G) Tryz.func124 (by unfold s124; exact Ref.gq)
def s125 (q:Bool) (e:Ex) (v0 v1:Value) (G:GS):OG :=
 nf q 149 2 14 v0 fun x1 =>
 bP (st Q q 3 1 x1 v1 G) fun G2 =>
 nf q 149 0 0 v0 fun x4 =>
 bP (fa Q q 45 3 3 x4) fun x5 =>
 bP (fa Q q 43 1 6 x5) fun x6 =>
 bP (lda Q q 41 3 x6 (G2.room 15)) fun x7 =>
 nl q 149 1 13 3 v0 (G2.room 15) fun x10 =>
 bS (e.ev.cl 167 [x7,x10] (G2.room 15)) fun x12 G11 =>
 nf q 149 5 17 v0 fun x14 =>
 bP (st Q q 147 1 x14 x12 G11) fun G15 =>
 some (.tuple #[],G15)
theorem f125 (h:ExLe Q e (E orc)) (v0 v1:Value) (G:GS):Ref (s125 true e v0 v1 G) ((E orc).cl 125 [v0,v1] G):=cS (S:=fun q e=>s125 q e v0 v1 G) Tryz.func125 (by unfold s125; exact Ref.gq)
def jb126_0 (q:Bool) (e:Ex) (τ:Env) (G:GS):OG :=
 bV q (τ 0) fun a0_ =>
 nl q 264 2 4 3 a0_ G fun x2 =>
 bP (bn Q q .eql 3 (.tmp 28) (.const (.int .i64 9)) x2 (.int .i64 9)) fun x3 =>
 some (x3,G)
def j126_0 (q:Bool) (e:Ex) (τ:Env) (G:GS):OG:=jb126_0 q e τ G
theorem mj126_0 {e:Ex} {E:Ev} (h:ExLe Q e E) (τ:Env) (G:GS):Ref (j126_0 true e τ G) (j126_0 false (Ex.of E) τ G):=by
 unfold j126_0 jb126_0
 exact Ref.gq
theorem mkj126_0 {e:Ex} {E:Ev} (h:ExLe Q e E) {τ:Env} {l U:List (Nat × Value)} {G:GS} (hU:UOk τ U):Ref (j126_0 true e (xq true 30 τ l U) G) (j126_0 false (Ex.of E) (xq false 30 τ l U) G):=by
 rw [xq_eq hU]
 exact mj126_0 h _ _
def sb126 (q:Bool) (e:Ex) (J0:Env → GS → OG) (v0 v1:Value) (G:GS):OG :=
 bP (pNil v0) fun x4 =>
 bP (fa Q q 264 2 4 x4) fun x5 =>
 bP (ld Q q 3 x5 G) fun x6 =>
 bP (bn Q q .eql 3 (.tmp 8) (.const (.int .i64 1)) x6 (.int .i64 1)) fun x7 =>
 ifV x7 (
 bP (pNil v0) fun x8 =>
 bP (fa Q q 264 0 0 x8) fun x9 =>
 bP (fa Q q 41 1 1 x9) fun x10 =>
 bP (ld Q q 3 x10 (G.room 12)) fun x11 =>
 bP (pNil v0) fun x12 =>
 bP (fa Q q 264 1 3 x12) fun x13 =>
 bP (ld Q q 3 x13 (G.room 12)) fun x14 =>
 bP (bn Q q .add 3 (.tmp 15) (.tmp 19) x11 x14) fun x15 =>
 bS (e.ev.cl 35 [v1,x15,(.int .u64 0)] (G.room 12)) fun x17 G16 =>
 bP (pNil v0) fun x18 =>
 bP (fa Q q 264 2 4 x18) fun x19 =>
 bP (st Q q 3 1 x19 (.int .i64 9) G16) fun G20 =>
 J0 (xq q 30 (nth undef [v0,v1]) [(24,x19),(23,x18),(22,v0),(21,x17),(20,x15),(19,x14),(18,x13),(17,x12),(16,v0),(15,x11),(14,x10),(13,x9),(12,x8),(11,v0),(10,v1),(9,x7),(8,x6),(7,x5),(6,x4),(5,v0),(4,(.bool false))] []) G20) (
 J0 (xq q 30 (nth undef [v0,v1]) [(9,x7),(8,x6),(7,x5),(6,x4),(5,v0),(4,(.bool false))] []) G)
def s126 (q:Bool) (e:Ex) (v0 v1:Value) (G:GS):OG:=sb126 q e (j126_0 q e) v0 v1 G
theorem m126 {e:Ex} {E:Ev} (h:ExLe Q e E) (v0 v1:Value) (G:GS):Ref (s126 true e v0 v1 G) (s126 false (Ex.of E) v0 v1 G):=by
 unfold s126 sb126
 have j0:=@mkj126_0 e E h
 exact Ref.gj
def jt126 (J0:Env → GS → OG):JT (Value × GS) :=
 (.n none .e (.n (some (fun T G=>J0 (nth undef T) G)) .e .e))
theorem jr126_0 (orc:FuncId → Bool) (J0:Env → GS → OG) (T:List Value) (G:GS):runC Q (evL Q orc) Tryz.f126.ntmps (jt126 J0) (bodyOf Tryz.f126) (retE Q Tryz.f126.results.toList) [true] (nth undef T) G = jb126_0 false (Ex.of (E orc))  (nth undef T) G:=by kernel_rfl
theorem jo126 (orc:FuncId → Bool):JOk Q orc Tryz.f126.ntmps (jt126 (j126_0 false (Ex.of (E orc))) ) (bodyOf Tryz.f126) (retE Q Tryz.f126.results.toList) :=
 jOk Q orc (l:=[([true],(fun T G=>j126_0 false (Ex.of (E orc)) (nth undef T) G))]) (by kernel_rfl) (AllE.c (fun T G=>jr126_0 orc (j126_0 false (Ex.of (E orc))) T G) (AllE.z))
theorem je126 (orc:FuncId → Bool) (J0:Env → GS → OG) (v0 v1:Value) (G:GS):sxC Q (evL Q orc) Tryz.f126.ntmps (jt126 J0) (bodyOf Tryz.f126) (nth undef [v0,v1]) G (retE Q Tryz.f126.results.toList) = sb126 false (Ex.of (E orc)) J0 v0 v1 G:=by kernel_rfl
theorem f126 {orc:FuncId → Bool} {e:Ex} (h:ExLe Q e (E orc)) (v0 v1:Value) (G:GS):Ref (s126 true e v0 v1 G) ((E orc).cl 126 [v0,v1] G) :=
 fun r hr=>cl_sxC Q orc (vs:=[v0,v1]) G (jt126 (j126_0 false (Ex.of (E orc))) ) Tryz.func126 (by kernel_rfl) (by kernel_rfl) (by kernel_rfl) (by kernel_rfl) (by kernel_rfl) (jo126 orc) (je126 orc (j126_0 false (Ex.of (E orc))) v0 v1 G) (m126 h v0 v1 G r hr)
def s127 (q:Bool) (e:Ex) (v0:Value) (G:GS):OG :=
 bS (al Q q 120 z120 G) fun x0 G1 =>
 nf q 152 0 0 v0 fun x3 =>
 fl q 149 2 14 3 x3 G1 fun x5 =>
 bP (bn Q q .neq 3 (.tmp 8) (.const (.int .i64 9)) x5 (.int .i64 9)) fun x6 =>
 ifV x6 (
 bP (bd Q q 120 z120 [] []) fun x7 =>
 bP (st Q q 120 2 x0 x7 G1) fun G8 =>
 bP (lda Q q 120 2 x0 G8) fun x9 =>
 some (.tuple #[x9,(.int .i64 14)],G8)) (
 nf q 152 0 0 v0 fun x11 =>
 fl q 149 7 19 51 x11 G1 fun x13 =>
 bP (bn Q q .neq 51 (.tmp 15) (.const (.int .i64 0)) x13 (.int .i64 0)) fun x14 =>
 ifV x14 (
 bP (bd Q q 120 z120 [] []) fun x15 =>
 nf q 152 0 0 v0 fun x17 =>
 bP (fa Q q 149 7 19 x17) fun x18 =>
 bP (ld Q q 51 x18 (G1.room 8)) fun x19 =>
 bP (st Q q 120 2 x0 x15 (G1.room 8)) fun G20 =>
 chk ((sameO (ld Q q 51 x18 G20) x19 && true)) <|
 bP (lda Q q 120 2 x0 G20) fun x21 =>
 some (.tuple #[x21,x19],G20)) (
 nl q 152 1 20 150 v0 G1 fun x24 =>
 nf q 200 0 0 x24 fun x26 =>
 bS (e.ev.cl 168 [x26] G1) fun x27 G28 =>
 bP (pExtract x27 0) fun x29 =>
 bP (pExtract x27 1) fun x30 =>
 bP (st Q q 120 2 x0 x29 G28) fun G31 =>
 bP (lda Q q 120 2 x0 G31) fun x32 =>
 some (.tuple #[x32,x30],G31)))
theorem f127 (h:ExLe Q e (E orc)) (v0:Value) (G:GS):Ref (s127 true e v0 G) ((E orc).cl 127 [v0] G):=cS (S:=fun q e=>s127 q e v0 G) Tryz.func127 (by unfold s127; exact Ref.gq)
def s138 (q:Bool) (e:Ex) (v0:Value) (G:GS):OG :=
 bS (bx q v0 G) fun x0 G1 =>
 bP (fa Q q 39 0 0 x0) fun x2 =>
 fl q 37 2 2 3 x2 G1 fun x4 =>
 bP (bn Q q .geq 3 (.tmp 5) (.const (.int .i64 1)) x4 (.int .i64 1)) fun x5 =>
 bS (gP x5 true (fa Q q 39 0 0 x0) G1) fun x6 G7 =>
 bS (gP x5 true (fa Q q 37 2 2 x6) G7) fun x8 G9 =>
 bS (gP x5 true (ld Q q 3 x8 G9) G9) fun x10 G11 =>
 bS (gP x5 true (bn Q q .leq 3 (.tmp 10) (.const (.int .i64 4096)) x10 (.int .i64 4096)) G11) fun x12 G13 =>
 bP (pickV x5 x12 (.bool false)) fun x14 =>
 some (x14,G13)
theorem f138 (h:ExLe Q e (E orc)) (v0:Value) (G:GS):Ref (s138 true e v0 G) ((E orc).cl 138 [v0] G):=cS (S:=fun q e=>s138 q e v0 G) Tryz.func138 (by unfold s138; exact Ref.gq)
def jbl139_0_0 (q:Bool) (e:Ex) (lp:LpF) (τ:Env) (G:GS):OL :=
 bV q (τ 1) fun a1_ =>
 bV q (τ 2) fun a2_ =>
 bV q (τ 4) fun a4_ =>
 bV q (τ 5) fun a5_ =>
 bV q (τ 15) fun a15_ =>
 bV q (τ 16) fun a16_ =>
 bP (fa Q q 37 1 1 a2_) fun x2 =>
 bP (ld Q q 3 x2 (G.room 8)) fun x3 =>
 bP (bn Q q .add 3 (.tmp 27) (.tmp 28) x3 a4_) fun x4 =>
 bS (e.ev.cl 175 [a5_] (G.room 8)) fun x6 G5 =>
 chk ((sameO (ld Q q 3 x2 G5) x3 && true)) <|
 bS (e.ev.cl 23 [a1_,x4,x6] G5) fun x8 G7 =>
 bP (bn Q q .add 3 (.tmp 16) (.const (.int .i64 1)) a16_ (.int .i64 1)) fun x9 =>
 lp (xq q 34 τ [(16,x9),(33,x9),(32,x8),(31,x6),(30,a5_),(29,x4),(28,a4_),(27,x3),(26,x2),(25,a1_)] [(1,a1_),(2,a2_),(4,a4_),(5,a5_),(15,a15_)]) G7
def jl139_0_0 (q:Bool) (e:Ex) (lp:LpF) (τ:Env) (G:GS):OL:=jbl139_0_0 q e lp τ G
theorem mjl139_0_0 {e:Ex} {E:Ev} (h:ExLe Q e E) {lp lp':LpF} (hlp:LpLe lp lp') (τ:Env) (G:GS):Ref (jl139_0_0 true e lp τ G) (jl139_0_0 false (Ex.of E) lp' τ G):=by
 unfold jl139_0_0 jbl139_0_0
 exact Ref.gq
theorem mkjl139_0_0 {e:Ex} {E:Ev} (h:ExLe Q e E) {lp lp':LpF} (hlp:LpLe lp lp') {τ:Env} {l U:List (Nat × Value)} {G:GS} (hU:UOk τ U):Ref (jl139_0_0 true e lp (xq true 34 τ l U) G) (jl139_0_0 false (Ex.of E) lp' (xq false 34 τ l U) G):=by
 rw [xq_eq hU]
 exact mjl139_0_0 h hlp _ _
def bb139_0 (q:Bool) (e:Ex) (lp:LpF) (J0:LpF) (τ:Env) (G:GS):OL :=
 bV q (τ 1) fun a1_ =>
 bV q (τ 2) fun a2_ =>
 bV q (τ 4) fun a4_ =>
 bV q (τ 5) fun a5_ =>
 bV q (τ 15) fun a15_ =>
 bV q (τ 16) fun a16_ =>
 bP (bn Q q .lss 3 (.tmp 16) (.tmp 15) a16_ a15_) fun x0 =>
 ifV x0 (
 bP (bn Q q .add 3 (.tmp 19) (.const (.int .i64 1)) a16_ (.int .i64 1)) fun x1 =>
 bP (fa Q q 37 2 2 a2_) fun x10 =>
 bP (ld Q q 3 x10 G) fun x11 =>
 bP (bn Q q .eql 3 (.tmp 21) (.tmp 23) x1 x11) fun x12 =>
 ifV x12 (
 J0 (xq q 34 τ [(5,(.int .i64 (-1))),(24,x12),(23,x11),(22,x10),(21,x1),(5,x1),(20,x1),(19,a16_),(4,a16_),(18,a16_),(17,x0)] [(1,a1_),(2,a2_),(15,a15_),(16,a16_)]) G) (
 J0 (xq q 34 τ [(24,x12),(23,x11),(22,x10),(21,x1),(5,x1),(20,x1),(19,a16_),(4,a16_),(18,a16_),(17,x0)] [(1,a1_),(2,a2_),(15,a15_),(16,a16_)]) G)) (
 some ((.exit 0),xq q 34 τ [(17,x0)] [(1,a1_),(2,a2_),(4,a4_),(5,a5_),(15,a15_),(16,a16_)],G))
def b139_0 (q:Bool) (e:Ex) (lp:LpF) (τ:Env) (G:GS):OL:=bb139_0 q e lp (jl139_0_0 q e lp) τ G
theorem mb139_0 {e:Ex} {E:Ev} (h:ExLe Q e E) {lp lp':LpF} (hlp:LpLe lp lp') (τ:Env) (G:GS):Ref (b139_0 true e lp τ G) (b139_0 false (Ex.of E) lp' τ G):=by
 unfold b139_0 bb139_0
 have j0:=@mkjl139_0_0 e E h lp lp' hlp
 exact Ref.gj
def jtl139_0 (J0:LpF):JT (Exit × Env × GS) :=
 (.n none .e (.n none .e (.n none (.n none (.n none .e (.n none .e (.n (some (fun T G=>J0 (nth undef T) G)) .e .e))) .e) .e)))
theorem jrl139_0_0 (orc:FuncId → Bool) (J0:LpF) (T:List Value) (G:GS):runC Q (evL Q orc) 34 (jtl139_0 J0) (subAt [1,1,1,1,0,0] (bodyOf Tryz.f139)) (seqXE (fun τ G'=>mapE ((E orc).lp (subAt [1,1,1,1,0,0] (bodyOf Tryz.f139)) (lst 34 (nth undef (lst 34 τ))) G')) fun e τ G'=>some (e,nth undef (lst 34 τ),G')) [true,true,false,false,true,true] (nth undef T) G = jbl139_0_0 false (Ex.of (E orc)) (fun τ G=>mapE ((E orc).lp (subAt [1,1,1,1,0,0] (bodyOf Tryz.f139)) (lst 34 τ) G))  (nth undef T) G:=by kernel_rfl
theorem jol139_0 (orc:FuncId → Bool):JOk Q orc 34 (jtl139_0 (jl139_0_0 false (Ex.of (E orc)) (fun τ G=>mapE ((E orc).lp (subAt [1,1,1,1,0,0] (bodyOf Tryz.f139)) (lst 34 τ) G))) ) (subAt [1,1,1,1,0,0] (bodyOf Tryz.f139)) (seqXE (fun τ G'=>mapE ((E orc).lp (subAt [1,1,1,1,0,0] (bodyOf Tryz.f139)) (lst 34 (nth undef (lst 34 τ))) G')) fun e τ G'=>some (e,nth undef (lst 34 τ),G')) :=
 jOk Q orc (l:=[([true,true,false,false,true,true],(fun T G=>jl139_0_0 false (Ex.of (E orc)) (fun τ G=>mapE ((E orc).lp (subAt [1,1,1,1,0,0] (bodyOf Tryz.f139)) (lst 34 τ) G)) (nth undef T) G))]) (by kernel_rfl) (AllE.c (fun T G=>jrl139_0_0 orc (jl139_0_0 false (Ex.of (E orc)) (fun τ G=>mapE ((E orc).lp (subAt [1,1,1,1,0,0] (bodyOf Tryz.f139)) (lst 34 τ) G))) T G) (AllE.z))
theorem jel139_0 (orc:FuncId → Bool) (J0:LpF) (T:List Value) (G:GS):sxC Q (evL Q orc) 34 (jtl139_0 J0) (subAt [1,1,1,1,0,0] (bodyOf Tryz.f139)) (nth undef T) G (seqXE (fun τ G'=>mapE ((E orc).lp (subAt [1,1,1,1,0,0] (bodyOf Tryz.f139)) (lst 34 (nth undef (lst 34 τ))) G')) fun e τ G'=>some (e,nth undef (lst 34 τ),G')) = bb139_0 false (Ex.of (E orc)) (fun τ G=>mapE ((E orc).lp (subAt [1,1,1,1,0,0] (bodyOf Tryz.f139)) (lst 34 τ) G)) J0 (nth undef T) G:=by kernel_rfl
theorem l139_0 {orc:FuncId → Bool} {e:Ex} (h:ExLe Q e (E orc)) (lp:LpF) (hlp:∀ τ G,Ref (lp τ G) (mapE ((E orc).lp (subAt [1,1,1,1,0,0] (bodyOf Tryz.f139)) (lst 34 τ) G))) (T:List Value) (G:GS) (hT:T.length = 34):Ref (b139_0 true e lp (nth undef T) G) (mapE ((E orc).lp (subAt [1,1,1,1,0,0] (bodyOf Tryz.f139)) T G)) :=
 fun r hr=>lp_sxC Q orc G (jtl139_0 (jl139_0_0 false (Ex.of (E orc)) (fun τ G=>mapE ((E orc).lp (subAt [1,1,1,1,0,0] (bodyOf Tryz.f139)) (lst 34 τ) G))) ) hT (jol139_0 orc) (jel139_0 orc (jl139_0_0 false (Ex.of (E orc)) (fun τ G=>mapE ((E orc).lp (subAt [1,1,1,1,0,0] (bodyOf Tryz.f139)) (lst 34 τ) G))) T G) (mb139_0 h ⟨hlp⟩ _ _ r hr)
def s139 (q:Bool) (e:Ex) (v0 v1:Value) (G:GS):OG :=
 bS (bx q v0 G) fun x0 G1 =>
 bP (lda Q q 37 3 x0 G1) fun x2 =>
 bS (e.ev.cl 174 [x2] G1) fun x3 G4 =>
 bP (un Q q .not x3) fun x5 =>
 ifV x5 (
 some (.tuple #[],G4)) (
 bP (fa Q q 37 0 0 x0) fun x6 =>
 bP (ld Q q 3 x6 (G4.room 5)) fun x7 =>
 bS (e.ev.cl 175 [(.int .i64 0)] (G4.room 5)) fun x9 G8 =>
 chk ((sameO (ld Q q 3 x6 G8) x7 && true)) <|
 bS (e.ev.cl 23 [v1,x7,x9] G8) fun x11 G10 =>
 bP (fa Q q 37 2 2 x0) fun x12 =>
 bP (ld Q q 3 x12 G10) fun x13 =>
 bLq q e 139 0 (subAt [1,1,1,1,0,0] (bodyOf Tryz.f139)) 34 (nth undef [v0,v1]) [(16,(.int .i64 0)),(15,x13),(14,x12),(13,x11),(12,x9),(11,x7),(10,x6),(9,v1),(8,x5),(7,x3),(6,x2),(2,x0)] [] G10 fun e14 t15 G16 =>
 ifE e14 (.exit 0) (
 some (.tuple #[],G16)) (none))
theorem f139 (h:ExLe Q e (E orc)) (v0 v1:Value) (G:GS):Ref (s139 true e v0 v1 G) ((E orc).cl 139 [v0,v1] G):=cS (S:=fun q e=>s139 q e v0 v1 G) Tryz.func139 (by unfold s139; exact Ref.gq)
def s140 (q:Bool) (e:Ex) (v0:Value) (G:GS):OG :=
 bS (bx q v0 G) fun x0 G1 =>
 fl q 41 2 2 3 x0 G1 fun x3 =>
 bP (bn Q q .geq 3 (.tmp 4) (.const (.int .i64 1)) x3 (.int .i64 1)) fun x4 =>
 bS (gP x4 true (fa Q q 41 2 2 x0) G1) fun x5 G6 =>
 bS (gP x4 true (ld Q q 3 x5 G6) G6) fun x7 G8 =>
 bS (gP x4 true (bn Q q .leq 3 (.tmp 8) (.const (.int .i64 64)) x7 (.int .i64 64)) G8) fun x9 G10 =>
 bP (pickV x4 x9 (.bool false)) fun x11 =>
 some (x11,G10)
theorem f140 (h:ExLe Q e (E orc)) (v0:Value) (G:GS):Ref (s140 true e v0 G) ((E orc).cl 140 [v0] G):=cS (S:=fun q e=>s140 q e v0 G) Tryz.func140 (by unfold s140; exact Ref.gq)
def s141 (q:Bool) (e:Ex) (v0:Value) (G:GS):OG :=
 bS (bx q v0 G) fun x0 G1 =>
 some ((.func (.func 176) #[] #[x0]),G1)
theorem f141 (h:ExLe Q e (E orc)) (v0:Value) (G:GS):Ref (s141 true e v0 G) ((E orc).cl 141 [v0] G):=cS (S:=fun q e=>s141 q e v0 G) Tryz.func141 (by unfold s141; exact Ref.gq)
def s142 (q:Bool) (e:Ex) (v0 v1 v2:Value) (G:GS):OG :=
 bS (bx q v0 G) fun x0 G1 =>
 bP (lda Q q 45 13 x0 G1) fun x2 =>
 bS (e.ev.cl 56 [x2] G1) fun x3 G4 =>
 bP (un Q q .not x3) fun x5 =>
 ifV x5 (
 some ((.int .i64 (-1)),G4)) (
 bP (bn Q q .neq 3 (.tmp 12) (.const (.int .i64 (-1))) v1 (.int .i64 (-1))) fun x6 =>
 ifV x6 (
 bP (lda Q q 45 13 x0 G4) fun x7 =>
 bS (e.ev.cl 177 [x7] G4) fun x8 G9 =>
 bS (e.ev.cl 178 [x8,v1,v2] G9) fun x10 G11 =>
 some (x10,G11)) (
 bP (bn Q q .lss 3 (.tmp 20) (.const (.int .i64 4)) v2 (.int .i64 4)) fun x12 =>
 bS (gV x12 false v2 G4) fun x13 G14 =>
 bS (gP x12 false (fa Q q 45 2 2 x0) G14) fun x15 G16 =>
 bS (gP x12 false (ld Q q 3 x15 G16) G16) fun x17 G18 =>
 bS (gP x12 false (bn Q q .add 3 (.const (.int .i64 4)) (.tmp 25) (.int .i64 4) x17) G18) fun x19 G20 =>
 bS (gP x12 false (bn Q q .geq 3 (.tmp 23) (.tmp 26) x13 x19) G20) fun x21 G22 =>
 bP (pickV x12 (.bool true) x21) fun x23 =>
 ifV x23 (
 some ((.int .i64 (-1)),G22)) (
 bP (lda Q q 45 13 x0 G22) fun x24 =>
 bS (e.ev.cl 179 [x24] G22) fun x25 G26 =>
 bP (bn Q q .sub 3 (.tmp 31) (.const (.int .i64 4)) v2 (.int .i64 4)) fun x27 =>
 bS (e.ev.cl 180 [x25,(.int .i64 0),x27] G26) fun x28 G29 =>
 some (x28,G29))))
theorem f142 (h:ExLe Q e (E orc)) (v0 v1 v2:Value) (G:GS):Ref (s142 true e v0 v1 v2 G) ((E orc).cl 142 [v0,v1,v2] G):=cS (S:=fun q e=>s142 q e v0 v1 v2 G) Tryz.func142 (by unfold s142; exact Ref.gq)
def s143 (q:Bool) (e:Ex) (v0:Value) (G:GS):OG :=
 bP (ld Q q 187 v0 (G.room 12)) fun x0 =>
 nf q 166 0 0 x0 fun x2 =>
 bP (fa Q q 45 3 3 x2) fun x3 =>
 bP (fa Q q 43 1 6 x3) fun x4 =>
 bP (lda Q q 41 3 x4 (G.room 12)) fun x5 =>
 bP (ld Q q 187 v0 (G.room 12)) fun x6 =>
 nl q 166 1 13 3 x6 (G.room 12) fun x9 =>
 bS (e.ev.cl 144 [x5,x9] (G.room 12)) fun x11 G10 =>
 some (x11,G10)
theorem f143 (h:ExLe Q e (E orc)) (v0:Value) (G:GS):Ref (s143 true e v0 G) ((E orc).cl 143 [v0] G):=cS (S:=fun q e=>s143 q e v0 G) Tryz.func143 (by unfold s143; exact Ref.gq)
def s144 (q:Bool) (e:Ex) (v0 v1:Value) (G:GS):OG :=
 bS (bx q v0 G) fun x0 G1 =>
 bP (bd Q q 282 z282 [(2,4,1)] [(.bool true)]) fun x2 =>
 bP (lda Q q 41 3 x0 G1) fun x3 =>
 bP (bd Q q 285 z285 [(0,0,6),(1,6,3)] [x2,x3]) fun x4 =>
 bS (bx q x4 G1) fun x5 G6 =>
 bP (lda Q q 41 3 x0 G6) fun x7 =>
 bS (e.ev.cl 181 [x7,v1] G6) fun x8 G9 =>
 ifV x8 (
 nf q 285 0 0 x5 fun x11 =>
 bS (e.ev.cl 182 [x11,(.int .i64 3)] G9) fun x12 G13 =>
 some (x5,G13)) (
 fl q 41 1 1 3 x0 G9 fun x15 =>
 bP (bn Q q .add 3 (.tmp 20) (.tmp 21) x15 v1) fun x16 =>
 nf q 285 2 9 x5 fun x18 =>
 bP (st Q q 3 1 x18 x16 G9) fun G19 =>
 bP (bd Q q 280 z280 [(0,0,1),(1,1,1),(2,2,1)] [(.func (.func 183) #[x5] #[]),(.func (.func 184) #[x5] #[]),(.func (.func 185) #[x5] #[])]) fun x20 =>
 nf q 285 0 0 x5 fun x22 =>
 bP (fa Q q 282 0 0 x22) fun x23 =>
 bP (st Q q 280 3 x23 x20 G19) fun G24 =>
 some (x5,G24))
theorem f144 (h:ExLe Q e (E orc)) (v0 v1:Value) (G:GS):Ref (s144 true e v0 v1 G) ((E orc).cl 144 [v0,v1] G):=cS (S:=fun q e=>s144 q e v0 v1 G) Tryz.func144 (by unfold s144; exact Ref.gq)
def s145 (q:Bool) (e:Ex) (v0 v1:Value) (G:GS):OG :=
 bP (ld Q q 187 v1 (G.room 9)) fun x0 =>
 bS (e.ev.cl 146 [v0] (G.room 9)) fun x2 G1 =>
 chk ((sameO (ld Q q 187 v1 G1) x0 && true)) <|
 bP (pExtract x2 0) fun x3 =>
 bP (pExtract x2 1) fun x4 =>
 nf q 166 3 15 x0 fun x6 =>
 bP (st Q q 3 1 x6 x3 G1) fun G7 =>
 some (.tuple #[],G7)
theorem f145 (h:ExLe Q e (E orc)) (v0 v1:Value) (G:GS):Ref (s145 true e v0 v1 G) ((E orc).cl 145 [v0,v1] G):=cS (S:=fun q e=>s145 q e v0 v1 G) Tryz.func145 (by unfold s145; exact Ref.gq)
def s146 (q:Bool) (e:Ex) (v0:Value) (G:GS):OG :=
 bP (ep Q q false 221 (.tmp 5) (.const (.pointer none)) v0 (.pointer none)) fun x0 =>
 ifV x0 (
 some (.tuple #[(.int .i64 0),(.int .i64 1)],G)) (
 nf q 285 0 0 v0 fun x2 =>
 bS (e.ev.cl 186 [x2] G) fun x3 G4 =>
 bP (bn Q q .neq 51 (.tmp 11) (.const (.int .i64 0)) x3 (.int .i64 0)) fun x5 =>
 ifV x5 (
 some (.tuple #[(.int .i64 0),x3],G4)) (
 nl q 285 3 10 283 v0 G4 fun x8 =>
 bP (cv Q q 283 3 .u32 .i64 x8) fun x9 =>
 some (.tuple #[x9,(.int .i64 0)],G4)))
theorem f146 (h:ExLe Q e (E orc)) (v0:Value) (G:GS):Ref (s146 true e v0 G) ((E orc).cl 146 [v0] G):=cS (S:=fun q e=>s146 q e v0 G) Tryz.func146 (by unfold s146; exact Ref.gq)
def s150 (q:Bool) (e:Ex) (v0:Value) (G:GS):OG :=
 bS (bx q v0 G) fun x0 G1 =>
 bS (al Q q 243 z243 G1) fun x2 G3 =>
 bP (lda Q q 45 13 x0 G3) fun x4 =>
 bS (e.ev.cl 194 [x4,(.int .i64 (-1)),(.int .i64 0)] G3) fun x5 G6 =>
 bP (bn Q q .lss 3 (.tmp 4) (.const (.int .i64 0)) x5 (.int .i64 0)) fun x7 =>
 ifV x7 (
 bP (bd Q q 243 z243 [(8,20,1),(2,13,1),(9,21,1)] [(.bool true),(.int .i64 99),(.int .i64 2)]) fun x8 =>
 bP (st Q q 243 22 x2 x8 G6) fun G9 =>
 bP (lda Q q 243 22 x2 G9) fun x10 =>
 some (x10,G9)) (
 bP (lda Q q 45 13 x0 G6) fun x11 =>
 bP (bd Q q 243 z243 [(0,0,13),(8,20,1),(2,13,1)] [x11,(.bool true),(.int .i64 1)]) fun x12 =>
 bP (st Q q 243 22 x2 x12 G6) fun G13 =>
 bP (lda Q q 243 22 x2 G13) fun x14 =>
 some (x14,G13))
theorem f150 (h:ExLe Q e (E orc)) (v0:Value) (G:GS):Ref (s150 true e v0 G) ((E orc).cl 150 [v0] G):=cS (S:=fun q e=>s150 q e v0 G) Tryz.func150 (by unfold s150; exact Ref.gq)
def s151 (q:Bool) (e:Ex) (v0:Value) (G:GS):OG :=
 bS (al Q q 120 z120 G) fun x0 G1 =>
 nl q 243 8 20 4 v0 G1 fun x4 =>
 bP (un Q q .not x4) fun x5 =>
 ifV x5 (
 bP (bd Q q 120 z120 [] []) fun x6 =>
 bP (st Q q 120 2 x0 x6 G1) fun G7 =>
 bP (lda Q q 120 2 x0 G7) fun x8 =>
 some (.tuple #[x8,(.int .i64 1)],G7)) (
 nl q 243 2 13 3 v0 G1 fun x11 =>
 bP (bn Q q .neq 3 (.tmp 15) (.const (.int .i64 99)) x11 (.int .i64 99)) fun x12 =>
 ifV x12 (
 bP (bd Q q 120 z120 [] []) fun x13 =>
 bP (st Q q 120 2 x0 x13 G1) fun G14 =>
 bP (lda Q q 120 2 x0 G14) fun x15 =>
 some (.tuple #[x15,(.int .i64 14)],G14)) (
 nl q 243 9 21 51 v0 G1 fun x18 =>
 bP (bn Q q .neq 51 (.tmp 22) (.const (.int .i64 0)) x18 (.int .i64 0)) fun x19 =>
 ifV x19 (
 bP (bd Q q 120 z120 [] []) fun x20 =>
 nf q 243 9 21 v0 fun x22 =>
 bP (ld Q q 51 x22 (G1.room 7)) fun x23 =>
 bP (st Q q 120 2 x0 x20 (G1.room 7)) fun G24 =>
 chk ((sameO (ld Q q 51 x22 G24) x23 && true)) <|
 bP (lda Q q 120 2 x0 G24) fun x25 =>
 some (.tuple #[x25,x23],G24)) (
 nf q 243 6 17 v0 fun x27 =>
 bP (lda Q q 120 2 x27 G1) fun x28 =>
 bP (st Q q 120 2 x0 x28 G1) fun G29 =>
 bP (lda Q q 120 2 x0 G29) fun x30 =>
 some (.tuple #[x30,(.int .i64 0)],G29))))
theorem f151 (h:ExLe Q e (E orc)) (v0:Value) (G:GS):Ref (s151 true e v0 G) ((E orc).cl 151 [v0] G):=cS (S:=fun q e=>s151 q e v0 G) Tryz.func151 (by unfold s151; exact Ref.gq)
def s152 (q:Bool) (e:Ex) (v0:Value) (G:GS):OG :=
 bP (ld Q q 187 v0 (G.room 12)) fun x0 =>
 nf q 166 0 0 x0 fun x2 =>
 bP (fa Q q 45 3 3 x2) fun x3 =>
 bP (fa Q q 43 1 6 x3) fun x4 =>
 bP (lda Q q 41 3 x4 (G.room 12)) fun x5 =>
 bP (ld Q q 187 v0 (G.room 12)) fun x6 =>
 nl q 166 1 13 3 x6 (G.room 12) fun x9 =>
 bS (e.ev.cl 153 [x5,x9] (G.room 12)) fun x11 G10 =>
 some (x11,G10)
theorem f152 (h:ExLe Q e (E orc)) (v0:Value) (G:GS):Ref (s152 true e v0 G) ((E orc).cl 152 [v0] G):=cS (S:=fun q e=>s152 q e v0 G) Tryz.func152 (by unfold s152; exact Ref.gq)
def s153 (q:Bool) (e:Ex) (v0 v1:Value) (G:GS):OG :=
 bS (bx q v0 G) fun x0 G1 =>
 bP (bd Q q 282 z282 [(2,4,1)] [(.bool true)]) fun x2 =>
 fl q 41 1 1 3 x0 G1 fun x4 =>
 bP (bn Q q .add 3 (.tmp 8) (.tmp 9) x4 v1) fun x5 =>
 bP (bd Q q 298 z298 [(0,0,6),(1,6,1)] [x2,x5]) fun x6 =>
 bS (bx q x6 G1) fun x7 G8 =>
 bP (lda Q q 41 3 x0 G8) fun x9 =>
 bS (e.ev.cl 181 [x9,v1] G8) fun x10 G11 =>
 ifV x10 (
 nf q 298 0 0 x7 fun x13 =>
 bS (e.ev.cl 182 [x13,(.int .i64 3)] G11) fun x14 G15 =>
 some (x7,G15)) (
 nf q 298 0 0 x7 fun x17 =>
 bP (fa Q q 282 0 0 x17) fun x18 =>
 bP (iaa Q q 280 3 1 x18 (.int .i64 0)) fun x19 =>
 bP (st Q q 124 1 x19 (.func (.func 195) #[x7] #[]) G11) fun G20 =>
 some (x7,G20))
theorem f153 (h:ExLe Q e (E orc)) (v0 v1:Value) (G:GS):Ref (s153 true e v0 v1 G) ((E orc).cl 153 [v0,v1] G):=cS (S:=fun q e=>s153 q e v0 v1 G) Tryz.func153 (by unfold s153; exact Ref.gq)
def s154 (q:Bool) (e:Ex) (v0 v1:Value) (G:GS):OG :=
 bS (bx q v0 G) fun x0 G1 =>
 bP (bn Q q .lss 3 (.tmp 5) (.const (.int .i64 1)) v1 (.int .i64 1)) fun x2 =>
 bS (gV x2 false v1 G1) fun x3 G4 =>
 bS (gP x2 false (bn Q q .gtr 3 (.tmp 8) (.const (.int .i64 4096)) x3 (.int .i64 4096)) G4) fun x5 G6 =>
 bP (pickV x2 (.bool true) x5) fun x7 =>
 ifV x7 (
 some ((.int .i64 3),G6)) (
 fl q 37 2 2 3 x0 G6 fun x9 =>
 bP (bn Q q .lss 3 (.tmp 12) (.const (.int .i64 1)) x9 (.int .i64 1)) fun x10 =>
 bS (gP x10 false (fa Q q 37 2 2 x0) G6) fun x11 G12 =>
 bS (gP x10 false (ld Q q 3 x11 G12) G12) fun x13 G14 =>
 bS (gP x10 false (bn Q q .gtr 3 (.tmp 16) (.const (.int .i64 4096)) x13 (.int .i64 4096)) G14) fun x15 G16 =>
 bP (pickV x10 (.bool true) x15) fun x17 =>
 bS (gP x17 false (fa Q q 37 0 0 x0) G16) fun x18 G19 =>
 bS (gP x17 false (ld Q q 3 x18 G19) G19) fun x20 G21 =>
 bS (gP x17 false (bn Q q .lss 3 (.tmp 21) (.const (.int .i64 0)) x20 (.int .i64 0)) G21) fun x22 G23 =>
 bP (pickV x17 (.bool true) x22) fun x24 =>
 bS (gP x24 false (fa Q q 37 0 0 x0) G23) fun x25 G26 =>
 bS (gP x24 false (ld Q q 3 x25 G26) G26) fun x27 G28 =>
 bS (gV x24 false v1 G28) fun x29 G30 =>
 bS (gP x24 false (bn Q q .geq 3 (.tmp 26) (.tmp 27) x27 x29) G30) fun x31 G32 =>
 bP (pickV x24 (.bool true) x31) fun x33 =>
 bS (gP x33 false (fa Q q 37 1 1 x0) G32) fun x34 G35 =>
 bS (gP x33 false (ld Q q 3 x34 G35) G35) fun x36 G37 =>
 bS (gP x33 false (bn Q q .lss 3 (.tmp 32) (.const (.int .i64 0)) x36 (.int .i64 0)) G37) fun x38 G39 =>
 bP (pickV x33 (.bool true) x38) fun x40 =>
 bS (gP x40 false (fa Q q 37 1 1 x0) G39) fun x41 G42 =>
 bS (gP x40 false (ld Q q 3 x41 G42) G42) fun x43 G44 =>
 bS (gV x40 false v1 G44) fun x45 G46 =>
 bS (gP x40 false (fa Q q 37 2 2 x0) G46) fun x47 G48 =>
 bS (gP x40 false (ld Q q 3 x47 G48) G48) fun x49 G50 =>
 bS (gP x40 false (bn Q q .sub 3 (.tmp 38) (.tmp 40) x45 x49) G50) fun x51 G52 =>
 bS (gP x40 false (bn Q q .gtr 3 (.tmp 37) (.tmp 41) x43 x51) G52) fun x53 G54 =>
 bP (pickV x40 (.bool true) x53) fun x55 =>
 bS (gP x55 false (fa Q q 37 0 0 x0) G54) fun x56 G57 =>
 bS (gP x55 false (ld Q q 3 x56 G57) G57) fun x58 G59 =>
 bS (gP x55 false (fa Q q 37 1 1 x0) G59) fun x60 G61 =>
 bS (gP x55 false (ld Q q 3 x60 G61) G61) fun x62 G63 =>
 bS (gP x55 false (bn Q q .geq 3 (.tmp 46) (.tmp 48) x58 x62) G63) fun x64 G65 =>
 bS (gV x55 false x64 G65) fun x66 G67 =>
 bS (gP x66 true (fa Q q 37 0 0 x0) G67) fun x68 G69 =>
 bS (gP x66 true (ld Q q 3 x68 G69) G69) fun x70 G71 =>
 bS (gP x66 true (fa Q q 37 1 1 x0) G71) fun x72 G73 =>
 bS (gP x66 true (ld Q q 3 x72 G73) G73) fun x74 G75 =>
 bS (gP x66 true (fa Q q 37 2 2 x0) G75) fun x76 G77 =>
 bS (gP x66 true (ld Q q 3 x76 G77) G77) fun x78 G79 =>
 bS (gP x66 true (bn Q q .add 3 (.tmp 54) (.tmp 56) x74 x78) G79) fun x80 G81 =>
 bS (gP x66 true (bn Q q .lss 3 (.tmp 52) (.tmp 57) x70 x80) G81) fun x82 G83 =>
 bS (gP x55 false (pickV x66 x82 (.bool false)) G83) fun x84 G85 =>
 bP (pickV x55 (.bool true) x84) fun x86 =>
 ifV x86 (
 some ((.int .i64 2),G85)) (
 some ((.int .i64 0),G85)))
theorem f154 (h:ExLe Q e (E orc)) (v0 v1:Value) (G:GS):Ref (s154 true e v0 v1 G) ((E orc).cl 154 [v0,v1] G):=cS (S:=fun q e=>s154 q e v0 v1 G) Tryz.func154 (by unfold s154; exact Ref.gq)
def s155 (q:Bool) (e:Ex) (v0:Value) (G:GS):OG :=
 bP (bn Q q .geq 3 (.tmp 3) (.const (.int .i64 1)) v0 (.int .i64 1)) fun x0 =>
 bS (gV x0 true v0 G) fun x1 G2 =>
 bS (gP x0 true (bn Q q .leq 3 (.tmp 6) (.const (.int .i64 64)) x1 (.int .i64 64)) G2) fun x3 G4 =>
 bP (pickV x0 x3 (.bool false)) fun x5 =>
 some (x5,G4)
theorem f155 (h:ExLe Q e (E orc)) (v0:Value) (G:GS):Ref (s155 true e v0 G) ((E orc).cl 155 [v0] G):=cS (S:=fun q e=>s155 q e v0 G) Tryz.func155 (by unfold s155; exact Ref.gq)
def b156_0 (q:Bool) (e:Ex) (lp:LpF) (τ:Env) (G:GS):OL :=
 bV q (τ 1) fun a1_ =>
 bV q (τ 2) fun a2_ =>
 bV q (τ 4) fun a4_ =>
 bP (fa Q q 39 0 0 a2_) fun x0 =>
 bP (fa Q q 37 2 2 x0) fun x1 =>
 bP (ld Q q 3 x1 G) fun x2 =>
 bP (bn Q q .lss 3 (.tmp 23) (.tmp 26) a4_ x2) fun x3 =>
 ifV x3 (
 bP (fa Q q 39 1 3 a2_) fun x4 =>
 bP (ld Q q 3 x4 G) fun x5 =>
 bP (bn Q q .add 3 (.tmp 32) (.tmp 33) x5 a4_) fun x6 =>
 bS (e.ev.cl 35 [a1_,x6,(.int .u64 1)] G) fun x7 G8 =>
 bP (bn Q q .add 3 (.tmp 28) (.const (.int .i64 1)) a4_ (.int .i64 1)) fun x9 =>
 lp (xq q 36 τ [(4,x9),(29,x9),(28,a4_),(35,x7),(34,x6),(33,a4_),(32,x5),(31,x4),(30,a1_),(27,x3),(26,x2),(25,x1),(24,x0),(23,a4_)] [(1,a1_),(2,a2_)]) G8) (
 some ((.exit 0),xq q 36 τ [(27,x3),(26,x2),(25,x1),(24,x0),(23,a4_)] [(1,a1_),(2,a2_),(4,a4_)],G))
theorem l156_0 (h:ExLe Q e (E orc)):LT orc 36 (subAt [1,1,1,1,1,0,0] (bodyOf Tryz.f156)) (b156_0 true e):=cL fun hlp τ G=>by unfold b156_0; exact Ref.gq
def s156 (q:Bool) (e:Ex) (v0 v1:Value) (G:GS):OG :=
 bS (bx q v0 G) fun x0 G1 =>
 bP (fa Q q 39 0 0 x0) fun x2 =>
 bP (fa Q q 37 2 2 x2) fun x3 =>
 bP (ld Q q 3 x3 G1) fun x4 =>
 bP (bn Q q .lss 3 (.tmp 7) (.const (.int .i64 1)) x4 (.int .i64 1)) fun x5 =>
 bS (gP x5 false (fa Q q 39 0 0 x0) G1) fun x6 G7 =>
 bS (gP x5 false (fa Q q 37 2 2 x6) G7) fun x8 G9 =>
 bS (gP x5 false (ld Q q 3 x8 G9) G9) fun x10 G11 =>
 bS (gP x5 false (bn Q q .gtr 3 (.tmp 12) (.const (.int .i64 4096)) x10 (.int .i64 4096)) G11) fun x12 G13 =>
 bP (pickV x5 (.bool true) x12) fun x14 =>
 ifV x14 (
 some (.tuple #[],G13)) (
 bP (fa Q q 39 0 0 x0) fun x15 =>
 bP (lda Q q 37 3 x15 G13) fun x16 =>
 bS (e.ev.cl 196 [x16,v1] G13) fun x17 G18 =>
 bP (fa Q q 39 2 4 x0) fun x19 =>
 bP (ld Q q 3 x19 G18) fun x20 =>
 bS (e.ev.cl 35 [v1,x20,(.int .u64 0)] G18) fun x21 G22 =>
 bLq q e 156 0 (subAt [1,1,1,1,1,0,0] (bodyOf Tryz.f156)) 36 (nth undef [v0,v1]) [(4,(.int .i64 0)),(22,x21),(21,x20),(20,x19),(19,v1),(18,x17),(17,v1),(16,x16),(15,x15),(14,x14),(13,x12),(12,x10),(11,x8),(10,x6),(9,x5),(8,x5),(7,x4),(6,x3),(5,x2),(2,x0)] [] G22 fun e23 t24 G25 =>
 ifE e23 (.exit 0) (
 some (.tuple #[],G25)) (none))
theorem f156 (h:ExLe Q e (E orc)) (v0 v1:Value) (G:GS):Ref (s156 true e v0 v1 G) ((E orc).cl 156 [v0,v1] G):=cS (S:=fun q e=>s156 q e v0 v1 G) Tryz.func156 (by unfold s156; exact Ref.gq)
def b157_0 (q:Bool) (e:Ex) (lp:LpF) (τ:Env) (G:GS):OL :=
 bV q (τ 1) fun a1_ =>
 bV q (τ 2) fun a2_ =>
 bV q (τ 4) fun a4_ =>
 bP (fa Q q 41 2 2 a2_) fun x0 =>
 bP (ld Q q 3 x0 G) fun x1 =>
 bP (bn Q q .lss 3 (.tmp 13) (.tmp 15) a4_ x1) fun x2 =>
 ifV x2 (
 bP (fa Q q 41 1 1 a2_) fun x3 =>
 bP (ld Q q 3 x3 G) fun x4 =>
 bP (bn Q q .add 3 (.tmp 21) (.tmp 22) x4 a4_) fun x5 =>
 bS (e.ev.cl 35 [a1_,x5,(.int .u64 0)] G) fun x6 G7 =>
 bP (bn Q q .add 3 (.tmp 17) (.const (.int .i64 1)) a4_ (.int .i64 1)) fun x8 =>
 lp (xq q 25 τ [(4,x8),(18,x8),(17,a4_),(24,x6),(23,x5),(22,a4_),(21,x4),(20,x3),(19,a1_),(16,x2),(15,x1),(14,x0),(13,a4_)] [(1,a1_),(2,a2_)]) G7) (
 some ((.exit 0),xq q 25 τ [(16,x2),(15,x1),(14,x0),(13,a4_)] [(1,a1_),(2,a2_),(4,a4_)],G))
theorem l157_0 (h:ExLe Q e (E orc)):LT orc 25 (subAt [1,1,1,1,0,0] (bodyOf Tryz.f157)) (b157_0 true e):=cL fun hlp τ G=>by unfold b157_0; exact Ref.gq
def s157 (q:Bool) (e:Ex) (v0 v1:Value) (G:GS):OG :=
 bS (bx q v0 G) fun x0 G1 =>
 bP (fa Q q 41 2 2 x0) fun x2 =>
 bP (ld Q q 3 x2 G1) fun x3 =>
 bS (e.ev.cl 155 [x3] G1) fun x4 G5 =>
 bP (un Q q .not x4) fun x6 =>
 ifV x6 (
 some (.tuple #[],G5)) (
 bP (fa Q q 41 0 0 x0) fun x7 =>
 bP (ld Q q 3 x7 G5) fun x8 =>
 bS (e.ev.cl 35 [v1,x8,(.int .u64 0)] G5) fun x9 G10 =>
 bLq q e 157 0 (subAt [1,1,1,1,0,0] (bodyOf Tryz.f157)) 25 (nth undef [v0,v1]) [(4,(.int .i64 0)),(12,x9),(11,x8),(10,x7),(9,v1),(8,x6),(7,x4),(6,x3),(5,x2),(2,x0)] [] G10 fun e11 t12 G13 =>
 ifE e11 (.exit 0) (
 some (.tuple #[],G13)) (none))
theorem f157 (h:ExLe Q e (E orc)) (v0 v1:Value) (G:GS):Ref (s157 true e v0 v1 G) ((E orc).cl 157 [v0,v1] G):=cS (S:=fun q e=>s157 q e v0 v1 G) Tryz.func157 (by unfold s157; exact Ref.gq)
def s158 (q:Bool) (e:Ex) (v0 v1:Value) (G:GS):OG :=
 bS (bx q v0 G) fun x0 G1 =>
 bP (lda Q q 41 3 x0 G1) fun x2 =>
 bS (e.ev.cl 197 [x2,v1] G1) fun x3 G4 =>
 ifV x3 (
 bP (bd Q q 301 z301 [(2,4,1),(4,6,1)] [(.int .i64 9),(.int .i64 3)]) fun x5 =>
 bS (bx q x5 G4) fun x6 G7 =>
 some (x6,G7)) (
 bP (lda Q q 41 3 x0 G4) fun x8 =>
 bP (bd Q q 301 z301 [(0,0,3),(1,3,1),(2,4,1)] [x8,v1,(.int .i64 1)]) fun x9 =>
 bS (bx q x9 G4) fun x10 G11 =>
 some (x10,G11))
theorem f158 (h:ExLe Q e (E orc)) (v0 v1:Value) (G:GS):Ref (s158 true e v0 v1 G) ((E orc).cl 158 [v0,v1] G):=cS (S:=fun q e=>s158 q e v0 v1 G) Tryz.func158 (by unfold s158; exact Ref.gq)
def s159 (q:Bool) (e:Ex) (v0:Value) (G:GS):OG :=
 bS (bx q v0 G) fun x0 G1 =>
 bP (lda Q q 45 13 x0 G1) fun x2 =>
 bS (e.ev.cl 72 [x2] G1) fun x3 G4 =>
 bP (un Q q .not x3) fun x5 =>
 ifV x5 (
 bP (bd Q q 198 z198 [(2,14,1),(12,25,1)] [(.int .i64 99),(.int .i64 2)]) fun x6 =>
 bS (bx q x6 G4) fun x7 G8 =>
 some (x7,G8)) (
 bP (lda Q q 45 13 x0 G4) fun x9 =>
 bP (bd Q q 198 z198 [(0,0,13),(2,14,1)] [x9,(.int .i64 1)]) fun x10 =>
 bS (bx q x10 G4) fun x11 G12 =>
 some (x11,G12))
theorem f159 (h:ExLe Q e (E orc)) (v0:Value) (G:GS):Ref (s159 true e v0 G) ((E orc).cl 159 [v0] G):=cS (S:=fun q e=>s159 q e v0 G) Tryz.func159 (by unfold s159; exact Ref.gq)
def jb160_0 (q:Bool) (e:Ex) (τ:Env) (G:GS):OG :=
 bV q (τ 0) fun a0_ =>
 nl q 301 2 4 3 a0_ G fun x2 =>
 bP (bn Q q .eql 3 (.tmp 78) (.const (.int .i64 9)) x2 (.int .i64 9)) fun x3 =>
 some (x3,G)
def j160_0 (q:Bool) (e:Ex) (τ:Env) (G:GS):OG:=jb160_0 q e τ G
theorem mj160_0 {e:Ex} {E:Ev} (h:ExLe Q e E) (τ:Env) (G:GS):Ref (j160_0 true e τ G) (j160_0 false (Ex.of E) τ G):=by
 unfold j160_0 jb160_0
 exact Ref.gq
theorem mkj160_0 {e:Ex} {E:Ev} (h:ExLe Q e E) {τ:Env} {l U:List (Nat × Value)} {G:GS} (hU:UOk τ U):Ref (j160_0 true e (xq true 80 τ l U) G) (j160_0 false (Ex.of E) (xq false 80 τ l U) G):=by
 rw [xq_eq hU]
 exact mj160_0 h _ _
def sb160 (q:Bool) (e:Ex) (J0:Env → GS → OG) (v0 v1:Value) (G:GS):OG :=
 bP (pNil v0) fun x4 =>
 bP (fa Q q 301 2 4 x4) fun x5 =>
 bP (ld Q q 3 x5 G) fun x6 =>
 bP (bn Q q .eql 3 (.tmp 9) (.const (.int .i64 1)) x6 (.int .i64 1)) fun x7 =>
 ifV x7 (
 bP (pNil v0) fun x8 =>
 bP (fa Q q 301 0 0 x8) fun x9 =>
 bP (fa Q q 41 0 0 x9) fun x10 =>
 bP (ld Q q 3 x10 G) fun x11 =>
 bS (e.ev.cl 90 [v1,x11] G) fun x12 G13 =>
 bS (e.ev.cl 198 [x12] G13) fun x14 G15 =>
 bP (pNil v0) fun x16 =>
 bP (fa Q q 301 3 5 x16) fun x17 =>
 bP (st Q q 3 1 x17 x14 G15) fun G18 =>
 bP (pNil v0) fun x19 =>
 bP (fa Q q 301 2 4 x19) fun x20 =>
 bP (st Q q 3 1 x20 (.int .i64 2) G18) fun G21 =>
 J0 (xq q 80 (nth undef [v0,v1]) [(25,x20),(24,x19),(23,v0),(22,x17),(21,x16),(20,x14),(19,x12),(18,x11),(17,x10),(16,x9),(15,x8),(14,v0),(13,v1),(12,v0),(10,x7),(11,x7),(9,x6),(8,x5),(7,x4),(6,v0),(4,(.bool false))] []) G21) (
 bP (bn Q q .eql 3 (.tmp 9) (.const (.int .i64 2)) x6 (.int .i64 2)) fun x22 =>
 ifV x22 (
 bP (pNil v0) fun x23 =>
 bP (fa Q q 301 0 0 x23) fun x24 =>
 bP (fa Q q 41 1 1 x24) fun x25 =>
 bP (ld Q q 3 x25 (G.room 18)) fun x26 =>
 bP (pNil v0) fun x27 =>
 bP (fa Q q 301 1 3 x27) fun x28 =>
 bP (ld Q q 3 x28 (G.room 18)) fun x29 =>
 bP (bn Q q .add 3 (.tmp 33) (.tmp 37) x26 x29) fun x30 =>
 bP (pNil v0) fun x31 =>
 bP (fa Q q 301 3 5 x31) fun x32 =>
 bP (ld Q q 3 x32 (G.room 18)) fun x33 =>
 bP (cv Q q 3 23 .i64 .u64 x33) fun x34 =>
 bP (bn Q q .add 23 (.tmp 43) (.const (.int .u64 1)) x34 (.int .u64 1)) fun x35 =>
 bS (e.ev.cl 35 [v1,x30,x35] (G.room 18)) fun x37 G36 =>
 bP (pNil v0) fun x38 =>
 bP (fa Q q 301 2 4 x38) fun x39 =>
 bP (st Q q 3 1 x39 (.int .i64 3) G36) fun G40 =>
 J0 (xq q 80 (nth undef [v0,v1]) [(48,x39),(47,x38),(46,v0),(45,x37),(44,x35),(43,x34),(42,x33),(41,x32),(40,x31),(39,v0),(38,x30),(37,x29),(36,x28),(35,x27),(34,v0),(33,x26),(32,x25),(31,x24),(30,x23),(29,v0),(28,v1),(26,x22),(27,x22),(10,x7),(11,x7),(9,x6),(8,x5),(7,x4),(6,v0),(4,(.bool false))] []) G40) (
 bP (bn Q q .eql 3 (.tmp 9) (.const (.int .i64 3)) x6 (.int .i64 3)) fun x41 =>
 ifV x41 (
 bP (pNil v0) fun x42 =>
 bP (fa Q q 301 0 0 x42) fun x43 =>
 bP (fa Q q 41 0 0 x43) fun x44 =>
 bP (ld Q q 3 x44 G) fun x45 =>
 bS (e.ev.cl 90 [v1,x45] G) fun x46 G47 =>
 bS (e.ev.cl 198 [x46] G47) fun x48 G49 =>
 bP (pNil v0) fun x50 =>
 bP (fa Q q 301 2 4 x50) fun x51 =>
 bP (st Q q 3 1 x51 (.int .i64 9) G49) fun G52 =>
 bP (pNil v0) fun x53 =>
 bP (fa Q q 301 3 5 x53) fun x54 =>
 bP (ld Q q 3 x54 G52) fun x55 =>
 bP (bn Q q .neq 3 (.tmp 62) (.tmp 66) x48 x55) fun x56 =>
 ifV x56 (
 bP (pNil v0) fun x57 =>
 bP (fa Q q 301 3 5 x57) fun x58 =>
 bP (st Q q 3 1 x58 x48 G52) fun G59 =>
 bP (pNil v0) fun x60 =>
 bP (fa Q q 301 2 4 x60) fun x61 =>
 bP (st Q q 3 1 x61 (.int .i64 2) G59) fun G62 =>
 J0 (xq q 80 (nth undef [v0,v1]) [(74,x61),(73,x60),(72,v0),(71,x58),(70,x57),(69,x48),(68,v0),(67,x56),(66,x55),(65,x54),(64,x53),(63,v0),(62,x48),(61,x51),(60,x50),(59,v0),(5,x48),(58,x48),(57,x46),(56,x45),(55,x44),(54,x43),(53,x42),(52,v0),(51,v1),(49,x41),(50,x41),(26,x22),(27,x22),(10,x7),(11,x7),(9,x6),(8,x5),(7,x4),(6,v0),(4,(.bool false))] []) G62) (
 J0 (xq q 80 (nth undef [v0,v1]) [(67,x56),(66,x55),(65,x54),(64,x53),(63,v0),(62,x48),(61,x51),(60,x50),(59,v0),(5,x48),(58,x48),(57,x46),(56,x45),(55,x44),(54,x43),(53,x42),(52,v0),(51,v1),(49,x41),(50,x41),(26,x22),(27,x22),(10,x7),(11,x7),(9,x6),(8,x5),(7,x4),(6,v0),(4,(.bool false))] []) G52)) (
 J0 (xq q 80 (nth undef [v0,v1]) [(49,x41),(50,x41),(26,x22),(27,x22),(10,x7),(11,x7),(9,x6),(8,x5),(7,x4),(6,v0),(4,(.bool false))] []) G)))
def s160 (q:Bool) (e:Ex) (v0 v1:Value) (G:GS):OG:=sb160 q e (j160_0 q e) v0 v1 G
theorem m160 {e:Ex} {E:Ev} (h:ExLe Q e E) (v0 v1:Value) (G:GS):Ref (s160 true e v0 v1 G) (s160 false (Ex.of E) v0 v1 G):=by
 unfold s160 sb160
 have j0:=@mkj160_0 e E h
 exact Ref.gj
def jt160 (J0:Env → GS → OG):JT (Value × GS) :=
 (.n none .e (.n (some (fun T G=>J0 (nth undef T) G)) .e .e))
theorem jr160_0 (orc:FuncId → Bool) (J0:Env → GS → OG) (T:List Value) (G:GS):runC Q (evL Q orc) Tryz.f160.ntmps (jt160 J0) (bodyOf Tryz.f160) (retE Q Tryz.f160.results.toList) [true] (nth undef T) G = jb160_0 false (Ex.of (E orc))  (nth undef T) G:=by kernel_rfl
theorem jo160 (orc:FuncId → Bool):JOk Q orc Tryz.f160.ntmps (jt160 (j160_0 false (Ex.of (E orc))) ) (bodyOf Tryz.f160) (retE Q Tryz.f160.results.toList) :=
 jOk Q orc (l:=[([true],(fun T G=>j160_0 false (Ex.of (E orc)) (nth undef T) G))]) (by kernel_rfl) (AllE.c (fun T G=>jr160_0 orc (j160_0 false (Ex.of (E orc))) T G) (AllE.z))
theorem je160 (orc:FuncId → Bool) (J0:Env → GS → OG) (v0 v1:Value) (G:GS):sxC Q (evL Q orc) Tryz.f160.ntmps (jt160 J0) (bodyOf Tryz.f160) (nth undef [v0,v1]) G (retE Q Tryz.f160.results.toList) = sb160 false (Ex.of (E orc)) J0 v0 v1 G:=by kernel_rfl
theorem f160 {orc:FuncId → Bool} {e:Ex} (h:ExLe Q e (E orc)) (v0 v1:Value) (G:GS):Ref (s160 true e v0 v1 G) ((E orc).cl 160 [v0,v1] G) :=
 fun r hr=>cl_sxC Q orc (vs:=[v0,v1]) G (jt160 (j160_0 false (Ex.of (E orc))) ) Tryz.func160 (by kernel_rfl) (by kernel_rfl) (by kernel_rfl) (by kernel_rfl) (by kernel_rfl) (jo160 orc) (je160 orc (j160_0 false (Ex.of (E orc))) v0 v1 G) (m160 h v0 v1 G r hr)
def s161 (q:Bool) (e:Ex) (v0:Value) (G:GS):OG :=
 nl q 301 2 4 3 v0 G fun x2 =>
 bP (bn Q q .neq 3 (.tmp 7) (.const (.int .i64 9)) x2 (.int .i64 9)) fun x3 =>
 ifV x3 (
 some (.tuple #[(.int .i64 0),(.int .i64 14)],G)) (
 nl q 301 3 5 3 v0 (G.room 10) fun x6 =>
 nl q 301 4 6 51 v0 (G.room 10) fun x9 =>
 some (.tuple #[x6,x9],(G.room 10)))
theorem f161 (h:ExLe Q e (E orc)) (v0:Value) (G:GS):Ref (s161 true e v0 G) ((E orc).cl 161 [v0] G):=cS (S:=fun q e=>s161 q e v0 G) Tryz.func161 (by unfold s161; exact Ref.gq)
def s162 (q:Bool) (e:Ex) (v0 v1:Value) (G:GS):OG :=
 nl q 198 2 14 3 v0 G fun x2 =>
 bP (bn Q q .eql 3 (.tmp 7) (.const (.int .i64 1)) x2 (.int .i64 1)) fun x3 =>
 ifV x3 (
 nf q 198 11 24 v0 fun x5 =>
 bP (st Q q 23 1 x5 (.int .u64 0) G) fun G6 =>
 bS (e.ev.cl 199 [v0,(.int .i64 (-1)),(.int .i64 0)] G6) fun x7 G8 =>
 bS (e.ev.cl 90 [v1,x7] G8) fun x9 G10 =>
 nf q 198 3 15 v0 fun x12 =>
 bP (st Q q 23 1 x12 x9 G10) fun G13 =>
 nf q 198 0 0 v0 fun x15 =>
 bP (lda Q q 45 13 x15 (G13.room 13)) fun x16 =>
 nl q 198 3 15 23 v0 (G13.room 13) fun x19 =>
 bS (e.ev.cl 200 [x16,x19] (G13.room 13)) fun x21 G20 =>
 nf q 198 5 17 v0 fun x23 =>
 bP (st Q q 3 1 x23 x21 G20) fun G24 =>
 nf q 198 2 14 v0 fun x26 =>
 bP (st Q q 3 1 x26 (.int .i64 2) G24) fun G27 =>
 nl q 198 5 17 3 v0 G27 fun x30 =>
 bP (bn Q q .lss 3 (.tmp 38) (.const (.int .i64 0)) x30 (.int .i64 0)) fun x31 =>
 ifV x31 (
 nf q 198 2 14 v0 fun x33 =>
 bP (st Q q 3 1 x33 (.int .i64 99) G27) fun G34 =>
 nf q 198 12 25 v0 fun x36 =>
 bP (st Q q 51 1 x36 (.int .i64 15) G34) fun G37 =>
 some (.tuple #[],G37)) (
 some (.tuple #[],G27))) (
 bP (bn Q q .eql 3 (.tmp 7) (.const (.int .i64 2)) x2 (.int .i64 2)) fun x38 =>
 ifV x38 (
 bS (e.ev.cl 201 [v0,v1,(.int .i64 4)] G) fun x39 G40 =>
 nf q 198 4 16 v0 fun x42 =>
 bP (st Q q 23 1 x42 x39 G40) fun G43 =>
 nl q 198 4 16 23 v0 G43 fun x46 =>
 bP (bn Q q .geq 23 (.tmp 61) (.const (.int .u64 9223372036854775808)) x46 (.int .u64 9223372036854775808)) fun x47 =>
 ifV x47 (
 nf q 198 2 14 v0 fun x49 =>
 bP (st Q q 3 1 x49 (.int .i64 3) G43) fun G50 =>
 some (.tuple #[],G50)) (
 nl q 198 1 13 4 v0 G43 fun x53 =>
 ifV x53 (
 nf q 198 2 14 v0 fun x55 =>
 bP (st Q q 3 1 x55 (.int .i64 9) G43) fun G56 =>
 some (.tuple #[],G56)) (
 nf q 198 2 14 v0 fun x58 =>
 bP (st Q q 3 1 x58 (.int .i64 4) G43) fun G59 =>
 some (.tuple #[],G59)))) (
 bP (bn Q q .eql 3 (.tmp 7) (.const (.int .i64 3)) x2 (.int .i64 3)) fun x60 =>
 ifV x60 (
 nf q 198 11 24 v0 fun x62 =>
 bP (st Q q 23 1 x62 (.int .u64 0) G) fun G63 =>
 bS (e.ev.cl 199 [v0,(.int .i64 (-1)),(.int .i64 0)] (G63.room 13)) fun x65 G64 =>
 nf q 198 3 15 v0 fun x67 =>
 bP (ld Q q 23 x67 G64) fun x68 =>
 chk ((sameO (ld Q q 23 x67 (G63.room 13)) x68 && true)) <|
 nf q 198 4 16 v0 fun x70 =>
 bP (ld Q q 23 x70 G64) fun x71 =>
 chk ((sameO (ld Q q 23 x70 (G63.room 13)) x71 && true)) <|
 bP (bn Q q .sub 23 (.tmp 89) (.const (.int .u64 9223372036854775808)) x71 (.int .u64 9223372036854775808)) fun x72 =>
 bS (e.ev.cl 202 [v1,x65,x68,x72] G64) fun x74 G73 =>
 nf q 198 2 14 v0 fun x76 =>
 bP (st Q q 3 1 x76 (.int .i64 1) G73) fun G77 =>
 some (.tuple #[],G77)) (
 some (.tuple #[],G))))
theorem m162 {e:Ex} {E:Ev} (h:ExLe Q e E) (v0 v1:Value) (G:GS):Ref (s162 true e v0 v1 G) (s162 false (Ex.of E) v0 v1 G):=by
 unfold s162
 exact Ref.gq
set_option maxHeartbeats 8000000 in
theorem f162 {orc:FuncId → Bool} {e:Ex} (h:ExLe Q e (E orc)) (v0 v1:Value) (G:GS):Ref (s162 true e v0 v1 G) ((E orc).cl 162 [v0,v1] G) :=
 fun r hr=>cl_sxE_some Q orc (vs:=[v0,v1]) G Tryz.func162 (by kernel_rfl) (by kernel_rfl) (by kernel_rfl) (by kernel_rfl) (by kernel_rfl) (by kernel_rfl) (m162 h v0 v1 G r hr)
def s163 (q:Bool) (e:Ex) (v0 v1:Value) (G:GS):OG :=
 nl q 198 2 14 3 v0 G fun x2 =>
 bP (bn Q q .eql 3 (.tmp 8) (.const (.int .i64 4)) x2 (.int .i64 4)) fun x3 =>
 ifV x3 (
 bS (e.ev.cl 201 [v0,v1,(.int .i64 2)] G) fun x4 G5 =>
 nf q 198 0 0 v0 fun x7 =>
 fl q 45 2 2 3 x7 G5 fun x9 =>
 nf q 198 6 18 v0 fun x11 =>
 bP (st Q q 3 1 x11 x9 G5) fun G12 =>
 nf q 198 0 0 v0 fun x14 =>
 fl q 45 2 2 3 x14 G12 fun x16 =>
 bP (cv Q q 3 23 .i64 .u64 x16) fun x17 =>
 bP (bn Q q .lss 23 (.tmp 22) (.tmp 28) x4 x17) fun x18 =>
 ifV x18 (
 bP (cv Q q 23 3 .u64 .i64 x4) fun x19 =>
 nf q 198 6 18 v0 fun x21 =>
 bP (st Q q 3 1 x21 x19 G12) fun G22 =>
 bS (e.ev.cl 203 [v0] G22) fun x23 G24 =>
 some (.tuple #[],G24)) (
 bS (e.ev.cl 203 [v0] G12) fun x25 G26 =>
 some (.tuple #[],G26))) (
 bP (bn Q q .eql 3 (.tmp 8) (.const (.int .i64 5)) x2 (.int .i64 5)) fun x27 =>
 ifV x27 (
 nl q 198 6 18 3 v0 G fun x30 =>
 bP (bn Q q .add 3 (.const (.int .i64 4)) (.tmp 45) (.int .i64 4) x30) fun x31 =>
 bS (e.ev.cl 201 [v0,v1,x31] G) fun x32 G33 =>
 nf q 198 4 16 v0 fun x35 =>
 bP (st Q q 23 1 x35 x32 G33) fun G36 =>
 nf q 198 2 14 v0 fun x38 =>
 bP (st Q q 3 1 x38 (.int .i64 6) G36) fun G39 =>
 nl q 198 4 16 23 v0 G39 fun x42 =>
 bP (bn Q q .geq 23 (.tmp 56) (.const (.int .u64 9223372036854775808)) x42 (.int .u64 9223372036854775808)) fun x43 =>
 ifV x43 (
 bS (e.ev.cl 203 [v0] G39) fun x44 G45 =>
 some (.tuple #[],G45)) (
 some (.tuple #[],G39))) (
 bP (bn Q q .eql 3 (.tmp 8) (.const (.int .i64 6)) x2 (.int .i64 6)) fun x46 =>
 ifV x46 (
 nl q 198 3 15 23 v0 G fun x49 =>
 nf q 198 11 24 v0 fun x51 =>
 bP (st Q q 23 1 x51 x49 G) fun G52 =>
 nl q 198 5 17 3 v0 (G52.room 21) fun x55 =>
 nl q 198 6 18 3 v0 (G52.room 21) fun x58 =>
 bS (e.ev.cl 199 [v0,x55,x58] (G52.room 21)) fun x60 G59 =>
 nf q 198 4 16 v0 fun x62 =>
 bP (ld Q q 23 x62 G59) fun x63 =>
 chk ((sameO (ld Q q 23 x62 (G52.room 21)) x63 && true)) <|
 nf q 198 4 16 v0 fun x65 =>
 bP (ld Q q 23 x65 G59) fun x66 =>
 chk ((sameO (ld Q q 23 x65 (G52.room 21)) x66 && true)) <|
 bP (bn Q q .add 23 (.tmp 87) (.const (.int .u64 9223372036854775808)) x66 (.int .u64 9223372036854775808)) fun x67 =>
 bS (e.ev.cl 202 [v1,x60,x63,x67] G59) fun x69 G68 =>
 ifV x69 (
 bS (e.ev.cl 203 [v0] G68) fun x70 G71 =>
 some (.tuple #[],G71)) (
 nf q 198 2 14 v0 fun x73 =>
 bP (st Q q 3 1 x73 (.int .i64 5) G68) fun G74 =>
 some (.tuple #[],G74))) (
 some (.tuple #[],G))))
theorem m163 {e:Ex} {E:Ev} (h:ExLe Q e E) (v0 v1:Value) (G:GS):Ref (s163 true e v0 v1 G) (s163 false (Ex.of E) v0 v1 G):=by
 unfold s163
 exact Ref.gq
set_option maxHeartbeats 8000000 in
theorem f163 {orc:FuncId → Bool} {e:Ex} (h:ExLe Q e (E orc)) (v0 v1:Value) (G:GS):Ref (s163 true e v0 v1 G) ((E orc).cl 163 [v0,v1] G) :=
 fun r hr=>cl_sxE_some Q orc (vs:=[v0,v1]) G Tryz.func163 (by kernel_rfl) (by kernel_rfl) (by kernel_rfl) (by kernel_rfl) (by kernel_rfl) (by kernel_rfl) (m163 h v0 v1 G r hr)
def s164 (q:Bool) (e:Ex) (v0 v1:Value) (G:GS):OG :=
 nl q 198 2 14 3 v0 G fun x2 =>
 bP (bn Q q .eql 3 (.tmp 7) (.const (.int .i64 7)) x2 (.int .i64 7)) fun x3 =>
 ifV x3 (
 bS (e.ev.cl 201 [v0,v1,(.int .i64 4)] G) fun x4 G5 =>
 nf q 198 4 16 v0 fun x7 =>
 bP (st Q q 23 1 x7 x4 G5) fun G8 =>
 nf q 198 2 14 v0 fun x10 =>
 bP (st Q q 3 1 x10 (.int .i64 8) G8) fun G11 =>
 nl q 198 4 16 23 v0 G11 fun x14 =>
 bP (bn Q q .geq 23 (.tmp 21) (.const (.int .u64 9223372036854775808)) x14 (.int .u64 9223372036854775808)) fun x15 =>
 ifV x15 (
 nf q 198 2 14 v0 fun x17 =>
 bP (st Q q 3 1 x17 (.int .i64 3) G11) fun G18 =>
 some (.tuple #[],G18)) (
 some (.tuple #[],G11))) (
 nl q 198 3 15 23 v0 G fun x21 =>
 nf q 198 11 24 v0 fun x23 =>
 bP (st Q q 23 1 x23 x21 G) fun G24 =>
 nf q 198 2 14 v0 fun x26 =>
 bP (st Q q 3 1 x26 (.int .i64 7) G24) fun G27 =>
 nl q 198 5 17 3 v0 (G27.room 17) fun x30 =>
 bS (e.ev.cl 199 [v0,x30,(.int .i64 0)] (G27.room 17)) fun x32 G31 =>
 nf q 198 4 16 v0 fun x34 =>
 bP (ld Q q 23 x34 G31) fun x35 =>
 chk ((sameO (ld Q q 23 x34 (G27.room 17)) x35 && true)) <|
 nf q 198 4 16 v0 fun x37 =>
 bP (ld Q q 23 x37 G31) fun x38 =>
 chk ((sameO (ld Q q 23 x37 (G27.room 17)) x38 && true)) <|
 bP (bn Q q .add 23 (.tmp 50) (.const (.int .u64 9223372036854775808)) x38 (.int .u64 9223372036854775808)) fun x39 =>
 bS (e.ev.cl 202 [v1,x32,x35,x39] G31) fun x41 G40 =>
 ifV x41 (
 nf q 198 10 23 v0 fun x43 =>
 bP (st Q q 4 1 x43 (.bool true) G40) fun G44 =>
 nf q 198 2 14 v0 fun x46 =>
 bP (st Q q 3 1 x46 (.int .i64 9) G44) fun G47 =>
 some (.tuple #[],G47)) (
 some (.tuple #[],G40)))
theorem f164 (h:ExLe Q e (E orc)) (v0 v1:Value) (G:GS):Ref (s164 true e v0 v1 G) ((E orc).cl 164 [v0,v1] G):=cS (S:=fun q e=>s164 q e v0 v1 G) Tryz.func164 (by unfold s164; exact Ref.gq)
def s165 (q:Bool) (e:Ex) (v0 v1:Value) (G:GS):OG :=
 nl q 198 2 14 3 v0 G fun x2 =>
 bP (bn Q q .eql 3 (.tmp 7) (.const (.int .i64 9)) x2 (.int .i64 9)) fun x3 =>
 ifV x3 (
 bS (e.ev.cl 201 [v0,v1,(.int .i64 0)] G) fun x4 G5 =>
 nf q 198 7 19 v0 fun x7 =>
 bP (fa Q q 120 0 0 x7) fun x8 =>
 bP (st Q q 23 1 x8 x4 G5) fun G9 =>
 nf q 198 2 14 v0 fun x11 =>
 bP (st Q q 3 1 x11 (.int .i64 91) G9) fun G12 =>
 some (.tuple #[],G12)) (
 bS (e.ev.cl 201 [v0,v1,(.int .i64 1)] G) fun x13 G14 =>
 bP (bn Q q .rem 23 (.tmp 22) (.const (.int .u64 65536)) x13 (.int .u64 65536)) fun x15 =>
 bP (cv Q q 23 3 .u64 .i64 x15) fun x16 =>
 nf q 198 7 19 v0 fun x18 =>
 bP (fa Q q 120 1 1 x18) fun x19 =>
 bP (st Q q 3 1 x19 x16 G14) fun G20 =>
 nf q 198 2 14 v0 fun x22 =>
 bP (st Q q 3 1 x22 (.int .i64 99) G20) fun G23 =>
 nl q 198 1 13 4 v0 G23 fun x26 =>
 bP (un Q q .not x26) fun x27 =>
 ifV x27 (
 nf q 198 0 0 v0 fun x29 =>
 bP (lda Q q 45 13 x29 (G23.room 14)) fun x30 =>
 nf q 198 7 19 v0 fun x32 =>
 fl q 120 0 0 23 x32 (G23.room 14) fun x34 =>
 bS (e.ev.cl 204 [x30,x34] (G23.room 14)) fun x36 G35 =>
 nf q 198 8 21 v0 fun x38 =>
 bP (st Q q 195 1 x38 x36 G35) fun G39 =>
 nf q 198 2 14 v0 fun x41 =>
 bP (st Q q 3 1 x41 (.int .i64 10) G39) fun G42 =>
 some (.tuple #[],G42)) (
 some (.tuple #[],G23)))
theorem f165 (h:ExLe Q e (E orc)) (v0 v1:Value) (G:GS):Ref (s165 true e v0 v1 G) ((E orc).cl 165 [v0,v1] G):=cS (S:=fun q e=>s165 q e v0 v1 G) Tryz.func165 (by unfold s165; exact Ref.gq)
def jb166_0 (q:Bool) (e:Ex) (τ:Env) (G:GS):OG :=
 bV q (τ 0) fun a0_ =>
 nl q 198 8 21 195 a0_ G fun x6 =>
 bS (e.ev.cl 206 [x6] G) fun x7 G8 =>
 nf q 198 11 24 a0_ fun x10 =>
 bP (st Q q 23 1 x10 x7 G8) fun G11 =>
 some (.tuple #[],G11)
def j166_0 (q:Bool) (e:Ex) (τ:Env) (G:GS):OG:=jb166_0 q e τ G
theorem mj166_0 {e:Ex} {E:Ev} (h:ExLe Q e E) (τ:Env) (G:GS):Ref (j166_0 true e τ G) (j166_0 false (Ex.of E) τ G):=by
 unfold j166_0 jb166_0
 exact Ref.gq
theorem mkj166_0 {e:Ex} {E:Ev} (h:ExLe Q e E) {τ:Env} {l U:List (Nat × Value)} {G:GS} (hU:UOk τ U):Ref (j166_0 true e (xq true 81 τ l U) G) (j166_0 false (Ex.of E) (xq false 81 τ l U) G):=by
 rw [xq_eq hU]
 exact mj166_0 h _ _
def sb166 (q:Bool) (e:Ex) (J0:Env → GS → OG) (v0 v1:Value) (G:GS):OG :=
 bP (pNil v0) fun x0 =>
 bP (fa Q q 198 2 14 x0) fun x1 =>
 bP (ld Q q 3 x1 G) fun x2 =>
 bP (bn Q q .eql 3 (.tmp 7) (.const (.int .i64 10)) x2 (.int .i64 10)) fun x3 =>
 ifV x3 (
 bP (pNil v0) fun x12 =>
 bP (fa Q q 198 8 21 x12) fun x13 =>
 bP (ld Q q 195 x13 G) fun x14 =>
 bS (e.ev.cl 205 [x14,v1] G) fun x15 G16 =>
 ifV x15 (
 bP (pNil v0) fun x17 =>
 bP (fa Q q 198 2 14 x17) fun x18 =>
 bP (st Q q 3 1 x18 (.int .i64 11) G16) fun G19 =>
 J0 (xq q 81 (nth undef [v0,v1]) [(18,x18),(17,x17),(16,v0),(15,x15),(14,v1),(13,x14),(12,x13),(11,x12),(10,v0),(8,x3),(9,x3),(7,x2),(6,x1),(5,x0),(4,v0)] []) G19) (
 J0 (xq q 81 (nth undef [v0,v1]) [(15,x15),(14,v1),(13,x14),(12,x13),(11,x12),(10,v0),(8,x3),(9,x3),(7,x2),(6,x1),(5,x0),(4,v0)] []) G16)) (
 bP (bn Q q .eql 3 (.tmp 7) (.const (.int .i64 11)) x2 (.int .i64 11)) fun x20 =>
 ifV x20 (
 nl q 198 3 15 23 v0 G fun x23 =>
 nf q 198 11 24 v0 fun x25 =>
 bP (st Q q 23 1 x25 x23 G) fun G26 =>
 nf q 198 2 14 v0 fun x28 =>
 bP (st Q q 3 1 x28 (.int .i64 99) G26) fun G29 =>
 nf q 198 0 0 v0 fun x31 =>
 bP (lda Q q 45 13 x31 (G29.room 12)) fun x32 =>
 nl q 198 5 17 3 v0 (G29.room 12) fun x35 =>
 bS (e.ev.cl 208 [x32,x35,(.int .i64 3)] (G29.room 12)) fun x37 G36 =>
 bS (e.ev.cl 207 [v1,x37,(.int .u64 18446744073709551615)] G36) fun x39 G38 =>
 bP (bn Q q .eql 23 (.tmp 49) (.const (.int .u64 0)) x39 (.int .u64 0)) fun x40 =>
 ifV x40 (
 nf q 198 0 0 v0 fun x42 =>
 bP (fa Q q 45 3 3 x42) fun x43 =>
 bP (lda Q q 43 10 x43 (G38.room 14)) fun x44 =>
 nl q 198 5 17 3 v0 (G38.room 14) fun x47 =>
 bS (e.ev.cl 209 [x44,x47] (G38.room 14)) fun x49 G48 =>
 nf q 198 9 22 v0 fun x51 =>
 bP (st Q q 196 1 x51 x49 G48) fun G52 =>
 nf q 198 2 14 v0 fun x54 =>
 bP (st Q q 3 1 x54 (.int .i64 92) G52) fun G55 =>
 some (.tuple #[],G55)) (
 some (.tuple #[],G38))) (
 bP (bn Q q .eql 3 (.tmp 7) (.const (.int .i64 92)) x2 (.int .i64 92)) fun x56 =>
 ifV x56 (
 nf q 198 11 24 v0 fun x58 =>
 bP (st Q q 23 1 x58 (.int .u64 0) G) fun G59 =>
 nl q 198 9 22 196 v0 G59 fun x62 =>
 bS (e.ev.cl 210 [x62,v1] G59) fun x63 G64 =>
 ifV x63 (
 nf q 198 2 14 v0 fun x66 =>
 bP (st Q q 3 1 x66 (.int .i64 99) G64) fun G67 =>
 some (.tuple #[],G67)) (
 some (.tuple #[],G64))) (
 some (.tuple #[],G))))
def s166 (q:Bool) (e:Ex) (v0 v1:Value) (G:GS):OG:=sb166 q e (j166_0 q e) v0 v1 G
theorem m166 {e:Ex} {E:Ev} (h:ExLe Q e E) (v0 v1:Value) (G:GS):Ref (s166 true e v0 v1 G) (s166 false (Ex.of E) v0 v1 G):=by
 unfold s166 sb166
 have j0:=@mkj166_0 e E h
 exact Ref.gj
def jt166 (J0:Env → GS → OG):JT (Value × GS) :=
 (.n none .e (.n none (.n none .e (.n none (.n (some (fun T G=>J0 (nth undef T) G)) .e .e) .e)) .e))
theorem jr166_0 (orc:FuncId → Bool) (J0:Env → GS → OG) (T:List Value) (G:GS):runC Q (evL Q orc) Tryz.f166.ntmps (jt166 J0) (bodyOf Tryz.f166) (retE Q Tryz.f166.results.toList) [true,false,true,false] (nth undef T) G = jb166_0 false (Ex.of (E orc))  (nth undef T) G:=by kernel_rfl
theorem jo166 (orc:FuncId → Bool):JOk Q orc Tryz.f166.ntmps (jt166 (j166_0 false (Ex.of (E orc))) ) (bodyOf Tryz.f166) (retE Q Tryz.f166.results.toList) :=
 jOk Q orc (l:=[([true,false,true,false],(fun T G=>j166_0 false (Ex.of (E orc)) (nth undef T) G))]) (by kernel_rfl) (AllE.c (fun T G=>jr166_0 orc (j166_0 false (Ex.of (E orc))) T G) (AllE.z))
theorem je166 (orc:FuncId → Bool) (J0:Env → GS → OG) (v0 v1:Value) (G:GS):sxC Q (evL Q orc) Tryz.f166.ntmps (jt166 J0) (bodyOf Tryz.f166) (nth undef [v0,v1]) G (retE Q Tryz.f166.results.toList) = sb166 false (Ex.of (E orc)) J0 v0 v1 G:=by kernel_rfl
theorem f166 {orc:FuncId → Bool} {e:Ex} (h:ExLe Q e (E orc)) (v0 v1:Value) (G:GS):Ref (s166 true e v0 v1 G) ((E orc).cl 166 [v0,v1] G) :=
 fun r hr=>cl_sxC Q orc (vs:=[v0,v1]) G (jt166 (j166_0 false (Ex.of (E orc))) ) Tryz.func166 (by kernel_rfl) (by kernel_rfl) (by kernel_rfl) (by kernel_rfl) (by kernel_rfl) (jo166 orc) (je166 orc (j166_0 false (Ex.of (E orc))) v0 v1 G) (m166 h v0 v1 G r hr)
def s167 (q:Bool) (e:Ex) (v0 v1:Value) (G:GS):OG :=
 bS (bx q v0 G) fun x0 G1 =>
 bP (lda Q q 41 3 x0 G1) fun x2 =>
 bS (e.ev.cl 197 [x2,v1] G1) fun x3 G4 =>
 ifV x3 (
 bP (bd Q q 264 z264 [(2,4,1),(3,5,1)] [(.int .i64 9),(.int .i64 3)]) fun x5 =>
 bS (bx q x5 G4) fun x6 G7 =>
 some (x6,G7)) (
 bP (lda Q q 41 3 x0 G4) fun x8 =>
 bP (bd Q q 264 z264 [(0,0,3),(1,3,1),(2,4,1)] [x8,v1,(.int .i64 1)]) fun x9 =>
 bS (bx q x9 G4) fun x10 G11 =>
 some (x10,G11))
theorem f167 (h:ExLe Q e (E orc)) (v0 v1:Value) (G:GS):Ref (s167 true e v0 v1 G) ((E orc).cl 167 [v0,v1] G):=cS (S:=fun q e=>s167 q e v0 v1 G) Tryz.func167 (by unfold s167; exact Ref.gq)
def s168 (q:Bool) (e:Ex) (v0:Value) (G:GS):OG :=
 bS (al Q q 120 z120 G) fun x0 G1 =>
 nl q 198 2 14 3 v0 G1 fun x4 =>
 bP (bn Q q .neq 3 (.tmp 8) (.const (.int .i64 99)) x4 (.int .i64 99)) fun x5 =>
 ifV x5 (
 bP (bd Q q 120 z120 [] []) fun x6 =>
 bP (st Q q 120 2 x0 x6 G1) fun G7 =>
 bP (lda Q q 120 2 x0 G7) fun x8 =>
 some (.tuple #[x8,(.int .i64 14)],G7)) (
 nl q 198 12 25 51 v0 G1 fun x11 =>
 bP (bn Q q .neq 51 (.tmp 15) (.const (.int .i64 0)) x11 (.int .i64 0)) fun x12 =>
 ifV x12 (
 bP (bd Q q 120 z120 [] []) fun x13 =>
 nf q 198 12 25 v0 fun x15 =>
 bP (ld Q q 51 x15 (G1.room 7)) fun x16 =>
 bP (st Q q 120 2 x0 x13 (G1.room 7)) fun G17 =>
 chk ((sameO (ld Q q 51 x15 G17) x16 && true)) <|
 bP (lda Q q 120 2 x0 G17) fun x18 =>
 some (.tuple #[x18,x16],G17)) (
 nf q 198 7 19 v0 fun x20 =>
 bP (lda Q q 120 2 x20 G1) fun x21 =>
 bP (st Q q 120 2 x0 x21 G1) fun G22 =>
 bP (lda Q q 120 2 x0 G22) fun x23 =>
 some (.tuple #[x23,(.int .i64 0)],G22)))
theorem f168 (h:ExLe Q e (E orc)) (v0:Value) (G:GS):Ref (s168 true e v0 G) ((E orc).cl 168 [v0] G):=cS (S:=fun q e=>s168 q e v0 G) Tryz.func168 (by unfold s168; exact Ref.gq)
def s174 (q:Bool) (e:Ex) (v0:Value) (G:GS):OG :=
 bS (bx q v0 G) fun x0 G1 =>
 fl q 37 2 2 3 x0 G1 fun x3 =>
 bP (bn Q q .geq 3 (.tmp 4) (.const (.int .i64 1)) x3 (.int .i64 1)) fun x4 =>
 bS (gP x4 true (fa Q q 37 2 2 x0) G1) fun x5 G6 =>
 bS (gP x4 true (ld Q q 3 x5 G6) G6) fun x7 G8 =>
 bS (gP x4 true (bn Q q .leq 3 (.tmp 8) (.const (.int .i64 4096)) x7 (.int .i64 4096)) G8) fun x9 G10 =>
 bP (pickV x4 x9 (.bool false)) fun x11 =>
 some (x11,G10)
theorem f174 (h:ExLe Q e (E orc)) (v0:Value) (G:GS):Ref (s174 true e v0 G) ((E orc).cl 174 [v0] G):=cS (S:=fun q e=>s174 q e v0 G) Tryz.func174 (by unfold s174; exact Ref.gq)
def s175 (q:Bool) (e:Ex) (v0:Value) (G:GS):OG :=
 bP (bd Q q 313 z313 [(0,0,1)] [v0]) fun x0 =>
 bS (e.ev.cl 212 [x0] G) fun x1 G2 =>
 bP (pExtract x1 0) fun x3 =>
 bP (pExtract x1 1) fun x4 =>
 some (x3,G2)
theorem f175 (h:ExLe Q e (E orc)) (v0:Value) (G:GS):Ref (s175 true e v0 G) ((E orc).cl 175 [v0] G):=cS (S:=fun q e=>s175 q e v0 G) Tryz.func175 (by unfold s175; exact Ref.gq)
def b176_0 (q:Bool) (e:Ex) (lp:LpF) (τ:Env) (G:GS):OL :=
 bV q (τ 0) fun a0_ =>
 bV q (τ 1) fun a1_ =>
 bV q (τ 5) fun a5_ =>
 bV q (τ 6) fun a6_ =>
 bP (bn Q q .lss 3 (.tmp 6) (.tmp 5) a6_ a5_) fun x0 =>
 ifV x0 (
 bP (fa Q q 41 1 1 a1_) fun x1 =>
 bP (ld Q q 3 x1 G) fun x2 =>
 bP (bn Q q .add 3 (.tmp 12) (.tmp 13) x2 a6_) fun x3 =>
 bS (cValue e.ev a0_ [a6_,x3] G) fun x4 G5 =>
 bP (un Q q .not x4) fun x6 =>
 ifV x6 (
 some (.ret,xq q 18 τ [(16,x6),(15,x4),(14,x3),(13,a6_),(12,x2),(11,x1),(10,a6_),(9,a0_),(3,a6_),(8,a6_),(7,x0)] [(0,a0_),(1,a1_),(5,a5_),(6,a6_)],G5)) (
 bP (bn Q q .add 3 (.tmp 6) (.const (.int .i64 1)) a6_ (.int .i64 1)) fun x7 =>
 lp (xq q 18 τ [(6,x7),(17,x7),(16,x6),(15,x4),(14,x3),(13,a6_),(12,x2),(11,x1),(10,a6_),(9,a0_),(3,a6_),(8,a6_),(7,x0)] [(0,a0_),(1,a1_),(5,a5_)]) G5)) (
 some ((.exit 0),xq q 18 τ [(7,x0)] [(0,a0_),(1,a1_),(5,a5_),(6,a6_)],G))
theorem l176_0 (h:ExLe Q e (E orc)):LT orc 18 (subAt [1,0,0] (bodyOf Tryz.f176)) (b176_0 true e):=cL fun hlp τ G=>by unfold b176_0; exact Ref.gq
def s176 (q:Bool) (e:Ex) (v0 v1:Value) (G:GS):OG :=
 bP (fa Q q 41 2 2 v1) fun x0 =>
 bP (ld Q q 3 x0 G) fun x1 =>
 bLq q e 176 0 (subAt [1,0,0] (bodyOf Tryz.f176)) 18 (nth undef [v0,v1]) [(6,(.int .i64 0)),(5,x1),(4,x0)] [] G fun e2 t3 G4 =>
 ifE e2 (.exit 0) (
 some (.tuple #[],G4)) (ifE e2 .ret (
 some (.tuple #[],G4)) (none))
theorem f176 (h:ExLe Q e (E orc)) (v0 v1:Value) (G:GS):Ref (s176 true e v0 v1 G) ((E orc).cl 176 [v0,v1] G):=cS (S:=fun q e=>s176 q e v0 v1 G) Tryz.func176 (by unfold s176; exact Ref.gq)
def s177 (q:Bool) (e:Ex) (v0:Value) (G:GS):OG :=
 bS (bx q v0 G) fun x0 G1 =>
 bS (al Q q 274 z274 G1) fun x2 G3 =>
 fl q 45 0 0 3 x0 G3 fun x5 =>
 bP (fa Q q 45 3 3 x0) fun x6 =>
 bP (fa Q q 43 0 0 x6) fun x7 =>
 bP (fa Q q 39 0 0 x7) fun x8 =>
 fl q 37 2 2 3 x8 G3 fun x10 =>
 fl q 45 2 2 3 x0 G3 fun x12 =>
 bP (bd Q q 274 z274 [(0,0,1),(1,1,1),(2,2,1)] [x5,x10,x12]) fun x13 =>
 bP (st Q q 274 3 x2 x13 G3) fun G14 =>
 bP (lda Q q 274 3 x2 G14) fun x15 =>
 some (x15,G14)
theorem f177 (h:ExLe Q e (E orc)) (v0:Value) (G:GS):Ref (s177 true e v0 G) ((E orc).cl 177 [v0] G):=cS (S:=fun q e=>s177 q e v0 G) Tryz.func177 (by unfold s177; exact Ref.gq)
def s178 (q:Bool) (e:Ex) (v0 v1 v2:Value) (G:GS):OG :=
 bS (bx q v0 G) fun x0 G1 =>
 bP (bn Q q .lss 3 (.tmp 7) (.const (.int .i64 0)) v1 (.int .i64 0)) fun x2 =>
 bS (gV x2 false v1 G1) fun x3 G4 =>
 bS (gP x2 false (fa Q q 274 1 1 x0) G4) fun x5 G6 =>
 bS (gP x2 false (ld Q q 3 x5 G6) G6) fun x7 G8 =>
 bS (gP x2 false (bn Q q .geq 3 (.tmp 10) (.tmp 12) x3 x7) G8) fun x9 G10 =>
 bP (pickV x2 (.bool true) x9) fun x11 =>
 bS (gV x11 false v2 G10) fun x12 G13 =>
 bS (gP x11 false (bn Q q .lss 3 (.tmp 16) (.const (.int .i64 0)) x12 (.int .i64 0)) G13) fun x14 G15 =>
 bP (pickV x11 (.bool true) x14) fun x16 =>
 bS (gV x16 false v2 G15) fun x17 G18 =>
 bS (gP x16 false (fa Q q 274 2 2 x0) G18) fun x19 G20 =>
 bS (gP x16 false (ld Q q 272 x19 G20) G20) fun x21 G22 =>
 bS (gP x16 false (ifc Q q 272 x21) G22) fun x23 G24 =>
 bS (gS x16 false (cInvoke Q e.ev x23 "coxswain/tower.cells" [] G24) G24) fun x25 G26 =>
 bS (gP x16 false (bn Q q .geq 3 (.tmp 20) (.tmp 24) x17 x25) G26) fun x27 G28 =>
 bP (pickV x16 (.bool true) x27) fun x29 =>
 ifV x29 (
 some ((.int .i64 (-1)),G28)) (
 bP (fa Q q 274 0 0 x0) fun x30 =>
 bP (ld Q q 3 x30 (G28.room 12)) fun x31 =>
 fl q 274 2 2 272 x0 (G28.room 12) fun x33 =>
 bP (ifc Q q 272 x33) fun x34 =>
 bS (cInvoke Q e.ev x34 "coxswain/tower.cells" [] (G28.room 12)) fun x36 G35 =>
 chk ((sameO (ld Q q 3 x30 G35) x31 && true)) <|
 bP (bn Q q .mul 3 (.tmp 29) (.tmp 33) v1 x36) fun x37 =>
 bP (bn Q q .add 3 (.tmp 28) (.tmp 34) x31 x37) fun x38 =>
 bP (bn Q q .add 3 (.tmp 35) (.tmp 36) x38 v2) fun x39 =>
 some (x39,G35))
theorem f178 (h:ExLe Q e (E orc)) (v0 v1 v2:Value) (G:GS):Ref (s178 true e v0 v1 v2 G) ((E orc).cl 178 [v0,v1,v2] G):=cS (S:=fun q e=>s178 q e v0 v1 v2 G) Tryz.func178 (by unfold s178; exact Ref.gq)
def s179 (q:Bool) (e:Ex) (v0:Value) (G:GS):OG :=
 bS (bx q v0 G) fun x0 G1 =>
 bS (al Q q 278 z278 G1) fun x2 G3 =>
 fl q 45 1 1 3 x0 G3 fun x5 =>
 fl q 45 2 2 3 x0 G3 fun x7 =>
 bP (bd Q q 278 z278 [(0,0,1),(1,1,1),(2,2,1)] [x5,(.int .i64 1),x7]) fun x8 =>
 bP (st Q q 278 3 x2 x8 G3) fun G9 =>
 bP (lda Q q 278 3 x2 G9) fun x10 =>
 some (x10,G9)
theorem f179 (h:ExLe Q e (E orc)) (v0:Value) (G:GS):Ref (s179 true e v0 G) ((E orc).cl 179 [v0] G):=cS (S:=fun q e=>s179 q e v0 G) Tryz.func179 (by unfold s179; exact Ref.gq)
def s180 (q:Bool) (e:Ex) (v0 v1 v2:Value) (G:GS):OG :=
 bS (bx q v0 G) fun x0 G1 =>
 bP (bn Q q .lss 3 (.tmp 7) (.const (.int .i64 0)) v1 (.int .i64 0)) fun x2 =>
 bS (gV x2 false v1 G1) fun x3 G4 =>
 bS (gP x2 false (fa Q q 278 1 1 x0) G4) fun x5 G6 =>
 bS (gP x2 false (ld Q q 3 x5 G6) G6) fun x7 G8 =>
 bS (gP x2 false (bn Q q .geq 3 (.tmp 10) (.tmp 12) x3 x7) G8) fun x9 G10 =>
 bP (pickV x2 (.bool true) x9) fun x11 =>
 bS (gV x11 false v2 G10) fun x12 G13 =>
 bS (gP x11 false (bn Q q .lss 3 (.tmp 16) (.const (.int .i64 0)) x12 (.int .i64 0)) G13) fun x14 G15 =>
 bP (pickV x11 (.bool true) x14) fun x16 =>
 bS (gV x16 false v2 G15) fun x17 G18 =>
 bS (gP x16 false (fa Q q 278 2 2 x0) G18) fun x19 G20 =>
 bS (gP x16 false (ld Q q 276 x19 G20) G20) fun x21 G22 =>
 bS (gP x16 false (ifc Q q 276 x21) G22) fun x23 G24 =>
 bS (gS x16 false (cInvoke Q e.ev x23 "coxswain/tower.cells" [] G24) G24) fun x25 G26 =>
 bS (gP x16 false (bn Q q .geq 3 (.tmp 20) (.tmp 24) x17 x25) G26) fun x27 G28 =>
 bP (pickV x16 (.bool true) x27) fun x29 =>
 ifV x29 (
 some ((.int .i64 (-1)),G28)) (
 bP (fa Q q 278 0 0 x0) fun x30 =>
 bP (ld Q q 3 x30 (G28.room 12)) fun x31 =>
 fl q 278 2 2 276 x0 (G28.room 12) fun x33 =>
 bP (ifc Q q 276 x33) fun x34 =>
 bS (cInvoke Q e.ev x34 "coxswain/tower.cells" [] (G28.room 12)) fun x36 G35 =>
 chk ((sameO (ld Q q 3 x30 G35) x31 && true)) <|
 bP (bn Q q .mul 3 (.tmp 29) (.tmp 33) v1 x36) fun x37 =>
 bP (bn Q q .add 3 (.tmp 28) (.tmp 34) x31 x37) fun x38 =>
 bP (bn Q q .add 3 (.tmp 35) (.tmp 36) x38 v2) fun x39 =>
 some (x39,G35))
theorem f180 (h:ExLe Q e (E orc)) (v0 v1 v2:Value) (G:GS):Ref (s180 true e v0 v1 v2 G) ((E orc).cl 180 [v0,v1,v2] G):=cS (S:=fun q e=>s180 q e v0 v1 v2 G) Tryz.func180 (by unfold s180; exact Ref.gq)
def s181 (q:Bool) (e:Ex) (v0 v1:Value) (G:GS):OG :=
 bS (bx q v0 G) fun x0 G1 =>
 bP (bn Q q .lss 3 (.tmp 5) (.const (.int .i64 0)) v1 (.int .i64 0)) fun x2 =>
 bS (gV x2 false v1 G1) fun x3 G4 =>
 bS (gP x2 false (fa Q q 41 2 2 x0) G4) fun x5 G6 =>
 bS (gP x2 false (ld Q q 3 x5 G6) G6) fun x7 G8 =>
 bS (gP x2 false (bn Q q .geq 3 (.tmp 8) (.tmp 10) x3 x7) G8) fun x9 G10 =>
 bP (pickV x2 (.bool true) x9) fun x11 =>
 some (x11,G10)
theorem f181 (h:ExLe Q e (E orc)) (v0 v1:Value) (G:GS):Ref (s181 true e v0 v1 G) ((E orc).cl 181 [v0,v1] G):=cS (S:=fun q e=>s181 q e v0 v1 G) Tryz.func181 (by unfold s181; exact Ref.gq)
def s182 (q:Bool) (e:Ex) (v0 v1:Value) (G:GS):OG :=
 nf q 282 1 3 v0 fun x1 =>
 bP (st Q q 3 1 x1 (.int .i64 (-1)) G) fun G2 =>
 nf q 282 3 5 v0 fun x4 =>
 bP (st Q q 51 1 x4 v1 G2) fun G5 =>
 some (.tuple #[],G5)
theorem f182 (h:ExLe Q e (E orc)) (v0 v1:Value) (G:GS):Ref (s182 true e v0 v1 G) ((E orc).cl 182 [v0,v1] G):=cS (S:=fun q e=>s182 q e v0 v1 G) Tryz.func182 (by unfold s182; exact Ref.gq)
def s183 (q:Bool) (e:Ex) (v0 v1:Value) (G:GS):OG :=
 nf q 285 1 6 v0 fun x1 =>
 fl q 41 0 0 3 x1 G fun x3 =>
 bS (e.ev.cl 70 [v1,x3] G) fun x4 G5 =>
 bP (cv Q q 23 283 .u64 .u32 x4) fun x6 =>
 nf q 285 3 10 v0 fun x8 =>
 bP (st Q q 283 1 x8 x6 G5) fun G9 =>
 nf q 285 0 0 v0 fun x11 =>
 bP (fa Q q 282 1 3 x11) fun x12 =>
 bP (st Q q 3 1 x12 (.int .i64 1) G9) fun G13 =>
 some (.tuple #[],G13)
theorem f183 (h:ExLe Q e (E orc)) (v0 v1:Value) (G:GS):Ref (s183 true e v0 v1 G) ((E orc).cl 183 [v0,v1] G):=cS (S:=fun q e=>s183 q e v0 v1 G) Tryz.func183 (by unfold s183; exact Ref.gq)
def s184 (q:Bool) (e:Ex) (v0 v1:Value) (G:GS):OG :=
 nl q 285 2 9 3 v0 (G.room 12) fun x2 =>
 nl q 285 3 10 283 v0 (G.room 12) fun x5 =>
 bP (cv Q q 283 23 .u32 .u64 x5) fun x6 =>
 bP (bn Q q .add 23 (.tmp 13) (.const (.int .u64 1)) x6 (.int .u64 1)) fun x7 =>
 bS (e.ev.cl 23 [v1,x2,x7] (G.room 12)) fun x9 G8 =>
 nf q 285 0 0 v0 fun x11 =>
 bP (fa Q q 282 1 3 x11) fun x12 =>
 bP (st Q q 3 1 x12 (.int .i64 2) G8) fun G13 =>
 some (.tuple #[],G13)
theorem f184 (h:ExLe Q e (E orc)) (v0 v1:Value) (G:GS):Ref (s184 true e v0 v1 G) ((E orc).cl 184 [v0,v1] G):=cS (S:=fun q e=>s184 q e v0 v1 G) Tryz.func184 (by unfold s184; exact Ref.gq)
def s185 (q:Bool) (e:Ex) (v0 v1:Value) (G:GS):OG :=
 nf q 285 1 6 v0 fun x1 =>
 fl q 41 0 0 3 x1 G fun x3 =>
 bS (e.ev.cl 70 [v1,x3] G) fun x4 G5 =>
 bP (cv Q q 23 283 .u64 .u32 x4) fun x6 =>
 nl q 285 3 10 283 v0 G5 fun x9 =>
 bP (bn Q q .eql 283 (.tmp 13) (.tmp 17) x6 x9) fun x10 =>
 ifV x10 (
 nf q 285 0 0 v0 fun x12 =>
 bS (e.ev.cl 182 [x12,(.int .i64 0)] G5) fun x13 G14 =>
 some (.tuple #[],G14)) (
 nf q 285 3 10 v0 fun x16 =>
 bP (st Q q 283 1 x16 x6 G5) fun G17 =>
 nf q 285 0 0 v0 fun x19 =>
 bP (fa Q q 282 1 3 x19) fun x20 =>
 bP (st Q q 3 1 x20 (.int .i64 1) G17) fun G21 =>
 some (.tuple #[],G21))
theorem f185 (h:ExLe Q e (E orc)) (v0 v1:Value) (G:GS):Ref (s185 true e v0 v1 G) ((E orc).cl 185 [v0,v1] G):=cS (S:=fun q e=>s185 q e v0 v1 G) Tryz.func185 (by unfold s185; exact Ref.gq)
def s186 (q:Bool) (e:Ex) (v0:Value) (G:GS):OG :=
 nl q 282 2 4 4 v0 G fun x2 =>
 bP (un Q q .not x2) fun x3 =>
 ifV x3 (
 some ((.int .i64 1),G)) (
 nl q 282 1 3 3 v0 G fun x6 =>
 bP (bn Q q .neq 3 (.tmp 13) (.const (.int .i64 (-1))) x6 (.int .i64 (-1))) fun x7 =>
 ifV x7 (
 some ((.int .i64 14),G)) (
 nl q 282 3 5 51 v0 G fun x10 =>
 some (x10,G)))
theorem f186 (h:ExLe Q e (E orc)) (v0:Value) (G:GS):Ref (s186 true e v0 G) ((E orc).cl 186 [v0] G):=cS (S:=fun q e=>s186 q e v0 G) Tryz.func186 (by unfold s186; exact Ref.gq)
def s194 (q:Bool) (e:Ex) (v0 v1 v2:Value) (G:GS):OG :=
 bS (bx q v0 G) fun x0 G1 =>
 bP (bn Q q .lss 3 (.tmp 7) (.const (.int .i64 0)) v2 (.int .i64 0)) fun x2 =>
 bS (gV x2 false v2 G1) fun x3 G4 =>
 bS (gP x2 false (bn Q q .geq 3 (.tmp 10) (.const (.int .i64 4)) x3 (.int .i64 4)) G4) fun x5 G6 =>
 bP (pickV x2 (.bool true) x5) fun x7 =>
 ifV x7 (
 some ((.int .i64 (-1)),G6)) (
 bP (lda Q q 45 13 x0 G6) fun x8 =>
 bP (bn Q q .add 3 (.const (.int .i64 4)) (.tmp 15) (.int .i64 4) v2) fun x9 =>
 bS (e.ev.cl 142 [x8,v1,x9] G6) fun x10 G11 =>
 some (x10,G11))
theorem f194 (h:ExLe Q e (E orc)) (v0 v1 v2:Value) (G:GS):Ref (s194 true e v0 v1 v2 G) ((E orc).cl 194 [v0,v1,v2] G):=cS (S:=fun q e=>s194 q e v0 v1 v2 G) Tryz.func194 (by unfold s194; exact Ref.gq)
def s195 (q:Bool) (e:Ex) (v0 v1:Value) (G:GS):OG :=
 nl q 298 1 6 3 v0 G fun x2 =>
 bS (e.ev.cl 23 [v1,x2,(.int .u64 0)] G) fun x3 G4 =>
 nf q 298 0 0 v0 fun x6 =>
 bS (e.ev.cl 182 [x6,(.int .i64 0)] G4) fun x7 G8 =>
 some (.tuple #[],G8)
theorem f195 (h:ExLe Q e (E orc)) (v0 v1:Value) (G:GS):Ref (s195 true e v0 v1 G) ((E orc).cl 195 [v0,v1] G):=cS (S:=fun q e=>s195 q e v0 v1 G) Tryz.func195 (by unfold s195; exact Ref.gq)
def b196_0 (q:Bool) (e:Ex) (lp:LpF) (τ:Env) (G:GS):OL :=
 bV q (τ 1) fun a1_ =>
 bV q (τ 2) fun a2_ =>
 bV q (τ 4) fun a4_ =>
 bP (fa Q q 37 2 2 a2_) fun x0 =>
 bP (ld Q q 3 x0 G) fun x1 =>
 bP (bn Q q .sub 3 (.tmp 19) (.const (.int .i64 1)) x1 (.int .i64 1)) fun x2 =>
 bP (bn Q q .lss 3 (.tmp 17) (.tmp 20) a4_ x2) fun x3 =>
 ifV x3 (
 bP (fa Q q 37 1 1 a2_) fun x4 =>
 bP (ld Q q 3 x4 G) fun x5 =>
 bP (bn Q q .add 3 (.tmp 26) (.tmp 27) x5 a4_) fun x6 =>
 bP (bn Q q .add 3 (.tmp 29) (.const (.int .i64 2)) a4_ (.int .i64 2)) fun x7 =>
 bP (cv Q q 3 23 .i64 .u64 x7) fun x8 =>
 bS (e.ev.cl 35 [a1_,x6,x8] G) fun x9 G10 =>
 bP (bn Q q .add 3 (.tmp 22) (.const (.int .i64 1)) a4_ (.int .i64 1)) fun x11 =>
 lp (xq q 41 τ [(4,x11),(23,x11),(22,a4_),(32,x9),(31,x8),(30,x7),(29,a4_),(28,x6),(27,a4_),(26,x5),(25,x4),(24,a1_),(21,x3),(20,x2),(19,x1),(18,x0),(17,a4_)] [(1,a1_),(2,a2_)]) G10) (
 some ((.exit 0),xq q 41 τ [(21,x3),(20,x2),(19,x1),(18,x0),(17,a4_)] [(1,a1_),(2,a2_),(4,a4_)],G))
theorem l196_0 (h:ExLe Q e (E orc)):LT orc 41 (subAt [1,1,1,0,1,0,0] (bodyOf Tryz.f196)) (b196_0 true e):=cL fun hlp τ G=>by unfold b196_0; exact Ref.gq
def s196 (q:Bool) (e:Ex) (v0 v1:Value) (G:GS):OG :=
 bS (bx q v0 G) fun x0 G1 =>
 bP (fa Q q 37 2 2 x0) fun x2 =>
 bP (ld Q q 3 x2 G1) fun x3 =>
 bP (bn Q q .lss 3 (.tmp 6) (.const (.int .i64 1)) x3 (.int .i64 1)) fun x4 =>
 bS (gP x4 false (fa Q q 37 2 2 x0) G1) fun x5 G6 =>
 bS (gP x4 false (ld Q q 3 x5 G6) G6) fun x7 G8 =>
 bS (gP x4 false (bn Q q .gtr 3 (.tmp 10) (.const (.int .i64 4096)) x7 (.int .i64 4096)) G8) fun x9 G10 =>
 bP (pickV x4 (.bool true) x9) fun x11 =>
 ifV x11 (
 some (.tuple #[],G10)) (
 bP (fa Q q 37 0 0 x0) fun x12 =>
 bP (ld Q q 3 x12 G10) fun x13 =>
 bS (e.ev.cl 35 [v1,x13,(.int .u64 1)] G10) fun x14 G15 =>
 bLq q e 196 0 (subAt [1,1,1,0,1,0,0] (bodyOf Tryz.f196)) 41 (nth undef [v0,v1]) [(4,(.int .i64 0)),(16,x14),(15,x13),(14,x12),(13,v1),(12,x11),(11,x9),(10,x7),(9,x5),(8,x4),(7,x4),(6,x3),(5,x2),(2,x0)] [] G15 fun e16 t17 G18 =>
 bV q (t17 1) fun t17x1_ =>
 bV q (t17 2) fun t17x2_ =>
 ifE e16 (.exit 0) (
 fl q 37 1 1 3 t17x2_ G18 fun x20 =>
 fl q 37 2 2 3 t17x2_ G18 fun x22 =>
 bP (bn Q q .add 3 (.tmp 35) (.tmp 37) x20 x22) fun x23 =>
 bP (bn Q q .sub 3 (.tmp 38) (.const (.int .i64 1)) x23 (.int .i64 1)) fun x24 =>
 bS (e.ev.cl 35 [t17x1_,x24,(.int .u64 0)] G18) fun x25 G26 =>
 some (.tuple #[],G26)) (none))
theorem f196 (h:ExLe Q e (E orc)) (v0 v1:Value) (G:GS):Ref (s196 true e v0 v1 G) ((E orc).cl 196 [v0,v1] G):=cS (S:=fun q e=>s196 q e v0 v1 G) Tryz.func196 (by unfold s196; exact Ref.gq)
def s197 (q:Bool) (e:Ex) (v0 v1:Value) (G:GS):OG :=
 bS (bx q v0 G) fun x0 G1 =>
 bP (bn Q q .lss 3 (.tmp 5) (.const (.int .i64 0)) v1 (.int .i64 0)) fun x2 =>
 bS (gV x2 false v1 G1) fun x3 G4 =>
 bS (gP x2 false (fa Q q 41 2 2 x0) G4) fun x5 G6 =>
 bS (gP x2 false (ld Q q 3 x5 G6) G6) fun x7 G8 =>
 bS (gP x2 false (bn Q q .geq 3 (.tmp 8) (.tmp 10) x3 x7) G8) fun x9 G10 =>
 bP (pickV x2 (.bool true) x9) fun x11 =>
 some (x11,G10)
theorem f197 (h:ExLe Q e (E orc)) (v0 v1:Value) (G:GS):Ref (s197 true e v0 v1 G) ((E orc).cl 197 [v0,v1] G):=cS (S:=fun q e=>s197 q e v0 v1 G) Tryz.func197 (by unfold s197; exact Ref.gq)
def s198 (q:Bool) (e:Ex) (v0:Value) (G:GS):OG :=
 bP (bn Q q .rem 23 (.tmp 3) (.const (.int .u64 4294967296)) v0 (.int .u64 4294967296)) fun x0 =>
 bP (cv Q q 23 3 .u64 .i64 x0) fun x1 =>
 some (x1,G)
theorem f198 (h:ExLe Q e (E orc)) (v0:Value) (G:GS):Ref (s198 true e v0 G) ((E orc).cl 198 [v0] G):=cS (S:=fun q e=>s198 q e v0 G) Tryz.func198 (by unfold s198; exact Ref.gq)
def s199 (q:Bool) (e:Ex) (v0 v1 v2:Value) (G:GS):OG :=
 nf q 198 0 0 v0 fun x1 =>
 bP (lda Q q 45 13 x1 G) fun x2 =>
 bS (e.ev.cl 226 [x2,v1,v2] G) fun x3 G4 =>
 some (x3,G4)
theorem f199 (h:ExLe Q e (E orc)) (v0 v1 v2:Value) (G:GS):Ref (s199 true e v0 v1 v2 G) ((E orc).cl 199 [v0,v1,v2] G):=cS (S:=fun q e=>s199 q e v0 v1 v2 G) Tryz.func199 (by unfold s199; exact Ref.gq)
def s200 (q:Bool) (e:Ex) (v0 v1:Value) (G:GS):OG :=
 bS (bx q v0 G) fun x0 G1 =>
 bP (fa Q q 45 3 3 x0) fun x2 =>
 bP (fa Q q 43 0 0 x2) fun x3 =>
 bP (fa Q q 39 0 0 x3) fun x4 =>
 bP (lda Q q 37 3 x4 G1) fun x5 =>
 bS (e.ev.cl 227 [x5,v1] G1) fun x6 G7 =>
 some (x6,G7)
theorem f200 (h:ExLe Q e (E orc)) (v0 v1:Value) (G:GS):Ref (s200 true e v0 v1 G) ((E orc).cl 200 [v0,v1] G):=cS (S:=fun q e=>s200 q e v0 v1 G) Tryz.func200 (by unfold s200; exact Ref.gq)
def s201 (q:Bool) (e:Ex) (v0 v1 v2:Value) (G:GS):OG :=
 nl q 198 3 15 23 v0 G fun x2 =>
 nf q 198 11 24 v0 fun x4 =>
 bP (st Q q 23 1 x4 x2 G) fun G5 =>
 nf q 198 0 0 v0 fun x7 =>
 bP (lda Q q 45 13 x7 (G5.room 13)) fun x8 =>
 nl q 198 5 17 3 v0 (G5.room 13) fun x11 =>
 bS (e.ev.cl 208 [x8,x11,v2] (G5.room 13)) fun x13 G12 =>
 bS (e.ev.cl 90 [v1,x13] G12) fun x15 G14 =>
 some (x15,G14)
theorem f201 (h:ExLe Q e (E orc)) (v0 v1 v2:Value) (G:GS):Ref (s201 true e v0 v1 v2 G) ((E orc).cl 201 [v0,v1,v2] G):=cS (S:=fun q e=>s201 q e v0 v1 v2 G) Tryz.func201 (by unfold s201; exact Ref.gq)
def s202 (q:Bool) (e:Ex) (v0 v1 v2 v3:Value) (G:GS):OG :=
 bS (e.ev.cl 119 [v0,v1] G) fun x0 G1 =>
 bP (bn Q q .eql 23 (.tmp 13) (.tmp 14) x0 v2) fun x2 =>
 bS (e.ev.cl 86 [v0,(.int .i64 3),v1,x2,v3] G1) fun x3 G4 =>
 nf q 154 1 1 v0 fun x6 =>
 fl q 82 4 4 4 x6 G4 fun x8 =>
 some (x8,G4)
theorem f202 (h:ExLe Q e (E orc)) (v0 v1 v2 v3:Value) (G:GS):Ref (s202 true e v0 v1 v2 v3 G) ((E orc).cl 202 [v0,v1,v2,v3] G):=cS (S:=fun q e=>s202 q e v0 v1 v2 v3 G) Tryz.func202 (by unfold s202; exact Ref.gq)
def s204 (q:Bool) (e:Ex) (v0 v1:Value) (G:GS):OG :=
 bS (bx q v0 G) fun x0 G1 =>
 bP (lda Q q 45 13 x0 G1) fun x2 =>
 bS (e.ev.cl 72 [x2] G1) fun x3 G4 =>
 bP (un Q q .not x3) fun x5 =>
 ifV x5 (
 bP (bd Q q 346 z346 [(2,14,1),(12,24,1)] [(.int .i64 9),(.int .i64 2)]) fun x6 =>
 bS (bx q x6 G4) fun x7 G8 =>
 some (x7,G8)) (
 bP (lda Q q 45 13 x0 (G4.room 14)) fun x9 =>
 fl q 45 2 2 3 x0 (G4.room 14) fun x11 =>
 bS (mk Q q 35 1 8 z3 x11 x11 ((G4.room 14).at' (G4.nx + 4))) fun x12 G13 =>
 bP (fa Q q 45 2 2 x0) fun x14 =>
 bP (ld Q q 3 x14 (G13.back (G4.room 14))) fun x15 =>
 bS (mk Q q 22 1 8 z23 x15 x15 ((G13.back (G4.room 14)).at' (G4.nx + 7))) fun x16 G17 =>
 bP (fa Q q 45 2 2 x0) fun x18 =>
 bP (ld Q q 3 x18 (G17.back (G13.back (G4.room 14)))) fun x19 =>
 bS (mk Q q 22 1 8 z23 x19 x19 ((G17.back (G13.back (G4.room 14))).at' (G4.nx + 10))) fun x20 G21 =>
 bP (bd Q q 346 z346 [(0,0,13),(1,13,1),(8,20,1),(9,21,1),(10,22,1)] [x9,v1,x12,x16,x20]) fun x22 =>
 bS (bx q x22 ((G21.back (G17.back (G13.back (G4.room 14)))).at' (G4.nx + 12))) fun x23 G24 =>
 bS (e.ev.cl 228 [x23] (G24.back (G21.back (G17.back (G13.back (G4.room 14)))))) fun x25 G26 =>
 some (x23,G26))
theorem f204 (h:ExLe Q e (E orc)) (v0 v1:Value) (G:GS):Ref (s204 true e v0 v1 G) ((E orc).cl 204 [v0,v1] G):=cS (S:=fun q e=>s204 q e v0 v1 G) Tryz.func204 (by unfold s204; exact Ref.gq)
def s208 (q:Bool) (e:Ex) (v0 v1 v2:Value) (G:GS):OG :=
 bS (bx q v0 G) fun x0 G1 =>
 bP (lda Q q 45 13 x0 G1) fun x2 =>
 bS (e.ev.cl 72 [x2] G1) fun x3 G4 =>
 bP (un Q q .not x3) fun x5 =>
 bS (gV x5 false v1 G4) fun x6 G7 =>
 bS (gP x5 false (bn Q q .lss 3 (.tmp 11) (.const (.int .i64 (-1))) x6 (.int .i64 (-1))) G7) fun x8 G9 =>
 bP (pickV x5 (.bool true) x8) fun x10 =>
 bS (gV x10 false v1 G9) fun x11 G12 =>
 bS (gP x10 false (fa Q q 45 3 3 x0) G12) fun x13 G14 =>
 bS (gP x10 false (fa Q q 43 0 0 x13) G14) fun x15 G16 =>
 bS (gP x10 false (fa Q q 39 0 0 x15) G16) fun x17 G18 =>
 bS (gP x10 false (fa Q q 37 2 2 x17) G18) fun x19 G20 =>
 bS (gP x10 false (ld Q q 3 x19 G20) G20) fun x21 G22 =>
 bS (gP x10 false (bn Q q .geq 3 (.tmp 15) (.tmp 20) x11 x21) G22) fun x23 G24 =>
 bP (pickV x10 (.bool true) x23) fun x25 =>
 bS (gV x25 false v2 G24) fun x26 G27 =>
 bS (gP x25 false (bn Q q .lss 3 (.tmp 24) (.const (.int .i64 0)) x26 (.int .i64 0)) G27) fun x28 G29 =>
 bP (pickV x25 (.bool true) x28) fun x30 =>
 bS (gV x30 false v2 G29) fun x31 G32 =>
 bS (gP x30 false (fa Q q 45 2 2 x0) G32) fun x33 G34 =>
 bS (gP x30 false (ld Q q 3 x33 G34) G34) fun x35 G36 =>
 bS (gP x30 false (bn Q q .add 3 (.const (.int .i64 4)) (.tmp 30) (.int .i64 4) x35) G36) fun x37 G38 =>
 bS (gP x30 false (bn Q q .geq 3 (.tmp 28) (.tmp 31) x31 x37) G38) fun x39 G40 =>
 bP (pickV x30 (.bool true) x39) fun x41 =>
 bS (gV x41 false v1 G40) fun x42 G43 =>
 bS (gP x41 false (bn Q q .lss 3 (.tmp 35) (.const (.int .i64 0)) x42 (.int .i64 0)) G43) fun x44 G45 =>
 bS (gV x41 false x44 G45) fun x46 G47 =>
 bS (gV x46 true v2 G47) fun x48 G49 =>
 bS (gP x46 true (bn Q q .lss 3 (.tmp 38) (.const (.int .i64 4)) x48 (.int .i64 4)) G49) fun x50 G51 =>
 bS (gP x41 false (pickV x46 x50 (.bool false)) G51) fun x52 G53 =>
 bP (pickV x41 (.bool true) x52) fun x54 =>
 ifV x54 (
 some ((.int .i64 (-1)),G53)) (
 bP (bn Q q .lss 3 (.tmp 42) (.const (.int .i64 0)) v1 (.int .i64 0)) fun x55 =>
 ifV x55 (
 fl q 45 1 1 3 x0 G53 fun x57 =>
 bP (bn Q q .add 3 (.tmp 45) (.tmp 46) x57 v2) fun x58 =>
 bP (bn Q q .sub 3 (.tmp 47) (.const (.int .i64 4)) x58 (.int .i64 4)) fun x59 =>
 some (x59,G53)) (
 fl q 45 0 0 3 x0 G53 fun x61 =>
 fl q 45 2 2 3 x0 G53 fun x63 =>
 bP (bn Q q .add 3 (.const (.int .i64 4)) (.tmp 53) (.int .i64 4) x63) fun x64 =>
 bP (bn Q q .mul 3 (.tmp 51) (.tmp 54) v1 x64) fun x65 =>
 bP (bn Q q .add 3 (.tmp 50) (.tmp 55) x61 x65) fun x66 =>
 bP (bn Q q .add 3 (.tmp 56) (.tmp 57) x66 v2) fun x67 =>
 some (x67,G53)))
theorem f208 (h:ExLe Q e (E orc)) (v0 v1 v2:Value) (G:GS):Ref (s208 true e v0 v1 v2 G) ((E orc).cl 208 [v0,v1,v2] G):=cS (S:=fun q e=>s208 q e v0 v1 v2 G) Tryz.func208 (by unfold s208; exact Ref.gq)
def s212 (q:Bool) (e:Ex) (v0:Value) (G:GS):OG :=
 bS (bx q v0 G) fun x0 G1 =>
 fl q 313 0 0 3 x0 G1 fun x3 =>
 bP (bd Q q 354 z354 [(0,0,1),(1,1,1),(2,2,1)] [x3,(.int .i64 (-1)),(.int .i64 65534)]) fun x4 =>
 fl q 313 1 1 3 x0 G1 fun x6 =>
 bP (bd Q q 354 z354 [(0,0,1),(1,1,1),(2,2,1)] [x6,(.int .i64 0),(.int .i64 281474976710655)]) fun x7 =>
 bS (bs Q q 395 2 (rep z354 2) 3 [(0,0,3),(1,3,3)] [x4,x7] G1) fun x8 G9 =>
 bS (e.ev.cl 235 [x8] G9) fun x10 G11 =>
 bP (un Q q .not x10) fun x12 =>
 ifV x12 (
 some (.tuple #[(.int .u64 0),(.int .i64 3)],G11)) (
 bS (e.ev.cl 236 [] G11) fun x13 G14 =>
 bS (al Q q 357 z357 G14) fun x15 G16 =>
 bP (st Q q 357 4 x15 x13 G16) fun G17 =>
 bP (sla Q q 357 2 2 x15 none none none (G17.room 10)) fun x18 =>
 fl q 313 0 0 3 x0 (G17.room 10) fun x20 =>
 bP (bn Q q .add 3 (.tmp 17) (.const (.int .i64 1)) x20 (.int .i64 1)) fun x21 =>
 fl q 313 1 1 3 x0 (G17.room 10) fun x23 =>
 bS (bs Q q 35 2 (rep z3 2) 1 [(0,0,1),(1,1,1)] [x21,x23] ((G17.room 10).at' (G17.nx + 6))) fun x24 G25 =>
 bS (e.ev.cl 237 [x18,x24] (G25.back (G17.room 10))) fun x27 G26 =>
 some (.tuple #[x27,(.int .i64 0)],G26))
theorem f212 (h:ExLe Q e (E orc)) (v0:Value) (G:GS):Ref (s212 true e v0 G) ((E orc).cl 212 [v0] G):=cS (S:=fun q e=>s212 q e v0 G) Tryz.func212 (by unfold s212; exact Ref.gq)
def s226 (q:Bool) (e:Ex) (v0 v1 v2:Value) (G:GS):OG :=
 bS (bx q v0 G) fun x0 G1 =>
 bP (bn Q q .lss 3 (.tmp 7) (.const (.int .i64 0)) v2 (.int .i64 0)) fun x2 =>
 bS (gV x2 false v2 G1) fun x3 G4 =>
 bS (gP x2 false (bn Q q .geq 3 (.tmp 10) (.const (.int .i64 4)) x3 (.int .i64 4)) G4) fun x5 G6 =>
 bP (pickV x2 (.bool true) x5) fun x7 =>
 ifV x7 (
 some ((.int .i64 (-1)),G6)) (
 bP (lda Q q 45 13 x0 G6) fun x8 =>
 bP (bn Q q .add 3 (.const (.int .i64 4)) (.tmp 15) (.int .i64 4) v2) fun x9 =>
 bS (e.ev.cl 208 [x8,v1,x9] G6) fun x10 G11 =>
 some (x10,G11))
theorem f226 (h:ExLe Q e (E orc)) (v0 v1 v2:Value) (G:GS):Ref (s226 true e v0 v1 v2 G) ((E orc).cl 226 [v0,v1,v2] G):=cS (S:=fun q e=>s226 q e v0 v1 v2 G) Tryz.func226 (by unfold s226; exact Ref.gq)
def s227 (q:Bool) (e:Ex) (v0 v1:Value) (G:GS):OG :=
 bS (bx q v0 G) fun x0 G1 =>
 bP (bn Q q .rem 23 (.tmp 6) (.const (.int .u64 65536)) v1 (.int .u64 65536)) fun x2 =>
 bP (cv Q q 23 3 .u64 .i64 x2) fun x3 =>
 bP (bn Q q .sub 3 (.tmp 8) (.const (.int .i64 1)) x3 (.int .i64 1)) fun x4 =>
 fl q 37 2 2 3 x0 G1 fun x6 =>
 bP (bn Q q .geq 3 (.tmp 10) (.tmp 12) x4 x6) fun x7 =>
 ifV x7 (
 some ((.int .i64 (-1)),G1)) (
 some (x4,G1))
theorem f227 (h:ExLe Q e (E orc)) (v0 v1:Value) (G:GS):Ref (s227 true e v0 v1 G) ((E orc).cl 227 [v0,v1] G):=cS (S:=fun q e=>s227 q e v0 v1 G) Tryz.func227 (by unfold s227; exact Ref.gq)
def s228 (q:Bool) (e:Ex) (v0:Value) (G:GS):OG :=
 nf q 346 2 14 v0 fun x1 =>
 bP (st Q q 3 1 x1 (.int .i64 1) G) fun G2 =>
 nf q 346 0 0 v0 fun x4 =>
 fl q 45 2 2 3 x4 G2 fun x6 =>
 bP (bn Q q .sub 3 (.tmp 10) (.const (.int .i64 1)) x6 (.int .i64 1)) fun x7 =>
 nf q 346 3 15 v0 fun x9 =>
 bP (st Q q 3 1 x9 x7 G2) fun G10 =>
 nf q 346 4 16 v0 fun x12 =>
 bP (st Q q 3 1 x12 (.int .i64 (-1)) G10) fun G13 =>
 nf q 346 5 17 v0 fun x15 =>
 bP (st Q q 23 1 x15 (.int .u64 0) G13) fun G16 =>
 some (.tuple #[],G16)
theorem f228 (h:ExLe Q e (E orc)) (v0:Value) (G:GS):Ref (s228 true e v0 G) ((E orc).cl 228 [v0] G):=cS (S:=fun q e=>s228 q e v0 G) Tryz.func228 (by unfold s228; exact Ref.gq)
def jb234_0 (q:Bool) (e:Ex) (τ:Env) (G:GS):OG :=
 bV q (τ 0) fun a0_ =>
 nl q 394 1 3 3 a0_ G fun x2 =>
 bP (bn Q q .eql 3 (.tmp 83) (.const (.int .i64 9)) x2 (.int .i64 9)) fun x3 =>
 some (x3,G)
def j234_0 (q:Bool) (e:Ex) (τ:Env) (G:GS):OG:=jb234_0 q e τ G
theorem mj234_0 {e:Ex} {E:Ev} (h:ExLe Q e E) (τ:Env) (G:GS):Ref (j234_0 true e τ G) (j234_0 false (Ex.of E) τ G):=by
 unfold j234_0 jb234_0
 exact Ref.gq
theorem mkj234_0 {e:Ex} {E:Ev} (h:ExLe Q e E) {τ:Env} {l U:List (Nat × Value)} {G:GS} (hU:UOk τ U):Ref (j234_0 true e (xq true 85 τ l U) G) (j234_0 false (Ex.of E) (xq false 85 τ l U) G):=by
 rw [xq_eq hU]
 exact mj234_0 h _ _
def sb234 (q:Bool) (e:Ex) (J0:Env → GS → OG) (v0 v1:Value) (G:GS):OG :=
 bP (pNil v0) fun x4 =>
 bP (fa Q q 394 1 3 x4) fun x5 =>
 bP (ld Q q 3 x5 G) fun x6 =>
 bP (bn Q q .eql 3 (.tmp 8) (.const (.int .i64 1)) x6 (.int .i64 1)) fun x7 =>
 ifV x7 (
 bP (pNil v0) fun x8 =>
 bP (fa Q q 394 0 0 x8) fun x9 =>
 bP (fa Q q 37 0 0 x9) fun x10 =>
 bP (ld Q q 3 x10 G) fun x11 =>
 bS (e.ev.cl 90 [v1,x11] G) fun x12 G13 =>
 bP (pNil v0) fun x14 =>
 bP (fa Q q 394 2 4 x14) fun x15 =>
 bP (st Q q 23 1 x15 x12 G13) fun G16 =>
 bP (pNil v0) fun x17 =>
 bP (fa Q q 394 1 3 x17) fun x18 =>
 bP (st Q q 3 1 x18 (.int .i64 2) G16) fun G19 =>
 J0 (xq q 85 (nth undef [v0,v1]) [(23,x18),(22,x17),(21,v0),(20,x15),(19,x14),(18,x12),(17,x11),(16,x10),(15,x9),(14,x8),(13,v0),(12,v1),(11,v0),(9,x7),(10,x7),(8,x6),(7,x5),(6,x4),(5,v0),(4,(.bool false))] []) G19) (
 bP (bn Q q .eql 3 (.tmp 8) (.const (.int .i64 2)) x6 (.int .i64 2)) fun x20 =>
 ifV x20 (
 bP (pNil v0) fun x21 =>
 bP (fa Q q 394 0 0 x21) fun x22 =>
 bP (fa Q q 37 1 1 x22) fun x23 =>
 bP (ld Q q 3 x23 (G.room 23)) fun x24 =>
 bP (pNil v0) fun x25 =>
 bP (fa Q q 394 3 5 x25) fun x26 =>
 bP (ld Q q 3 x26 (G.room 23)) fun x27 =>
 bP (bn Q q .add 3 (.tmp 31) (.tmp 35) x24 x27) fun x28 =>
 bP (pNil v0) fun x29 =>
 bP (fa Q q 394 0 0 x29) fun x30 =>
 bP (lda Q q 37 3 x30 (G.room 23)) fun x31 =>
 bP (pNil v0) fun x32 =>
 bP (fa Q q 394 2 4 x32) fun x33 =>
 bP (ld Q q 23 x33 (G.room 23)) fun x34 =>
 bS (e.ev.cl 227 [x31,x34] (G.room 23)) fun x36 G35 =>
 chk ((sameO (ld Q q 3 x26 G35) x27 && (sameO (ld Q q 3 x23 G35) x24 && true))) <|
 bP (bn Q q .add 3 (.tmp 45) (.const (.int .i64 1)) x36 (.int .i64 1)) fun x37 =>
 bP (cv Q q 3 23 .i64 .u64 x37) fun x38 =>
 bS (e.ev.cl 35 [v1,x28,x38] G35) fun x40 G39 =>
 bP (pNil v0) fun x41 =>
 bP (fa Q q 394 1 3 x41) fun x42 =>
 bP (st Q q 3 1 x42 (.int .i64 3) G39) fun G43 =>
 J0 (xq q 85 (nth undef [v0,v1]) [(51,x42),(50,x41),(49,v0),(48,x40),(47,x38),(46,x37),(45,x36),(44,x34),(43,x33),(42,x32),(41,v0),(40,x31),(39,x30),(38,x29),(37,v0),(36,x28),(35,x27),(34,x26),(33,x25),(32,v0),(31,x24),(30,x23),(29,x22),(28,x21),(27,v0),(26,v1),(24,x20),(25,x20),(9,x7),(10,x7),(8,x6),(7,x5),(6,x4),(5,v0),(4,(.bool false))] []) G43) (
 bP (bn Q q .eql 3 (.tmp 8) (.const (.int .i64 3)) x6 (.int .i64 3)) fun x44 =>
 ifV x44 (
 bP (pNil v0) fun x45 =>
 bP (fa Q q 394 1 3 x45) fun x46 =>
 bP (st Q q 3 1 x46 (.int .i64 1) G) fun G47 =>
 bP (pNil v0) fun x48 =>
 bP (fa Q q 394 0 0 x48) fun x49 =>
 bP (fa Q q 37 0 0 x49) fun x50 =>
 bP (ld Q q 3 x50 (G47.room 20)) fun x51 =>
 bP (pNil v0) fun x52 =>
 bP (fa Q q 394 2 4 x52) fun x53 =>
 bP (ld Q q 23 x53 (G47.room 20)) fun x54 =>
 bP (pNil v0) fun x55 =>
 bP (fa Q q 394 3 5 x55) fun x56 =>
 bP (ld Q q 3 x56 (G47.room 20)) fun x57 =>
 bP (pNil v0) fun x58 =>
 bP (fa Q q 394 2 4 x58) fun x59 =>
 bP (ld Q q 23 x59 (G47.room 20)) fun x60 =>
 bS (e.ev.cl 255 [x57,x60] (G47.room 20)) fun x62 G61 =>
 chk ((sameO (ld Q q 23 x53 G61) x54 && (sameO (ld Q q 3 x50 G61) x51 && true))) <|
 bS (e.ev.cl 202 [v1,x51,x54,x62] G61) fun x64 G63 =>
 ifV x64 (
 bP (pNil v0) fun x65 =>
 bP (fa Q q 394 1 3 x65) fun x66 =>
 bP (st Q q 3 1 x66 (.int .i64 9) G63) fun G67 =>
 J0 (xq q 85 (nth undef [v0,v1]) [(79,x66),(78,x65),(77,v0),(76,x64),(75,x62),(74,x60),(73,x59),(72,x58),(71,v0),(70,x57),(69,x56),(68,x55),(67,v0),(66,x54),(65,x53),(64,x52),(63,v0),(62,x51),(61,x50),(60,x49),(59,x48),(58,v0),(57,v1),(56,x46),(55,x45),(54,v0),(52,x44),(53,x44),(24,x20),(25,x20),(9,x7),(10,x7),(8,x6),(7,x5),(6,x4),(5,v0),(4,(.bool false))] []) G67) (
 J0 (xq q 85 (nth undef [v0,v1]) [(76,x64),(75,x62),(74,x60),(73,x59),(72,x58),(71,v0),(70,x57),(69,x56),(68,x55),(67,v0),(66,x54),(65,x53),(64,x52),(63,v0),(62,x51),(61,x50),(60,x49),(59,x48),(58,v0),(57,v1),(56,x46),(55,x45),(54,v0),(52,x44),(53,x44),(24,x20),(25,x20),(9,x7),(10,x7),(8,x6),(7,x5),(6,x4),(5,v0),(4,(.bool false))] []) G63)) (
 J0 (xq q 85 (nth undef [v0,v1]) [(52,x44),(53,x44),(24,x20),(25,x20),(9,x7),(10,x7),(8,x6),(7,x5),(6,x4),(5,v0),(4,(.bool false))] []) G)))
def s234 (q:Bool) (e:Ex) (v0 v1:Value) (G:GS):OG:=sb234 q e (j234_0 q e) v0 v1 G
theorem m234 {e:Ex} {E:Ev} (h:ExLe Q e E) (v0 v1:Value) (G:GS):Ref (s234 true e v0 v1 G) (s234 false (Ex.of E) v0 v1 G):=by
 unfold s234 sb234
 have j0:=@mkj234_0 e E h
 exact Ref.gj
def jt234 (J0:Env → GS → OG):JT (Value × GS) :=
 (.n none .e (.n (some (fun T G=>J0 (nth undef T) G)) .e .e))
theorem jr234_0 (orc:FuncId → Bool) (J0:Env → GS → OG) (T:List Value) (G:GS):runC Q (evL Q orc) Tryz.f234.ntmps (jt234 J0) (bodyOf Tryz.f234) (retE Q Tryz.f234.results.toList) [true] (nth undef T) G = jb234_0 false (Ex.of (E orc))  (nth undef T) G:=by kernel_rfl
theorem jo234 (orc:FuncId → Bool):JOk Q orc Tryz.f234.ntmps (jt234 (j234_0 false (Ex.of (E orc))) ) (bodyOf Tryz.f234) (retE Q Tryz.f234.results.toList) :=
 jOk Q orc (l:=[([true],(fun T G=>j234_0 false (Ex.of (E orc)) (nth undef T) G))]) (by kernel_rfl) (AllE.c (fun T G=>jr234_0 orc (j234_0 false (Ex.of (E orc))) T G) (AllE.z))
theorem je234 (orc:FuncId → Bool) (J0:Env → GS → OG) (v0 v1:Value) (G:GS):sxC Q (evL Q orc) Tryz.f234.ntmps (jt234 J0) (bodyOf Tryz.f234) (nth undef [v0,v1]) G (retE Q Tryz.f234.results.toList) = sb234 false (Ex.of (E orc)) J0 v0 v1 G:=by kernel_rfl
theorem f234 {orc:FuncId → Bool} {e:Ex} (h:ExLe Q e (E orc)) (v0 v1:Value) (G:GS):Ref (s234 true e v0 v1 G) ((E orc).cl 234 [v0,v1] G) :=
 fun r hr=>cl_sxC Q orc (vs:=[v0,v1]) G (jt234 (j234_0 false (Ex.of (E orc))) ) Tryz.func234 (by kernel_rfl) (by kernel_rfl) (by kernel_rfl) (by kernel_rfl) (by kernel_rfl) (jo234 orc) (je234 orc (j234_0 false (Ex.of (E orc))) v0 v1 G) (m234 h v0 v1 G r hr)
def b235_0 (q:Bool) (e:Ex) (lp:LpF) (τ:Env) (G:GS):OL :=
 bV q (τ 5) fun a5_ =>
 bV q (τ 6) fun a6_ =>
 bV q (τ 7) fun a7_ =>
 bP (bn Q q .lss 3 (.tmp 7) (.tmp 6) a7_ a6_) fun x0 =>
 ifV x0 (
 bP (ias Q q 395 3 a5_ a7_) fun x1 =>
 bP (lda Q q 354 3 x1 G) fun x2 =>
 bS (al Q q 354 z354 G) fun x3 G4 =>
 bP (st Q q 354 3 x3 x2 G4) fun G5 =>
 bP (fa Q q 354 0 0 x3) fun x6 =>
 bP (ld Q q 3 x6 G5) fun x7 =>
 bP (fa Q q 354 1 1 x3) fun x8 =>
 bP (ld Q q 3 x8 G5) fun x9 =>
 bP (bn Q q .lss 3 (.tmp 12) (.tmp 14) x7 x9) fun x10 =>
 bS (gP x10 false (fa Q q 354 0 0 x3) G5) fun x11 G12 =>
 bS (gP x10 false (ld Q q 3 x11 G12) G12) fun x13 G14 =>
 bS (gP x10 false (fa Q q 354 2 2 x3) G14) fun x15 G16 =>
 bS (gP x10 false (ld Q q 3 x15 G16) G16) fun x17 G18 =>
 bS (gP x10 false (bn Q q .gtr 3 (.tmp 18) (.tmp 20) x13 x17) G18) fun x19 G20 =>
 bP (pickV x10 (.bool true) x19) fun x21 =>
 ifV x21 (
 some (.ret,xq q 24 τ [(2,(.bool false)),(22,x21),(21,x19),(20,x17),(19,x15),(18,x13),(17,x11),(16,x10),(15,x10),(14,x9),(13,x8),(12,x7),(11,x6),(4,x3),(10,x2),(9,x1),(8,x0)] [(5,a5_),(6,a6_),(7,a7_)],G20)) (
 bP (bn Q q .add 3 (.tmp 7) (.const (.int .i64 1)) a7_ (.int .i64 1)) fun x22 =>
 lp (xq q 24 τ [(7,x22),(23,x22),(22,x21),(21,x19),(20,x17),(19,x15),(18,x13),(17,x11),(16,x10),(15,x10),(14,x9),(13,x8),(12,x7),(11,x6),(4,x3),(10,x2),(9,x1),(8,x0)] [(5,a5_),(6,a6_)]) G20)) (
 some ((.exit 0),xq q 24 τ [(8,x0)] [(5,a5_),(6,a6_),(7,a7_)],G))
theorem l235_0 (h:ExLe Q e (E orc)):LT orc 24 (subAt [1,0,1,0,0] (bodyOf Tryz.f235)) (b235_0 true e):=cL fun hlp τ G=>by unfold b235_0; exact Ref.gq
def s235 (q:Bool) (e:Ex) (v0:Value) (G:GS):OG :=
 bP (ln Q q 395 v0) fun x0 =>
 bLq q e 235 0 (subAt [1,0,1,0,0] (bodyOf Tryz.f235)) 24 (nth undef [v0]) [(7,(.int .i64 0)),(6,x0),(5,v0),(2,(.bool false))] [] G fun e1 t2 G3 =>
 bV q (t2 2) fun t2x2_ =>
 ifE e1 (.exit 0) (
 some ((.bool true),G3)) (ifE e1 .ret (
 some (t2x2_,G3)) (none))
theorem f235 (h:ExLe Q e (E orc)) (v0:Value) (G:GS):Ref (s235 true e v0 G) ((E orc).cl 235 [v0] G):=cS (S:=fun q e=>s235 q e v0 G) Tryz.func235 (by unfold s235; exact Ref.gq)
def s236 (q:Bool) (e:Ex) (G:GS):OG :=
 bS (al Q q 357 z357 G) fun x0 G1 =>
 bP (bd Q q 356 z356 [(0,0,1),(1,1,1)] [(.int .i64 0),(.int .i64 16)]) fun x2 =>
 bP (bd Q q 356 z356 [(0,0,1),(1,1,1)] [(.int .i64 16),(.int .i64 48)]) fun x3 =>
 bP (bd Q q 357 z357 [(0,0,2),(1,2,2)] [x2,x3]) fun x4 =>
 bP (st Q q 357 4 x0 x4 G1) fun G5 =>
 bP (lda Q q 357 4 x0 G5) fun x6 =>
 some (x6,G5)
theorem f236 (h:ExLe Q e (E orc)) (ho:orc 236 = false) (G:GS):Ref (s236 true e  G) ((E orc).cl 236 [] G):=cS (S:=fun q e=>s236 q e  G) (ho:=ho) Tryz.func236 (by unfold s236; exact Ref.gq)
def b237_0 (q:Bool) (e:Ex) (lp:LpF) (τ:Env) (G:GS):OL :=
 bV q (τ 1) fun a1_ =>
 bV q (τ 5) fun a5_ =>
 bV q (τ 8) fun a8_ =>
 bV q (τ 9) fun a9_ =>
 bV q (τ 10) fun a10_ =>
 bP (bn Q q .lss 3 (.tmp 10) (.tmp 9) a10_ a9_) fun x0 =>
 ifV x0 (
 bP (ias Q q 361 2 a8_ a10_) fun x1 =>
 bP (lda Q q 356 2 x1 G) fun x2 =>
 bS (al Q q 356 z356 G) fun x3 G4 =>
 bP (st Q q 356 2 x3 x2 G4) fun G5 =>
 bP (lda Q q 356 2 x3 (G5.room 8)) fun x6 =>
 bP (ias Q q 35 1 a1_ a10_) fun x7 =>
 bP (ld Q q 3 x7 (G5.room 8)) fun x8 =>
 bS (e.ev.cl 256 [a5_,x6,x8] (G5.room 8)) fun x10 G9 =>
 bP (bn Q q .add 3 (.tmp 10) (.const (.int .i64 1)) a10_ (.int .i64 1)) fun x11 =>
 lp (xq q 24 τ [(10,x11),(22,x11),(5,x10),(21,x10),(20,x8),(19,x7),(18,a10_),(17,a1_),(16,x6),(15,a5_),(6,a10_),(7,x3),(14,x2),(13,x1),(12,a10_),(11,x0)] [(1,a1_),(8,a8_),(9,a9_)]) G9) (
 some ((.exit 0),xq q 24 τ [(11,x0)] [(1,a1_),(5,a5_),(8,a8_),(9,a9_),(10,a10_)],G))
theorem l237_0 (h:ExLe Q e (E orc)):LT orc 24 (subAt [1,1,0,1,0,0] (bodyOf Tryz.f237)) (b237_0 true e):=cL fun hlp τ G=>by unfold b237_0; exact Ref.gq
def s237 (q:Bool) (e:Ex) (v0 v1:Value) (G:GS):OG :=
 bP (ln Q q 361 v0) fun x0 =>
 bLq q e 237 0 (subAt [1,1,0,1,0,0] (bodyOf Tryz.f237)) 24 (nth undef [v0,v1]) [(10,(.int .i64 0)),(9,x0),(8,v0),(5,(.int .u64 0)),(4,(.int .u64 0))] [] G fun e1 t2 G3 =>
 bV q (t2 5) fun t2x5_ =>
 ifE e1 (.exit 0) (
 some (t2x5_,G3)) (none)
theorem f237 (h:ExLe Q e (E orc)) (v0 v1:Value) (G:GS):Ref (s237 true e v0 v1 G) ((E orc).cl 237 [v0,v1] G):=cS (S:=fun q e=>s237 q e v0 v1 G) Tryz.func237 (by unfold s237; exact Ref.gq)
def s255 (q:Bool) (e:Ex) (v0 v1:Value) (G:GS):OG :=
 bP (bn Q q .add 3 (.tmp 5) (.const (.int .i64 1)) v0 (.int .i64 1)) fun x0 =>
 bP (cv Q q 3 23 .i64 .u64 x0) fun x1 =>
 bP (bn Q q .shr 23 (.tmp 8) (.const (.int .u64 16)) v1 (.int .u64 16)) fun x2 =>
 bP (bn Q q .add 23 (.tmp 9) (.const (.int .u64 1)) x2 (.int .u64 1)) fun x3 =>
 bP (bn Q q .shl 23 (.tmp 10) (.const (.int .u64 16)) x3 (.int .u64 16)) fun x4 =>
 bP (bn Q q .or 23 (.tmp 7) (.tmp 11) x1 x4) fun x5 =>
 some (x5,G)
theorem f255 (h:ExLe Q e (E orc)) (v0 v1:Value) (G:GS):Ref (s255 true e v0 v1 G) ((E orc).cl 255 [v0,v1] G):=cS (S:=fun q e=>s255 q e v0 v1 G) Tryz.func255 (by unfold s255; exact Ref.gq)
def s256 (q:Bool) (e:Ex) (v0 v1 v2:Value) (G:GS):OG :=
 bS (bx q v1 G) fun x0 G1 =>
 bP (cv Q q 3 23 .i64 .u64 v2) fun x2 =>
 fl q 356 0 0 3 x0 G1 fun x4 =>
 bP (bn Q q .shl 23 (.tmp 9) (.tmp 11) x2 x4) fun x5 =>
 bP (bn Q q .or 359 (.tmp 7) (.tmp 12) v0 x5) fun x6 =>
 some (x6,G1)
theorem f256 (h:ExLe Q e (E orc)) (v0 v1 v2:Value) (G:GS):Ref (s256 true e v0 v1 v2 G) ((E orc).cl 256 [v0,v1,v2] G):=cS (S:=fun q e=>s256 q e v0 v1 v2 G) Tryz.func256 (by unfold s256; exact Ref.gq)
def s261 (q:Bool) (e:Ex) (v0 v1:Value) (G:GS):OG :=
 ifV v1 (
 bP (bn Q q .or 23 (.tmp 6) (.const (.int .u64 9223372036854775808)) v0 (.int .u64 9223372036854775808)) fun x0 =>
 some (x0,G)) (
 bP (bn Q q .andNot 23 (.tmp 8) (.const (.int .u64 9223372036854775808)) v0 (.int .u64 9223372036854775808)) fun x1 =>
 some (x1,G))
theorem f261 (h:ExLe Q e (E orc)) (v0 v1:Value) (G:GS):Ref (s261 true e v0 v1 G) ((E orc).cl 261 [v0,v1] G):=cS (S:=fun q e=>s261 q e v0 v1 G) Tryz.func261 (by unfold s261; exact Ref.gq)
def s262 (q:Bool) (e:Ex) (v0:Value) (G:GS):OG :=
 bS (al Q q 313 z313 G) fun x0 G1 =>
 bS (e.ev.cl 236 [] G1) fun x2 G3 =>
 bS (al Q q 357 z357 G3) fun x4 G5 =>
 bP (st Q q 357 4 x4 x2 G5) fun G6 =>
 bP (iaa Q q 357 2 2 x4 (.int .i64 0)) fun x7 =>
 bP (lda Q q 356 2 x7 (G6.room 12)) fun x8 =>
 bS (e.ev.cl 263 [v0,x8] (G6.room 12)) fun x10 G9 =>
 bP (bn Q q .sub 3 (.tmp 9) (.const (.int .i64 1)) x10 (.int .i64 1)) fun x11 =>
 bP (iaa Q q 357 2 2 x4 (.int .i64 1)) fun x12 =>
 bP (lda Q q 356 2 x12 G9) fun x13 =>
 chk ((sameO (lda Q q 356 2 x12 (G6.room 12)) x13 && true)) <|
 bS (e.ev.cl 263 [v0,x13] G9) fun x15 G14 =>
 bP (bd Q q 313 z313 [(0,0,1),(1,1,1)] [x11,x15]) fun x16 =>
 bP (st Q q 313 2 x0 x16 G14) fun G17 =>
 bP (lda Q q 313 2 x0 G17) fun x18 =>
 some (.tuple #[x18,(.int .i64 0)],G17)
theorem f262 (h:ExLe Q e (E orc)) (v0:Value) (G:GS):Ref (s262 true e v0 G) ((E orc).cl 262 [v0] G):=cS (S:=fun q e=>s262 q e v0 G) Tryz.func262 (by unfold s262; exact Ref.gq)
def s263 (q:Bool) (e:Ex) (v0 v1:Value) (G:GS):OG :=
 bS (bx q v1 G) fun x0 G1 =>
 fl q 356 0 0 3 x0 (G1.room 11) fun x3 =>
 bP (bn Q q .shr 23 (.tmp 5) (.tmp 7) v0 x3) fun x4 =>
 fl q 356 1 1 3 x0 (G1.room 11) fun x6 =>
 bP (bn Q q .shl 23 (.const (.int .u64 1)) (.tmp 10) (.int .u64 1) x6) fun x7 =>
 bP (bn Q q .sub 23 (.tmp 11) (.const (.int .u64 1)) x7 (.int .u64 1)) fun x8 =>
 bP (bn Q q .and 23 (.tmp 8) (.tmp 12) x4 x8) fun x9 =>
 bP (cv Q q 23 3 .u64 .i64 x9) fun x10 =>
 some (x10,(G1.room 11))
theorem f263 (h:ExLe Q e (E orc)) (v0 v1:Value) (G:GS):Ref (s263 true e v0 v1 G) ((E orc).cl 263 [v0,v1] G):=cS (S:=fun q e=>s263 q e v0 v1 G) Tryz.func263 (by unfold s263; exact Ref.gq)
def s264 (q:Bool) (e:Ex) (v0:Value) (G:GS):OG :=
 bP (bn Q q .shr 23 (.tmp 3) (.const (.int .u64 63)) v0 (.int .u64 63)) fun x0 =>
 bP (bn Q q .eql 23 (.tmp 4) (.const (.int .u64 1)) x0 (.int .u64 1)) fun x1 =>
 some (x1,G)
theorem f264 (h:ExLe Q e (E orc)) (v0:Value) (G:GS):Ref (s264 true e v0 G) ((E orc).cl 264 [v0] G):=cS (S:=fun q e=>s264 q e v0 G) Tryz.func264 (by unfold s264; exact Ref.gq)
def s276 (q:Bool) (e:Ex) (v0 v1 v2 v3:Value) (G:GS):OG :=
 bS (e.ev.cl 62 [v0,v1] G) fun x0 G1 =>
 bP (bd Q q 109 z109 [(0,0,1),(1,1,1),(2,2,1)] [x0,v2,v3]) fun x2 =>
 bS (al Q q 109 z109 G1) fun x3 G4 =>
 bP (st Q q 109 3 x3 x2 G4) fun G5 =>
 fl q 109 0 0 106 x3 G5 fun x7 =>
 bP (lda Q q 109 3 x3 G5) fun x8 =>
 bS (e.ev.cl 63 [v0,(.int .i64 3),v1,x7,(.func (.func 283) #[x8] #[])] G5) fun x9 G10 =>
 bP (fd Q q 82 4 4 x9) fun x11 =>
 some (x11,G10)
theorem f276 (h:ExLe Q e (E orc)) (v0 v1 v2 v3:Value) (G:GS):Ref (s276 true e v0 v1 v2 v3 G) ((E orc).cl 276 [v0,v1,v2,v3] G):=cS (S:=fun q e=>s276 q e v0 v1 v2 v3 G) Tryz.func276 (by unfold s276; exact Ref.gq)
def s278 (q:Bool) (e:Ex) (v0 v1:Value) (G:GS):OG :=
 nl q 282 2 4 4 v0 G fun x2 =>
 bP (un Q q .not x2) fun x3 =>
 bS (gV x3 false v0 G) fun x4 G5 =>
 bS (gP x3 false (pNil x4) G5) fun x6 G7 =>
 bS (gP x3 false (fa Q q 282 1 3 x6) G7) fun x8 G9 =>
 bS (gP x3 false (ld Q q 3 x8 G9) G9) fun x10 G11 =>
 bS (gP x3 false (bn Q q .eql 3 (.tmp 14) (.const (.int .i64 (-1))) x10 (.int .i64 (-1))) G11) fun x12 G13 =>
 bP (pickV x3 (.bool true) x12) fun x14 =>
 ifV x14 (
 some ((.bool true),G13)) (
 nl q 282 1 3 3 v0 (G13.room 11) fun x17 =>
 nf q 282 0 0 v0 fun x19 =>
 bP (iaa Q q 280 3 1 x19 x17) fun x20 =>
 bP (ld Q q 124 x20 (G13.room 11)) fun x21 =>
 bS (cValue e.ev x21 [v1] (G13.room 11)) fun x23 G22 =>
 nl q 282 1 3 3 v0 G22 fun x26 =>
 bP (bn Q q .eql 3 (.tmp 31) (.const (.int .i64 (-1))) x26 (.int .i64 (-1))) fun x27 =>
 some (x27,G22))
theorem f278 (h:ExLe Q e (E orc)) (v0 v1:Value) (G:GS):Ref (s278 true e v0 v1 G) ((E orc).cl 278 [v0,v1] G):=cS (S:=fun q e=>s278 q e v0 v1 G) Tryz.func278 (by unfold s278; exact Ref.gq)
def s283 (q:Bool) (e:Ex) (v0:Value) (G:GS):OG :=
 bS (bx q v0 G) fun x0 G1 =>
 fl q 109 0 0 106 x0 (G1.room 7) fun x3 =>
 bP (pNil x3) fun x4 =>
 bP (ld Q q 96 x4 (G1.room 7)) fun x5 =>
 fl q 109 1 1 23 x0 (G1.room 7) fun x7 =>
 bP (bn Q q .neq 23 (.tmp 7) (.tmp 9) x5 x7) fun x8 =>
 ifV x8 (
 fl q 109 0 0 106 x0 (G1.room 7) fun x10 =>
 bP (pNil x10) fun x11 =>
 bP (ld Q q 96 x11 (G1.room 7)) fun x12 =>
 some (.tuple #[x12,(.bool false)],(G1.room 7))) (
 fl q 109 2 2 23 x0 (G1.room 7) fun x14 =>
 some (.tuple #[x14,(.bool true)],(G1.room 7)))
theorem f283 (h:ExLe Q e (E orc)) (v0:Value) (G:GS):Ref (s283 true e v0 G) ((E orc).cl 283 [v0] G):=cS (S:=fun q e=>s283 q e v0 G) Tryz.func283 (by unfold s283; exact Ref.gq)
def jb317_0 (q:Bool) (e:Ex) (τ:Env) (G:GS):OG :=
 bV q (τ 6) fun a6_ =>
 bV q (τ 7) fun a7_ =>
 some (.tuple #[a6_,a7_],G)
def j317_0 (q:Bool) (e:Ex) (τ:Env) (G:GS):OG:=jb317_0 q e τ G
theorem mj317_0 {e:Ex} {E:Ev} (h:ExLe Q e E) (τ:Env) (G:GS):Ref (j317_0 true e τ G) (j317_0 false (Ex.of E) τ G):=by
 unfold j317_0 jb317_0
 exact Ref.gq
theorem mkj317_0 {e:Ex} {E:Ev} (h:ExLe Q e E) {τ:Env} {l U:List (Nat × Value)} {G:GS} (hU:UOk τ U):Ref (j317_0 true e (xq true 64 τ l U) G) (j317_0 false (Ex.of E) (xq false 64 τ l U) G):=by
 rw [xq_eq hU]
 exact mj317_0 h _ _
def jb317_1 (q:Bool) (e:Ex) (J0:Env → GS → OG) (τ:Env) (G:GS):OG :=
 bV q (τ 0) fun a0_ =>
 bV q (τ 6) fun a6_ =>
 bS (gV a6_ true a0_ G) fun x6 G7 =>
 bS (gP a6_ true (pNil x6) G7) fun x8 G9 =>
 bS (gP a6_ true (fa Q q 185 2 2 x8) G9) fun x10 G11 =>
 bS (gP a6_ true (ld Q q 183 x10 G11) G11) fun x12 G13 =>
 bS (gP a6_ true (ef Q q true 183 (.tmp 50) (.const .nilFunc) x12 .nilFunc) G13) fun x14 G15 =>
 bP (pickV a6_ x14 (.bool false)) fun x16 =>
 ifV x16 (
 bP (pNil a0_) fun x17 =>
 bP (fa Q q 185 2 2 x17) fun x18 =>
 bP (ld Q q 183 x18 (G15.room 9)) fun x19 =>
 bP (pNil a0_) fun x20 =>
 bP (fa Q q 185 3 3 x20) fun x21 =>
 bP (ld Q q 179 x21 (G15.room 9)) fun x22 =>
 bS (cValue e.ev x19 [x22] (G15.room 9)) fun x24 G23 =>
 J0 (xq q 64 τ [(61,x24),(60,x22),(59,x21),(58,x20),(57,a0_),(56,x19),(55,x18),(54,x17),(53,a0_),(52,x16),(51,x14),(50,x12),(49,x10),(48,x8),(47,x6),(46,a6_),(45,a6_)] []) G23) (
 J0 (xq q 64 τ [(52,x16),(51,x14),(50,x12),(49,x10),(48,x8),(47,x6),(46,a6_),(45,a6_)] []) G15)
def j317_1 (q:Bool) (e:Ex) (τ:Env) (G:GS):OG:=jb317_1 q e (j317_0 q e) τ G
theorem mj317_1 {e:Ex} {E:Ev} (h:ExLe Q e E) (τ:Env) (G:GS):Ref (j317_1 true e τ G) (j317_1 false (Ex.of E) τ G):=by
 unfold j317_1 jb317_1
 have j0:=@mkj317_0 e E h
 exact Ref.gj
theorem mkj317_1 {e:Ex} {E:Ev} (h:ExLe Q e E) {τ:Env} {l U:List (Nat × Value)} {G:GS} (hU:UOk τ U):Ref (j317_1 true e (xq true 64 τ l U) G) (j317_1 false (Ex.of E) (xq false 64 τ l U) G):=by
 rw [xq_eq hU]
 exact mj317_1 h _ _
def jb317_2 (q:Bool) (e:Ex) (J0 J1:Env → GS → OG) (τ:Env) (G:GS):OG :=
 bV q (τ 0) fun a0_ =>
 bV q (τ 1) fun a1_ =>
 bP (pNil a0_) fun x0 =>
 bP (fa Q q 185 3 3 x0) fun x1 =>
 bP (ld Q q 179 x1 G) fun x2 =>
 bP (ifc Q q 179 x2) fun x3 =>
 bS (cInvoke Q e.ev x3 "Step" [a1_] G) fun x4 G5 =>
 bP (pNil a0_) fun x25 =>
 bP (fa Q q 185 1 1 x25) fun x26 =>
 bP (ld Q q 182 x26 G5) fun x27 =>
 bP (ef Q q true 182 (.tmp 34) (.const .nilFunc) x27 .nilFunc) fun x28 =>
 ifV x28 (
 bP (pNil a0_) fun x29 =>
 bP (fa Q q 185 1 1 x29) fun x30 =>
 bP (ld Q q 182 x30 (G5.room 10)) fun x31 =>
 bP (pNil a0_) fun x32 =>
 bP (fa Q q 185 3 3 x32) fun x33 =>
 bP (ld Q q 179 x33 (G5.room 10)) fun x34 =>
 bS (cValue e.ev x31 [x34] (G5.room 10)) fun x36 G35 =>
 J1 (xq q 64 τ [(7,x36),(44,x36),(43,x34),(42,x33),(41,x32),(40,a0_),(39,x31),(38,x30),(37,x29),(36,a0_),(35,x28),(34,x27),(33,x26),(32,x25),(31,a0_),(7,(.int .u64 0)),(6,x4),(30,x4),(29,a1_),(28,x3),(27,x2),(26,x1),(25,x0),(24,a0_)] []) G35) (
 J1 (xq q 64 τ [(35,x28),(34,x27),(33,x26),(32,x25),(31,a0_),(7,(.int .u64 0)),(6,x4),(30,x4),(29,a1_),(28,x3),(27,x2),(26,x1),(25,x0),(24,a0_)] []) G5)
def j317_2 (q:Bool) (e:Ex) (τ:Env) (G:GS):OG:=jb317_2 q e (j317_0 q e) (j317_1 q e) τ G
theorem mj317_2 {e:Ex} {E:Ev} (h:ExLe Q e E) (τ:Env) (G:GS):Ref (j317_2 true e τ G) (j317_2 false (Ex.of E) τ G):=by
 unfold j317_2 jb317_2
 have j0:=@mkj317_0 e E h
 have j1:=@mkj317_1 e E h
 exact Ref.gj
theorem mkj317_2 {e:Ex} {E:Ev} (h:ExLe Q e E) {τ:Env} {l U:List (Nat × Value)} {G:GS} (hU:UOk τ U):Ref (j317_2 true e (xq true 64 τ l U) G) (j317_2 false (Ex.of E) (xq false 64 τ l U) G):=by
 rw [xq_eq hU]
 exact mj317_2 h _ _
def sb317 (q:Bool) (e:Ex) (J0 J1 J2:Env → GS → OG) (v0 v1:Value) (G:GS):OG :=
 bP (pNil v0) fun x37 =>
 bP (fa Q q 185 4 4 x37) fun x38 =>
 bP (ld Q q 4 x38 G) fun x39 =>
 bP (un Q q .not x39) fun x40 =>
 ifV x40 (
 bP (pNil v0) fun x41 =>
 bP (fa Q q 185 0 0 x41) fun x42 =>
 bP (ld Q q 181 x42 G) fun x43 =>
 bS (cValue e.ev x43 [] G) fun x44 G45 =>
 bP (pNil v0) fun x46 =>
 bP (fa Q q 185 3 3 x46) fun x47 =>
 bP (st Q q 179 1 x47 x44 G45) fun G48 =>
 bP (pNil v0) fun x49 =>
 bP (fa Q q 185 4 4 x49) fun x50 =>
 bP (st Q q 4 1 x50 (.bool true) G48) fun G51 =>
 J2 (xq q 64 (nth undef [v0,v1]) [(23,x50),(22,x49),(21,x47),(20,x46),(19,x44),(18,x43),(17,x42),(16,x41),(15,v0),(14,v0),(13,v0),(12,x40),(11,x39),(10,x38),(9,x37),(8,v0),(5,(.int .u64 0)),(4,(.bool false))] []) G51) (
 J2 (xq q 64 (nth undef [v0,v1]) [(12,x40),(11,x39),(10,x38),(9,x37),(8,v0),(5,(.int .u64 0)),(4,(.bool false))] []) G)
def s317 (q:Bool) (e:Ex) (v0 v1:Value) (G:GS):OG:=sb317 q e (j317_0 q e) (j317_1 q e) (j317_2 q e) v0 v1 G
theorem m317 {e:Ex} {E:Ev} (h:ExLe Q e E) (v0 v1:Value) (G:GS):Ref (s317 true e v0 v1 G) (s317 false (Ex.of E) v0 v1 G):=by
 unfold s317 sb317
 have j0:=@mkj317_0 e E h
 have j1:=@mkj317_1 e E h
 have j2:=@mkj317_2 e E h
 exact Ref.gj
def jt317 (J0 J1 J2:Env → GS → OG):JT (Value × GS) :=
 (.n none .e (.n (some (fun T G=>J2 (nth undef T) G)) .e (.n none .e (.n (some (fun T G=>J1 (nth undef T) G)) .e (.n (some (fun T G=>J0 (nth undef T) G)) .e .e)))))
theorem jr317_2 (orc:FuncId → Bool) (J0 J1 J2:Env → GS → OG) (T:List Value) (G:GS):runC Q (evL Q orc) Tryz.f317.ntmps (jt317 J0 J1 J2) (bodyOf Tryz.f317) (retE Q Tryz.f317.results.toList) [true] (nth undef T) G = jb317_2 false (Ex.of (E orc)) J0 J1 (nth undef T) G:=by kernel_rfl
theorem jr317_1 (orc:FuncId → Bool) (J0 J1 J2:Env → GS → OG) (T:List Value) (G:GS):runC Q (evL Q orc) Tryz.f317.ntmps (jt317 J0 J1 J2) (bodyOf Tryz.f317) (retE Q Tryz.f317.results.toList) [true,true,true] (nth undef T) G = jb317_1 false (Ex.of (E orc)) J0 (nth undef T) G:=by kernel_rfl
theorem jr317_0 (orc:FuncId → Bool) (J0 J1 J2:Env → GS → OG) (T:List Value) (G:GS):runC Q (evL Q orc) Tryz.f317.ntmps (jt317 J0 J1 J2) (bodyOf Tryz.f317) (retE Q Tryz.f317.results.toList) [true,true,true,true] (nth undef T) G = jb317_0 false (Ex.of (E orc))  (nth undef T) G:=by kernel_rfl
theorem jo317 (orc:FuncId → Bool):JOk Q orc Tryz.f317.ntmps (jt317 (j317_0 false (Ex.of (E orc))) (j317_1 false (Ex.of (E orc))) (j317_2 false (Ex.of (E orc))) ) (bodyOf Tryz.f317) (retE Q Tryz.f317.results.toList) :=
 jOk Q orc (l:=[([true],(fun T G=>j317_2 false (Ex.of (E orc)) (nth undef T) G)),([true,true,true],(fun T G=>j317_1 false (Ex.of (E orc)) (nth undef T) G)),([true,true,true,true],(fun T G=>j317_0 false (Ex.of (E orc)) (nth undef T) G))]) (by kernel_rfl) (AllE.c (fun T G=>jr317_2 orc (j317_0 false (Ex.of (E orc))) (j317_1 false (Ex.of (E orc))) (j317_2 false (Ex.of (E orc))) T G) (AllE.c (fun T G=>jr317_1 orc (j317_0 false (Ex.of (E orc))) (j317_1 false (Ex.of (E orc))) (j317_2 false (Ex.of (E orc))) T G) (AllE.c (fun T G=>jr317_0 orc (j317_0 false (Ex.of (E orc))) (j317_1 false (Ex.of (E orc))) (j317_2 false (Ex.of (E orc))) T G) (AllE.z))))
theorem je317 (orc:FuncId → Bool) (J0 J1 J2:Env → GS → OG) (v0 v1:Value) (G:GS):sxC Q (evL Q orc) Tryz.f317.ntmps (jt317 J0 J1 J2) (bodyOf Tryz.f317) (nth undef [v0,v1]) G (retE Q Tryz.f317.results.toList) = sb317 false (Ex.of (E orc)) J0 J1 J2 v0 v1 G:=by kernel_rfl
theorem f317 {orc:FuncId → Bool} {e:Ex} (h:ExLe Q e (E orc)) (v0 v1:Value) (G:GS):Ref (s317 true e v0 v1 G) ((E orc).cl 317 [v0,v1] G) :=
 fun r hr=>cl_sxC Q orc (vs:=[v0,v1]) G (jt317 (j317_0 false (Ex.of (E orc))) (j317_1 false (Ex.of (E orc))) (j317_2 false (Ex.of (E orc))) ) Tryz.func317 (by kernel_rfl) (by kernel_rfl) (by kernel_rfl) (by kernel_rfl) (by kernel_rfl) (jo317 orc) (je317 orc (j317_0 false (Ex.of (E orc))) (j317_1 false (Ex.of (E orc))) (j317_2 false (Ex.of (E orc))) v0 v1 G) (m317 h v0 v1 G r hr)
def jb318_0 (q:Bool) (e:Ex) (τ:Env) (G:GS):OG :=
 bV q (τ 0) fun a0_ =>
 nf q 246 0 0 a0_ fun x11 =>
 fl q 243 2 13 3 x11 G fun x13 =>
 bP (bn Q q .eql 3 (.tmp 54) (.const (.int .i64 99)) x13 (.int .i64 99)) fun x14 =>
 some (x14,G)
def j318_0 (q:Bool) (e:Ex) (τ:Env) (G:GS):OG:=jb318_0 q e τ G
theorem mj318_0 {e:Ex} {E:Ev} (h:ExLe Q e E) (τ:Env) (G:GS):Ref (j318_0 true e τ G) (j318_0 false (Ex.of E) τ G):=by
 unfold j318_0 jb318_0
 exact Ref.gq
theorem mkj318_0 {e:Ex} {E:Ev} (h:ExLe Q e E) {τ:Env} {l U:List (Nat × Value)} {G:GS} (hU:UOk τ U):Ref (j318_0 true e (xq true 56 τ l U) G) (j318_0 false (Ex.of E) (xq false 56 τ l U) G):=by
 rw [xq_eq hU]
 exact mj318_0 h _ _
def sb318 (q:Bool) (e:Ex) (J0:Env → GS → OG) (v0 v1:Value) (G:GS):OG :=
 bP (ep Q q false 179 (.tmp 5) (.const (.pointer none)) v0 (.pointer none)) fun x0 =>
 bS (gV x0 false v0 G) fun x1 G2 =>
 bS (gP x0 false (pNil x1) G2) fun x3 G4 =>
 bS (gP x0 false (fa Q q 246 0 0 x3) G4) fun x5 G6 =>
 bS (gS x0 false (e.ev.cl 319 [x5] G6) G6) fun x7 G8 =>
 bP (pickV x0 (.bool true) x7) fun x9 =>
 ifV x9 (
 some ((.bool true),G8)) (
 bP (pNil v0) fun x15 =>
 bP (fa Q q 246 0 0 x15) fun x16 =>
 bP (fa Q q 243 2 13 x16) fun x17 =>
 bP (ld Q q 3 x17 G8) fun x18 =>
 bP (bn Q q .eql 3 (.tmp 17) (.const (.int .i64 4)) x18 (.int .i64 4)) fun x19 =>
 ifV x19 (
 bP (pNil v0) fun x20 =>
 bP (fa Q q 246 0 0 x20) fun x21 =>
 bS (e.ev.cl 321 [x21,v1,(.int .i64 0)] G8) fun x22 G23 =>
 bP (pNil v0) fun x24 =>
 bP (fa Q q 246 0 0 x24) fun x25 =>
 bP (fa Q q 243 6 17 x25) fun x26 =>
 bP (fa Q q 120 0 0 x26) fun x27 =>
 bP (st Q q 23 1 x27 x22 G23) fun G28 =>
 bP (pNil v0) fun x29 =>
 bP (fa Q q 246 0 0 x29) fun x30 =>
 bP (fa Q q 243 2 13 x30) fun x31 =>
 bP (st Q q 3 1 x31 (.int .i64 5) G28) fun G32 =>
 J0 (xq q 56 (nth undef [v0,v1]) [(38,x31),(37,x30),(36,x29),(35,x27),(34,x26),(33,x25),(32,x24),(31,x22),(30,v1),(29,x21),(28,x20),(27,v0),(26,v0),(25,v0),(23,x19),(24,x19),(17,x18),(16,x17),(15,x16),(14,x15),(13,v0),(12,x9),(11,x7),(10,x5),(9,x3),(8,x1),(7,x0),(6,x0),(5,v0),(4,(.bool false))] []) G32) (
 bP (bn Q q .eql 3 (.tmp 17) (.const (.int .i64 5)) x18 (.int .i64 5)) fun x33 =>
 ifV x33 (
 bP (pNil v0) fun x34 =>
 bP (fa Q q 246 0 0 x34) fun x35 =>
 bS (e.ev.cl 322 [x35,v1] G8) fun x36 G37 =>
 bP (pNil v0) fun x38 =>
 bP (fa Q q 246 0 0 x38) fun x39 =>
 bP (fa Q q 243 2 13 x39) fun x40 =>
 bP (st Q q 3 1 x40 (.int .i64 99) G37) fun G41 =>
 J0 (xq q 56 (nth undef [v0,v1]) [(49,x40),(48,x39),(47,x38),(46,v0),(45,x36),(44,v1),(43,x35),(42,x34),(41,v0),(39,x33),(40,x33),(23,x19),(24,x19),(17,x18),(16,x17),(15,x16),(14,x15),(13,v0),(12,x9),(11,x7),(10,x5),(9,x3),(8,x1),(7,x0),(6,x0),(5,v0),(4,(.bool false))] []) G41) (
 bP (pNil v0) fun x42 =>
 bP (fa Q q 246 0 0 x42) fun x43 =>
 bS (e.ev.cl 320 [x43,v1] G8) fun x44 G45 =>
 J0 (xq q 56 (nth undef [v0,v1]) [(22,x44),(21,v1),(20,x43),(19,x42),(18,v0),(39,x33),(40,x33),(23,x19),(24,x19),(17,x18),(16,x17),(15,x16),(14,x15),(13,v0),(12,x9),(11,x7),(10,x5),(9,x3),(8,x1),(7,x0),(6,x0),(5,v0),(4,(.bool false))] []) G45)))
def s318 (q:Bool) (e:Ex) (v0 v1:Value) (G:GS):OG:=sb318 q e (j318_0 q e) v0 v1 G
theorem m318 {e:Ex} {E:Ev} (h:ExLe Q e E) (v0 v1:Value) (G:GS):Ref (s318 true e v0 v1 G) (s318 false (Ex.of E) v0 v1 G):=by
 unfold s318 sb318
 have j0:=@mkj318_0 e E h
 exact Ref.gj
def jt318 (J0:Env → GS → OG):JT (Value × GS) :=
 (.n none .e (.n none .e (.n (some (fun T G=>J0 (nth undef T) G)) .e .e)))
theorem jr318_0 (orc:FuncId → Bool) (J0:Env → GS → OG) (T:List Value) (G:GS):runC Q (evL Q orc) Tryz.f318.ntmps (jt318 J0) (bodyOf Tryz.f318) (retE Q Tryz.f318.results.toList) [true,true] (nth undef T) G = jb318_0 false (Ex.of (E orc))  (nth undef T) G:=by kernel_rfl
theorem jo318 (orc:FuncId → Bool):JOk Q orc Tryz.f318.ntmps (jt318 (j318_0 false (Ex.of (E orc))) ) (bodyOf Tryz.f318) (retE Q Tryz.f318.results.toList) :=
 jOk Q orc (l:=[([true,true],(fun T G=>j318_0 false (Ex.of (E orc)) (nth undef T) G))]) (by kernel_rfl) (AllE.c (fun T G=>jr318_0 orc (j318_0 false (Ex.of (E orc))) T G) (AllE.z))
theorem je318 (orc:FuncId → Bool) (J0:Env → GS → OG) (v0 v1:Value) (G:GS):sxC Q (evL Q orc) Tryz.f318.ntmps (jt318 J0) (bodyOf Tryz.f318) (nth undef [v0,v1]) G (retE Q Tryz.f318.results.toList) = sb318 false (Ex.of (E orc)) J0 v0 v1 G:=by kernel_rfl
theorem f318 {orc:FuncId → Bool} {e:Ex} (h:ExLe Q e (E orc)) (v0 v1:Value) (G:GS):Ref (s318 true e v0 v1 G) ((E orc).cl 318 [v0,v1] G) :=
 fun r hr=>cl_sxC Q orc (vs:=[v0,v1]) G (jt318 (j318_0 false (Ex.of (E orc))) ) Tryz.func318 (by kernel_rfl) (by kernel_rfl) (by kernel_rfl) (by kernel_rfl) (by kernel_rfl) (jo318 orc) (je318 orc (j318_0 false (Ex.of (E orc))) v0 v1 G) (m318 h v0 v1 G r hr)
def s319 (q:Bool) (e:Ex) (v0:Value) (G:GS):OG :=
 nl q 243 8 20 4 v0 G fun x2 =>
 bP (un Q q .not x2) fun x3 =>
 bS (gV x3 false v0 G) fun x4 G5 =>
 bS (gP x3 false (pNil x4) G5) fun x6 G7 =>
 bS (gP x3 false (fa Q q 243 2 13 x6) G7) fun x8 G9 =>
 bS (gP x3 false (ld Q q 3 x8 G9) G9) fun x10 G11 =>
 bS (gP x3 false (bn Q q .eql 3 (.tmp 12) (.const (.int .i64 99)) x10 (.int .i64 99)) G11) fun x12 G13 =>
 bP (pickV x3 (.bool true) x12) fun x14 =>
 some (x14,G13)
theorem f319 (h:ExLe Q e (E orc)) (v0:Value) (G:GS):Ref (s319 true e v0 G) ((E orc).cl 319 [v0] G):=cS (S:=fun q e=>s319 q e v0 G) Tryz.func319 (by unfold s319; exact Ref.gq)
def s320 (q:Bool) (e:Ex) (v0 v1:Value) (G:GS):OG :=
 nl q 243 2 13 3 v0 G fun x2 =>
 bP (bn Q q .eql 3 (.tmp 9) (.const (.int .i64 1)) x2 (.int .i64 1)) fun x3 =>
 ifV x3 (
 nf q 243 7 19 v0 fun x5 =>
 bP (st Q q 23 1 x5 (.int .u64 0) G) fun G6 =>
 nf q 243 0 0 v0 fun x8 =>
 bP (lda Q q 45 13 x8 G6) fun x9 =>
 bS (e.ev.cl 194 [x9,(.int .i64 (-1)),(.int .i64 0)] G6) fun x10 G11 =>
 bS (e.ev.cl 70 [v1,x10] G11) fun x12 G13 =>
 nf q 243 3 14 v0 fun x15 =>
 bP (st Q q 23 1 x15 x12 G13) fun G16 =>
 nl q 243 3 14 23 v0 G16 fun x19 =>
 bS (e.ev.cl 262 [x19] G16) fun x20 G21 =>
 bP (pExtract x20 0) fun x22 =>
 bP (pExtract x20 1) fun x23 =>
 bS (al Q q 313 z313 G21) fun x24 G25 =>
 bP (st Q q 313 2 x24 x22 G25) fun G26 =>
 fl q 313 0 0 3 x24 G26 fun x28 =>
 nf q 243 4 15 v0 fun x30 =>
 bP (st Q q 3 1 x30 x28 G26) fun G31 =>
 nf q 243 2 13 v0 fun x33 =>
 bP (st Q q 3 1 x33 (.int .i64 2) G31) fun G34 =>
 nl q 243 4 15 3 v0 (G34.room 20) fun x37 =>
 bP (bn Q q .lss 3 (.tmp 44) (.const (.int .i64 0)) x37 (.int .i64 0)) fun x38 =>
 bS (gV x38 false v0 (G34.room 20)) fun x39 _ =>
 bS (gP x38 false (pNil x39) (G34.room 20)) fun x40 _ =>
 bS (gP x38 false (fa Q q 243 4 15 x40) (G34.room 20)) fun x41 _ =>
 bS (gP x38 false (ld Q q 3 x41 (G34.room 20)) (G34.room 20)) fun x42 _ =>
 bS (gV x38 false v0 (G34.room 20)) fun x43 _ =>
 bS (gP x38 false (pNil x43) (G34.room 20)) fun x44 _ =>
 bS (gP x38 false (fa Q q 243 0 0 x44) (G34.room 20)) fun x45 _ =>
 bS (gP x38 false (fa Q q 45 3 3 x45) (G34.room 20)) fun x46 _ =>
 bS (gP x38 false (fa Q q 43 0 0 x46) (G34.room 20)) fun x47 _ =>
 bS (gP x38 false (fa Q q 39 0 0 x47) (G34.room 20)) fun x48 _ =>
 bS (gP x38 false (fa Q q 37 2 2 x48) (G34.room 20)) fun x49 _ =>
 bS (gP x38 false (ld Q q 3 x49 (G34.room 20)) (G34.room 20)) fun x50 _ =>
 bS (gP x38 false (bn Q q .geq 3 (.tmp 50) (.tmp 58) x42 x50) (G34.room 20)) fun x51 _ =>
 bP (pickV x38 (.bool true) x51) fun x52 =>
 ifV x52 (
 nf q 243 2 13 v0 fun x54 =>
 bP (st Q q 3 1 x54 (.int .i64 99) (G34.room 20)) fun G55 =>
 nf q 243 9 21 v0 fun x57 =>
 bP (st Q q 51 1 x57 (.int .i64 15) G55) fun G58 =>
 some (.tuple #[],G58)) (
 some (.tuple #[],(G34.room 20)))) (
 bP (bn Q q .eql 3 (.tmp 9) (.const (.int .i64 2)) x2 (.int .i64 2)) fun x59 =>
 ifV x59 (
 bS (e.ev.cl 321 [v0,v1,(.int .i64 4)] G) fun x60 G61 =>
 nf q 243 5 16 v0 fun x63 =>
 bP (st Q q 241 1 x63 x60 G61) fun G64 =>
 nf q 243 2 13 v0 fun x66 =>
 bP (st Q q 3 1 x66 (.int .i64 4) G64) fun G67 =>
 nl q 243 5 16 241 v0 G67 fun x70 =>
 bS (e.ev.cl 323 [x70] G67) fun x71 G72 =>
 ifV x71 (
 nf q 243 2 13 v0 fun x74 =>
 bP (st Q q 3 1 x74 (.int .i64 3) G72) fun G75 =>
 some (.tuple #[],G75)) (
 some (.tuple #[],G72))) (
 bP (bn Q q .eql 3 (.tmp 9) (.const (.int .i64 3)) x2 (.int .i64 3)) fun x76 =>
 ifV x76 (
 nf q 243 7 19 v0 fun x78 =>
 bP (st Q q 23 1 x78 (.int .u64 0) G) fun G79 =>
 nf q 243 0 0 v0 fun x81 =>
 bP (lda Q q 45 13 x81 (G79.room 16)) fun x82 =>
 bS (e.ev.cl 194 [x82,(.int .i64 (-1)),(.int .i64 0)] (G79.room 16)) fun x84 G83 =>
 nf q 243 3 14 v0 fun x86 =>
 bP (ld Q q 23 x86 G83) fun x87 =>
 chk ((sameO (ld Q q 23 x86 (G79.room 16)) x87 && true)) <|
 nf q 243 5 16 v0 fun x89 =>
 bP (ld Q q 241 x89 G83) fun x90 =>
 chk ((sameO (ld Q q 241 x89 (G79.room 16)) x90 && true)) <|
 bS (e.ev.cl 324 [x90,(.bool false)] G83) fun x92 G91 =>
 chk ((sameO (ld Q q 23 x86 G91) x87 && true)) <|
 bS (e.ev.cl 276 [v1,x84,x87,x92] G91) fun x94 G93 =>
 nf q 243 2 13 v0 fun x96 =>
 bP (st Q q 3 1 x96 (.int .i64 1) G93) fun G97 =>
 some (.tuple #[],G97)) (
 some (.tuple #[],G))))
theorem m320 {e:Ex} {E:Ev} (h:ExLe Q e E) (v0 v1:Value) (G:GS):Ref (s320 true e v0 v1 G) (s320 false (Ex.of E) v0 v1 G):=by
 unfold s320
 exact Ref.gq
set_option maxHeartbeats 8000000 in
theorem f320 {orc:FuncId → Bool} {e:Ex} (h:ExLe Q e (E orc)) (v0 v1:Value) (G:GS):Ref (s320 true e v0 v1 G) ((E orc).cl 320 [v0,v1] G) :=
 fun r hr=>cl_sxE_some Q orc (vs:=[v0,v1]) G Tryz.func320 (by kernel_rfl) (by kernel_rfl) (by kernel_rfl) (by kernel_rfl) (by kernel_rfl) (by kernel_rfl) (m320 h v0 v1 G r hr)
def s321 (q:Bool) (e:Ex) (v0 v1 v2:Value) (G:GS):OG :=
 nl q 243 3 14 23 v0 G fun x2 =>
 nf q 243 7 19 v0 fun x4 =>
 bP (st Q q 23 1 x4 x2 G) fun G5 =>
 nf q 243 0 0 v0 fun x7 =>
 bP (lda Q q 45 13 x7 (G5.room 13)) fun x8 =>
 nl q 243 4 15 3 v0 (G5.room 13) fun x11 =>
 bS (e.ev.cl 142 [x8,x11,v2] (G5.room 13)) fun x13 G12 =>
 bS (e.ev.cl 70 [v1,x13] G12) fun x15 G14 =>
 some (x15,G14)
theorem f321 (h:ExLe Q e (E orc)) (v0 v1 v2:Value) (G:GS):Ref (s321 true e v0 v1 v2 G) ((E orc).cl 321 [v0,v1,v2] G):=cS (S:=fun q e=>s321 q e v0 v1 v2 G) Tryz.func321 (by unfold s321; exact Ref.gq)
def s322 (q:Bool) (e:Ex) (v0 v1:Value) (G:GS):OG :=
 bS (e.ev.cl 321 [v0,v1,(.int .i64 1)] G) fun x0 G1 =>
 bP (bn Q q .and 23 (.tmp 7) (.const (.int .u64 65535)) x0 (.int .u64 65535)) fun x2 =>
 bP (cv Q q 23 3 .u64 .i64 x2) fun x3 =>
 nf q 243 6 17 v0 fun x5 =>
 bP (fa Q q 120 1 1 x5) fun x6 =>
 bP (st Q q 3 1 x6 x3 G1) fun G7 =>
 some (.tuple #[],G7)
theorem f322 (h:ExLe Q e (E orc)) (v0 v1:Value) (G:GS):Ref (s322 true e v0 v1 G) ((E orc).cl 322 [v0,v1] G):=cS (S:=fun q e=>s322 q e v0 v1 G) Tryz.func322 (by unfold s322; exact Ref.gq)
def s323 (q:Bool) (e:Ex) (v0:Value) (G:GS):OG :=
 bS (e.ev.cl 264 [v0] G) fun x0 G1 =>
 some (x0,G1)
theorem f323 (h:ExLe Q e (E orc)) (v0:Value) (G:GS):Ref (s323 true e v0 G) ((E orc).cl 323 [v0] G):=cS (S:=fun q e=>s323 q e v0 G) Tryz.func323 (by unfold s323; exact Ref.gq)
def s324 (q:Bool) (e:Ex) (v0 v1:Value) (G:GS):OG :=
 bS (e.ev.cl 261 [v0,v1] G) fun x0 G1 =>
 some (x0,G1)
theorem f324 (h:ExLe Q e (E orc)) (v0 v1:Value) (G:GS):Ref (s324 true e v0 v1 G) ((E orc).cl 324 [v0,v1] G):=cS (S:=fun q e=>s324 q e v0 v1 G) Tryz.func324 (by unfold s324; exact Ref.gq)
def jb326_0 (q:Bool) (e:Ex) (τ:Env) (G:GS):OG :=
 bV q (τ 6) fun a6_ =>
 bV q (τ 7) fun a7_ =>
 some (.tuple #[a6_,a7_],G)
def j326_0 (q:Bool) (e:Ex) (τ:Env) (G:GS):OG:=jb326_0 q e τ G
theorem mj326_0 {e:Ex} {E:Ev} (h:ExLe Q e E) (τ:Env) (G:GS):Ref (j326_0 true e τ G) (j326_0 false (Ex.of E) τ G):=by
 unfold j326_0 jb326_0
 exact Ref.gq
theorem mkj326_0 {e:Ex} {E:Ev} (h:ExLe Q e E) {τ:Env} {l U:List (Nat × Value)} {G:GS} (hU:UOk τ U):Ref (j326_0 true e (xq true 64 τ l U) G) (j326_0 false (Ex.of E) (xq false 64 τ l U) G):=by
 rw [xq_eq hU]
 exact mj326_0 h _ _
def jb326_1 (q:Bool) (e:Ex) (J0:Env → GS → OG) (τ:Env) (G:GS):OG :=
 bV q (τ 0) fun a0_ =>
 bV q (τ 6) fun a6_ =>
 bS (gV a6_ true a0_ G) fun x6 G7 =>
 bS (gP a6_ true (pNil x6) G7) fun x8 G9 =>
 bS (gP a6_ true (fa Q q 229 2 2 x8) G9) fun x10 G11 =>
 bS (gP a6_ true (ld Q q 226 x10 G11) G11) fun x12 G13 =>
 bS (gP a6_ true (ef Q q true 226 (.tmp 50) (.const .nilFunc) x12 .nilFunc) G13) fun x14 G15 =>
 bP (pickV a6_ x14 (.bool false)) fun x16 =>
 ifV x16 (
 bP (pNil a0_) fun x17 =>
 bP (fa Q q 229 2 2 x17) fun x18 =>
 bP (ld Q q 226 x18 (G15.room 9)) fun x19 =>
 bP (pNil a0_) fun x20 =>
 bP (fa Q q 229 3 3 x20) fun x21 =>
 bP (ld Q q 221 x21 (G15.room 9)) fun x22 =>
 bS (cValue e.ev x19 [x22] (G15.room 9)) fun x24 G23 =>
 J0 (xq q 64 τ [(61,x24),(60,x22),(59,x21),(58,x20),(57,a0_),(56,x19),(55,x18),(54,x17),(53,a0_),(52,x16),(51,x14),(50,x12),(49,x10),(48,x8),(47,x6),(46,a6_),(45,a6_)] []) G23) (
 J0 (xq q 64 τ [(52,x16),(51,x14),(50,x12),(49,x10),(48,x8),(47,x6),(46,a6_),(45,a6_)] []) G15)
def j326_1 (q:Bool) (e:Ex) (τ:Env) (G:GS):OG:=jb326_1 q e (j326_0 q e) τ G
theorem mj326_1 {e:Ex} {E:Ev} (h:ExLe Q e E) (τ:Env) (G:GS):Ref (j326_1 true e τ G) (j326_1 false (Ex.of E) τ G):=by
 unfold j326_1 jb326_1
 have j0:=@mkj326_0 e E h
 exact Ref.gj
theorem mkj326_1 {e:Ex} {E:Ev} (h:ExLe Q e E) {τ:Env} {l U:List (Nat × Value)} {G:GS} (hU:UOk τ U):Ref (j326_1 true e (xq true 64 τ l U) G) (j326_1 false (Ex.of E) (xq false 64 τ l U) G):=by
 rw [xq_eq hU]
 exact mj326_1 h _ _
def jb326_2 (q:Bool) (e:Ex) (J0 J1:Env → GS → OG) (τ:Env) (G:GS):OG :=
 bV q (τ 0) fun a0_ =>
 bV q (τ 1) fun a1_ =>
 bP (pNil a0_) fun x0 =>
 bP (fa Q q 229 3 3 x0) fun x1 =>
 bP (ld Q q 221 x1 G) fun x2 =>
 bP (ifc Q q 221 x2) fun x3 =>
 bS (cInvoke Q e.ev x3 "Step" [a1_] G) fun x4 G5 =>
 bP (pNil a0_) fun x25 =>
 bP (fa Q q 229 1 1 x25) fun x26 =>
 bP (ld Q q 227 x26 G5) fun x27 =>
 bP (ef Q q true 227 (.tmp 34) (.const .nilFunc) x27 .nilFunc) fun x28 =>
 ifV x28 (
 bP (pNil a0_) fun x29 =>
 bP (fa Q q 229 1 1 x29) fun x30 =>
 bP (ld Q q 227 x30 (G5.room 10)) fun x31 =>
 bP (pNil a0_) fun x32 =>
 bP (fa Q q 229 3 3 x32) fun x33 =>
 bP (ld Q q 221 x33 (G5.room 10)) fun x34 =>
 bS (cValue e.ev x31 [x34] (G5.room 10)) fun x36 G35 =>
 J1 (xq q 64 τ [(7,x36),(44,x36),(43,x34),(42,x33),(41,x32),(40,a0_),(39,x31),(38,x30),(37,x29),(36,a0_),(35,x28),(34,x27),(33,x26),(32,x25),(31,a0_),(7,(.int .u64 0)),(6,x4),(30,x4),(29,a1_),(28,x3),(27,x2),(26,x1),(25,x0),(24,a0_)] []) G35) (
 J1 (xq q 64 τ [(35,x28),(34,x27),(33,x26),(32,x25),(31,a0_),(7,(.int .u64 0)),(6,x4),(30,x4),(29,a1_),(28,x3),(27,x2),(26,x1),(25,x0),(24,a0_)] []) G5)
def j326_2 (q:Bool) (e:Ex) (τ:Env) (G:GS):OG:=jb326_2 q e (j326_0 q e) (j326_1 q e) τ G
theorem mj326_2 {e:Ex} {E:Ev} (h:ExLe Q e E) (τ:Env) (G:GS):Ref (j326_2 true e τ G) (j326_2 false (Ex.of E) τ G):=by
 unfold j326_2 jb326_2
 have j0:=@mkj326_0 e E h
 have j1:=@mkj326_1 e E h
 exact Ref.gj
theorem mkj326_2 {e:Ex} {E:Ev} (h:ExLe Q e E) {τ:Env} {l U:List (Nat × Value)} {G:GS} (hU:UOk τ U):Ref (j326_2 true e (xq true 64 τ l U) G) (j326_2 false (Ex.of E) (xq false 64 τ l U) G):=by
 rw [xq_eq hU]
 exact mj326_2 h _ _
def sb326 (q:Bool) (e:Ex) (J0 J1 J2:Env → GS → OG) (v0 v1:Value) (G:GS):OG :=
 bP (pNil v0) fun x37 =>
 bP (fa Q q 229 4 4 x37) fun x38 =>
 bP (ld Q q 4 x38 G) fun x39 =>
 bP (un Q q .not x39) fun x40 =>
 ifV x40 (
 bP (pNil v0) fun x41 =>
 bP (fa Q q 229 0 0 x41) fun x42 =>
 bP (ld Q q 223 x42 G) fun x43 =>
 bS (cValue e.ev x43 [] G) fun x44 G45 =>
 bP (pNil v0) fun x46 =>
 bP (fa Q q 229 3 3 x46) fun x47 =>
 bP (st Q q 221 1 x47 x44 G45) fun G48 =>
 bP (pNil v0) fun x49 =>
 bP (fa Q q 229 4 4 x49) fun x50 =>
 bP (st Q q 4 1 x50 (.bool true) G48) fun G51 =>
 J2 (xq q 64 (nth undef [v0,v1]) [(23,x50),(22,x49),(21,x47),(20,x46),(19,x44),(18,x43),(17,x42),(16,x41),(15,v0),(14,v0),(13,v0),(12,x40),(11,x39),(10,x38),(9,x37),(8,v0),(5,(.int .u64 0)),(4,(.bool false))] []) G51) (
 J2 (xq q 64 (nth undef [v0,v1]) [(12,x40),(11,x39),(10,x38),(9,x37),(8,v0),(5,(.int .u64 0)),(4,(.bool false))] []) G)
def s326 (q:Bool) (e:Ex) (v0 v1:Value) (G:GS):OG:=sb326 q e (j326_0 q e) (j326_1 q e) (j326_2 q e) v0 v1 G
theorem m326 {e:Ex} {E:Ev} (h:ExLe Q e E) (v0 v1:Value) (G:GS):Ref (s326 true e v0 v1 G) (s326 false (Ex.of E) v0 v1 G):=by
 unfold s326 sb326
 have j0:=@mkj326_0 e E h
 have j1:=@mkj326_1 e E h
 have j2:=@mkj326_2 e E h
 exact Ref.gj
def jt326 (J0 J1 J2:Env → GS → OG):JT (Value × GS) :=
 (.n none .e (.n (some (fun T G=>J2 (nth undef T) G)) .e (.n none .e (.n (some (fun T G=>J1 (nth undef T) G)) .e (.n (some (fun T G=>J0 (nth undef T) G)) .e .e)))))
theorem jr326_2 (orc:FuncId → Bool) (J0 J1 J2:Env → GS → OG) (T:List Value) (G:GS):runC Q (evL Q orc) Tryz.f326.ntmps (jt326 J0 J1 J2) (bodyOf Tryz.f326) (retE Q Tryz.f326.results.toList) [true] (nth undef T) G = jb326_2 false (Ex.of (E orc)) J0 J1 (nth undef T) G:=by kernel_rfl
theorem jr326_1 (orc:FuncId → Bool) (J0 J1 J2:Env → GS → OG) (T:List Value) (G:GS):runC Q (evL Q orc) Tryz.f326.ntmps (jt326 J0 J1 J2) (bodyOf Tryz.f326) (retE Q Tryz.f326.results.toList) [true,true,true] (nth undef T) G = jb326_1 false (Ex.of (E orc)) J0 (nth undef T) G:=by kernel_rfl
theorem jr326_0 (orc:FuncId → Bool) (J0 J1 J2:Env → GS → OG) (T:List Value) (G:GS):runC Q (evL Q orc) Tryz.f326.ntmps (jt326 J0 J1 J2) (bodyOf Tryz.f326) (retE Q Tryz.f326.results.toList) [true,true,true,true] (nth undef T) G = jb326_0 false (Ex.of (E orc))  (nth undef T) G:=by kernel_rfl
theorem jo326 (orc:FuncId → Bool):JOk Q orc Tryz.f326.ntmps (jt326 (j326_0 false (Ex.of (E orc))) (j326_1 false (Ex.of (E orc))) (j326_2 false (Ex.of (E orc))) ) (bodyOf Tryz.f326) (retE Q Tryz.f326.results.toList) :=
 jOk Q orc (l:=[([true],(fun T G=>j326_2 false (Ex.of (E orc)) (nth undef T) G)),([true,true,true],(fun T G=>j326_1 false (Ex.of (E orc)) (nth undef T) G)),([true,true,true,true],(fun T G=>j326_0 false (Ex.of (E orc)) (nth undef T) G))]) (by kernel_rfl) (AllE.c (fun T G=>jr326_2 orc (j326_0 false (Ex.of (E orc))) (j326_1 false (Ex.of (E orc))) (j326_2 false (Ex.of (E orc))) T G) (AllE.c (fun T G=>jr326_1 orc (j326_0 false (Ex.of (E orc))) (j326_1 false (Ex.of (E orc))) (j326_2 false (Ex.of (E orc))) T G) (AllE.c (fun T G=>jr326_0 orc (j326_0 false (Ex.of (E orc))) (j326_1 false (Ex.of (E orc))) (j326_2 false (Ex.of (E orc))) T G) (AllE.z))))
theorem je326 (orc:FuncId → Bool) (J0 J1 J2:Env → GS → OG) (v0 v1:Value) (G:GS):sxC Q (evL Q orc) Tryz.f326.ntmps (jt326 J0 J1 J2) (bodyOf Tryz.f326) (nth undef [v0,v1]) G (retE Q Tryz.f326.results.toList) = sb326 false (Ex.of (E orc)) J0 J1 J2 v0 v1 G:=by kernel_rfl
theorem f326 {orc:FuncId → Bool} {e:Ex} (h:ExLe Q e (E orc)) (v0 v1:Value) (G:GS):Ref (s326 true e v0 v1 G) ((E orc).cl 326 [v0,v1] G) :=
 fun r hr=>cl_sxC Q orc (vs:=[v0,v1]) G (jt326 (j326_0 false (Ex.of (E orc))) (j326_1 false (Ex.of (E orc))) (j326_2 false (Ex.of (E orc))) ) Tryz.func326 (by kernel_rfl) (by kernel_rfl) (by kernel_rfl) (by kernel_rfl) (by kernel_rfl) (jo326 orc) (je326 orc (j326_0 false (Ex.of (E orc))) (j326_1 false (Ex.of (E orc))) (j326_2 false (Ex.of (E orc))) v0 v1 G) (m326 h v0 v1 G r hr)
def s327 (q:Bool) (e:Ex) (v0 v1:Value) (G:GS):OG :=
 bP (ep Q q false 221 (.tmp 5) (.const (.pointer none)) v0 (.pointer none)) fun x0 =>
 bS (gV x0 false v0 G) fun x1 G2 =>
 bS (gP x0 false (pNil x1) G2) fun x3 G4 =>
 bS (gP x0 false (fa Q q 285 0 0 x3) G4) fun x5 G6 =>
 bS (gV x0 false v1 G6) fun x7 G8 =>
 bS (gS x0 false (e.ev.cl 278 [x5,x7] G8) G8) fun x9 G10 =>
 bP (pickV x0 (.bool true) x9) fun x11 =>
 some (x11,G10)
theorem f327 (h:ExLe Q e (E orc)) (v0 v1:Value) (G:GS):Ref (s327 true e v0 v1 G) ((E orc).cl 327 [v0,v1] G):=cS (S:=fun q e=>s327 q e v0 v1 G) Tryz.func327 (by unfold s327; exact Ref.gq)
def jb330_0 (q:Bool) (e:Ex) (τ:Env) (G:GS):OG :=
 bV q (τ 6) fun a6_ =>
 bV q (τ 7) fun a7_ =>
 some (.tuple #[a6_,a7_],G)
def j330_0 (q:Bool) (e:Ex) (τ:Env) (G:GS):OG:=jb330_0 q e τ G
theorem mj330_0 {e:Ex} {E:Ev} (h:ExLe Q e E) (τ:Env) (G:GS):Ref (j330_0 true e τ G) (j330_0 false (Ex.of E) τ G):=by
 unfold j330_0 jb330_0
 exact Ref.gq
theorem mkj330_0 {e:Ex} {E:Ev} (h:ExLe Q e E) {τ:Env} {l U:List (Nat × Value)} {G:GS} (hU:UOk τ U):Ref (j330_0 true e (xq true 64 τ l U) G) (j330_0 false (Ex.of E) (xq false 64 τ l U) G):=by
 rw [xq_eq hU]
 exact mj330_0 h _ _
def jb330_1 (q:Bool) (e:Ex) (J0:Env → GS → OG) (τ:Env) (G:GS):OG :=
 bV q (τ 0) fun a0_ =>
 bV q (τ 6) fun a6_ =>
 bS (gV a6_ true a0_ G) fun x6 G7 =>
 bS (gP a6_ true (pNil x6) G7) fun x8 G9 =>
 bS (gP a6_ true (fa Q q 254 2 2 x8) G9) fun x10 G11 =>
 bS (gP a6_ true (ld Q q 252 x10 G11) G11) fun x12 G13 =>
 bS (gP a6_ true (ef Q q true 252 (.tmp 50) (.const .nilFunc) x12 .nilFunc) G13) fun x14 G15 =>
 bP (pickV a6_ x14 (.bool false)) fun x16 =>
 ifV x16 (
 bP (pNil a0_) fun x17 =>
 bP (fa Q q 254 2 2 x17) fun x18 =>
 bP (ld Q q 252 x18 (G15.room 9)) fun x19 =>
 bP (pNil a0_) fun x20 =>
 bP (fa Q q 254 3 3 x20) fun x21 =>
 bP (ld Q q 248 x21 (G15.room 9)) fun x22 =>
 bS (cValue e.ev x19 [x22] (G15.room 9)) fun x24 G23 =>
 J0 (xq q 64 τ [(61,x24),(60,x22),(59,x21),(58,x20),(57,a0_),(56,x19),(55,x18),(54,x17),(53,a0_),(52,x16),(51,x14),(50,x12),(49,x10),(48,x8),(47,x6),(46,a6_),(45,a6_)] []) G23) (
 J0 (xq q 64 τ [(52,x16),(51,x14),(50,x12),(49,x10),(48,x8),(47,x6),(46,a6_),(45,a6_)] []) G15)
def j330_1 (q:Bool) (e:Ex) (τ:Env) (G:GS):OG:=jb330_1 q e (j330_0 q e) τ G
theorem mj330_1 {e:Ex} {E:Ev} (h:ExLe Q e E) (τ:Env) (G:GS):Ref (j330_1 true e τ G) (j330_1 false (Ex.of E) τ G):=by
 unfold j330_1 jb330_1
 have j0:=@mkj330_0 e E h
 exact Ref.gj
theorem mkj330_1 {e:Ex} {E:Ev} (h:ExLe Q e E) {τ:Env} {l U:List (Nat × Value)} {G:GS} (hU:UOk τ U):Ref (j330_1 true e (xq true 64 τ l U) G) (j330_1 false (Ex.of E) (xq false 64 τ l U) G):=by
 rw [xq_eq hU]
 exact mj330_1 h _ _
def jb330_2 (q:Bool) (e:Ex) (J0 J1:Env → GS → OG) (τ:Env) (G:GS):OG :=
 bV q (τ 0) fun a0_ =>
 bV q (τ 1) fun a1_ =>
 bP (pNil a0_) fun x0 =>
 bP (fa Q q 254 3 3 x0) fun x1 =>
 bP (ld Q q 248 x1 G) fun x2 =>
 bP (ifc Q q 248 x2) fun x3 =>
 bS (cInvoke Q e.ev x3 "Step" [a1_] G) fun x4 G5 =>
 bP (pNil a0_) fun x25 =>
 bP (fa Q q 254 1 1 x25) fun x26 =>
 bP (ld Q q 251 x26 G5) fun x27 =>
 bP (ef Q q true 251 (.tmp 34) (.const .nilFunc) x27 .nilFunc) fun x28 =>
 ifV x28 (
 bP (pNil a0_) fun x29 =>
 bP (fa Q q 254 1 1 x29) fun x30 =>
 bP (ld Q q 251 x30 (G5.room 10)) fun x31 =>
 bP (pNil a0_) fun x32 =>
 bP (fa Q q 254 3 3 x32) fun x33 =>
 bP (ld Q q 248 x33 (G5.room 10)) fun x34 =>
 bS (cValue e.ev x31 [x34] (G5.room 10)) fun x36 G35 =>
 J1 (xq q 64 τ [(7,x36),(44,x36),(43,x34),(42,x33),(41,x32),(40,a0_),(39,x31),(38,x30),(37,x29),(36,a0_),(35,x28),(34,x27),(33,x26),(32,x25),(31,a0_),(7,(.int .u64 0)),(6,x4),(30,x4),(29,a1_),(28,x3),(27,x2),(26,x1),(25,x0),(24,a0_)] []) G35) (
 J1 (xq q 64 τ [(35,x28),(34,x27),(33,x26),(32,x25),(31,a0_),(7,(.int .u64 0)),(6,x4),(30,x4),(29,a1_),(28,x3),(27,x2),(26,x1),(25,x0),(24,a0_)] []) G5)
def j330_2 (q:Bool) (e:Ex) (τ:Env) (G:GS):OG:=jb330_2 q e (j330_0 q e) (j330_1 q e) τ G
theorem mj330_2 {e:Ex} {E:Ev} (h:ExLe Q e E) (τ:Env) (G:GS):Ref (j330_2 true e τ G) (j330_2 false (Ex.of E) τ G):=by
 unfold j330_2 jb330_2
 have j0:=@mkj330_0 e E h
 have j1:=@mkj330_1 e E h
 exact Ref.gj
theorem mkj330_2 {e:Ex} {E:Ev} (h:ExLe Q e E) {τ:Env} {l U:List (Nat × Value)} {G:GS} (hU:UOk τ U):Ref (j330_2 true e (xq true 64 τ l U) G) (j330_2 false (Ex.of E) (xq false 64 τ l U) G):=by
 rw [xq_eq hU]
 exact mj330_2 h _ _
def sb330 (q:Bool) (e:Ex) (J0 J1 J2:Env → GS → OG) (v0 v1:Value) (G:GS):OG :=
 bP (pNil v0) fun x37 =>
 bP (fa Q q 254 4 4 x37) fun x38 =>
 bP (ld Q q 4 x38 G) fun x39 =>
 bP (un Q q .not x39) fun x40 =>
 ifV x40 (
 bP (pNil v0) fun x41 =>
 bP (fa Q q 254 0 0 x41) fun x42 =>
 bP (ld Q q 250 x42 G) fun x43 =>
 bS (cValue e.ev x43 [] G) fun x44 G45 =>
 bP (pNil v0) fun x46 =>
 bP (fa Q q 254 3 3 x46) fun x47 =>
 bP (st Q q 248 1 x47 x44 G45) fun G48 =>
 bP (pNil v0) fun x49 =>
 bP (fa Q q 254 4 4 x49) fun x50 =>
 bP (st Q q 4 1 x50 (.bool true) G48) fun G51 =>
 J2 (xq q 64 (nth undef [v0,v1]) [(23,x50),(22,x49),(21,x47),(20,x46),(19,x44),(18,x43),(17,x42),(16,x41),(15,v0),(14,v0),(13,v0),(12,x40),(11,x39),(10,x38),(9,x37),(8,v0),(5,(.int .u64 0)),(4,(.bool false))] []) G51) (
 J2 (xq q 64 (nth undef [v0,v1]) [(12,x40),(11,x39),(10,x38),(9,x37),(8,v0),(5,(.int .u64 0)),(4,(.bool false))] []) G)
def s330 (q:Bool) (e:Ex) (v0 v1:Value) (G:GS):OG:=sb330 q e (j330_0 q e) (j330_1 q e) (j330_2 q e) v0 v1 G
theorem m330 {e:Ex} {E:Ev} (h:ExLe Q e E) (v0 v1:Value) (G:GS):Ref (s330 true e v0 v1 G) (s330 false (Ex.of E) v0 v1 G):=by
 unfold s330 sb330
 have j0:=@mkj330_0 e E h
 have j1:=@mkj330_1 e E h
 have j2:=@mkj330_2 e E h
 exact Ref.gj
end
end Go.Proofs.YtedmgpchggogpaaGreat.Lift
