import Derived.Test.YtedmgpchggogpaaGreatRSb
namespace Go.Proofs.YtedmgpchggogpaaGreat.Lift
open Go Go.Proofs.YtedmgpchggogpaaGreat.Gh Go.Proofs
set_option linter.unusedVariables false
set_option maxRecDepth 100000
variable {orc:FuncId → Bool} {e:Ex}
noncomputable section
def jt330 (J0 J1 J2:Env → GS → OG):JT (Value × GS) :=
 (.n none .e (.n (some (fun T G=>J2 (nth undef T) G)) .e (.n none .e (.n (some (fun T G=>J1 (nth undef T) G)) .e (.n (some (fun T G=>J0 (nth undef T) G)) .e .e)))))
theorem jr330_2 (orc:FuncId → Bool) (J0 J1 J2:Env → GS → OG) (T:List Value) (G:GS):runC Q (evL Q orc) Tryz.f330.ntmps (jt330 J0 J1 J2) (bodyOf Tryz.f330) (retE Q Tryz.f330.results.toList) [true] (nth undef T) G = jb330_2 false (Ex.of (E orc)) J0 J1 (nth undef T) G:=by kernel_rfl
theorem jr330_1 (orc:FuncId → Bool) (J0 J1 J2:Env → GS → OG) (T:List Value) (G:GS):runC Q (evL Q orc) Tryz.f330.ntmps (jt330 J0 J1 J2) (bodyOf Tryz.f330) (retE Q Tryz.f330.results.toList) [true,true,true] (nth undef T) G = jb330_1 false (Ex.of (E orc)) J0 (nth undef T) G:=by kernel_rfl
theorem jr330_0 (orc:FuncId → Bool) (J0 J1 J2:Env → GS → OG) (T:List Value) (G:GS):runC Q (evL Q orc) Tryz.f330.ntmps (jt330 J0 J1 J2) (bodyOf Tryz.f330) (retE Q Tryz.f330.results.toList) [true,true,true,true] (nth undef T) G = jb330_0 false (Ex.of (E orc))  (nth undef T) G:=by kernel_rfl
theorem jo330 (orc:FuncId → Bool):JOk Q orc Tryz.f330.ntmps (jt330 (j330_0 false (Ex.of (E orc))) (j330_1 false (Ex.of (E orc))) (j330_2 false (Ex.of (E orc))) ) (bodyOf Tryz.f330) (retE Q Tryz.f330.results.toList) :=
 jOk Q orc (l:=[([true],(fun T G=>j330_2 false (Ex.of (E orc)) (nth undef T) G)),([true,true,true],(fun T G=>j330_1 false (Ex.of (E orc)) (nth undef T) G)),([true,true,true,true],(fun T G=>j330_0 false (Ex.of (E orc)) (nth undef T) G))]) (by kernel_rfl) (AllE.c (fun T G=>jr330_2 orc (j330_0 false (Ex.of (E orc))) (j330_1 false (Ex.of (E orc))) (j330_2 false (Ex.of (E orc))) T G) (AllE.c (fun T G=>jr330_1 orc (j330_0 false (Ex.of (E orc))) (j330_1 false (Ex.of (E orc))) (j330_2 false (Ex.of (E orc))) T G) (AllE.c (fun T G=>jr330_0 orc (j330_0 false (Ex.of (E orc))) (j330_1 false (Ex.of (E orc))) (j330_2 false (Ex.of (E orc))) T G) (AllE.z))))
theorem je330 (orc:FuncId → Bool) (J0 J1 J2:Env → GS → OG) (v0 v1:Value) (G:GS):sxC Q (evL Q orc) Tryz.f330.ntmps (jt330 J0 J1 J2) (bodyOf Tryz.f330) (nth undef [v0,v1]) G (retE Q Tryz.f330.results.toList) = sb330 false (Ex.of (E orc)) J0 J1 J2 v0 v1 G:=by kernel_rfl
theorem f330 {orc:FuncId → Bool} {e:Ex} (h:ExLe Q e (E orc)) (v0 v1:Value) (G:GS):Ref (s330 true e v0 v1 G) ((E orc).cl 330 [v0,v1] G) :=
 fun r hr=>cl_sxC Q orc (vs:=[v0,v1]) G (jt330 (j330_0 false (Ex.of (E orc))) (j330_1 false (Ex.of (E orc))) (j330_2 false (Ex.of (E orc))) ) Tryz.func330 (by kernel_rfl) (by kernel_rfl) (by kernel_rfl) (by kernel_rfl) (by kernel_rfl) (jo330 orc) (je330 orc (j330_0 false (Ex.of (E orc))) (j330_1 false (Ex.of (E orc))) (j330_2 false (Ex.of (E orc))) v0 v1 G) (m330 h v0 v1 G r hr)
def s332 (q:Bool) (e:Ex) (v0 v1:Value) (G:GS):OG :=
 bP (ep Q q false 248 (.tmp 5) (.const (.pointer none)) v0 (.pointer none)) fun x0 =>
 bS (gV x0 false v0 G) fun x1 G2 =>
 bS (gP x0 false (pNil x1) G2) fun x3 G4 =>
 bS (gP x0 false (fa Q q 298 0 0 x3) G4) fun x5 G6 =>
 bS (gV x0 false v1 G6) fun x7 G8 =>
 bS (gS x0 false (e.ev.cl 278 [x5,x7] G8) G8) fun x9 G10 =>
 bP (pickV x0 (.bool true) x9) fun x11 =>
 some (x11,G10)
theorem f332 (h:ExLe Q e (E orc)) (v0 v1:Value) (G:GS):Ref (s332 true e v0 v1 G) ((E orc).cl 332 [v0,v1] G):=cS (S:=fun q e=>s332 q e v0 v1 G) Tryz.func332 (by unfold s332; exact Ref.gq)
def s333 (q:Bool) (e:Ex) (v0:Value) (G:GS):OG :=
 bP (bn Q q .add 3 (.const (.int .i64 4)) (.tmp 3) (.int .i64 4) v0) fun x0 =>
 some (x0,G)
theorem f333 (h:ExLe Q e (E orc)) (v0:Value) (G:GS):Ref (s333 true e v0 G) ((E orc).cl 333 [v0] G):=cS (S:=fun q e=>s333 q e v0 G) Tryz.func333 (by unfold s333; exact Ref.gq)
def s334 (q:Bool) (e:Ex) (v0:Value) (G:GS):OG :=
 some (v0,G)
theorem f334 (h:ExLe Q e (E orc)) (v0:Value) (G:GS):Ref (s334 true e v0 G) ((E orc).cl 334 [v0] G):=cS (S:=fun q e=>s334 q e v0 G) Tryz.func334 (by unfold s334; exact Ref.gq)
def jb335_0 (q:Bool) (e:Ex) (τ:Env) (G:GS):OG :=
 bV q (τ 6) fun a6_ =>
 bV q (τ 7) fun a7_ =>
 some (.tuple #[a6_,a7_],G)
def j335_0 (q:Bool) (e:Ex) (τ:Env) (G:GS):OG:=jb335_0 q e τ G
theorem mj335_0 {e:Ex} {E:Ev} (h:ExLe Q e E) (τ:Env) (G:GS):Ref (j335_0 true e τ G) (j335_0 false (Ex.of E) τ G):=by
 unfold j335_0 jb335_0
 exact Ref.gq
theorem mkj335_0 {e:Ex} {E:Ev} (h:ExLe Q e E) {τ:Env} {l U:List (Nat × Value)} {G:GS} (hU:UOk τ U):Ref (j335_0 true e (xq true 64 τ l U) G) (j335_0 false (Ex.of E) (xq false 64 τ l U) G):=by
 rw [xq_eq hU]
 exact mj335_0 h _ _
def jb335_1 (q:Bool) (e:Ex) (J0:Env → GS → OG) (τ:Env) (G:GS):OG :=
 bV q (τ 0) fun a0_ =>
 bV q (τ 6) fun a6_ =>
 bS (gV a6_ true a0_ G) fun x6 G7 =>
 bS (gP a6_ true (pNil x6) G7) fun x8 G9 =>
 bS (gP a6_ true (fa Q q 327 2 2 x8) G9) fun x10 G11 =>
 bS (gP a6_ true (ld Q q 325 x10 G11) G11) fun x12 G13 =>
 bS (gP a6_ true (ef Q q true 325 (.tmp 50) (.const .nilFunc) x12 .nilFunc) G13) fun x14 G15 =>
 bP (pickV a6_ x14 (.bool false)) fun x16 =>
 ifV x16 (
 bP (pNil a0_) fun x17 =>
 bP (fa Q q 327 2 2 x17) fun x18 =>
 bP (ld Q q 325 x18 (G15.room 9)) fun x19 =>
 bP (pNil a0_) fun x20 =>
 bP (fa Q q 327 3 3 x20) fun x21 =>
 bP (ld Q q 321 x21 (G15.room 9)) fun x22 =>
 bS (cValue e.ev x19 [x22] (G15.room 9)) fun x24 G23 =>
 J0 (xq q 64 τ [(61,x24),(60,x22),(59,x21),(58,x20),(57,a0_),(56,x19),(55,x18),(54,x17),(53,a0_),(52,x16),(51,x14),(50,x12),(49,x10),(48,x8),(47,x6),(46,a6_),(45,a6_)] []) G23) (
 J0 (xq q 64 τ [(52,x16),(51,x14),(50,x12),(49,x10),(48,x8),(47,x6),(46,a6_),(45,a6_)] []) G15)
def j335_1 (q:Bool) (e:Ex) (τ:Env) (G:GS):OG:=jb335_1 q e (j335_0 q e) τ G
theorem mj335_1 {e:Ex} {E:Ev} (h:ExLe Q e E) (τ:Env) (G:GS):Ref (j335_1 true e τ G) (j335_1 false (Ex.of E) τ G):=by
 unfold j335_1 jb335_1
 have j0:=@mkj335_0 e E h
 exact Ref.gj
theorem mkj335_1 {e:Ex} {E:Ev} (h:ExLe Q e E) {τ:Env} {l U:List (Nat × Value)} {G:GS} (hU:UOk τ U):Ref (j335_1 true e (xq true 64 τ l U) G) (j335_1 false (Ex.of E) (xq false 64 τ l U) G):=by
 rw [xq_eq hU]
 exact mj335_1 h _ _
def jb335_2 (q:Bool) (e:Ex) (J0 J1:Env → GS → OG) (τ:Env) (G:GS):OG :=
 bV q (τ 0) fun a0_ =>
 bV q (τ 1) fun a1_ =>
 bP (pNil a0_) fun x0 =>
 bP (fa Q q 327 3 3 x0) fun x1 =>
 bP (ld Q q 321 x1 G) fun x2 =>
 bP (ifc Q q 321 x2) fun x3 =>
 bS (cInvoke Q e.ev x3 "Step" [a1_] G) fun x4 G5 =>
 bP (pNil a0_) fun x25 =>
 bP (fa Q q 327 1 1 x25) fun x26 =>
 bP (ld Q q 324 x26 G5) fun x27 =>
 bP (ef Q q true 324 (.tmp 34) (.const .nilFunc) x27 .nilFunc) fun x28 =>
 ifV x28 (
 bP (pNil a0_) fun x29 =>
 bP (fa Q q 327 1 1 x29) fun x30 =>
 bP (ld Q q 324 x30 (G5.room 10)) fun x31 =>
 bP (pNil a0_) fun x32 =>
 bP (fa Q q 327 3 3 x32) fun x33 =>
 bP (ld Q q 321 x33 (G5.room 10)) fun x34 =>
 bS (cValue e.ev x31 [x34] (G5.room 10)) fun x36 G35 =>
 J1 (xq q 64 τ [(7,x36),(44,x36),(43,x34),(42,x33),(41,x32),(40,a0_),(39,x31),(38,x30),(37,x29),(36,a0_),(35,x28),(34,x27),(33,x26),(32,x25),(31,a0_),(7,(.int .u64 0)),(6,x4),(30,x4),(29,a1_),(28,x3),(27,x2),(26,x1),(25,x0),(24,a0_)] []) G35) (
 J1 (xq q 64 τ [(35,x28),(34,x27),(33,x26),(32,x25),(31,a0_),(7,(.int .u64 0)),(6,x4),(30,x4),(29,a1_),(28,x3),(27,x2),(26,x1),(25,x0),(24,a0_)] []) G5)
def j335_2 (q:Bool) (e:Ex) (τ:Env) (G:GS):OG:=jb335_2 q e (j335_0 q e) (j335_1 q e) τ G
theorem mj335_2 {e:Ex} {E:Ev} (h:ExLe Q e E) (τ:Env) (G:GS):Ref (j335_2 true e τ G) (j335_2 false (Ex.of E) τ G):=by
 unfold j335_2 jb335_2
 have j0:=@mkj335_0 e E h
 have j1:=@mkj335_1 e E h
 exact Ref.gj
theorem mkj335_2 {e:Ex} {E:Ev} (h:ExLe Q e E) {τ:Env} {l U:List (Nat × Value)} {G:GS} (hU:UOk τ U):Ref (j335_2 true e (xq true 64 τ l U) G) (j335_2 false (Ex.of E) (xq false 64 τ l U) G):=by
 rw [xq_eq hU]
 exact mj335_2 h _ _
def sb335 (q:Bool) (e:Ex) (J0 J1 J2:Env → GS → OG) (v0 v1:Value) (G:GS):OG :=
 bP (pNil v0) fun x37 =>
 bP (fa Q q 327 4 4 x37) fun x38 =>
 bP (ld Q q 4 x38 G) fun x39 =>
 bP (un Q q .not x39) fun x40 =>
 ifV x40 (
 bP (pNil v0) fun x41 =>
 bP (fa Q q 327 0 0 x41) fun x42 =>
 bP (ld Q q 323 x42 G) fun x43 =>
 bS (cValue e.ev x43 [] G) fun x44 G45 =>
 bP (pNil v0) fun x46 =>
 bP (fa Q q 327 3 3 x46) fun x47 =>
 bP (st Q q 321 1 x47 x44 G45) fun G48 =>
 bP (pNil v0) fun x49 =>
 bP (fa Q q 327 4 4 x49) fun x50 =>
 bP (st Q q 4 1 x50 (.bool true) G48) fun G51 =>
 J2 (xq q 64 (nth undef [v0,v1]) [(23,x50),(22,x49),(21,x47),(20,x46),(19,x44),(18,x43),(17,x42),(16,x41),(15,v0),(14,v0),(13,v0),(12,x40),(11,x39),(10,x38),(9,x37),(8,v0),(5,(.int .u64 0)),(4,(.bool false))] []) G51) (
 J2 (xq q 64 (nth undef [v0,v1]) [(12,x40),(11,x39),(10,x38),(9,x37),(8,v0),(5,(.int .u64 0)),(4,(.bool false))] []) G)
def s335 (q:Bool) (e:Ex) (v0 v1:Value) (G:GS):OG:=sb335 q e (j335_0 q e) (j335_1 q e) (j335_2 q e) v0 v1 G
theorem m335 {e:Ex} {E:Ev} (h:ExLe Q e E) (v0 v1:Value) (G:GS):Ref (s335 true e v0 v1 G) (s335 false (Ex.of E) v0 v1 G):=by
 unfold s335 sb335
 have j0:=@mkj335_0 e E h
 have j1:=@mkj335_1 e E h
 have j2:=@mkj335_2 e E h
 exact Ref.gj
def jt335 (J0 J1 J2:Env → GS → OG):JT (Value × GS) :=
 (.n none .e (.n (some (fun T G=>J2 (nth undef T) G)) .e (.n none .e (.n (some (fun T G=>J1 (nth undef T) G)) .e (.n (some (fun T G=>J0 (nth undef T) G)) .e .e)))))
theorem jr335_2 (orc:FuncId → Bool) (J0 J1 J2:Env → GS → OG) (T:List Value) (G:GS):runC Q (evL Q orc) Tryz.f335.ntmps (jt335 J0 J1 J2) (bodyOf Tryz.f335) (retE Q Tryz.f335.results.toList) [true] (nth undef T) G = jb335_2 false (Ex.of (E orc)) J0 J1 (nth undef T) G:=by kernel_rfl
theorem jr335_1 (orc:FuncId → Bool) (J0 J1 J2:Env → GS → OG) (T:List Value) (G:GS):runC Q (evL Q orc) Tryz.f335.ntmps (jt335 J0 J1 J2) (bodyOf Tryz.f335) (retE Q Tryz.f335.results.toList) [true,true,true] (nth undef T) G = jb335_1 false (Ex.of (E orc)) J0 (nth undef T) G:=by kernel_rfl
theorem jr335_0 (orc:FuncId → Bool) (J0 J1 J2:Env → GS → OG) (T:List Value) (G:GS):runC Q (evL Q orc) Tryz.f335.ntmps (jt335 J0 J1 J2) (bodyOf Tryz.f335) (retE Q Tryz.f335.results.toList) [true,true,true,true] (nth undef T) G = jb335_0 false (Ex.of (E orc))  (nth undef T) G:=by kernel_rfl
theorem jo335 (orc:FuncId → Bool):JOk Q orc Tryz.f335.ntmps (jt335 (j335_0 false (Ex.of (E orc))) (j335_1 false (Ex.of (E orc))) (j335_2 false (Ex.of (E orc))) ) (bodyOf Tryz.f335) (retE Q Tryz.f335.results.toList) :=
 jOk Q orc (l:=[([true],(fun T G=>j335_2 false (Ex.of (E orc)) (nth undef T) G)),([true,true,true],(fun T G=>j335_1 false (Ex.of (E orc)) (nth undef T) G)),([true,true,true,true],(fun T G=>j335_0 false (Ex.of (E orc)) (nth undef T) G))]) (by kernel_rfl) (AllE.c (fun T G=>jr335_2 orc (j335_0 false (Ex.of (E orc))) (j335_1 false (Ex.of (E orc))) (j335_2 false (Ex.of (E orc))) T G) (AllE.c (fun T G=>jr335_1 orc (j335_0 false (Ex.of (E orc))) (j335_1 false (Ex.of (E orc))) (j335_2 false (Ex.of (E orc))) T G) (AllE.c (fun T G=>jr335_0 orc (j335_0 false (Ex.of (E orc))) (j335_1 false (Ex.of (E orc))) (j335_2 false (Ex.of (E orc))) T G) (AllE.z))))
theorem je335 (orc:FuncId → Bool) (J0 J1 J2:Env → GS → OG) (v0 v1:Value) (G:GS):sxC Q (evL Q orc) Tryz.f335.ntmps (jt335 J0 J1 J2) (bodyOf Tryz.f335) (nth undef [v0,v1]) G (retE Q Tryz.f335.results.toList) = sb335 false (Ex.of (E orc)) J0 J1 J2 v0 v1 G:=by kernel_rfl
theorem f335 {orc:FuncId → Bool} {e:Ex} (h:ExLe Q e (E orc)) (v0 v1:Value) (G:GS):Ref (s335 true e v0 v1 G) ((E orc).cl 335 [v0,v1] G) :=
 fun r hr=>cl_sxC Q orc (vs:=[v0,v1]) G (jt335 (j335_0 false (Ex.of (E orc))) (j335_1 false (Ex.of (E orc))) (j335_2 false (Ex.of (E orc))) ) Tryz.func335 (by kernel_rfl) (by kernel_rfl) (by kernel_rfl) (by kernel_rfl) (by kernel_rfl) (jo335 orc) (je335 orc (j335_0 false (Ex.of (E orc))) (j335_1 false (Ex.of (E orc))) (j335_2 false (Ex.of (E orc))) v0 v1 G) (m335 h v0 v1 G r hr)
def clT (orc:FuncId → Bool) (e:Ex) (f:FuncId) (vs:List Value) (G:GS):OG :=
fork f 140 (fork f 72 (fork f 47 (fork f 23 (fork f 13 (fork f 9 (fork f 7 (leaf f 7 (app0 (orc 7) (hasTab Q G) (s7 true e) vs G)) (
leaf f 9 (app2 (s9 true e) vs G))) (
fork f 10 (leaf f 10 (app2 (s10 true e) vs G)) (
leaf f 13 (app2 (s13 true e) vs G)))) (
fork f 20 (fork f 19 (leaf f 19 (app1 (s19 true e) vs G)) (
leaf f 20 (app2 (s20 true e) vs G))) (
fork f 21 (leaf f 21 (app2 (s21 true e) vs G)) (
fork f 22 (leaf f 22 (app5 (s22 true e) vs G)) (
leaf f 23 (app3 (s23 true e) vs G)))))) (
fork f 27 (fork f 25 (fork f 24 (leaf f 24 (app1 (s24 true e) vs G)) (
leaf f 25 (app3 (s25 true e) vs G))) (
fork f 26 (leaf f 26 (app2 (s26 true e) vs G)) (
leaf f 27 (app1 (s27 true e) vs G)))) (
fork f 35 (fork f 28 (leaf f 28 (app1 (s28 true e) vs G)) (
leaf f 35 (app3 (s35 true e) vs G))) (
fork f 36 (leaf f 36 (app2 (s36 true e) vs G)) (
fork f 46 (leaf f 46 (app0 (orc 46) (hasTab Q G) (s46 true e) vs G)) (
leaf f 47 (app2 (s47 true e) vs G))))))) (
fork f 58 (fork f 51 (fork f 49 (fork f 48 (leaf f 48 (app0 (orc 48) (hasTab Q G) (s48 true e) vs G)) (
leaf f 49 (app3 (s49 true e) vs G))) (
fork f 50 (leaf f 50 (app4 (s50 true e) vs G)) (
leaf f 51 (app0 (orc 51) (hasTab Q G) (s51 true e) vs G)))) (
fork f 53 (fork f 52 (leaf f 52 (app2 (s52 true e) vs G)) (
leaf f 53 (app2 (s53 true e) vs G))) (
fork f 56 (leaf f 56 (app1 (s56 true e) vs G)) (
fork f 57 (leaf f 57 (app2 (s57 true e) vs G)) (
leaf f 58 (app1 (s58 true e) vs G)))))) (
fork f 66 (fork f 63 (fork f 62 (leaf f 62 (app2 (s62 true e) vs G)) (
leaf f 63 (app5 (s63 true e) vs G))) (
fork f 64 (leaf f 64 (app1 (s64 true e) vs G)) (
fork f 65 (leaf f 65 (app2 (s65 true e) vs G)) (
leaf f 66 (app1 (s66 true e) vs G))))) (
fork f 68 (fork f 67 (leaf f 67 (app2 (s67 true e) vs G)) (
leaf f 68 (app2 (s68 true e) vs G))) (
fork f 69 (leaf f 69 (app1 (s69 true e) vs G)) (
fork f 70 (leaf f 70 (app2 (s70 true e) vs G)) (
leaf f 72 (app1 (s72 true e) vs G)))))))) (
fork f 105 (fork f 93 (fork f 88 (fork f 86 (fork f 82 (leaf f 82 (app2 (s82 true e) vs G)) (
leaf f 86 (app5 (s86 true e) vs G))) (
fork f 87 (leaf f 87 (app2 (s87 true e) vs G)) (
leaf f 88 (app1 (s88 true e) vs G)))) (
fork f 90 (fork f 89 (leaf f 89 (app1 (s89 true e) vs G)) (
leaf f 90 (app2 (s90 true e) vs G))) (
fork f 91 (leaf f 91 (app3 (s91 true e) vs G)) (
fork f 92 (leaf f 92 (app2 (s92 true e) vs G)) (
leaf f 93 (app1 (s93 true e) vs G)))))) (
fork f 99 (fork f 97 (fork f 96 (leaf f 96 (app2 (s96 true e) vs G)) (
leaf f 97 (app2 (s97 true e) vs G))) (
fork f 98 (leaf f 98 (app2 (s98 true e) vs G)) (
leaf f 99 (app2 (s99 true e) vs G)))) (
fork f 102 (fork f 100 (leaf f 100 (app1 (s100 true e) vs G)) (
leaf f 102 (app2 (s102 true e) vs G))) (
fork f 103 (leaf f 103 (app1 (s103 true e) vs G)) (
fork f 104 (leaf f 104 (app1 (s104 true e) vs G)) (
leaf f 105 (app1 (s105 true e) vs G))))))) (
fork f 114 (fork f 109 (fork f 107 (fork f 106 (leaf f 106 (app1 (s106 true e) vs G)) (
leaf f 107 (app1 (s107 true e) vs G))) (
fork f 108 (leaf f 108 (app2 (s108 true e) vs G)) (
leaf f 109 (app1 (s109 true e) vs G)))) (
fork f 111 (fork f 110 (leaf f 110 (app1 (s110 true e) vs G)) (
leaf f 111 (app2 (s111 true e) vs G))) (
fork f 112 (leaf f 112 (app2 (s112 true e) vs G)) (
fork f 113 (leaf f 113 (app1 (s113 true e) vs G)) (
leaf f 114 (app1 (s114 true e) vs G)))))) (
fork f 125 (fork f 122 (fork f 119 (leaf f 119 (app2 (s119 true e) vs G)) (
leaf f 122 (app2 (s122 true e) vs G))) (
fork f 123 (leaf f 123 (app2 (s123 true e) vs G)) (
fork f 124 (leaf f 124 (app1 (s124 true e) vs G)) (
leaf f 125 (app2 (s125 true e) vs G))))) (
fork f 127 (fork f 126 (leaf f 126 (app2 (s126 true e) vs G)) (
leaf f 127 (app1 (s127 true e) vs G))) (
fork f 138 (leaf f 138 (app1 (s138 true e) vs G)) (
fork f 139 (leaf f 139 (app2 (s139 true e) vs G)) (
leaf f 140 (app1 (s140 true e) vs G))))))))) (
fork f 199 (fork f 167 (fork f 152 (fork f 144 (fork f 142 (fork f 141 (leaf f 141 (app1 (s141 true e) vs G)) (
leaf f 142 (app3 (s142 true e) vs G))) (
fork f 143 (leaf f 143 (app1 (s143 true e) vs G)) (
leaf f 144 (app2 (s144 true e) vs G)))) (
fork f 146 (fork f 145 (leaf f 145 (app2 (s145 true e) vs G)) (
leaf f 146 (app1 (s146 true e) vs G))) (
fork f 150 (leaf f 150 (app1 (s150 true e) vs G)) (
fork f 151 (leaf f 151 (app1 (s151 true e) vs G)) (
leaf f 152 (app1 (s152 true e) vs G)))))) (
fork f 162 (fork f 160 (fork f 153 (leaf f 153 (app2 (s153 true e) vs G)) (
leaf f 160 (app2 (s160 true e) vs G))) (
fork f 161 (leaf f 161 (app1 (s161 true e) vs G)) (
leaf f 162 (app2 (s162 true e) vs G)))) (
fork f 164 (fork f 163 (leaf f 163 (app2 (s163 true e) vs G)) (
leaf f 164 (app2 (s164 true e) vs G))) (
fork f 165 (leaf f 165 (app2 (s165 true e) vs G)) (
fork f 166 (leaf f 166 (app2 (s166 true e) vs G)) (
leaf f 167 (app2 (s167 true e) vs G))))))) (
fork f 181 (fork f 176 (fork f 174 (fork f 168 (leaf f 168 (app1 (s168 true e) vs G)) (
leaf f 174 (app1 (s174 true e) vs G))) (
fork f 175 (leaf f 175 (app1 (s175 true e) vs G)) (
leaf f 176 (app2 (s176 true e) vs G)))) (
fork f 178 (fork f 177 (leaf f 177 (app1 (s177 true e) vs G)) (
leaf f 178 (app3 (s178 true e) vs G))) (
fork f 179 (leaf f 179 (app1 (s179 true e) vs G)) (
fork f 180 (leaf f 180 (app3 (s180 true e) vs G)) (
leaf f 181 (app2 (s181 true e) vs G)))))) (
fork f 186 (fork f 183 (fork f 182 (leaf f 182 (app2 (s182 true e) vs G)) (
leaf f 183 (app2 (s183 true e) vs G))) (
fork f 184 (leaf f 184 (app2 (s184 true e) vs G)) (
fork f 185 (leaf f 185 (app2 (s185 true e) vs G)) (
leaf f 186 (app1 (s186 true e) vs G))))) (
fork f 195 (fork f 194 (leaf f 194 (app3 (s194 true e) vs G)) (
leaf f 195 (app2 (s195 true e) vs G))) (
fork f 197 (leaf f 197 (app2 (s197 true e) vs G)) (
fork f 198 (leaf f 198 (app1 (s198 true e) vs G)) (
leaf f 199 (app3 (s199 true e) vs G)))))))) (
fork f 263 (fork f 228 (fork f 204 (fork f 201 (fork f 200 (leaf f 200 (app2 (s200 true e) vs G)) (
leaf f 201 (app3 (s201 true e) vs G))) (
fork f 202 (leaf f 202 (app4 (s202 true e) vs G)) (
leaf f 204 (app2 (s204 true e) vs G)))) (
fork f 212 (fork f 208 (leaf f 208 (app3 (s208 true e) vs G)) (
leaf f 212 (app1 (s212 true e) vs G))) (
fork f 226 (leaf f 226 (app3 (s226 true e) vs G)) (
fork f 227 (leaf f 227 (app2 (s227 true e) vs G)) (
leaf f 228 (app1 (s228 true e) vs G)))))) (
fork f 237 (fork f 235 (fork f 234 (leaf f 234 (app2 (s234 true e) vs G)) (
leaf f 235 (app1 (s235 true e) vs G))) (
fork f 236 (leaf f 236 (app0 (orc 236) (hasTab Q G) (s236 true e) vs G)) (
leaf f 237 (app2 (s237 true e) vs G)))) (
fork f 256 (fork f 255 (leaf f 255 (app2 (s255 true e) vs G)) (
leaf f 256 (app3 (s256 true e) vs G))) (
fork f 261 (leaf f 261 (app2 (s261 true e) vs G)) (
fork f 262 (leaf f 262 (app1 (s262 true e) vs G)) (
leaf f 263 (app2 (s263 true e) vs G))))))) (
fork f 321 (fork f 283 (fork f 276 (fork f 264 (leaf f 264 (app1 (s264 true e) vs G)) (
leaf f 276 (app4 (s276 true e) vs G))) (
fork f 278 (leaf f 278 (app2 (s278 true e) vs G)) (
leaf f 283 (app1 (s283 true e) vs G)))) (
fork f 318 (fork f 317 (leaf f 317 (app2 (s317 true e) vs G)) (
leaf f 318 (app2 (s318 true e) vs G))) (
fork f 319 (leaf f 319 (app1 (s319 true e) vs G)) (
fork f 320 (leaf f 320 (app2 (s320 true e) vs G)) (
leaf f 321 (app3 (s321 true e) vs G)))))) (
fork f 327 (fork f 323 (fork f 322 (leaf f 322 (app2 (s322 true e) vs G)) (
leaf f 323 (app1 (s323 true e) vs G))) (
fork f 324 (leaf f 324 (app2 (s324 true e) vs G)) (
fork f 326 (leaf f 326 (app2 (s326 true e) vs G)) (
leaf f 327 (app2 (s327 true e) vs G))))) (
fork f 332 (fork f 330 (leaf f 330 (app2 (s330 true e) vs G)) (
leaf f 332 (app2 (s332 true e) vs G))) (
fork f 333 (leaf f 333 (app1 (s333 true e) vs G)) (
fork f 334 (leaf f 334 (app1 (s334 true e) vs G)) (
leaf f 335 (app2 (s335 true e) vs G)))))))))
theorem clT_ok (h:ExLe Q e (E orc)) (f:FuncId) (vs:List Value) (G:GS):Ref (clT orc e f vs G) ((E orc).cl f vs G) :=
Ref.fork (Ref.fork (Ref.fork (Ref.fork (Ref.fork (Ref.fork (Ref.fork (cf (Ref.app0 (f7 h) vs G)) (
cf (Ref.app2 (f9 h) vs G))) (
Ref.fork (cf (Ref.app2 (f10 h) vs G)) (
cf (Ref.app2 (f13 h) vs G)))) (
Ref.fork (Ref.fork (cf (Ref.app1 (f19 h) vs G)) (
cf (Ref.app2 (f20 h) vs G))) (
Ref.fork (cf (Ref.app2 (f21 h) vs G)) (
Ref.fork (cf (Ref.app5 (f22 h) vs G)) (
cf (Ref.app3 (f23 h) vs G)))))) (
Ref.fork (Ref.fork (Ref.fork (cf (Ref.app1 (f24 h) vs G)) (
cf (Ref.app3 (f25 h) vs G))) (
Ref.fork (cf (Ref.app2 (f26 h) vs G)) (
cf (Ref.app1 (f27 h) vs G)))) (
Ref.fork (Ref.fork (cf (Ref.app1 (f28 h) vs G)) (
cf (Ref.app3 (f35 h) vs G))) (
Ref.fork (cf (Ref.app2 (f36 h) vs G)) (
Ref.fork (cf (Ref.app0 (f46 h) vs G)) (
cf (Ref.app2 (f47 h) vs G))))))) (
Ref.fork (Ref.fork (Ref.fork (Ref.fork (cf (Ref.app0 (f48 h) vs G)) (
cf (Ref.app3 (f49 h) vs G))) (
Ref.fork (cf (Ref.app4 (f50 h) vs G)) (
cf (Ref.app0 (f51 h) vs G)))) (
Ref.fork (Ref.fork (cf (Ref.app2 (f52 h) vs G)) (
cf (Ref.app2 (f53 h) vs G))) (
Ref.fork (cf (Ref.app1 (f56 h) vs G)) (
Ref.fork (cf (Ref.app2 (f57 h) vs G)) (
cf (Ref.app1 (f58 h) vs G)))))) (
Ref.fork (Ref.fork (Ref.fork (cf (Ref.app2 (f62 h) vs G)) (
cf (Ref.app5 (f63 h) vs G))) (
Ref.fork (cf (Ref.app1 (f64 h) vs G)) (
Ref.fork (cf (Ref.app2 (f65 h) vs G)) (
cf (Ref.app1 (f66 h) vs G))))) (
Ref.fork (Ref.fork (cf (Ref.app2 (f67 h) vs G)) (
cf (Ref.app2 (f68 h) vs G))) (
Ref.fork (cf (Ref.app1 (f69 h) vs G)) (
Ref.fork (cf (Ref.app2 (f70 h) vs G)) (
cf (Ref.app1 (f72 h) vs G)))))))) (
Ref.fork (Ref.fork (Ref.fork (Ref.fork (Ref.fork (cf (Ref.app2 (f82 h) vs G)) (
cf (Ref.app5 (f86 h) vs G))) (
Ref.fork (cf (Ref.app2 (f87 h) vs G)) (
cf (Ref.app1 (f88 h) vs G)))) (
Ref.fork (Ref.fork (cf (Ref.app1 (f89 h) vs G)) (
cf (Ref.app2 (f90 h) vs G))) (
Ref.fork (cf (Ref.app3 (f91 h) vs G)) (
Ref.fork (cf (Ref.app2 (f92 h) vs G)) (
cf (Ref.app1 (f93 h) vs G)))))) (
Ref.fork (Ref.fork (Ref.fork (cf (Ref.app2 (f96 h) vs G)) (
cf (Ref.app2 (f97 h) vs G))) (
Ref.fork (cf (Ref.app2 (f98 h) vs G)) (
cf (Ref.app2 (f99 h) vs G)))) (
Ref.fork (Ref.fork (cf (Ref.app1 (f100 h) vs G)) (
cf (Ref.app2 (f102 h) vs G))) (
Ref.fork (cf (Ref.app1 (f103 h) vs G)) (
Ref.fork (cf (Ref.app1 (f104 h) vs G)) (
cf (Ref.app1 (f105 h) vs G))))))) (
Ref.fork (Ref.fork (Ref.fork (Ref.fork (cf (Ref.app1 (f106 h) vs G)) (
cf (Ref.app1 (f107 h) vs G))) (
Ref.fork (cf (Ref.app2 (f108 h) vs G)) (
cf (Ref.app1 (f109 h) vs G)))) (
Ref.fork (Ref.fork (cf (Ref.app1 (f110 h) vs G)) (
cf (Ref.app2 (f111 h) vs G))) (
Ref.fork (cf (Ref.app2 (f112 h) vs G)) (
Ref.fork (cf (Ref.app1 (f113 h) vs G)) (
cf (Ref.app1 (f114 h) vs G)))))) (
Ref.fork (Ref.fork (Ref.fork (cf (Ref.app2 (f119 h) vs G)) (
cf (Ref.app2 (f122 h) vs G))) (
Ref.fork (cf (Ref.app2 (f123 h) vs G)) (
Ref.fork (cf (Ref.app1 (f124 h) vs G)) (
cf (Ref.app2 (f125 h) vs G))))) (
Ref.fork (Ref.fork (cf (Ref.app2 (f126 h) vs G)) (
cf (Ref.app1 (f127 h) vs G))) (
Ref.fork (cf (Ref.app1 (f138 h) vs G)) (
Ref.fork (cf (Ref.app2 (f139 h) vs G)) (
cf (Ref.app1 (f140 h) vs G))))))))) (
Ref.fork (Ref.fork (Ref.fork (Ref.fork (Ref.fork (Ref.fork (cf (Ref.app1 (f141 h) vs G)) (
cf (Ref.app3 (f142 h) vs G))) (
Ref.fork (cf (Ref.app1 (f143 h) vs G)) (
cf (Ref.app2 (f144 h) vs G)))) (
Ref.fork (Ref.fork (cf (Ref.app2 (f145 h) vs G)) (
cf (Ref.app1 (f146 h) vs G))) (
Ref.fork (cf (Ref.app1 (f150 h) vs G)) (
Ref.fork (cf (Ref.app1 (f151 h) vs G)) (
cf (Ref.app1 (f152 h) vs G)))))) (
Ref.fork (Ref.fork (Ref.fork (cf (Ref.app2 (f153 h) vs G)) (
cf (Ref.app2 (f160 h) vs G))) (
Ref.fork (cf (Ref.app1 (f161 h) vs G)) (
cf (Ref.app2 (f162 h) vs G)))) (
Ref.fork (Ref.fork (cf (Ref.app2 (f163 h) vs G)) (
cf (Ref.app2 (f164 h) vs G))) (
Ref.fork (cf (Ref.app2 (f165 h) vs G)) (
Ref.fork (cf (Ref.app2 (f166 h) vs G)) (
cf (Ref.app2 (f167 h) vs G))))))) (
Ref.fork (Ref.fork (Ref.fork (Ref.fork (cf (Ref.app1 (f168 h) vs G)) (
cf (Ref.app1 (f174 h) vs G))) (
Ref.fork (cf (Ref.app1 (f175 h) vs G)) (
cf (Ref.app2 (f176 h) vs G)))) (
Ref.fork (Ref.fork (cf (Ref.app1 (f177 h) vs G)) (
cf (Ref.app3 (f178 h) vs G))) (
Ref.fork (cf (Ref.app1 (f179 h) vs G)) (
Ref.fork (cf (Ref.app3 (f180 h) vs G)) (
cf (Ref.app2 (f181 h) vs G)))))) (
Ref.fork (Ref.fork (Ref.fork (cf (Ref.app2 (f182 h) vs G)) (
cf (Ref.app2 (f183 h) vs G))) (
Ref.fork (cf (Ref.app2 (f184 h) vs G)) (
Ref.fork (cf (Ref.app2 (f185 h) vs G)) (
cf (Ref.app1 (f186 h) vs G))))) (
Ref.fork (Ref.fork (cf (Ref.app3 (f194 h) vs G)) (
cf (Ref.app2 (f195 h) vs G))) (
Ref.fork (cf (Ref.app2 (f197 h) vs G)) (
Ref.fork (cf (Ref.app1 (f198 h) vs G)) (
cf (Ref.app3 (f199 h) vs G)))))))) (
Ref.fork (Ref.fork (Ref.fork (Ref.fork (Ref.fork (cf (Ref.app2 (f200 h) vs G)) (
cf (Ref.app3 (f201 h) vs G))) (
Ref.fork (cf (Ref.app4 (f202 h) vs G)) (
cf (Ref.app2 (f204 h) vs G)))) (
Ref.fork (Ref.fork (cf (Ref.app3 (f208 h) vs G)) (
cf (Ref.app1 (f212 h) vs G))) (
Ref.fork (cf (Ref.app3 (f226 h) vs G)) (
Ref.fork (cf (Ref.app2 (f227 h) vs G)) (
cf (Ref.app1 (f228 h) vs G)))))) (
Ref.fork (Ref.fork (Ref.fork (cf (Ref.app2 (f234 h) vs G)) (
cf (Ref.app1 (f235 h) vs G))) (
Ref.fork (cf (Ref.app0 (f236 h) vs G)) (
cf (Ref.app2 (f237 h) vs G)))) (
Ref.fork (Ref.fork (cf (Ref.app2 (f255 h) vs G)) (
cf (Ref.app3 (f256 h) vs G))) (
Ref.fork (cf (Ref.app2 (f261 h) vs G)) (
Ref.fork (cf (Ref.app1 (f262 h) vs G)) (
cf (Ref.app2 (f263 h) vs G))))))) (
Ref.fork (Ref.fork (Ref.fork (Ref.fork (cf (Ref.app1 (f264 h) vs G)) (
cf (Ref.app4 (f276 h) vs G))) (
Ref.fork (cf (Ref.app2 (f278 h) vs G)) (
cf (Ref.app1 (f283 h) vs G)))) (
Ref.fork (Ref.fork (cf (Ref.app2 (f317 h) vs G)) (
cf (Ref.app2 (f318 h) vs G))) (
Ref.fork (cf (Ref.app1 (f319 h) vs G)) (
Ref.fork (cf (Ref.app2 (f320 h) vs G)) (
cf (Ref.app3 (f321 h) vs G)))))) (
Ref.fork (Ref.fork (Ref.fork (cf (Ref.app2 (f322 h) vs G)) (
cf (Ref.app1 (f323 h) vs G))) (
Ref.fork (cf (Ref.app2 (f324 h) vs G)) (
Ref.fork (cf (Ref.app2 (f326 h) vs G)) (
cf (Ref.app2 (f327 h) vs G))))) (
Ref.fork (Ref.fork (cf (Ref.app2 (f330 h) vs G)) (
cf (Ref.app2 (f332 h) vs G))) (
Ref.fork (cf (Ref.app1 (f333 h) vs G)) (
Ref.fork (cf (Ref.app1 (f334 h) vs G)) (
cf (Ref.app2 (f335 h) vs G)))))))))
def lpT (FUEL:Nat) (e:Ex) (f k:Nat) (τ:Env) (G:GS):OL :=
fork f 52 (fork f 21 (fork f 13 (fork f 10 (leaf f 10 (leaf k 0 (lpS 39 (b10_0 true e) FUEL τ G))) (
leaf f 13 (leaf k 0 (lpS 31 (b13_0 true e) FUEL τ G)))) (
fork f 20 (leaf f 20 (leaf k 0 (lpS 24 (b20_0 true e) FUEL τ G))) (
leaf f 21 (leaf k 0 (lpS 26 (b21_0 true e) FUEL τ G))))) (
fork f 24 (fork f 22 (leaf f 22 (leaf k 0 (lpS 34 (b22_0 true e) FUEL τ G))) (
leaf f 24 (leaf k 0 (lpS 42 (b24_0 true e) FUEL τ G)))) (
fork f 49 (leaf f 49 (leaf k 0 (lpS 44 (b49_0 true e) FUEL τ G))) (
fork f 50 (leaf f 50 (leaf k 0 (lpS 47 (b50_0 true e) FUEL τ G))) (
leaf f 52 (leaf k 0 (lpS 30 (b52_0 true e) FUEL τ G))))))) (
fork f 92 (fork f 82 (fork f 57 (leaf f 57 (leaf k 0 (lpS 23 (b57_0 true e) FUEL τ G))) (
leaf f 82 (leaf k 0 (lpS 25 (b82_0 true e) FUEL τ G)))) (
fork f 91 (leaf f 91 (leaf k 0 (lpS 44 (b91_0 true e) FUEL τ G))) (
leaf f 92 (leaf k 0 (lpS 18 (b92_0 true e) FUEL τ G))))) (
fork f 139 (fork f 96 (leaf f 96 (leaf k 0 (lpS 29 (b96_0 true e) FUEL τ G))) (
leaf f 139 (leaf k 0 (lpS 34 (b139_0 true e) FUEL τ G)))) (
fork f 176 (leaf f 176 (leaf k 0 (lpS 18 (b176_0 true e) FUEL τ G))) (
fork f 235 (leaf f 235 (leaf k 0 (lpS 24 (b235_0 true e) FUEL τ G))) (
leaf f 237 (leaf k 0 (lpS 24 (b237_0 true e) FUEL τ G)))))))
theorem lpT_ok (h:ExLe Q e (E orc)) (FUEL f k:Nat) (τ:Env) (G:GS):Ref (lpT FUEL e f k τ G) (mapE ((E orc).lp (codeAt Q f k) (lst (nOf Q f) τ) G)) :=
Ref.fork (Ref.fork (Ref.fork (Ref.fork (cl' (ck (lp_leaf (l10_0 h) _ _ _))) (
cl' (ck (lp_leaf (l13_0 h) _ _ _)))) (
Ref.fork (cl' (ck (lp_leaf (l20_0 h) _ _ _))) (
cl' (ck (lp_leaf (l21_0 h) _ _ _))))) (
Ref.fork (Ref.fork (cl' (ck (lp_leaf (l22_0 h) _ _ _))) (
cl' (ck (lp_leaf (l24_0 h) _ _ _)))) (
Ref.fork (cl' (ck (lp_leaf (l49_0 h) _ _ _))) (
Ref.fork (cl' (ck (lp_leaf (l50_0 h) _ _ _))) (
cl' (ck (lp_leaf (l52_0 h) _ _ _))))))) (
Ref.fork (Ref.fork (Ref.fork (cl' (ck (lp_leaf (l57_0 h) _ _ _))) (
cl' (ck (lp_leaf (l82_0 h) _ _ _)))) (
Ref.fork (cl' (ck (lp_leaf (l91_0 h) _ _ _))) (
cl' (ck (lp_leaf (l92_0 h) _ _ _))))) (
Ref.fork (Ref.fork (cl' (ck (lp_leaf (l96_0 h) _ _ _))) (
cl' (ck (lp_leaf (l139_0 h) _ _ _)))) (
Ref.fork (cl' (ck (lp_leaf (l176_0 h) _ _ _))) (
Ref.fork (cl' (ck (lp_leaf (l235_0 h) _ _ _))) (
cl' (ck (lp_leaf (l237_0 h) _ _ _)))))))
end
end Go.Proofs.YtedmgpchggogpaaGreat.Lift
