/- the program's code, spelled out by a program of ours (lift3.lean) -/
import Derived.Test.YtfdanfpjlcnpkaaGreatRAb
namespace Go.Proofs.YtfdanfpjlcnpkaaGreat.Lift
open Go Go.Proofs.YtfdanfpjlcnpkaaGreat.Gh Go.Proofs
set_option linter.unusedVariables false
set_option maxRecDepth 100000
variable {orc : FuncId → Bool} {e : Ex}
noncomputable section
def jb400_2 (q : Bool) (e : Ex) (J0 J1 : Env → GS → OG) (τ : Env) (G : GS) : OG :=
  bV q (τ 0) fun a0_ =>
  bV q (τ 1) fun a1_ =>
  bP (pNil a0_) fun x0 =>
  bP (fa Q q 203 3 3 x0) fun x1 =>
  bP (ld Q q 197 x1 G) fun x2 =>
  bP (ifc Q q 197 x2) fun x3 =>
  bS (cInvoke Q e.ev x3 "Step" [a1_] G) fun x4 G5 =>
  bP (pNil a0_) fun x25 =>
  bP (fa Q q 203 1 1 x25) fun x26 =>
  bP (ld Q q 200 x26 G5) fun x27 =>
  bP (ef Q q true 200 (.tmp 34) (.const .nilFunc) x27 .nilFunc) fun x28 =>
  ifV x28 (
  bP (pNil a0_) fun x29 =>
  bP (fa Q q 203 1 1 x29) fun x30 =>
  bP (ld Q q 200 x30 (G5.room 10)) fun x31 =>
  bP (pNil a0_) fun x32 =>
  bP (fa Q q 203 3 3 x32) fun x33 =>
  bP (ld Q q 197 x33 (G5.room 10)) fun x34 =>
  bS (cValue e.ev x31 [x34] (G5.room 10)) fun x36 G35 =>
  J1 (xq q 64 τ [(7, x36), (44, x36), (43, x34), (42, x33), (41, x32), (40, a0_), (39, x31), (38, x30), (37, x29), (36, a0_), (35, x28), (34, x27), (33, x26), (32, x25), (31, a0_), (7, (.int .u64 0)), (6, x4), (30, x4), (29, a1_), (28, x3), (27, x2), (26, x1), (25, x0), (24, a0_)] []) G35) (
  J1 (xq q 64 τ [(35, x28), (34, x27), (33, x26), (32, x25), (31, a0_), (7, (.int .u64 0)), (6, x4), (30, x4), (29, a1_), (28, x3), (27, x2), (26, x1), (25, x0), (24, a0_)] []) G5)
def j400_2 (q : Bool) (e : Ex) (τ : Env) (G : GS) : OG := jb400_2 q e (j400_0 q e) (j400_1 q e) τ G
theorem mj400_2 {e : Ex} {E : Ev} (h : ExLe Q e E) (τ : Env) (G : GS) : Ref (j400_2 true e τ G) (j400_2 false (Ex.of E) τ G) := by
  unfold j400_2 jb400_2
  have j0 := @mkj400_0 e E h
  have j1 := @mkj400_1 e E h
  exact Ref.gj
theorem mkj400_2 {e : Ex} {E : Ev} (h : ExLe Q e E) {τ : Env} {l U : List (Nat × Value)} {G : GS} (hU : UOk τ U) : Ref (j400_2 true e (xq true 64 τ l U) G) (j400_2 false (Ex.of E) (xq false 64 τ l U) G) := by
  rw [xq_eq hU]
  exact mj400_2 h _ _
def sb400 (q : Bool) (e : Ex) (J0 J1 J2 : Env → GS → OG) (v0 v1 : Value) (G : GS) : OG :=
  bP (pNil v0) fun x37 =>
  bP (fa Q q 203 4 4 x37) fun x38 =>
  bP (ld Q q 4 x38 G) fun x39 =>
  bP (un Q q .not x39) fun x40 =>
  ifV x40 (
  bP (pNil v0) fun x41 =>
  bP (fa Q q 203 0 0 x41) fun x42 =>
  bP (ld Q q 199 x42 G) fun x43 =>
  bS (cValue e.ev x43 [] G) fun x44 G45 =>
  bP (pNil v0) fun x46 =>
  bP (fa Q q 203 3 3 x46) fun x47 =>
  bP (st Q q 197 1 x47 x44 G45) fun G48 =>
  bP (pNil v0) fun x49 =>
  bP (fa Q q 203 4 4 x49) fun x50 =>
  bP (st Q q 4 1 x50 (.bool true) G48) fun G51 =>
  J2 (xq q 64 (nth undef [v0, v1]) [(23, x50), (22, x49), (21, x47), (20, x46), (19, x44), (18, x43), (17, x42), (16, x41), (15, v0), (14, v0), (13, v0), (12, x40), (11, x39), (10, x38), (9, x37), (8, v0), (5, (.int .u64 0)), (4, (.bool false))] []) G51) (
  J2 (xq q 64 (nth undef [v0, v1]) [(12, x40), (11, x39), (10, x38), (9, x37), (8, v0), (5, (.int .u64 0)), (4, (.bool false))] []) G)
/-- (*coxswain/ready.part[*coxswain/epoch.Unpin]).run -/
def s400 (q : Bool) (e : Ex) (v0 v1 : Value) (G : GS) : OG := sb400 q e (j400_0 q e) (j400_1 q e) (j400_2 q e) v0 v1 G
theorem m400 {e : Ex} {E : Ev} (h : ExLe Q e E) (v0 v1 : Value) (G : GS) : Ref (s400 true e v0 v1 G) (s400 false (Ex.of E) v0 v1 G) := by
  unfold s400 sb400
  have j0 := @mkj400_0 e E h
  have j1 := @mkj400_1 e E h
  have j2 := @mkj400_2 e E h
  exact Ref.gj
def jt400 (J0 J1 J2 : Env → GS → OG) : JT (Value × GS) :=
  (.n none .e (.n (some (fun T G => J2 (nth undef T) G)) .e (.n none .e (.n (some (fun T G => J1 (nth undef T) G)) .e (.n (some (fun T G => J0 (nth undef T) G)) .e .e)))))
theorem jr400_2 (orc : FuncId → Bool) (J0 J1 J2 : Env → GS → OG) (T : List Value) (G : GS) : runC Q (evL Q orc) Tryz.f400.ntmps (jt400 J0 J1 J2) (bodyOf Tryz.f400) (retE Q Tryz.f400.results.toList) [true] (nth undef T) G = jb400_2 false (Ex.of (E orc)) J0 J1 (nth undef T) G := by kernel_rfl
theorem jr400_1 (orc : FuncId → Bool) (J0 J1 J2 : Env → GS → OG) (T : List Value) (G : GS) : runC Q (evL Q orc) Tryz.f400.ntmps (jt400 J0 J1 J2) (bodyOf Tryz.f400) (retE Q Tryz.f400.results.toList) [true, true, true] (nth undef T) G = jb400_1 false (Ex.of (E orc)) J0 (nth undef T) G := by kernel_rfl
theorem jr400_0 (orc : FuncId → Bool) (J0 J1 J2 : Env → GS → OG) (T : List Value) (G : GS) : runC Q (evL Q orc) Tryz.f400.ntmps (jt400 J0 J1 J2) (bodyOf Tryz.f400) (retE Q Tryz.f400.results.toList) [true, true, true, true] (nth undef T) G = jb400_0 false (Ex.of (E orc))  (nth undef T) G := by kernel_rfl
theorem jo400 (orc : FuncId → Bool) : JOk Q orc Tryz.f400.ntmps (jt400 (j400_0 false (Ex.of (E orc))) (j400_1 false (Ex.of (E orc))) (j400_2 false (Ex.of (E orc))) ) (bodyOf Tryz.f400) (retE Q Tryz.f400.results.toList) :=
  jOk Q orc (l := [([true], (fun T G => j400_2 false (Ex.of (E orc)) (nth undef T) G)), ([true, true, true], (fun T G => j400_1 false (Ex.of (E orc)) (nth undef T) G)), ([true, true, true, true], (fun T G => j400_0 false (Ex.of (E orc)) (nth undef T) G))]) (by kernel_rfl) (AllE.c (fun T G => jr400_2 orc (j400_0 false (Ex.of (E orc))) (j400_1 false (Ex.of (E orc))) (j400_2 false (Ex.of (E orc))) T G) (AllE.c (fun T G => jr400_1 orc (j400_0 false (Ex.of (E orc))) (j400_1 false (Ex.of (E orc))) (j400_2 false (Ex.of (E orc))) T G) (AllE.c (fun T G => jr400_0 orc (j400_0 false (Ex.of (E orc))) (j400_1 false (Ex.of (E orc))) (j400_2 false (Ex.of (E orc))) T G) (AllE.z))))
theorem je400 (orc : FuncId → Bool) (J0 J1 J2 : Env → GS → OG) (v0 v1 : Value) (G : GS) : sxC Q (evL Q orc) Tryz.f400.ntmps (jt400 J0 J1 J2) (bodyOf Tryz.f400) (nth undef [v0, v1]) G (retE Q Tryz.f400.results.toList) = sb400 false (Ex.of (E orc)) J0 J1 J2 v0 v1 G := by kernel_rfl
theorem f400 {orc : FuncId → Bool} {e : Ex} (h : ExLe Q e (E orc)) (v0 v1 : Value) (G : GS) : Ref (s400 true e v0 v1 G) ((E orc).cl 400 [v0, v1] G) :=
  fun r hr => cl_sxC Q orc (vs := [v0, v1]) G (jt400 (j400_0 false (Ex.of (E orc))) (j400_1 false (Ex.of (E orc))) (j400_2 false (Ex.of (E orc))) ) Tryz.func400 (by kernel_rfl) (by kernel_rfl) (by kernel_rfl) (by kernel_rfl) (by kernel_rfl) (jo400 orc) (je400 orc (j400_0 false (Ex.of (E orc))) (j400_1 false (Ex.of (E orc))) (j400_2 false (Ex.of (E orc))) v0 v1 G) (m400 h v0 v1 G r hr)
/-- (*coxswain/epoch.Unpin).Step -/
def s402 (q : Bool) (e : Ex) (v0 v1 : Value) (G : GS) : OG :=
  bP (ep Q q false 197 (.tmp 5) (.const (.pointer none)) v0 (.pointer none)) fun x0 =>
  bS (gV x0 false v0 G) fun x1 G2 =>
  bS (gP x0 false (pNil x1) G2) fun x3 G4 =>
  bS (gP x0 false (fa Q q 286 0 0 x3) G4) fun x5 G6 =>
  bS (gV x0 false v1 G6) fun x7 G8 =>
  bS (gS x0 false (e.ev.cl 330 [x5, x7] G8) G8) fun x9 G10 =>
  bP (pickV x0 (.bool true) x9) fun x11 =>
  some (x11, G10)
theorem f402 (h : ExLe Q e (E orc)) (v0 v1 : Value) (G : GS) : Ref (s402 true e v0 v1 G) ((E orc).cl 402 [v0, v1] G) := cS (S := fun q e => s402 q e v0 v1 G) Tryz.func402 (by unfold s402; exact Ref.gq)
def jb403_0 (q : Bool) (e : Ex) (τ : Env) (G : GS) : OG :=
  bV q (τ 6) fun a6_ =>
  bV q (τ 7) fun a7_ =>
  some (.tuple #[a6_, a7_], G)
def j403_0 (q : Bool) (e : Ex) (τ : Env) (G : GS) : OG := jb403_0 q e τ G
theorem mj403_0 {e : Ex} {E : Ev} (h : ExLe Q e E) (τ : Env) (G : GS) : Ref (j403_0 true e τ G) (j403_0 false (Ex.of E) τ G) := by
  unfold j403_0 jb403_0
  exact Ref.gq
theorem mkj403_0 {e : Ex} {E : Ev} (h : ExLe Q e E) {τ : Env} {l U : List (Nat × Value)} {G : GS} (hU : UOk τ U) : Ref (j403_0 true e (xq true 64 τ l U) G) (j403_0 false (Ex.of E) (xq false 64 τ l U) G) := by
  rw [xq_eq hU]
  exact mj403_0 h _ _
def jb403_1 (q : Bool) (e : Ex) (J0 : Env → GS → OG) (τ : Env) (G : GS) : OG :=
  bV q (τ 0) fun a0_ =>
  bV q (τ 6) fun a6_ =>
  bS (gV a6_ true a0_ G) fun x6 G7 =>
  bS (gP a6_ true (pNil x6) G7) fun x8 G9 =>
  bS (gP a6_ true (fa Q q 235 2 2 x8) G9) fun x10 G11 =>
  bS (gP a6_ true (ld Q q 233 x10 G11) G11) fun x12 G13 =>
  bS (gP a6_ true (ef Q q true 233 (.tmp 50) (.const .nilFunc) x12 .nilFunc) G13) fun x14 G15 =>
  bP (pickV a6_ x14 (.bool false)) fun x16 =>
  ifV x16 (
  bP (pNil a0_) fun x17 =>
  bP (fa Q q 235 2 2 x17) fun x18 =>
  bP (ld Q q 233 x18 (G15.room 9)) fun x19 =>
  bP (pNil a0_) fun x20 =>
  bP (fa Q q 235 3 3 x20) fun x21 =>
  bP (ld Q q 229 x21 (G15.room 9)) fun x22 =>
  bS (cValue e.ev x19 [x22] (G15.room 9)) fun x24 G23 =>
  J0 (xq q 64 τ [(61, x24), (60, x22), (59, x21), (58, x20), (57, a0_), (56, x19), (55, x18), (54, x17), (53, a0_), (52, x16), (51, x14), (50, x12), (49, x10), (48, x8), (47, x6), (46, a6_), (45, a6_)] []) G23) (
  J0 (xq q 64 τ [(52, x16), (51, x14), (50, x12), (49, x10), (48, x8), (47, x6), (46, a6_), (45, a6_)] []) G15)
def j403_1 (q : Bool) (e : Ex) (τ : Env) (G : GS) : OG := jb403_1 q e (j403_0 q e) τ G
theorem mj403_1 {e : Ex} {E : Ev} (h : ExLe Q e E) (τ : Env) (G : GS) : Ref (j403_1 true e τ G) (j403_1 false (Ex.of E) τ G) := by
  unfold j403_1 jb403_1
  have j0 := @mkj403_0 e E h
  exact Ref.gj
theorem mkj403_1 {e : Ex} {E : Ev} (h : ExLe Q e E) {τ : Env} {l U : List (Nat × Value)} {G : GS} (hU : UOk τ U) : Ref (j403_1 true e (xq true 64 τ l U) G) (j403_1 false (Ex.of E) (xq false 64 τ l U) G) := by
  rw [xq_eq hU]
  exact mj403_1 h _ _
def jb403_2 (q : Bool) (e : Ex) (J0 J1 : Env → GS → OG) (τ : Env) (G : GS) : OG :=
  bV q (τ 0) fun a0_ =>
  bV q (τ 1) fun a1_ =>
  bP (pNil a0_) fun x0 =>
  bP (fa Q q 235 3 3 x0) fun x1 =>
  bP (ld Q q 229 x1 G) fun x2 =>
  bP (ifc Q q 229 x2) fun x3 =>
  bS (cInvoke Q e.ev x3 "Step" [a1_] G) fun x4 G5 =>
  bP (pNil a0_) fun x25 =>
  bP (fa Q q 235 1 1 x25) fun x26 =>
  bP (ld Q q 232 x26 G5) fun x27 =>
  bP (ef Q q true 232 (.tmp 34) (.const .nilFunc) x27 .nilFunc) fun x28 =>
  ifV x28 (
  bP (pNil a0_) fun x29 =>
  bP (fa Q q 235 1 1 x29) fun x30 =>
  bP (ld Q q 232 x30 (G5.room 10)) fun x31 =>
  bP (pNil a0_) fun x32 =>
  bP (fa Q q 235 3 3 x32) fun x33 =>
  bP (ld Q q 229 x33 (G5.room 10)) fun x34 =>
  bS (cValue e.ev x31 [x34] (G5.room 10)) fun x36 G35 =>
  J1 (xq q 64 τ [(7, x36), (44, x36), (43, x34), (42, x33), (41, x32), (40, a0_), (39, x31), (38, x30), (37, x29), (36, a0_), (35, x28), (34, x27), (33, x26), (32, x25), (31, a0_), (7, (.int .u64 0)), (6, x4), (30, x4), (29, a1_), (28, x3), (27, x2), (26, x1), (25, x0), (24, a0_)] []) G35) (
  J1 (xq q 64 τ [(35, x28), (34, x27), (33, x26), (32, x25), (31, a0_), (7, (.int .u64 0)), (6, x4), (30, x4), (29, a1_), (28, x3), (27, x2), (26, x1), (25, x0), (24, a0_)] []) G5)
def j403_2 (q : Bool) (e : Ex) (τ : Env) (G : GS) : OG := jb403_2 q e (j403_0 q e) (j403_1 q e) τ G
theorem mj403_2 {e : Ex} {E : Ev} (h : ExLe Q e E) (τ : Env) (G : GS) : Ref (j403_2 true e τ G) (j403_2 false (Ex.of E) τ G) := by
  unfold j403_2 jb403_2
  have j0 := @mkj403_0 e E h
  have j1 := @mkj403_1 e E h
  exact Ref.gj
theorem mkj403_2 {e : Ex} {E : Ev} (h : ExLe Q e E) {τ : Env} {l U : List (Nat × Value)} {G : GS} (hU : UOk τ U) : Ref (j403_2 true e (xq true 64 τ l U) G) (j403_2 false (Ex.of E) (xq false 64 τ l U) G) := by
  rw [xq_eq hU]
  exact mj403_2 h _ _
def sb403 (q : Bool) (e : Ex) (J0 J1 J2 : Env → GS → OG) (v0 v1 : Value) (G : GS) : OG :=
  bP (pNil v0) fun x37 =>
  bP (fa Q q 235 4 4 x37) fun x38 =>
  bP (ld Q q 4 x38 G) fun x39 =>
  bP (un Q q .not x39) fun x40 =>
  ifV x40 (
  bP (pNil v0) fun x41 =>
  bP (fa Q q 235 0 0 x41) fun x42 =>
  bP (ld Q q 231 x42 G) fun x43 =>
  bS (cValue e.ev x43 [] G) fun x44 G45 =>
  bP (pNil v0) fun x46 =>
  bP (fa Q q 235 3 3 x46) fun x47 =>
  bP (st Q q 229 1 x47 x44 G45) fun G48 =>
  bP (pNil v0) fun x49 =>
  bP (fa Q q 235 4 4 x49) fun x50 =>
  bP (st Q q 4 1 x50 (.bool true) G48) fun G51 =>
  J2 (xq q 64 (nth undef [v0, v1]) [(23, x50), (22, x49), (21, x47), (20, x46), (19, x44), (18, x43), (17, x42), (16, x41), (15, v0), (14, v0), (13, v0), (12, x40), (11, x39), (10, x38), (9, x37), (8, v0), (5, (.int .u64 0)), (4, (.bool false))] []) G51) (
  J2 (xq q 64 (nth undef [v0, v1]) [(12, x40), (11, x39), (10, x38), (9, x37), (8, v0), (5, (.int .u64 0)), (4, (.bool false))] []) G)
/-- (*coxswain/ready.part[*coxswain/claim.Peek]).run -/
def s403 (q : Bool) (e : Ex) (v0 v1 : Value) (G : GS) : OG := sb403 q e (j403_0 q e) (j403_1 q e) (j403_2 q e) v0 v1 G
theorem m403 {e : Ex} {E : Ev} (h : ExLe Q e E) (v0 v1 : Value) (G : GS) : Ref (s403 true e v0 v1 G) (s403 false (Ex.of E) v0 v1 G) := by
  unfold s403 sb403
  have j0 := @mkj403_0 e E h
  have j1 := @mkj403_1 e E h
  have j2 := @mkj403_2 e E h
  exact Ref.gj
def jt403 (J0 J1 J2 : Env → GS → OG) : JT (Value × GS) :=
  (.n none .e (.n (some (fun T G => J2 (nth undef T) G)) .e (.n none .e (.n (some (fun T G => J1 (nth undef T) G)) .e (.n (some (fun T G => J0 (nth undef T) G)) .e .e)))))
theorem jr403_2 (orc : FuncId → Bool) (J0 J1 J2 : Env → GS → OG) (T : List Value) (G : GS) : runC Q (evL Q orc) Tryz.f403.ntmps (jt403 J0 J1 J2) (bodyOf Tryz.f403) (retE Q Tryz.f403.results.toList) [true] (nth undef T) G = jb403_2 false (Ex.of (E orc)) J0 J1 (nth undef T) G := by kernel_rfl
theorem jr403_1 (orc : FuncId → Bool) (J0 J1 J2 : Env → GS → OG) (T : List Value) (G : GS) : runC Q (evL Q orc) Tryz.f403.ntmps (jt403 J0 J1 J2) (bodyOf Tryz.f403) (retE Q Tryz.f403.results.toList) [true, true, true] (nth undef T) G = jb403_1 false (Ex.of (E orc)) J0 (nth undef T) G := by kernel_rfl
theorem jr403_0 (orc : FuncId → Bool) (J0 J1 J2 : Env → GS → OG) (T : List Value) (G : GS) : runC Q (evL Q orc) Tryz.f403.ntmps (jt403 J0 J1 J2) (bodyOf Tryz.f403) (retE Q Tryz.f403.results.toList) [true, true, true, true] (nth undef T) G = jb403_0 false (Ex.of (E orc))  (nth undef T) G := by kernel_rfl
theorem jo403 (orc : FuncId → Bool) : JOk Q orc Tryz.f403.ntmps (jt403 (j403_0 false (Ex.of (E orc))) (j403_1 false (Ex.of (E orc))) (j403_2 false (Ex.of (E orc))) ) (bodyOf Tryz.f403) (retE Q Tryz.f403.results.toList) :=
  jOk Q orc (l := [([true], (fun T G => j403_2 false (Ex.of (E orc)) (nth undef T) G)), ([true, true, true], (fun T G => j403_1 false (Ex.of (E orc)) (nth undef T) G)), ([true, true, true, true], (fun T G => j403_0 false (Ex.of (E orc)) (nth undef T) G))]) (by kernel_rfl) (AllE.c (fun T G => jr403_2 orc (j403_0 false (Ex.of (E orc))) (j403_1 false (Ex.of (E orc))) (j403_2 false (Ex.of (E orc))) T G) (AllE.c (fun T G => jr403_1 orc (j403_0 false (Ex.of (E orc))) (j403_1 false (Ex.of (E orc))) (j403_2 false (Ex.of (E orc))) T G) (AllE.c (fun T G => jr403_0 orc (j403_0 false (Ex.of (E orc))) (j403_1 false (Ex.of (E orc))) (j403_2 false (Ex.of (E orc))) T G) (AllE.z))))
theorem je403 (orc : FuncId → Bool) (J0 J1 J2 : Env → GS → OG) (v0 v1 : Value) (G : GS) : sxC Q (evL Q orc) Tryz.f403.ntmps (jt403 J0 J1 J2) (bodyOf Tryz.f403) (nth undef [v0, v1]) G (retE Q Tryz.f403.results.toList) = sb403 false (Ex.of (E orc)) J0 J1 J2 v0 v1 G := by kernel_rfl
theorem f403 {orc : FuncId → Bool} {e : Ex} (h : ExLe Q e (E orc)) (v0 v1 : Value) (G : GS) : Ref (s403 true e v0 v1 G) ((E orc).cl 403 [v0, v1] G) :=
  fun r hr => cl_sxC Q orc (vs := [v0, v1]) G (jt403 (j403_0 false (Ex.of (E orc))) (j403_1 false (Ex.of (E orc))) (j403_2 false (Ex.of (E orc))) ) Tryz.func403 (by kernel_rfl) (by kernel_rfl) (by kernel_rfl) (by kernel_rfl) (by kernel_rfl) (jo403 orc) (je403 orc (j403_0 false (Ex.of (E orc))) (j403_1 false (Ex.of (E orc))) (j403_2 false (Ex.of (E orc))) v0 v1 G) (m403 h v0 v1 G r hr)
def jb404_0 (q : Bool) (e : Ex) (τ : Env) (G : GS) : OG :=
  bV q (τ 0) fun a0_ =>
  nf q 308 0 0 a0_ fun x11 =>
  fl q 305 2 13 3 x11 G fun x13 =>
  bP (bn Q q .eql 3 (.tmp 54) (.const (.int .i64 99)) x13 (.int .i64 99)) fun x14 =>
  some (x14, G)
def j404_0 (q : Bool) (e : Ex) (τ : Env) (G : GS) : OG := jb404_0 q e τ G
theorem mj404_0 {e : Ex} {E : Ev} (h : ExLe Q e E) (τ : Env) (G : GS) : Ref (j404_0 true e τ G) (j404_0 false (Ex.of E) τ G) := by
  unfold j404_0 jb404_0
  exact Ref.gq
theorem mkj404_0 {e : Ex} {E : Ev} (h : ExLe Q e E) {τ : Env} {l U : List (Nat × Value)} {G : GS} (hU : UOk τ U) : Ref (j404_0 true e (xq true 56 τ l U) G) (j404_0 false (Ex.of E) (xq false 56 τ l U) G) := by
  rw [xq_eq hU]
  exact mj404_0 h _ _
def sb404 (q : Bool) (e : Ex) (J0 : Env → GS → OG) (v0 v1 : Value) (G : GS) : OG :=
  bP (ep Q q false 229 (.tmp 5) (.const (.pointer none)) v0 (.pointer none)) fun x0 =>
  bS (gV x0 false v0 G) fun x1 G2 =>
  bS (gP x0 false (pNil x1) G2) fun x3 G4 =>
  bS (gP x0 false (fa Q q 308 0 0 x3) G4) fun x5 G6 =>
  bS (gS x0 false (e.ev.cl 405 [x5] G6) G6) fun x7 G8 =>
  bP (pickV x0 (.bool true) x7) fun x9 =>
  ifV x9 (
  some ((.bool true), G8)) (
  bP (pNil v0) fun x15 =>
  bP (fa Q q 308 0 0 x15) fun x16 =>
  bP (fa Q q 305 2 13 x16) fun x17 =>
  bP (ld Q q 3 x17 G8) fun x18 =>
  bP (bn Q q .eql 3 (.tmp 17) (.const (.int .i64 4)) x18 (.int .i64 4)) fun x19 =>
  ifV x19 (
  bP (pNil v0) fun x20 =>
  bP (fa Q q 308 0 0 x20) fun x21 =>
  bS (e.ev.cl 408 [x21, v1, (.int .i64 0)] G8) fun x22 G23 =>
  bP (pNil v0) fun x24 =>
  bP (fa Q q 308 0 0 x24) fun x25 =>
  bP (fa Q q 305 6 17 x25) fun x26 =>
  bP (fa Q q 45 0 0 x26) fun x27 =>
  bP (st Q q 37 1 x27 x22 G23) fun G28 =>
  bP (pNil v0) fun x29 =>
  bP (fa Q q 308 0 0 x29) fun x30 =>
  bP (fa Q q 305 2 13 x30) fun x31 =>
  bP (st Q q 3 1 x31 (.int .i64 5) G28) fun G32 =>
  J0 (xq q 56 (nth undef [v0, v1]) [(38, x31), (37, x30), (36, x29), (35, x27), (34, x26), (33, x25), (32, x24), (31, x22), (30, v1), (29, x21), (28, x20), (27, v0), (26, v0), (25, v0), (23, x19), (24, x19), (17, x18), (16, x17), (15, x16), (14, x15), (13, v0), (12, x9), (11, x7), (10, x5), (9, x3), (8, x1), (7, x0), (6, x0), (5, v0), (4, (.bool false))] []) G32) (
  bP (bn Q q .eql 3 (.tmp 17) (.const (.int .i64 5)) x18 (.int .i64 5)) fun x33 =>
  ifV x33 (
  bP (pNil v0) fun x34 =>
  bP (fa Q q 308 0 0 x34) fun x35 =>
  bS (e.ev.cl 407 [x35, v1] G8) fun x36 G37 =>
  bP (pNil v0) fun x38 =>
  bP (fa Q q 308 0 0 x38) fun x39 =>
  bP (fa Q q 305 2 13 x39) fun x40 =>
  bP (st Q q 3 1 x40 (.int .i64 99) G37) fun G41 =>
  J0 (xq q 56 (nth undef [v0, v1]) [(49, x40), (48, x39), (47, x38), (46, v0), (45, x36), (44, v1), (43, x35), (42, x34), (41, v0), (39, x33), (40, x33), (23, x19), (24, x19), (17, x18), (16, x17), (15, x16), (14, x15), (13, v0), (12, x9), (11, x7), (10, x5), (9, x3), (8, x1), (7, x0), (6, x0), (5, v0), (4, (.bool false))] []) G41) (
  bP (pNil v0) fun x42 =>
  bP (fa Q q 308 0 0 x42) fun x43 =>
  bS (e.ev.cl 406 [x43, v1] G8) fun x44 G45 =>
  J0 (xq q 56 (nth undef [v0, v1]) [(22, x44), (21, v1), (20, x43), (19, x42), (18, v0), (39, x33), (40, x33), (23, x19), (24, x19), (17, x18), (16, x17), (15, x16), (14, x15), (13, v0), (12, x9), (11, x7), (10, x5), (9, x3), (8, x1), (7, x0), (6, x0), (5, v0), (4, (.bool false))] []) G45)))
/-- (*coxswain/claim.Peek).Step -/
def s404 (q : Bool) (e : Ex) (v0 v1 : Value) (G : GS) : OG := sb404 q e (j404_0 q e) v0 v1 G
theorem m404 {e : Ex} {E : Ev} (h : ExLe Q e E) (v0 v1 : Value) (G : GS) : Ref (s404 true e v0 v1 G) (s404 false (Ex.of E) v0 v1 G) := by
  unfold s404 sb404
  have j0 := @mkj404_0 e E h
  exact Ref.gj
def jt404 (J0 : Env → GS → OG) : JT (Value × GS) :=
  (.n none .e (.n none .e (.n (some (fun T G => J0 (nth undef T) G)) .e .e)))
theorem jr404_0 (orc : FuncId → Bool) (J0 : Env → GS → OG) (T : List Value) (G : GS) : runC Q (evL Q orc) Tryz.f404.ntmps (jt404 J0) (bodyOf Tryz.f404) (retE Q Tryz.f404.results.toList) [true, true] (nth undef T) G = jb404_0 false (Ex.of (E orc))  (nth undef T) G := by kernel_rfl
theorem jo404 (orc : FuncId → Bool) : JOk Q orc Tryz.f404.ntmps (jt404 (j404_0 false (Ex.of (E orc))) ) (bodyOf Tryz.f404) (retE Q Tryz.f404.results.toList) :=
  jOk Q orc (l := [([true, true], (fun T G => j404_0 false (Ex.of (E orc)) (nth undef T) G))]) (by kernel_rfl) (AllE.c (fun T G => jr404_0 orc (j404_0 false (Ex.of (E orc))) T G) (AllE.z))
theorem je404 (orc : FuncId → Bool) (J0 : Env → GS → OG) (v0 v1 : Value) (G : GS) : sxC Q (evL Q orc) Tryz.f404.ntmps (jt404 J0) (bodyOf Tryz.f404) (nth undef [v0, v1]) G (retE Q Tryz.f404.results.toList) = sb404 false (Ex.of (E orc)) J0 v0 v1 G := by kernel_rfl
theorem f404 {orc : FuncId → Bool} {e : Ex} (h : ExLe Q e (E orc)) (v0 v1 : Value) (G : GS) : Ref (s404 true e v0 v1 G) ((E orc).cl 404 [v0, v1] G) :=
  fun r hr => cl_sxC Q orc (vs := [v0, v1]) G (jt404 (j404_0 false (Ex.of (E orc))) ) Tryz.func404 (by kernel_rfl) (by kernel_rfl) (by kernel_rfl) (by kernel_rfl) (by kernel_rfl) (jo404 orc) (je404 orc (j404_0 false (Ex.of (E orc))) v0 v1 G) (m404 h v0 v1 G r hr)
/-- (*coxswain/claim.seeker[struct{}]).done -/
def s405 (q : Bool) (e : Ex) (v0 : Value) (G : GS) : OG :=
  nl q 305 8 20 4 v0 G fun x2 =>
  bP (un Q q .not x2) fun x3 =>
  bS (gV x3 false v0 G) fun x4 G5 =>
  bS (gP x3 false (pNil x4) G5) fun x6 G7 =>
  bS (gP x3 false (fa Q q 305 2 13 x6) G7) fun x8 G9 =>
  bS (gP x3 false (ld Q q 3 x8 G9) G9) fun x10 G11 =>
  bS (gP x3 false (bn Q q .eql 3 (.tmp 12) (.const (.int .i64 99)) x10 (.int .i64 99)) G11) fun x12 G13 =>
  bP (pickV x3 (.bool true) x12) fun x14 =>
  some (x14, G13)
theorem f405 (h : ExLe Q e (E orc)) (v0 : Value) (G : GS) : Ref (s405 true e v0 G) ((E orc).cl 405 [v0] G) := cS (S := fun q e => s405 q e v0 G) Tryz.func405 (by unfold s405; exact Ref.gq)
/-- (*coxswain/claim.seeker[struct{}]).first -/
def s406 (q : Bool) (e : Ex) (v0 v1 : Value) (G : GS) : OG :=
  nl q 305 2 13 3 v0 G fun x2 =>
  bP (bn Q q .eql 3 (.tmp 9) (.const (.int .i64 1)) x2 (.int .i64 1)) fun x3 =>
  ifV x3 (
  nf q 305 7 19 v0 fun x5 =>
  bP (st Q q 37 1 x5 (.int .u64 0) G) fun G6 =>
  nf q 305 0 0 v0 fun x8 =>
  bP (lda Q q 31 13 x8 G6) fun x9 =>
  bS (e.ev.cl 99 [x9, (.int .i64 (-1)), (.int .i64 0)] G6) fun x10 G11 =>
  bS (e.ev.cl 240 [v1, x10] G11) fun x12 G13 =>
  nf q 305 3 14 v0 fun x15 =>
  bP (st Q q 37 1 x15 x12 G13) fun G16 =>
  nl q 305 3 14 37 v0 G16 fun x19 =>
  bS (e.ev.cl 281 [x19] G16) fun x20 G21 =>
  bP (pExtract x20 0) fun x22 =>
  bP (pExtract x20 1) fun x23 =>
  bS (al Q q 340 z340 G21) fun x24 G25 =>
  bP (st Q q 340 2 x24 x22 G25) fun G26 =>
  fl q 340 0 0 3 x24 G26 fun x28 =>
  nf q 305 4 15 v0 fun x30 =>
  bP (st Q q 3 1 x30 x28 G26) fun G31 =>
  nf q 305 2 13 v0 fun x33 =>
  bP (st Q q 3 1 x33 (.int .i64 2) G31) fun G34 =>
  nl q 305 4 15 3 v0 (G34.room 20) fun x37 =>
  bP (bn Q q .lss 3 (.tmp 44) (.const (.int .i64 0)) x37 (.int .i64 0)) fun x38 =>
  bS (gV x38 false v0 (G34.room 20)) fun x39 _ =>
  bS (gP x38 false (pNil x39) (G34.room 20)) fun x40 _ =>
  bS (gP x38 false (fa Q q 305 4 15 x40) (G34.room 20)) fun x41 _ =>
  bS (gP x38 false (ld Q q 3 x41 (G34.room 20)) (G34.room 20)) fun x42 _ =>
  bS (gV x38 false v0 (G34.room 20)) fun x43 _ =>
  bS (gP x38 false (pNil x43) (G34.room 20)) fun x44 _ =>
  bS (gP x38 false (fa Q q 305 0 0 x44) (G34.room 20)) fun x45 _ =>
  bS (gP x38 false (fa Q q 31 3 3 x45) (G34.room 20)) fun x46 _ =>
  bS (gP x38 false (fa Q q 29 0 0 x46) (G34.room 20)) fun x47 _ =>
  bS (gP x38 false (fa Q q 25 0 0 x47) (G34.room 20)) fun x48 _ =>
  bS (gP x38 false (fa Q q 23 2 2 x48) (G34.room 20)) fun x49 _ =>
  bS (gP x38 false (ld Q q 3 x49 (G34.room 20)) (G34.room 20)) fun x50 _ =>
  bS (gP x38 false (bn Q q .geq 3 (.tmp 50) (.tmp 58) x42 x50) (G34.room 20)) fun x51 _ =>
  bP (pickV x38 (.bool true) x51) fun x52 =>
  ifV x52 (
  nf q 305 2 13 v0 fun x54 =>
  bP (st Q q 3 1 x54 (.int .i64 99) (G34.room 20)) fun G55 =>
  nf q 305 9 21 v0 fun x57 =>
  bP (st Q q 38 1 x57 (.int .i64 15) G55) fun G58 =>
  some (.tuple #[], G58)) (
  some (.tuple #[], (G34.room 20)))) (
  bP (bn Q q .eql 3 (.tmp 9) (.const (.int .i64 2)) x2 (.int .i64 2)) fun x59 =>
  ifV x59 (
  bS (e.ev.cl 408 [v0, v1, (.int .i64 4)] G) fun x60 G61 =>
  nf q 305 5 16 v0 fun x63 =>
  bP (st Q q 190 1 x63 x60 G61) fun G64 =>
  nf q 305 2 13 v0 fun x66 =>
  bP (st Q q 3 1 x66 (.int .i64 4) G64) fun G67 =>
  nl q 305 5 16 190 v0 G67 fun x70 =>
  bS (e.ev.cl 382 [x70] G67) fun x71 G72 =>
  ifV x71 (
  nf q 305 2 13 v0 fun x74 =>
  bP (st Q q 3 1 x74 (.int .i64 3) G72) fun G75 =>
  some (.tuple #[], G75)) (
  some (.tuple #[], G72))) (
  bP (bn Q q .eql 3 (.tmp 9) (.const (.int .i64 3)) x2 (.int .i64 3)) fun x76 =>
  ifV x76 (
  nf q 305 7 19 v0 fun x78 =>
  bP (st Q q 37 1 x78 (.int .u64 0) G) fun G79 =>
  nf q 305 0 0 v0 fun x81 =>
  bP (lda Q q 31 13 x81 (G79.room 16)) fun x82 =>
  bS (e.ev.cl 99 [x82, (.int .i64 (-1)), (.int .i64 0)] (G79.room 16)) fun x84 G83 =>
  nf q 305 3 14 v0 fun x86 =>
  bP (ld Q q 37 x86 G83) fun x87 =>
  chk ((sameO (ld Q q 37 x86 (G79.room 16)) x87 && true)) <|
  nf q 305 5 16 v0 fun x89 =>
  bP (ld Q q 190 x89 G83) fun x90 =>
  chk ((sameO (ld Q q 190 x89 (G79.room 16)) x90 && true)) <|
  bS (e.ev.cl 383 [x90, (.bool false)] G83) fun x92 G91 =>
  chk ((sameO (ld Q q 37 x86 G91) x87 && true)) <|
  bS (e.ev.cl 328 [v1, x84, x87, x92] G91) fun x94 G93 =>
  nf q 305 2 13 v0 fun x96 =>
  bP (st Q q 3 1 x96 (.int .i64 1) G93) fun G97 =>
  some (.tuple #[], G97)) (
  some (.tuple #[], G))))
theorem m406 {e : Ex} {E : Ev} (h : ExLe Q e E) (v0 v1 : Value) (G : GS) : Ref (s406 true e v0 v1 G) (s406 false (Ex.of E) v0 v1 G) := by
  unfold s406
  exact Ref.gq
set_option maxHeartbeats 8000000 in
theorem f406 {orc : FuncId → Bool} {e : Ex} (h : ExLe Q e (E orc)) (v0 v1 : Value) (G : GS) : Ref (s406 true e v0 v1 G) ((E orc).cl 406 [v0, v1] G) :=
  fun r hr => cl_sxE_some Q orc (vs := [v0, v1]) G Tryz.func406 (by kernel_rfl) (by kernel_rfl) (by kernel_rfl) (by kernel_rfl) (by kernel_rfl) (by kernel_rfl) (m406 h v0 v1 G r hr)
/-- (*coxswain/claim.seeker[struct{}]).job -/
def s407 (q : Bool) (e : Ex) (v0 v1 : Value) (G : GS) : OG :=
  bS (e.ev.cl 408 [v0, v1, (.int .i64 1)] G) fun x0 G1 =>
  bP (bn Q q .and 37 (.tmp 7) (.const (.int .u64 65535)) x0 (.int .u64 65535)) fun x2 =>
  bP (cv Q q 37 3 .u64 .i64 x2) fun x3 =>
  nf q 305 6 17 v0 fun x5 =>
  bP (fa Q q 45 1 1 x5) fun x6 =>
  bP (st Q q 3 1 x6 x3 G1) fun G7 =>
  some (.tuple #[], G7)
theorem f407 (h : ExLe Q e (E orc)) (v0 v1 : Value) (G : GS) : Ref (s407 true e v0 v1 G) ((E orc).cl 407 [v0, v1] G) := cS (S := fun q e => s407 q e v0 v1 G) Tryz.func407 (by unfold s407; exact Ref.gq)
/-- (*coxswain/claim.seeker[struct{}]).load -/
def s408 (q : Bool) (e : Ex) (v0 v1 v2 : Value) (G : GS) : OG :=
  nl q 305 3 14 37 v0 G fun x2 =>
  nf q 305 7 19 v0 fun x4 =>
  bP (st Q q 37 1 x4 x2 G) fun G5 =>
  nf q 305 0 0 v0 fun x7 =>
  bP (lda Q q 31 13 x7 (G5.room 13)) fun x8 =>
  nl q 305 4 15 3 v0 (G5.room 13) fun x11 =>
  bS (e.ev.cl 105 [x8, x11, v2] (G5.room 13)) fun x13 G12 =>
  bS (e.ev.cl 240 [v1, x13] G12) fun x15 G14 =>
  some (x15, G14)
theorem f408 (h : ExLe Q e (E orc)) (v0 v1 v2 : Value) (G : GS) : Ref (s408 true e v0 v1 v2 G) ((E orc).cl 408 [v0, v1, v2] G) := cS (S := fun q e => s408 q e v0 v1 v2 G) Tryz.func408 (by unfold s408; exact Ref.gq)
/-- (*coxswain/limbo.Collect).Step -/
def s409 (q : Bool) (e : Ex) (v0 v1 : Value) (G : GS) : OG :=
  bP (ep Q q false 240 (.tmp 5) (.const (.pointer none)) v0 (.pointer none)) fun x0 =>
  bS (gV x0 false v0 G) fun x1 G2 =>
  bS (gP x0 false (pNil x1) G2) fun x3 G4 =>
  bS (gP x0 false (fa Q q 325 0 0 x3) G4) fun x5 G6 =>
  bS (gV x0 false v1 G6) fun x7 G8 =>
  bS (gS x0 false (e.ev.cl 394 [x5, x7] G8) G8) fun x9 G10 =>
  bP (pickV x0 (.bool true) x9) fun x11 =>
  some (x11, G10)
theorem f409 (h : ExLe Q e (E orc)) (v0 v1 : Value) (G : GS) : Ref (s409 true e v0 v1 G) ((E orc).cl 409 [v0, v1] G) := cS (S := fun q e => s409 q e v0 v1 G) Tryz.func409 (by unfold s409; exact Ref.gq)
/-- (coxswain/tower.node).cells -/
def s411 (q : Bool) (e : Ex) (v0 : Value) (G : GS) : OG :=
  bP (bn Q q .add 3 (.const (.int .i64 4)) (.tmp 3) (.int .i64 4) v0) fun x0 =>
  some (x0, G)
theorem f411 (h : ExLe Q e (E orc)) (v0 : Value) (G : GS) : Ref (s411 true e v0 G) ((E orc).cl 411 [v0] G) := cS (S := fun q e => s411 q e v0 G) Tryz.func411 (by unfold s411; exact Ref.gq)
/-- (coxswain/tower.head).cells -/
def s412 (q : Bool) (e : Ex) (v0 : Value) (G : GS) : OG :=
  some (v0, G)
theorem f412 (h : ExLe Q e (E orc)) (v0 : Value) (G : GS) : Ref (s412 true e v0 G) ((E orc).cl 412 [v0] G) := cS (S := fun q e => s412 q e v0 G) Tryz.func412 (by unfold s412; exact Ref.gq)
def jb413_0 (q : Bool) (e : Ex) (τ : Env) (G : GS) : OG :=
  bV q (τ 6) fun a6_ =>
  bV q (τ 7) fun a7_ =>
  some (.tuple #[a6_, a7_], G)
def j413_0 (q : Bool) (e : Ex) (τ : Env) (G : GS) : OG := jb413_0 q e τ G
theorem mj413_0 {e : Ex} {E : Ev} (h : ExLe Q e E) (τ : Env) (G : GS) : Ref (j413_0 true e τ G) (j413_0 false (Ex.of E) τ G) := by
  unfold j413_0 jb413_0
  exact Ref.gq
theorem mkj413_0 {e : Ex} {E : Ev} (h : ExLe Q e E) {τ : Env} {l U : List (Nat × Value)} {G : GS} (hU : UOk τ U) : Ref (j413_0 true e (xq true 64 τ l U) G) (j413_0 false (Ex.of E) (xq false 64 τ l U) G) := by
  rw [xq_eq hU]
  exact mj413_0 h _ _
def jb413_1 (q : Bool) (e : Ex) (J0 : Env → GS → OG) (τ : Env) (G : GS) : OG :=
  bV q (τ 0) fun a0_ =>
  bV q (τ 6) fun a6_ =>
  bS (gV a6_ true a0_ G) fun x6 G7 =>
  bS (gP a6_ true (pNil x6) G7) fun x8 G9 =>
  bS (gP a6_ true (fa Q q 302 2 2 x8) G9) fun x10 G11 =>
  bS (gP a6_ true (ld Q q 299 x10 G11) G11) fun x12 G13 =>
  bS (gP a6_ true (ef Q q true 299 (.tmp 50) (.const .nilFunc) x12 .nilFunc) G13) fun x14 G15 =>
  bP (pickV a6_ x14 (.bool false)) fun x16 =>
  ifV x16 (
  bP (pNil a0_) fun x17 =>
  bP (fa Q q 302 2 2 x17) fun x18 =>
  bP (ld Q q 299 x18 (G15.room 9)) fun x19 =>
  bP (pNil a0_) fun x20 =>
  bP (fa Q q 302 3 3 x20) fun x21 =>
  bP (ld Q q 296 x21 (G15.room 9)) fun x22 =>
  bS (cValue e.ev x19 [x22] (G15.room 9)) fun x24 G23 =>
  J0 (xq q 64 τ [(61, x24), (60, x22), (59, x21), (58, x20), (57, a0_), (56, x19), (55, x18), (54, x17), (53, a0_), (52, x16), (51, x14), (50, x12), (49, x10), (48, x8), (47, x6), (46, a6_), (45, a6_)] []) G23) (
  J0 (xq q 64 τ [(52, x16), (51, x14), (50, x12), (49, x10), (48, x8), (47, x6), (46, a6_), (45, a6_)] []) G15)
def j413_1 (q : Bool) (e : Ex) (τ : Env) (G : GS) : OG := jb413_1 q e (j413_0 q e) τ G
theorem mj413_1 {e : Ex} {E : Ev} (h : ExLe Q e E) (τ : Env) (G : GS) : Ref (j413_1 true e τ G) (j413_1 false (Ex.of E) τ G) := by
  unfold j413_1 jb413_1
  have j0 := @mkj413_0 e E h
  exact Ref.gj
theorem mkj413_1 {e : Ex} {E : Ev} (h : ExLe Q e E) {τ : Env} {l U : List (Nat × Value)} {G : GS} (hU : UOk τ U) : Ref (j413_1 true e (xq true 64 τ l U) G) (j413_1 false (Ex.of E) (xq false 64 τ l U) G) := by
  rw [xq_eq hU]
  exact mj413_1 h _ _
def jb413_2 (q : Bool) (e : Ex) (J0 J1 : Env → GS → OG) (τ : Env) (G : GS) : OG :=
  bV q (τ 0) fun a0_ =>
  bV q (τ 1) fun a1_ =>
  bP (pNil a0_) fun x0 =>
  bP (fa Q q 302 3 3 x0) fun x1 =>
  bP (ld Q q 296 x1 G) fun x2 =>
  bP (ifc Q q 296 x2) fun x3 =>
  bS (cInvoke Q e.ev x3 "Step" [a1_] G) fun x4 G5 =>
  bP (pNil a0_) fun x25 =>
  bP (fa Q q 302 1 1 x25) fun x26 =>
  bP (ld Q q 300 x26 G5) fun x27 =>
  bP (ef Q q true 300 (.tmp 34) (.const .nilFunc) x27 .nilFunc) fun x28 =>
  ifV x28 (
  bP (pNil a0_) fun x29 =>
  bP (fa Q q 302 1 1 x29) fun x30 =>
  bP (ld Q q 300 x30 (G5.room 10)) fun x31 =>
  bP (pNil a0_) fun x32 =>
  bP (fa Q q 302 3 3 x32) fun x33 =>
  bP (ld Q q 296 x33 (G5.room 10)) fun x34 =>
  bS (cValue e.ev x31 [x34] (G5.room 10)) fun x36 G35 =>
  J1 (xq q 64 τ [(7, x36), (44, x36), (43, x34), (42, x33), (41, x32), (40, a0_), (39, x31), (38, x30), (37, x29), (36, a0_), (35, x28), (34, x27), (33, x26), (32, x25), (31, a0_), (7, (.int .u64 0)), (6, x4), (30, x4), (29, a1_), (28, x3), (27, x2), (26, x1), (25, x0), (24, a0_)] []) G35) (
  J1 (xq q 64 τ [(35, x28), (34, x27), (33, x26), (32, x25), (31, a0_), (7, (.int .u64 0)), (6, x4), (30, x4), (29, a1_), (28, x3), (27, x2), (26, x1), (25, x0), (24, a0_)] []) G5)
def j413_2 (q : Bool) (e : Ex) (τ : Env) (G : GS) : OG := jb413_2 q e (j413_0 q e) (j413_1 q e) τ G
theorem mj413_2 {e : Ex} {E : Ev} (h : ExLe Q e E) (τ : Env) (G : GS) : Ref (j413_2 true e τ G) (j413_2 false (Ex.of E) τ G) := by
  unfold j413_2 jb413_2
  have j0 := @mkj413_0 e E h
  have j1 := @mkj413_1 e E h
  exact Ref.gj
theorem mkj413_2 {e : Ex} {E : Ev} (h : ExLe Q e E) {τ : Env} {l U : List (Nat × Value)} {G : GS} (hU : UOk τ U) : Ref (j413_2 true e (xq true 64 τ l U) G) (j413_2 false (Ex.of E) (xq false 64 τ l U) G) := by
  rw [xq_eq hU]
  exact mj413_2 h _ _
def sb413 (q : Bool) (e : Ex) (J0 J1 J2 : Env → GS → OG) (v0 v1 : Value) (G : GS) : OG :=
  bP (pNil v0) fun x37 =>
  bP (fa Q q 302 4 4 x37) fun x38 =>
  bP (ld Q q 4 x38 G) fun x39 =>
  bP (un Q q .not x39) fun x40 =>
  ifV x40 (
  bP (pNil v0) fun x41 =>
  bP (fa Q q 302 0 0 x41) fun x42 =>
  bP (ld Q q 298 x42 G) fun x43 =>
  bS (cValue e.ev x43 [] G) fun x44 G45 =>
  bP (pNil v0) fun x46 =>
  bP (fa Q q 302 3 3 x46) fun x47 =>
  bP (st Q q 296 1 x47 x44 G45) fun G48 =>
  bP (pNil v0) fun x49 =>
  bP (fa Q q 302 4 4 x49) fun x50 =>
  bP (st Q q 4 1 x50 (.bool true) G48) fun G51 =>
  J2 (xq q 64 (nth undef [v0, v1]) [(23, x50), (22, x49), (21, x47), (20, x46), (19, x44), (18, x43), (17, x42), (16, x41), (15, v0), (14, v0), (13, v0), (12, x40), (11, x39), (10, x38), (9, x37), (8, v0), (5, (.int .u64 0)), (4, (.bool false))] []) G51) (
  J2 (xq q 64 (nth undef [v0, v1]) [(12, x40), (11, x39), (10, x38), (9, x37), (8, v0), (5, (.int .u64 0)), (4, (.bool false))] []) G)
/-- (*coxswain/ready.part[*coxswain/arena.Alloc]).run -/
def s413 (q : Bool) (e : Ex) (v0 v1 : Value) (G : GS) : OG := sb413 q e (j413_0 q e) (j413_1 q e) (j413_2 q e) v0 v1 G
theorem m413 {e : Ex} {E : Ev} (h : ExLe Q e E) (v0 v1 : Value) (G : GS) : Ref (s413 true e v0 v1 G) (s413 false (Ex.of E) v0 v1 G) := by
  unfold s413 sb413
  have j0 := @mkj413_0 e E h
  have j1 := @mkj413_1 e E h
  have j2 := @mkj413_2 e E h
  exact Ref.gj
def jt413 (J0 J1 J2 : Env → GS → OG) : JT (Value × GS) :=
  (.n none .e (.n (some (fun T G => J2 (nth undef T) G)) .e (.n none .e (.n (some (fun T G => J1 (nth undef T) G)) .e (.n (some (fun T G => J0 (nth undef T) G)) .e .e)))))
theorem jr413_2 (orc : FuncId → Bool) (J0 J1 J2 : Env → GS → OG) (T : List Value) (G : GS) : runC Q (evL Q orc) Tryz.f413.ntmps (jt413 J0 J1 J2) (bodyOf Tryz.f413) (retE Q Tryz.f413.results.toList) [true] (nth undef T) G = jb413_2 false (Ex.of (E orc)) J0 J1 (nth undef T) G := by kernel_rfl
theorem jr413_1 (orc : FuncId → Bool) (J0 J1 J2 : Env → GS → OG) (T : List Value) (G : GS) : runC Q (evL Q orc) Tryz.f413.ntmps (jt413 J0 J1 J2) (bodyOf Tryz.f413) (retE Q Tryz.f413.results.toList) [true, true, true] (nth undef T) G = jb413_1 false (Ex.of (E orc)) J0 (nth undef T) G := by kernel_rfl
theorem jr413_0 (orc : FuncId → Bool) (J0 J1 J2 : Env → GS → OG) (T : List Value) (G : GS) : runC Q (evL Q orc) Tryz.f413.ntmps (jt413 J0 J1 J2) (bodyOf Tryz.f413) (retE Q Tryz.f413.results.toList) [true, true, true, true] (nth undef T) G = jb413_0 false (Ex.of (E orc))  (nth undef T) G := by kernel_rfl
theorem jo413 (orc : FuncId → Bool) : JOk Q orc Tryz.f413.ntmps (jt413 (j413_0 false (Ex.of (E orc))) (j413_1 false (Ex.of (E orc))) (j413_2 false (Ex.of (E orc))) ) (bodyOf Tryz.f413) (retE Q Tryz.f413.results.toList) :=
  jOk Q orc (l := [([true], (fun T G => j413_2 false (Ex.of (E orc)) (nth undef T) G)), ([true, true, true], (fun T G => j413_1 false (Ex.of (E orc)) (nth undef T) G)), ([true, true, true, true], (fun T G => j413_0 false (Ex.of (E orc)) (nth undef T) G))]) (by kernel_rfl) (AllE.c (fun T G => jr413_2 orc (j413_0 false (Ex.of (E orc))) (j413_1 false (Ex.of (E orc))) (j413_2 false (Ex.of (E orc))) T G) (AllE.c (fun T G => jr413_1 orc (j413_0 false (Ex.of (E orc))) (j413_1 false (Ex.of (E orc))) (j413_2 false (Ex.of (E orc))) T G) (AllE.c (fun T G => jr413_0 orc (j413_0 false (Ex.of (E orc))) (j413_1 false (Ex.of (E orc))) (j413_2 false (Ex.of (E orc))) T G) (AllE.z))))
theorem je413 (orc : FuncId → Bool) (J0 J1 J2 : Env → GS → OG) (v0 v1 : Value) (G : GS) : sxC Q (evL Q orc) Tryz.f413.ntmps (jt413 J0 J1 J2) (bodyOf Tryz.f413) (nth undef [v0, v1]) G (retE Q Tryz.f413.results.toList) = sb413 false (Ex.of (E orc)) J0 J1 J2 v0 v1 G := by kernel_rfl
theorem f413 {orc : FuncId → Bool} {e : Ex} (h : ExLe Q e (E orc)) (v0 v1 : Value) (G : GS) : Ref (s413 true e v0 v1 G) ((E orc).cl 413 [v0, v1] G) :=
  fun r hr => cl_sxC Q orc (vs := [v0, v1]) G (jt413 (j413_0 false (Ex.of (E orc))) (j413_1 false (Ex.of (E orc))) (j413_2 false (Ex.of (E orc))) ) Tryz.func413 (by kernel_rfl) (by kernel_rfl) (by kernel_rfl) (by kernel_rfl) (by kernel_rfl) (jo413 orc) (je413 orc (j413_0 false (Ex.of (E orc))) (j413_1 false (Ex.of (E orc))) (j413_2 false (Ex.of (E orc))) v0 v1 G) (m413 h v0 v1 G r hr)
/-- (*coxswain/arena.Alloc).Step -/
def s414 (q : Bool) (e : Ex) (v0 v1 : Value) (G : GS) : OG :=
  bP (ep Q q false 296 (.tmp 5) (.const (.pointer none)) v0 (.pointer none)) fun x0 =>
  bS (gV x0 false v0 G) fun x1 G2 =>
  bS (gP x0 false (pNil x1) G2) fun x3 G4 =>
  bS (gP x0 false (fa Q q 375 3 8 x3) G4) fun x5 G6 =>
  bS (gP x0 false (ld Q q 373 x5 G6) G6) fun x7 G8 =>
  bS (gP x0 false (ef Q q false 373 (.tmp 11) (.const .nilFunc) x7 .nilFunc) G8) fun x9 G10 =>
  bP (pickV x0 (.bool true) x9) fun x11 =>
  ifV x11 (
  some ((.bool true), G10)) (
  nl q 375 3 8 373 v0 G10 fun x14 =>
  bS (cValue e.ev x14 [v0, v1] G10) fun x15 G16 =>
  nl q 375 3 8 373 v0 G16 fun x19 =>
  bP (ef Q q false 373 (.tmp 24) (.const .nilFunc) x19 .nilFunc) fun x20 =>
  some (x20, G16))
theorem f414 (h : ExLe Q e (E orc)) (v0 v1 : Value) (G : GS) : Ref (s414 true e v0 v1 G) ((E orc).cl 414 [v0, v1] G) := cS (S := fun q e => s414 q e v0 v1 G) Tryz.func414 (by unfold s414; exact Ref.gq)
def jb415_0 (q : Bool) (e : Ex) (τ : Env) (G : GS) : OG :=
  bV q (τ 6) fun a6_ =>
  bV q (τ 7) fun a7_ =>
  some (.tuple #[a6_, a7_], G)
def j415_0 (q : Bool) (e : Ex) (τ : Env) (G : GS) : OG := jb415_0 q e τ G
theorem mj415_0 {e : Ex} {E : Ev} (h : ExLe Q e E) (τ : Env) (G : GS) : Ref (j415_0 true e τ G) (j415_0 false (Ex.of E) τ G) := by
  unfold j415_0 jb415_0
  exact Ref.gq
theorem mkj415_0 {e : Ex} {E : Ev} (h : ExLe Q e E) {τ : Env} {l U : List (Nat × Value)} {G : GS} (hU : UOk τ U) : Ref (j415_0 true e (xq true 64 τ l U) G) (j415_0 false (Ex.of E) (xq false 64 τ l U) G) := by
  rw [xq_eq hU]
  exact mj415_0 h _ _
def jb415_1 (q : Bool) (e : Ex) (J0 : Env → GS → OG) (τ : Env) (G : GS) : OG :=
  bV q (τ 0) fun a0_ =>
  bV q (τ 6) fun a6_ =>
  bS (gV a6_ true a0_ G) fun x6 G7 =>
  bS (gP a6_ true (pNil x6) G7) fun x8 G9 =>
  bS (gP a6_ true (fa Q q 314 2 2 x8) G9) fun x10 G11 =>
  bS (gP a6_ true (ld Q q 241 x10 G11) G11) fun x12 G13 =>
  bS (gP a6_ true (ef Q q true 241 (.tmp 50) (.const .nilFunc) x12 .nilFunc) G13) fun x14 G15 =>
  bP (pickV a6_ x14 (.bool false)) fun x16 =>
  ifV x16 (
  bP (pNil a0_) fun x17 =>
  bP (fa Q q 314 2 2 x17) fun x18 =>
  bP (ld Q q 241 x18 (G15.room 9)) fun x19 =>
  bP (pNil a0_) fun x20 =>
  bP (fa Q q 314 3 3 x20) fun x21 =>
  bP (ld Q q 240 x21 (G15.room 9)) fun x22 =>
  bS (cValue e.ev x19 [x22] (G15.room 9)) fun x24 G23 =>
  J0 (xq q 64 τ [(61, x24), (60, x22), (59, x21), (58, x20), (57, a0_), (56, x19), (55, x18), (54, x17), (53, a0_), (52, x16), (51, x14), (50, x12), (49, x10), (48, x8), (47, x6), (46, a6_), (45, a6_)] []) G23) (
  J0 (xq q 64 τ [(52, x16), (51, x14), (50, x12), (49, x10), (48, x8), (47, x6), (46, a6_), (45, a6_)] []) G15)
def j415_1 (q : Bool) (e : Ex) (τ : Env) (G : GS) : OG := jb415_1 q e (j415_0 q e) τ G
theorem mj415_1 {e : Ex} {E : Ev} (h : ExLe Q e E) (τ : Env) (G : GS) : Ref (j415_1 true e τ G) (j415_1 false (Ex.of E) τ G) := by
  unfold j415_1 jb415_1
  have j0 := @mkj415_0 e E h
  exact Ref.gj
theorem mkj415_1 {e : Ex} {E : Ev} (h : ExLe Q e E) {τ : Env} {l U : List (Nat × Value)} {G : GS} (hU : UOk τ U) : Ref (j415_1 true e (xq true 64 τ l U) G) (j415_1 false (Ex.of E) (xq false 64 τ l U) G) := by
  rw [xq_eq hU]
  exact mj415_1 h _ _
def jb415_2 (q : Bool) (e : Ex) (J0 J1 : Env → GS → OG) (τ : Env) (G : GS) : OG :=
  bV q (τ 0) fun a0_ =>
  bV q (τ 1) fun a1_ =>
  bP (pNil a0_) fun x0 =>
  bP (fa Q q 314 3 3 x0) fun x1 =>
  bP (ld Q q 240 x1 G) fun x2 =>
  bP (ifc Q q 240 x2) fun x3 =>
  bS (cInvoke Q e.ev x3 "Step" [a1_] G) fun x4 G5 =>
  bP (pNil a0_) fun x25 =>
  bP (fa Q q 314 1 1 x25) fun x26 =>
  bP (ld Q q 312 x26 G5) fun x27 =>
  bP (ef Q q true 312 (.tmp 34) (.const .nilFunc) x27 .nilFunc) fun x28 =>
  ifV x28 (
  bP (pNil a0_) fun x29 =>
  bP (fa Q q 314 1 1 x29) fun x30 =>
  bP (ld Q q 312 x30 (G5.room 10)) fun x31 =>
  bP (pNil a0_) fun x32 =>
  bP (fa Q q 314 3 3 x32) fun x33 =>
  bP (ld Q q 240 x33 (G5.room 10)) fun x34 =>
  bS (cValue e.ev x31 [x34] (G5.room 10)) fun x36 G35 =>
  J1 (xq q 64 τ [(7, x36), (44, x36), (43, x34), (42, x33), (41, x32), (40, a0_), (39, x31), (38, x30), (37, x29), (36, a0_), (35, x28), (34, x27), (33, x26), (32, x25), (31, a0_), (7, (.int .u64 0)), (6, x4), (30, x4), (29, a1_), (28, x3), (27, x2), (26, x1), (25, x0), (24, a0_)] []) G35) (
  J1 (xq q 64 τ [(35, x28), (34, x27), (33, x26), (32, x25), (31, a0_), (7, (.int .u64 0)), (6, x4), (30, x4), (29, a1_), (28, x3), (27, x2), (26, x1), (25, x0), (24, a0_)] []) G5)
def j415_2 (q : Bool) (e : Ex) (τ : Env) (G : GS) : OG := jb415_2 q e (j415_0 q e) (j415_1 q e) τ G
theorem mj415_2 {e : Ex} {E : Ev} (h : ExLe Q e E) (τ : Env) (G : GS) : Ref (j415_2 true e τ G) (j415_2 false (Ex.of E) τ G) := by
  unfold j415_2 jb415_2
  have j0 := @mkj415_0 e E h
  have j1 := @mkj415_1 e E h
  exact Ref.gj
theorem mkj415_2 {e : Ex} {E : Ev} (h : ExLe Q e E) {τ : Env} {l U : List (Nat × Value)} {G : GS} (hU : UOk τ U) : Ref (j415_2 true e (xq true 64 τ l U) G) (j415_2 false (Ex.of E) (xq false 64 τ l U) G) := by
  rw [xq_eq hU]
  exact mj415_2 h _ _
def sb415 (q : Bool) (e : Ex) (J0 J1 J2 : Env → GS → OG) (v0 v1 : Value) (G : GS) : OG :=
  bP (pNil v0) fun x37 =>
  bP (fa Q q 314 4 4 x37) fun x38 =>
  bP (ld Q q 4 x38 G) fun x39 =>
  bP (un Q q .not x39) fun x40 =>
  ifV x40 (
  bP (pNil v0) fun x41 =>
  bP (fa Q q 314 0 0 x41) fun x42 =>
  bP (ld Q q 311 x42 G) fun x43 =>
  bS (cValue e.ev x43 [] G) fun x44 G45 =>
  bP (pNil v0) fun x46 =>
  bP (fa Q q 314 3 3 x46) fun x47 =>
  bP (st Q q 240 1 x47 x44 G45) fun G48 =>
  bP (pNil v0) fun x49 =>
  bP (fa Q q 314 4 4 x49) fun x50 =>
  bP (st Q q 4 1 x50 (.bool true) G48) fun G51 =>
  J2 (xq q 64 (nth undef [v0, v1]) [(23, x50), (22, x49), (21, x47), (20, x46), (19, x44), (18, x43), (17, x42), (16, x41), (15, v0), (14, v0), (13, v0), (12, x40), (11, x39), (10, x38), (9, x37), (8, v0), (5, (.int .u64 0)), (4, (.bool false))] []) G51) (
  J2 (xq q 64 (nth undef [v0, v1]) [(12, x40), (11, x39), (10, x38), (9, x37), (8, v0), (5, (.int .u64 0)), (4, (.bool false))] []) G)
/-- (*coxswain/ready.part[*coxswain/limbo.Collect]).run -/
def s415 (q : Bool) (e : Ex) (v0 v1 : Value) (G : GS) : OG := sb415 q e (j415_0 q e) (j415_1 q e) (j415_2 q e) v0 v1 G
theorem m415 {e : Ex} {E : Ev} (h : ExLe Q e E) (v0 v1 : Value) (G : GS) : Ref (s415 true e v0 v1 G) (s415 false (Ex.of E) v0 v1 G) := by
  unfold s415 sb415
  have j0 := @mkj415_0 e E h
  have j1 := @mkj415_1 e E h
  have j2 := @mkj415_2 e E h
  exact Ref.gj
def jt415 (J0 J1 J2 : Env → GS → OG) : JT (Value × GS) :=
  (.n none .e (.n (some (fun T G => J2 (nth undef T) G)) .e (.n none .e (.n (some (fun T G => J1 (nth undef T) G)) .e (.n (some (fun T G => J0 (nth undef T) G)) .e .e)))))
theorem jr415_2 (orc : FuncId → Bool) (J0 J1 J2 : Env → GS → OG) (T : List Value) (G : GS) : runC Q (evL Q orc) Tryz.f415.ntmps (jt415 J0 J1 J2) (bodyOf Tryz.f415) (retE Q Tryz.f415.results.toList) [true] (nth undef T) G = jb415_2 false (Ex.of (E orc)) J0 J1 (nth undef T) G := by kernel_rfl
theorem jr415_1 (orc : FuncId → Bool) (J0 J1 J2 : Env → GS → OG) (T : List Value) (G : GS) : runC Q (evL Q orc) Tryz.f415.ntmps (jt415 J0 J1 J2) (bodyOf Tryz.f415) (retE Q Tryz.f415.results.toList) [true, true, true] (nth undef T) G = jb415_1 false (Ex.of (E orc)) J0 (nth undef T) G := by kernel_rfl
theorem jr415_0 (orc : FuncId → Bool) (J0 J1 J2 : Env → GS → OG) (T : List Value) (G : GS) : runC Q (evL Q orc) Tryz.f415.ntmps (jt415 J0 J1 J2) (bodyOf Tryz.f415) (retE Q Tryz.f415.results.toList) [true, true, true, true] (nth undef T) G = jb415_0 false (Ex.of (E orc))  (nth undef T) G := by kernel_rfl
theorem jo415 (orc : FuncId → Bool) : JOk Q orc Tryz.f415.ntmps (jt415 (j415_0 false (Ex.of (E orc))) (j415_1 false (Ex.of (E orc))) (j415_2 false (Ex.of (E orc))) ) (bodyOf Tryz.f415) (retE Q Tryz.f415.results.toList) :=
  jOk Q orc (l := [([true], (fun T G => j415_2 false (Ex.of (E orc)) (nth undef T) G)), ([true, true, true], (fun T G => j415_1 false (Ex.of (E orc)) (nth undef T) G)), ([true, true, true, true], (fun T G => j415_0 false (Ex.of (E orc)) (nth undef T) G))]) (by kernel_rfl) (AllE.c (fun T G => jr415_2 orc (j415_0 false (Ex.of (E orc))) (j415_1 false (Ex.of (E orc))) (j415_2 false (Ex.of (E orc))) T G) (AllE.c (fun T G => jr415_1 orc (j415_0 false (Ex.of (E orc))) (j415_1 false (Ex.of (E orc))) (j415_2 false (Ex.of (E orc))) T G) (AllE.c (fun T G => jr415_0 orc (j415_0 false (Ex.of (E orc))) (j415_1 false (Ex.of (E orc))) (j415_2 false (Ex.of (E orc))) T G) (AllE.z))))
theorem je415 (orc : FuncId → Bool) (J0 J1 J2 : Env → GS → OG) (v0 v1 : Value) (G : GS) : sxC Q (evL Q orc) Tryz.f415.ntmps (jt415 J0 J1 J2) (bodyOf Tryz.f415) (nth undef [v0, v1]) G (retE Q Tryz.f415.results.toList) = sb415 false (Ex.of (E orc)) J0 J1 J2 v0 v1 G := by kernel_rfl
theorem f415 {orc : FuncId → Bool} {e : Ex} (h : ExLe Q e (E orc)) (v0 v1 : Value) (G : GS) : Ref (s415 true e v0 v1 G) ((E orc).cl 415 [v0, v1] G) :=
  fun r hr => cl_sxC Q orc (vs := [v0, v1]) G (jt415 (j415_0 false (Ex.of (E orc))) (j415_1 false (Ex.of (E orc))) (j415_2 false (Ex.of (E orc))) ) Tryz.func415 (by kernel_rfl) (by kernel_rfl) (by kernel_rfl) (by kernel_rfl) (by kernel_rfl) (jo415 orc) (je415 orc (j415_0 false (Ex.of (E orc))) (j415_1 false (Ex.of (E orc))) (j415_2 false (Ex.of (E orc))) v0 v1 G) (m415 h v0 v1 G r hr)
def jb418_0 (q : Bool) (e : Ex) (τ : Env) (G : GS) : OG :=
  bV q (τ 6) fun a6_ =>
  bV q (τ 7) fun a7_ =>
  some (.tuple #[a6_, a7_], G)
def j418_0 (q : Bool) (e : Ex) (τ : Env) (G : GS) : OG := jb418_0 q e τ G
theorem mj418_0 {e : Ex} {E : Ev} (h : ExLe Q e E) (τ : Env) (G : GS) : Ref (j418_0 true e τ G) (j418_0 false (Ex.of E) τ G) := by
  unfold j418_0 jb418_0
  exact Ref.gq
theorem mkj418_0 {e : Ex} {E : Ev} (h : ExLe Q e E) {τ : Env} {l U : List (Nat × Value)} {G : GS} (hU : UOk τ U) : Ref (j418_0 true e (xq true 64 τ l U) G) (j418_0 false (Ex.of E) (xq false 64 τ l U) G) := by
  rw [xq_eq hU]
  exact mj418_0 h _ _
def jb418_1 (q : Bool) (e : Ex) (J0 : Env → GS → OG) (τ : Env) (G : GS) : OG :=
  bV q (τ 0) fun a0_ =>
  bV q (τ 6) fun a6_ =>
  bS (gV a6_ true a0_ G) fun x6 G7 =>
  bS (gP a6_ true (pNil x6) G7) fun x8 G9 =>
  bS (gP a6_ true (fa Q q 421 2 2 x8) G9) fun x10 G11 =>
  bS (gP a6_ true (ld Q q 419 x10 G11) G11) fun x12 G13 =>
  bS (gP a6_ true (ef Q q true 419 (.tmp 50) (.const .nilFunc) x12 .nilFunc) G13) fun x14 G15 =>
  bP (pickV a6_ x14 (.bool false)) fun x16 =>
  ifV x16 (
  bP (pNil a0_) fun x17 =>
  bP (fa Q q 421 2 2 x17) fun x18 =>
  bP (ld Q q 419 x18 (G15.room 9)) fun x19 =>
  bP (pNil a0_) fun x20 =>
  bP (fa Q q 421 3 3 x20) fun x21 =>
  bP (ld Q q 415 x21 (G15.room 9)) fun x22 =>
  bS (cValue e.ev x19 [x22] (G15.room 9)) fun x24 G23 =>
  J0 (xq q 64 τ [(61, x24), (60, x22), (59, x21), (58, x20), (57, a0_), (56, x19), (55, x18), (54, x17), (53, a0_), (52, x16), (51, x14), (50, x12), (49, x10), (48, x8), (47, x6), (46, a6_), (45, a6_)] []) G23) (
  J0 (xq q 64 τ [(52, x16), (51, x14), (50, x12), (49, x10), (48, x8), (47, x6), (46, a6_), (45, a6_)] []) G15)
def j418_1 (q : Bool) (e : Ex) (τ : Env) (G : GS) : OG := jb418_1 q e (j418_0 q e) τ G
theorem mj418_1 {e : Ex} {E : Ev} (h : ExLe Q e E) (τ : Env) (G : GS) : Ref (j418_1 true e τ G) (j418_1 false (Ex.of E) τ G) := by
  unfold j418_1 jb418_1
  have j0 := @mkj418_0 e E h
  exact Ref.gj
theorem mkj418_1 {e : Ex} {E : Ev} (h : ExLe Q e E) {τ : Env} {l U : List (Nat × Value)} {G : GS} (hU : UOk τ U) : Ref (j418_1 true e (xq true 64 τ l U) G) (j418_1 false (Ex.of E) (xq false 64 τ l U) G) := by
  rw [xq_eq hU]
  exact mj418_1 h _ _
def jb418_2 (q : Bool) (e : Ex) (J0 J1 : Env → GS → OG) (τ : Env) (G : GS) : OG :=
  bV q (τ 0) fun a0_ =>
  bV q (τ 1) fun a1_ =>
  bP (pNil a0_) fun x0 =>
  bP (fa Q q 421 3 3 x0) fun x1 =>
  bP (ld Q q 415 x1 G) fun x2 =>
  bP (ifc Q q 415 x2) fun x3 =>
  bS (cInvoke Q e.ev x3 "Step" [a1_] G) fun x4 G5 =>
  bP (pNil a0_) fun x25 =>
  bP (fa Q q 421 1 1 x25) fun x26 =>
  bP (ld Q q 418 x26 G5) fun x27 =>
  bP (ef Q q true 418 (.tmp 34) (.const .nilFunc) x27 .nilFunc) fun x28 =>
  ifV x28 (
  bP (pNil a0_) fun x29 =>
  bP (fa Q q 421 1 1 x29) fun x30 =>
  bP (ld Q q 418 x30 (G5.room 10)) fun x31 =>
  bP (pNil a0_) fun x32 =>
  bP (fa Q q 421 3 3 x32) fun x33 =>
  bP (ld Q q 415 x33 (G5.room 10)) fun x34 =>
  bS (cValue e.ev x31 [x34] (G5.room 10)) fun x36 G35 =>
  J1 (xq q 64 τ [(7, x36), (44, x36), (43, x34), (42, x33), (41, x32), (40, a0_), (39, x31), (38, x30), (37, x29), (36, a0_), (35, x28), (34, x27), (33, x26), (32, x25), (31, a0_), (7, (.int .u64 0)), (6, x4), (30, x4), (29, a1_), (28, x3), (27, x2), (26, x1), (25, x0), (24, a0_)] []) G35) (
  J1 (xq q 64 τ [(35, x28), (34, x27), (33, x26), (32, x25), (31, a0_), (7, (.int .u64 0)), (6, x4), (30, x4), (29, a1_), (28, x3), (27, x2), (26, x1), (25, x0), (24, a0_)] []) G5)
def j418_2 (q : Bool) (e : Ex) (τ : Env) (G : GS) : OG := jb418_2 q e (j418_0 q e) (j418_1 q e) τ G
theorem mj418_2 {e : Ex} {E : Ev} (h : ExLe Q e E) (τ : Env) (G : GS) : Ref (j418_2 true e τ G) (j418_2 false (Ex.of E) τ G) := by
  unfold j418_2 jb418_2
  have j0 := @mkj418_0 e E h
  have j1 := @mkj418_1 e E h
  exact Ref.gj
theorem mkj418_2 {e : Ex} {E : Ev} (h : ExLe Q e E) {τ : Env} {l U : List (Nat × Value)} {G : GS} (hU : UOk τ U) : Ref (j418_2 true e (xq true 64 τ l U) G) (j418_2 false (Ex.of E) (xq false 64 τ l U) G) := by
  rw [xq_eq hU]
  exact mj418_2 h _ _
def sb418 (q : Bool) (e : Ex) (J0 J1 J2 : Env → GS → OG) (v0 v1 : Value) (G : GS) : OG :=
  bP (pNil v0) fun x37 =>
  bP (fa Q q 421 4 4 x37) fun x38 =>
  bP (ld Q q 4 x38 G) fun x39 =>
  bP (un Q q .not x39) fun x40 =>
  ifV x40 (
  bP (pNil v0) fun x41 =>
  bP (fa Q q 421 0 0 x41) fun x42 =>
  bP (ld Q q 417 x42 G) fun x43 =>
  bS (cValue e.ev x43 [] G) fun x44 G45 =>
  bP (pNil v0) fun x46 =>
  bP (fa Q q 421 3 3 x46) fun x47 =>
  bP (st Q q 415 1 x47 x44 G45) fun G48 =>
  bP (pNil v0) fun x49 =>
  bP (fa Q q 421 4 4 x49) fun x50 =>
  bP (st Q q 4 1 x50 (.bool true) G48) fun G51 =>
  J2 (xq q 64 (nth undef [v0, v1]) [(23, x50), (22, x49), (21, x47), (20, x46), (19, x44), (18, x43), (17, x42), (16, x41), (15, v0), (14, v0), (13, v0), (12, x40), (11, x39), (10, x38), (9, x37), (8, v0), (5, (.int .u64 0)), (4, (.bool false))] []) G51) (
  J2 (xq q 64 (nth undef [v0, v1]) [(12, x40), (11, x39), (10, x38), (9, x37), (8, v0), (5, (.int .u64 0)), (4, (.bool false))] []) G)
/-- (*coxswain/ready.part[*coxswain/tower.Lay]).run -/
def s418 (q : Bool) (e : Ex) (v0 v1 : Value) (G : GS) : OG := sb418 q e (j418_0 q e) (j418_1 q e) (j418_2 q e) v0 v1 G
theorem m418 {e : Ex} {E : Ev} (h : ExLe Q e E) (v0 v1 : Value) (G : GS) : Ref (s418 true e v0 v1 G) (s418 false (Ex.of E) v0 v1 G) := by
  unfold s418 sb418
  have j0 := @mkj418_0 e E h
  have j1 := @mkj418_1 e E h
  have j2 := @mkj418_2 e E h
  exact Ref.gj
def jt418 (J0 J1 J2 : Env → GS → OG) : JT (Value × GS) :=
  (.n none .e (.n (some (fun T G => J2 (nth undef T) G)) .e (.n none .e (.n (some (fun T G => J1 (nth undef T) G)) .e (.n (some (fun T G => J0 (nth undef T) G)) .e .e)))))
theorem jr418_2 (orc : FuncId → Bool) (J0 J1 J2 : Env → GS → OG) (T : List Value) (G : GS) : runC Q (evL Q orc) Tryz.f418.ntmps (jt418 J0 J1 J2) (bodyOf Tryz.f418) (retE Q Tryz.f418.results.toList) [true] (nth undef T) G = jb418_2 false (Ex.of (E orc)) J0 J1 (nth undef T) G := by kernel_rfl
theorem jr418_1 (orc : FuncId → Bool) (J0 J1 J2 : Env → GS → OG) (T : List Value) (G : GS) : runC Q (evL Q orc) Tryz.f418.ntmps (jt418 J0 J1 J2) (bodyOf Tryz.f418) (retE Q Tryz.f418.results.toList) [true, true, true] (nth undef T) G = jb418_1 false (Ex.of (E orc)) J0 (nth undef T) G := by kernel_rfl
theorem jr418_0 (orc : FuncId → Bool) (J0 J1 J2 : Env → GS → OG) (T : List Value) (G : GS) : runC Q (evL Q orc) Tryz.f418.ntmps (jt418 J0 J1 J2) (bodyOf Tryz.f418) (retE Q Tryz.f418.results.toList) [true, true, true, true] (nth undef T) G = jb418_0 false (Ex.of (E orc))  (nth undef T) G := by kernel_rfl
theorem jo418 (orc : FuncId → Bool) : JOk Q orc Tryz.f418.ntmps (jt418 (j418_0 false (Ex.of (E orc))) (j418_1 false (Ex.of (E orc))) (j418_2 false (Ex.of (E orc))) ) (bodyOf Tryz.f418) (retE Q Tryz.f418.results.toList) :=
  jOk Q orc (l := [([true], (fun T G => j418_2 false (Ex.of (E orc)) (nth undef T) G)), ([true, true, true], (fun T G => j418_1 false (Ex.of (E orc)) (nth undef T) G)), ([true, true, true, true], (fun T G => j418_0 false (Ex.of (E orc)) (nth undef T) G))]) (by kernel_rfl) (AllE.c (fun T G => jr418_2 orc (j418_0 false (Ex.of (E orc))) (j418_1 false (Ex.of (E orc))) (j418_2 false (Ex.of (E orc))) T G) (AllE.c (fun T G => jr418_1 orc (j418_0 false (Ex.of (E orc))) (j418_1 false (Ex.of (E orc))) (j418_2 false (Ex.of (E orc))) T G) (AllE.c (fun T G => jr418_0 orc (j418_0 false (Ex.of (E orc))) (j418_1 false (Ex.of (E orc))) (j418_2 false (Ex.of (E orc))) T G) (AllE.z))))
theorem je418 (orc : FuncId → Bool) (J0 J1 J2 : Env → GS → OG) (v0 v1 : Value) (G : GS) : sxC Q (evL Q orc) Tryz.f418.ntmps (jt418 J0 J1 J2) (bodyOf Tryz.f418) (nth undef [v0, v1]) G (retE Q Tryz.f418.results.toList) = sb418 false (Ex.of (E orc)) J0 J1 J2 v0 v1 G := by kernel_rfl
theorem f418 {orc : FuncId → Bool} {e : Ex} (h : ExLe Q e (E orc)) (v0 v1 : Value) (G : GS) : Ref (s418 true e v0 v1 G) ((E orc).cl 418 [v0, v1] G) :=
  fun r hr => cl_sxC Q orc (vs := [v0, v1]) G (jt418 (j418_0 false (Ex.of (E orc))) (j418_1 false (Ex.of (E orc))) (j418_2 false (Ex.of (E orc))) ) Tryz.func418 (by kernel_rfl) (by kernel_rfl) (by kernel_rfl) (by kernel_rfl) (by kernel_rfl) (jo418 orc) (je418 orc (j418_0 false (Ex.of (E orc))) (j418_1 false (Ex.of (E orc))) (j418_2 false (Ex.of (E orc))) v0 v1 G) (m418 h v0 v1 G r hr)
def b419_0 (q : Bool) (e : Ex) (lp : LpF) (τ : Env) (G : GS) : OL :=
  bV q (τ 0) fun a0_ =>
  bV q (τ 1) fun a1_ =>
  bV q (τ 12) fun a12_ =>
  bV q (τ 13) fun a13_ =>
  bP (bn Q q .lss 3 (.tmp 13) (.const (.int .i64 4)) a13_ (.int .i64 4)) fun x0 =>
  ifV x0 (
  bP (ix Q q 444 4 a12_ a13_) fun x1 =>
  bP (pNil a0_) fun x2 =>
  bP (fa Q q 446 3 6 x2) fun x3 =>
  bP (ld Q q 3 x3 G) fun x4 =>
  bP (bn Q q .eql 3 (.tmp 17) (.tmp 21) a13_ x4) fun x5 =>
  ifV x5 (
  bS (cValue e.ev x1 [a1_] G) fun x6 G7 =>
  some ((.exit 0), xq q 36 τ [(25, x6), (24, a1_), (23, x1), (22, x5), (21, x4), (20, x3), (19, x2), (18, a0_), (17, a13_), (6, x1), (5, a13_), (16, x1), (15, a13_), (14, x0)] [(0, a0_), (1, a1_), (12, a12_), (13, a13_)], G7)) (
  bP (bn Q q .add 3 (.tmp 13) (.const (.int .i64 1)) a13_ (.int .i64 1)) fun x8 =>
  lp (xq q 36 τ [(13, x8), (26, x8), (22, x5), (21, x4), (20, x3), (19, x2), (18, a0_), (17, a13_), (6, x1), (5, a13_), (16, x1), (15, a13_), (14, x0)] [(0, a0_), (1, a1_), (12, a12_)]) G)) (
  some ((.exit 0), xq q 36 τ [(14, x0)] [(0, a0_), (1, a1_), (12, a12_), (13, a13_)], G))
theorem l419_0 (h : ExLe Q e (E orc)) : LT orc 36 (subAt [1, 1, 0, 1, 0, 0] (bodyOf Tryz.f419)) (b419_0 true e) := cL fun hlp τ G => by unfold b419_0; exact Ref.gq
/-- (*coxswain/tower.Lay).Step -/
def s419 (q : Bool) (e : Ex) (v0 v1 : Value) (G : GS) : OG :=
  bS (e.ev.cl 420 [v0] G) fun x0 G1 =>
  ifV x0 (
  some ((.bool true), G1)) (
  bP (pNil v0) fun x2 =>
  bP (fa Q q 446 2 2 x2) fun x3 =>
  bP (lda Q q 444 4 x3 G1) fun x4 =>
  bLq q e 419 0 (subAt [1, 1, 0, 1, 0, 0] (bodyOf Tryz.f419)) 36 (nth undef [v0, v1]) [(13, (.int .i64 0)), (12, x4), (11, x3), (10, x2), (9, v0), (8, x0), (7, v0), (4, (.bool false))] [] G1 fun e5 t6 G7 =>
  bV q (t6 0) fun t6x0_ =>
  ifE e5 (.exit 0) (
  nl q 446 3 6 3 t6x0_ G7 fun x10 =>
  bP (bn Q q .add 3 (.tmp 30) (.const (.int .i64 1)) x10 (.int .i64 1)) fun x11 =>
  nf q 446 3 6 t6x0_ fun x13 =>
  bP (st Q q 3 1 x13 x11 G7) fun G14 =>
  bS (e.ev.cl 420 [t6x0_] G14) fun x15 G16 =>
  some (x15, G16)) (none))
theorem f419 (h : ExLe Q e (E orc)) (v0 v1 : Value) (G : GS) : Ref (s419 true e v0 v1 G) ((E orc).cl 419 [v0, v1] G) := cS (S := fun q e => s419 q e v0 v1 G) Tryz.func419 (by unfold s419; exact Ref.gq)
/-- (*coxswain/tower.Lay).over -/
def s420 (q : Bool) (e : Ex) (v0 : Value) (G : GS) : OG :=
  bP (ep Q q false 415 (.tmp 3) (.const (.pointer none)) v0 (.pointer none)) fun x0 =>
  bS (gV x0 false v0 G) fun x1 G2 =>
  bS (gP x0 false (pNil x1) G2) fun x3 G4 =>
  bS (gP x0 false (fa Q q 446 0 0 x3) G4) fun x5 G6 =>
  bS (gP x0 false (ld Q q 4 x5 G6) G6) fun x7 G8 =>
  bS (gP x0 false (un Q q .not x7) G8) fun x9 G10 =>
  bP (pickV x0 (.bool true) x9) fun x11 =>
  bS (gV x11 false v0 G10) fun x12 G13 =>
  bS (gP x11 false (pNil x12) G13) fun x14 G15 =>
  bS (gP x11 false (fa Q q 446 3 6 x14) G15) fun x16 G17 =>
  bS (gP x11 false (ld Q q 3 x16 G17) G17) fun x18 G19 =>
  bS (gP x11 false (bn Q q .eql 3 (.tmp 16) (.const (.int .i64 4)) x18 (.int .i64 4)) G19) fun x20 G21 =>
  bP (pickV x11 (.bool true) x20) fun x22 =>
  some (x22, G21)
theorem f420 (h : ExLe Q e (E orc)) (v0 : Value) (G : GS) : Ref (s420 true e v0 G) ((E orc).cl 420 [v0] G) := cS (S := fun q e => s420 q e v0 G) Tryz.func420 (by unfold s420; exact Ref.gq)
def jb421_0 (q : Bool) (e : Ex) (τ : Env) (G : GS) : OG :=
  bV q (τ 6) fun a6_ =>
  bV q (τ 7) fun a7_ =>
  some (.tuple #[a6_, a7_], G)
def j421_0 (q : Bool) (e : Ex) (τ : Env) (G : GS) : OG := jb421_0 q e τ G
theorem mj421_0 {e : Ex} {E : Ev} (h : ExLe Q e E) (τ : Env) (G : GS) : Ref (j421_0 true e τ G) (j421_0 false (Ex.of E) τ G) := by
  unfold j421_0 jb421_0
  exact Ref.gq
theorem mkj421_0 {e : Ex} {E : Ev} (h : ExLe Q e E) {τ : Env} {l U : List (Nat × Value)} {G : GS} (hU : UOk τ U) : Ref (j421_0 true e (xq true 64 τ l U) G) (j421_0 false (Ex.of E) (xq false 64 τ l U) G) := by
  rw [xq_eq hU]
  exact mj421_0 h _ _
def jb421_1 (q : Bool) (e : Ex) (J0 : Env → GS → OG) (τ : Env) (G : GS) : OG :=
  bV q (τ 0) fun a0_ =>
  bV q (τ 6) fun a6_ =>
  bS (gV a6_ true a0_ G) fun x6 G7 =>
  bS (gP a6_ true (pNil x6) G7) fun x8 G9 =>
  bS (gP a6_ true (fa Q q 429 2 2 x8) G9) fun x10 G11 =>
  bS (gP a6_ true (ld Q q 427 x10 G11) G11) fun x12 G13 =>
  bS (gP a6_ true (ef Q q true 427 (.tmp 50) (.const .nilFunc) x12 .nilFunc) G13) fun x14 G15 =>
  bP (pickV a6_ x14 (.bool false)) fun x16 =>
  ifV x16 (
  bP (pNil a0_) fun x17 =>
  bP (fa Q q 429 2 2 x17) fun x18 =>
  bP (ld Q q 427 x18 (G15.room 9)) fun x19 =>
  bP (pNil a0_) fun x20 =>
  bP (fa Q q 429 3 3 x20) fun x21 =>
  bP (ld Q q 423 x21 (G15.room 9)) fun x22 =>
  bS (cValue e.ev x19 [x22] (G15.room 9)) fun x24 G23 =>
  J0 (xq q 64 τ [(61, x24), (60, x22), (59, x21), (58, x20), (57, a0_), (56, x19), (55, x18), (54, x17), (53, a0_), (52, x16), (51, x14), (50, x12), (49, x10), (48, x8), (47, x6), (46, a6_), (45, a6_)] []) G23) (
  J0 (xq q 64 τ [(52, x16), (51, x14), (50, x12), (49, x10), (48, x8), (47, x6), (46, a6_), (45, a6_)] []) G15)
def j421_1 (q : Bool) (e : Ex) (τ : Env) (G : GS) : OG := jb421_1 q e (j421_0 q e) τ G
theorem mj421_1 {e : Ex} {E : Ev} (h : ExLe Q e E) (τ : Env) (G : GS) : Ref (j421_1 true e τ G) (j421_1 false (Ex.of E) τ G) := by
  unfold j421_1 jb421_1
  have j0 := @mkj421_0 e E h
  exact Ref.gj
theorem mkj421_1 {e : Ex} {E : Ev} (h : ExLe Q e E) {τ : Env} {l U : List (Nat × Value)} {G : GS} (hU : UOk τ U) : Ref (j421_1 true e (xq true 64 τ l U) G) (j421_1 false (Ex.of E) (xq false 64 τ l U) G) := by
  rw [xq_eq hU]
  exact mj421_1 h _ _
def jb421_2 (q : Bool) (e : Ex) (J0 J1 : Env → GS → OG) (τ : Env) (G : GS) : OG :=
  bV q (τ 0) fun a0_ =>
  bV q (τ 1) fun a1_ =>
  bP (pNil a0_) fun x0 =>
  bP (fa Q q 429 3 3 x0) fun x1 =>
  bP (ld Q q 423 x1 G) fun x2 =>
  bP (ifc Q q 423 x2) fun x3 =>
  bS (cInvoke Q e.ev x3 "Step" [a1_] G) fun x4 G5 =>
  bP (pNil a0_) fun x25 =>
  bP (fa Q q 429 1 1 x25) fun x26 =>
  bP (ld Q q 426 x26 G5) fun x27 =>
  bP (ef Q q true 426 (.tmp 34) (.const .nilFunc) x27 .nilFunc) fun x28 =>
  ifV x28 (
  bP (pNil a0_) fun x29 =>
  bP (fa Q q 429 1 1 x29) fun x30 =>
  bP (ld Q q 426 x30 (G5.room 10)) fun x31 =>
  bP (pNil a0_) fun x32 =>
  bP (fa Q q 429 3 3 x32) fun x33 =>
  bP (ld Q q 423 x33 (G5.room 10)) fun x34 =>
  bS (cValue e.ev x31 [x34] (G5.room 10)) fun x36 G35 =>
  J1 (xq q 64 τ [(7, x36), (44, x36), (43, x34), (42, x33), (41, x32), (40, a0_), (39, x31), (38, x30), (37, x29), (36, a0_), (35, x28), (34, x27), (33, x26), (32, x25), (31, a0_), (7, (.int .u64 0)), (6, x4), (30, x4), (29, a1_), (28, x3), (27, x2), (26, x1), (25, x0), (24, a0_)] []) G35) (
  J1 (xq q 64 τ [(35, x28), (34, x27), (33, x26), (32, x25), (31, a0_), (7, (.int .u64 0)), (6, x4), (30, x4), (29, a1_), (28, x3), (27, x2), (26, x1), (25, x0), (24, a0_)] []) G5)
def j421_2 (q : Bool) (e : Ex) (τ : Env) (G : GS) : OG := jb421_2 q e (j421_0 q e) (j421_1 q e) τ G
theorem mj421_2 {e : Ex} {E : Ev} (h : ExLe Q e E) (τ : Env) (G : GS) : Ref (j421_2 true e τ G) (j421_2 false (Ex.of E) τ G) := by
  unfold j421_2 jb421_2
  have j0 := @mkj421_0 e E h
  have j1 := @mkj421_1 e E h
  exact Ref.gj
theorem mkj421_2 {e : Ex} {E : Ev} (h : ExLe Q e E) {τ : Env} {l U : List (Nat × Value)} {G : GS} (hU : UOk τ U) : Ref (j421_2 true e (xq true 64 τ l U) G) (j421_2 false (Ex.of E) (xq false 64 τ l U) G) := by
  rw [xq_eq hU]
  exact mj421_2 h _ _
def sb421 (q : Bool) (e : Ex) (J0 J1 J2 : Env → GS → OG) (v0 v1 : Value) (G : GS) : OG :=
  bP (pNil v0) fun x37 =>
  bP (fa Q q 429 4 4 x37) fun x38 =>
  bP (ld Q q 4 x38 G) fun x39 =>
  bP (un Q q .not x39) fun x40 =>
  ifV x40 (
  bP (pNil v0) fun x41 =>
  bP (fa Q q 429 0 0 x41) fun x42 =>
  bP (ld Q q 425 x42 G) fun x43 =>
  bS (cValue e.ev x43 [] G) fun x44 G45 =>
  bP (pNil v0) fun x46 =>
  bP (fa Q q 429 3 3 x46) fun x47 =>
  bP (st Q q 423 1 x47 x44 G45) fun G48 =>
  bP (pNil v0) fun x49 =>
  bP (fa Q q 429 4 4 x49) fun x50 =>
  bP (st Q q 4 1 x50 (.bool true) G48) fun G51 =>
  J2 (xq q 64 (nth undef [v0, v1]) [(23, x50), (22, x49), (21, x47), (20, x46), (19, x44), (18, x43), (17, x42), (16, x41), (15, v0), (14, v0), (13, v0), (12, x40), (11, x39), (10, x38), (9, x37), (8, v0), (5, (.int .u64 0)), (4, (.bool false))] []) G51) (
  J2 (xq q 64 (nth undef [v0, v1]) [(12, x40), (11, x39), (10, x38), (9, x37), (8, v0), (5, (.int .u64 0)), (4, (.bool false))] []) G)
/-- (*coxswain/ready.part[*coxswain/insert.Insert]).run -/
def s421 (q : Bool) (e : Ex) (v0 v1 : Value) (G : GS) : OG := sb421 q e (j421_0 q e) (j421_1 q e) (j421_2 q e) v0 v1 G
theorem m421 {e : Ex} {E : Ev} (h : ExLe Q e E) (v0 v1 : Value) (G : GS) : Ref (s421 true e v0 v1 G) (s421 false (Ex.of E) v0 v1 G) := by
  unfold s421 sb421
  have j0 := @mkj421_0 e E h
  have j1 := @mkj421_1 e E h
  have j2 := @mkj421_2 e E h
  exact Ref.gj
def jt421 (J0 J1 J2 : Env → GS → OG) : JT (Value × GS) :=
  (.n none .e (.n (some (fun T G => J2 (nth undef T) G)) .e (.n none .e (.n (some (fun T G => J1 (nth undef T) G)) .e (.n (some (fun T G => J0 (nth undef T) G)) .e .e)))))
theorem jr421_2 (orc : FuncId → Bool) (J0 J1 J2 : Env → GS → OG) (T : List Value) (G : GS) : runC Q (evL Q orc) Tryz.f421.ntmps (jt421 J0 J1 J2) (bodyOf Tryz.f421) (retE Q Tryz.f421.results.toList) [true] (nth undef T) G = jb421_2 false (Ex.of (E orc)) J0 J1 (nth undef T) G := by kernel_rfl
theorem jr421_1 (orc : FuncId → Bool) (J0 J1 J2 : Env → GS → OG) (T : List Value) (G : GS) : runC Q (evL Q orc) Tryz.f421.ntmps (jt421 J0 J1 J2) (bodyOf Tryz.f421) (retE Q Tryz.f421.results.toList) [true, true, true] (nth undef T) G = jb421_1 false (Ex.of (E orc)) J0 (nth undef T) G := by kernel_rfl
theorem jr421_0 (orc : FuncId → Bool) (J0 J1 J2 : Env → GS → OG) (T : List Value) (G : GS) : runC Q (evL Q orc) Tryz.f421.ntmps (jt421 J0 J1 J2) (bodyOf Tryz.f421) (retE Q Tryz.f421.results.toList) [true, true, true, true] (nth undef T) G = jb421_0 false (Ex.of (E orc))  (nth undef T) G := by kernel_rfl
theorem jo421 (orc : FuncId → Bool) : JOk Q orc Tryz.f421.ntmps (jt421 (j421_0 false (Ex.of (E orc))) (j421_1 false (Ex.of (E orc))) (j421_2 false (Ex.of (E orc))) ) (bodyOf Tryz.f421) (retE Q Tryz.f421.results.toList) :=
  jOk Q orc (l := [([true], (fun T G => j421_2 false (Ex.of (E orc)) (nth undef T) G)), ([true, true, true], (fun T G => j421_1 false (Ex.of (E orc)) (nth undef T) G)), ([true, true, true, true], (fun T G => j421_0 false (Ex.of (E orc)) (nth undef T) G))]) (by kernel_rfl) (AllE.c (fun T G => jr421_2 orc (j421_0 false (Ex.of (E orc))) (j421_1 false (Ex.of (E orc))) (j421_2 false (Ex.of (E orc))) T G) (AllE.c (fun T G => jr421_1 orc (j421_0 false (Ex.of (E orc))) (j421_1 false (Ex.of (E orc))) (j421_2 false (Ex.of (E orc))) T G) (AllE.c (fun T G => jr421_0 orc (j421_0 false (Ex.of (E orc))) (j421_1 false (Ex.of (E orc))) (j421_2 false (Ex.of (E orc))) T G) (AllE.z))))
theorem je421 (orc : FuncId → Bool) (J0 J1 J2 : Env → GS → OG) (v0 v1 : Value) (G : GS) : sxC Q (evL Q orc) Tryz.f421.ntmps (jt421 J0 J1 J2) (bodyOf Tryz.f421) (nth undef [v0, v1]) G (retE Q Tryz.f421.results.toList) = sb421 false (Ex.of (E orc)) J0 J1 J2 v0 v1 G := by kernel_rfl
theorem f421 {orc : FuncId → Bool} {e : Ex} (h : ExLe Q e (E orc)) (v0 v1 : Value) (G : GS) : Ref (s421 true e v0 v1 G) ((E orc).cl 421 [v0, v1] G) :=
  fun r hr => cl_sxC Q orc (vs := [v0, v1]) G (jt421 (j421_0 false (Ex.of (E orc))) (j421_1 false (Ex.of (E orc))) (j421_2 false (Ex.of (E orc))) ) Tryz.func421 (by kernel_rfl) (by kernel_rfl) (by kernel_rfl) (by kernel_rfl) (by kernel_rfl) (jo421 orc) (je421 orc (j421_0 false (Ex.of (E orc))) (j421_1 false (Ex.of (E orc))) (j421_2 false (Ex.of (E orc))) v0 v1 G) (m421 h v0 v1 G r hr)
/-- (*coxswain/insert.Insert).Step -/
def s422 (q : Bool) (e : Ex) (v0 v1 : Value) (G : GS) : OG :=
  bP (ep Q q false 423 (.tmp 6) (.const (.pointer none)) v0 (.pointer none)) fun x0 =>
  bS (gV x0 false v0 G) fun x1 G2 =>
  bS (gP x0 false (pNil x1) G2) fun x3 G4 =>
  bS (gP x0 false (fa Q q 450 7 19 x3) G4) fun x5 G6 =>
  bS (gP x0 false (ld Q q 448 x5 G6) G6) fun x7 G8 =>
  bS (gP x0 false (bn Q q .eql 448 (.tmp 12) (.const (.int .i64 0)) x7 (.int .i64 0)) G8) fun x9 G10 =>
  bP (pickV x0 (.bool true) x9) fun x11 =>
  ifV x11 (
  some ((.bool true), G10)) (
  bS (e.ev.cl 423 [] G10) fun x12 G13 =>
  bS (al Q q 496 z496 G13) fun x14 G15 =>
  bP (st Q q 496 13 x14 x12 G15) fun G16 =>
  nl q 450 7 19 448 v0 G16 fun x19 =>
  bP (iaa Q q 496 13 1 x14 x19) fun x20 =>
  bP (ld Q q 495 x20 G16) fun x21 =>
  bS (cValue e.ev x21 [v0, v1] G16) fun x22 G23 =>
  nf q 450 7 19 v0 fun x25 =>
  bP (st Q q 448 1 x25 x22 G23) fun G26 =>
  nl q 450 7 19 448 v0 G26 fun x29 =>
  bP (bn Q q .eql 448 (.tmp 31) (.const (.int .i64 0)) x29 (.int .i64 0)) fun x30 =>
  some (x30, G26))
theorem f422 (h : ExLe Q e (E orc)) (v0 v1 : Value) (G : GS) : Ref (s422 true e v0 v1 G) ((E orc).cl 422 [v0, v1] G) := cS (S := fun q e => s422 q e v0 v1 G) Tryz.func422 (by unfold s422; exact Ref.gq)
/-- coxswain/insert.table -/
def s423 (q : Bool) (e : Ex) (G : GS) : OG :=
  bS (al Q q 496 z496 G) fun x0 G1 =>
  bP (bd Q q 496 z496 [(1, 1, 1), (2, 2, 1), (3, 3, 1), (4, 4, 1), (5, 5, 1), (6, 6, 1), (7, 7, 1), (8, 8, 1), (9, 9, 1), (10, 10, 1), (11, 11, 1), (12, 12, 1)] [(.func (.func 424) #[] #[]), (.func (.func 425) #[] #[]), (.func (.func 426) #[] #[]), (.func (.func 427) #[] #[]), (.func (.func 428) #[] #[]), (.func (.func 429) #[] #[]), (.func (.func 430) #[] #[]), (.func (.func 431) #[] #[]), (.func (.func 432) #[] #[]), (.func (.func 433) #[] #[]), (.func (.func 434) #[] #[]), (.func (.func 435) #[] #[])]) fun x2 =>
  bP (st Q q 496 13 x0 x2 G1) fun G3 =>
  bP (lda Q q 496 13 x0 G3) fun x4 =>
  some (x4, G3)
theorem f423 (h : ExLe Q e (E orc)) (ho : orc 423 = false) (G : GS) : Ref (s423 true e  G) ((E orc).cl 423 [] G) := cS (S := fun q e => s423 q e  G) (ho := ho) Tryz.func423 (by unfold s423; exact Ref.gq)
/-- (*coxswain/insert.Insert).find -/
def s424 (q : Bool) (e : Ex) (v0 v1 : Value) (G : GS) : OG :=
  bS (e.ev.cl 436 [v0, v1] G) fun x0 G1 =>
  bP (un Q q .not x0) fun x2 =>
  ifV x2 (
  some ((.int .i64 1), G1)) (
  nf q 450 8 20 v0 fun x4 =>
  bP (st Q q 3 1 x4 (.int .i64 0) G1) fun G5 =>
  some ((.int .i64 2), G5))
theorem f424 (h : ExLe Q e (E orc)) (v0 v1 : Value) (G : GS) : Ref (s424 true e v0 v1 G) ((E orc).cl 424 [v0, v1] G) := cS (S := fun q e => s424 q e v0 v1 G) Tryz.func424 (by unfold s424; exact Ref.gq)
def b425_0 (q : Bool) (e : Ex) (lp : LpF) (τ : Env) (G : GS) : OL :=
  bV q (τ 0) fun a0_ =>
  bV q (τ 1) fun a1_ =>
  bV q (τ 16) fun a16_ =>
  bV q (τ 17) fun a17_ =>
  bP (bn Q q .lss 3 (.tmp 17) (.tmp 16) a17_ a16_) fun x0 =>
  ifV x0 (
  bP (pNil a0_) fun x1 =>
  bP (fa Q q 450 8 20 x1) fun x2 =>
  bP (ld Q q 3 x2 G) fun x3 =>
  bP (bn Q q .neq 3 (.tmp 20) (.tmp 24) a17_ x3) fun x4 =>
  ifV x4 (
  bP (bn Q q .add 3 (.tmp 17) (.const (.int .i64 1)) a17_ (.int .i64 1)) fun x5 =>
  lp (xq q 66 τ [(17, x5), (46, x5), (25, x4), (24, x3), (23, x2), (22, x1), (21, a0_), (20, a17_), (5, a17_), (19, a17_), (18, x0)] [(0, a0_), (1, a1_), (16, a16_)]) G) (
  bP (pNil a0_) fun x6 =>
  bP (fa Q q 450 0 0 x6) fun x7 =>
  bP (lda Q q 31 13 x7 (G.room 20)) fun x8 =>
  bP (pNil a0_) fun x9 =>
  bP (fa Q q 450 5 17 x9) fun x10 =>
  bP (ld Q q 3 x10 (G.room 20)) fun x11 =>
  bS (e.ev.cl 99 [x8, x11, a17_] (G.room 20)) fun x13 G12 =>
  bP (pNil a0_) fun x14 =>
  bP (fa Q q 450 10 22 x14) fun x15 =>
  bP (ld Q q 186 x15 G12) fun x16 =>
  chk ((sameO (ld Q q 186 x15 (G.room 20)) x16 && true)) <|
  bS (e.ev.cl 437 [x16] G12) fun x18 G17 =>
  bP (ias Q q 54 1 x18 a17_) fun x19 =>
  bP (ld Q q 37 x19 G17) fun x20 =>
  bS (e.ev.cl 16 [a1_, x13, x20] G17) fun x22 G21 =>
  bP (bn Q q .add 3 (.tmp 17) (.const (.int .i64 1)) a17_ (.int .i64 1)) fun x23 =>
  lp (xq q 66 τ [(17, x23), (46, x23), (45, x22), (44, x20), (43, x19), (42, a17_), (41, x18), (40, x16), (39, x15), (38, x14), (37, a0_), (36, x13), (35, a17_), (34, x11), (33, x10), (32, x9), (31, a0_), (30, x8), (29, x7), (28, x6), (27, a0_), (26, a1_), (25, x4), (24, x3), (23, x2), (22, x1), (21, a0_), (20, a17_), (5, a17_), (19, a17_), (18, x0)] [(0, a0_), (1, a1_), (16, a16_)]) G21)) (
  some ((.exit 0), xq q 66 τ [(18, x0)] [(0, a0_), (1, a1_), (16, a16_), (17, a17_)], G))
theorem l425_0 (h : ExLe Q e (E orc)) : LT orc 66 (subAt [1, 0, 1, 1, 0, 1, 0, 0] (bodyOf Tryz.f425)) (b425_0 true e) := cL fun hlp τ G => by unfold b425_0; exact Ref.gq
/-- (*coxswain/insert.Insert).store -/
def s425 (q : Bool) (e : Ex) (v0 v1 : Value) (G : GS) : OG :=
  bP (pNil v0) fun x0 =>
  bP (fa Q q 450 3 15 x0) fun x1 =>
  bP (ld Q q 37 x1 G) fun x2 =>
  bP (pNil v0) fun x3 =>
  bP (fa Q q 450 12 24 x3) fun x4 =>
  bP (st Q q 37 1 x4 x2 G) fun G5 =>
  bP (pNil v0) fun x6 =>
  bP (fa Q q 450 6 18 x6) fun x7 =>
  bP (ld Q q 3 x7 G5) fun x8 =>
  bLq q e 425 0 (subAt [1, 0, 1, 1, 0, 1, 0, 0] (bodyOf Tryz.f425)) 66 (nth undef [v0, v1]) [(17, (.int .i64 0)), (16, x8), (15, x7), (14, x6), (13, v0), (12, x4), (11, x3), (10, x2), (9, x1), (8, x0), (7, v0), (6, v0), (4, (.int .i64 0))] [] G5 fun e9 t10 G11 =>
  bV q (t10 0) fun t10x0_ =>
  ifE e9 (.exit 0) (
  nl q 450 8 20 3 t10x0_ G11 fun x14 =>
  bP (bn Q q .add 3 (.tmp 50) (.const (.int .i64 1)) x14 (.int .i64 1)) fun x15 =>
  nf q 450 8 20 t10x0_ fun x17 =>
  bP (st Q q 3 1 x17 x15 G11) fun G18 =>
  nl q 450 8 20 3 t10x0_ (G18.room 9) fun x21 =>
  nl q 450 6 18 3 t10x0_ (G18.room 9) fun x24 =>
  bP (bn Q q .lss 3 (.tmp 57) (.tmp 61) x21 x24) fun x25 =>
  ifV x25 (
  some ((.int .i64 2), (G18.room 9))) (
  nf q 450 8 20 t10x0_ fun x27 =>
  bP (st Q q 3 1 x27 (.int .i64 0) (G18.room 9)) fun G28 =>
  some ((.int .i64 3), G28))) (none)
theorem f425 (h : ExLe Q e (E orc)) (v0 v1 : Value) (G : GS) : Ref (s425 true e v0 v1 G) ((E orc).cl 425 [v0, v1] G) := cS (S := fun q e => s425 q e v0 v1 G) Tryz.func425 (by unfold s425; exact Ref.gq)
/-- (*coxswain/insert.Insert).enter -/
def s426 (q : Bool) (e : Ex) (v0 v1 : Value) (G : GS) : OG :=
  bS (e.ev.cl 438 [v0, v1] G) fun x0 G1 =>
  bP (un Q q .not x0) fun x2 =>
  ifV x2 (
  bS (e.ev.cl 326 [v0, (.int .i64 1)] G1) fun x3 G4 =>
  some (x3, G4)) (
  nf q 450 2 14 v0 fun x6 =>
  bP (st Q q 4 1 x6 (.bool true) G1) fun G7 =>
  nf q 450 8 20 v0 fun x9 =>
  bP (st Q q 3 1 x9 (.int .i64 1) G7) fun G10 =>
  bS (e.ev.cl 439 [v0] G10) fun x11 G12 =>
  some (x11, G12))
theorem f426 (h : ExLe Q e (E orc)) (v0 v1 : Value) (G : GS) : Ref (s426 true e v0 v1 G) ((E orc).cl 426 [v0, v1] G) := cS (S := fun q e => s426 q e v0 v1 G) Tryz.func426 (by unfold s426; exact Ref.gq)
/-- (*coxswain/insert.Insert).load -/
def s427 (q : Bool) (e : Ex) (v0 v1 : Value) (G : GS) : OG :=
  nl q 450 8 20 3 v0 G fun x2 =>
  bS (e.ev.cl 440 [v0, v1, x2] G) fun x3 G4 =>
  nf q 450 9 21 v0 fun x6 =>
  bP (st Q q 37 1 x6 x3 G4) fun G7 =>
  nl q 450 9 21 37 v0 G7 fun x10 =>
  bS (e.ev.cl 238 [x10] G7) fun x11 G12 =>
  ifV x11 (
  some ((.int .i64 9), G12)) (
  nf q 450 9 21 v0 fun x14 =>
  bP (ld Q q 37 x14 (G12.room 17)) fun x15 =>
  nl q 450 10 22 186 v0 (G12.room 17) fun x18 =>
  bS (e.ev.cl 437 [x18] (G12.room 17)) fun x20 G19 =>
  chk ((sameO (ld Q q 37 x14 G19) x15 && true)) <|
  nf q 450 8 20 v0 fun x22 =>
  bP (ld Q q 3 x22 G19) fun x23 =>
  chk ((sameO (ld Q q 3 x22 (G12.room 17)) x23 && true)) <|
  bP (ias Q q 54 1 x20 x23) fun x24 =>
  bP (ld Q q 37 x24 G19) fun x25 =>
  bP (bn Q q .neq 37 (.tmp 25) (.tmp 36) x15 x25) fun x26 =>
  ifV x26 (
  some ((.int .i64 5), G19)) (
  some ((.int .i64 6), G19)))
theorem f427 (h : ExLe Q e (E orc)) (v0 v1 : Value) (G : GS) : Ref (s427 true e v0 v1 G) ((E orc).cl 427 [v0, v1] G) := cS (S := fun q e => s427 q e v0 v1 G) Tryz.func427 (by unfold s427; exact Ref.gq)
/-- (*coxswain/insert.Insert).turn -/
def s428 (q : Bool) (e : Ex) (v0 v1 : Value) (G : GS) : OG :=
  nf q 450 0 0 v0 fun x1 =>
  bP (lda Q q 31 13 x1 (G.room 31)) fun x2 =>
  nl q 450 5 17 3 v0 (G.room 31) fun x5 =>
  nl q 450 8 20 3 v0 (G.room 31) fun x8 =>
  bS (e.ev.cl 99 [x2, x5, x8] (G.room 31)) fun x10 G9 =>
  nf q 450 9 21 v0 fun x12 =>
  bP (ld Q q 37 x12 G9) fun x13 =>
  chk ((sameO (ld Q q 37 x12 (G.room 31)) x13 && true)) <|
  nf q 450 10 22 v0 fun x15 =>
  bP (ld Q q 186 x15 G9) fun x16 =>
  chk ((sameO (ld Q q 186 x15 (G.room 31)) x16 && true)) <|
  bS (e.ev.cl 437 [x16] G9) fun x18 G17 =>
  chk ((sameO (ld Q q 37 x12 G17) x13 && true)) <|
  nf q 450 8 20 v0 fun x20 =>
  bP (ld Q q 3 x20 G17) fun x21 =>
  chk ((sameO (ld Q q 3 x20 G9) x21 && (sameO (ld Q q 3 x20 (G.room 31)) x21 && true))) <|
  bP (ias Q q 54 1 x18 x21) fun x22 =>
  bP (ld Q q 37 x22 G17) fun x23 =>
  bS (e.ev.cl 441 [v0, v1, x10, x13, x23] G17) fun x25 G24 =>
  ifV x25 (
  some ((.int .i64 6), G24)) (
  some ((.int .i64 9), G24))
theorem f428 (h : ExLe Q e (E orc)) (v0 v1 : Value) (G : GS) : Ref (s428 true e v0 v1 G) ((E orc).cl 428 [v0, v1] G) := cS (S := fun q e => s428 q e v0 v1 G) Tryz.func428 (by unfold s428; exact Ref.gq)
/-- (*coxswain/insert.Insert).link -/
def s429 (q : Bool) (e : Ex) (v0 v1 : Value) (G : GS) : OG :=
  bS (e.ev.cl 438 [v0, v1] G) fun x0 G1 =>
  bP (un Q q .not x0) fun x2 =>
  ifV x2 (
  bS (e.ev.cl 326 [v0, (.int .i64 7)] G1) fun x3 G4 =>
  some (x3, G4)) (
  nl q 450 8 20 3 v0 G1 fun x7 =>
  bP (bn Q q .add 3 (.tmp 14) (.const (.int .i64 1)) x7 (.int .i64 1)) fun x8 =>
  nf q 450 8 20 v0 fun x10 =>
  bP (st Q q 3 1 x10 x8 G1) fun G11 =>
  bS (e.ev.cl 439 [v0] G11) fun x12 G13 =>
  some (x12, G13))
theorem f429 (h : ExLe Q e (E orc)) (v0 v1 : Value) (G : GS) : Ref (s429 true e v0 v1 G) ((E orc).cl 429 [v0, v1] G) := cS (S := fun q e => s429 q e v0 v1 G) Tryz.func429 (by unfold s429; exact Ref.gq)
/-- (*coxswain/insert.Insert).findAgain -/
def s430 (q : Bool) (e : Ex) (v0 v1 : Value) (G : GS) : OG :=
  bS (e.ev.cl 436 [v0, v1] G) fun x0 G1 =>
  ifV x0 (
  some ((.int .i64 8), G1)) (
  some ((.int .i64 7), G1))
theorem f430 (h : ExLe Q e (E orc)) (v0 v1 : Value) (G : GS) : Ref (s430 true e v0 v1 G) ((E orc).cl 430 [v0, v1] G) := cS (S := fun q e => s430 q e v0 v1 G) Tryz.func430 (by unfold s430; exact Ref.gq)
/-- (*coxswain/insert.Insert).look -/
def s431 (q : Bool) (e : Ex) (v0 v1 : Value) (G : GS) : OG :=
  bS (e.ev.cl 440 [v0, v1, (.int .i64 0)] G) fun x0 G1 =>
  bS (e.ev.cl 238 [x0] G1) fun x2 G3 =>
  ifV x2 (
  bS (e.ev.cl 326 [v0, (.int .i64 10)] G3) fun x4 G5 =>
  some (x4, G5)) (
  some ((.int .i64 4), G3))
theorem f431 (h : ExLe Q e (E orc)) (v0 v1 : Value) (G : GS) : Ref (s431 true e v0 v1 G) ((E orc).cl 431 [v0, v1] G) := cS (S := fun q e => s431 q e v0 v1 G) Tryz.func431 (by unfold s431; exact Ref.gq)
/-- (*coxswain/insert.Insert).ask -/
def s432 (q : Bool) (e : Ex) (v0 v1 : Value) (G : GS) : OG :=
  bS (e.ev.cl 440 [v0, v1, (.int .i64 0)] G) fun x0 G1 =>
  bS (e.ev.cl 238 [x0] G1) fun x2 G3 =>
  ifV x2 (
  bS (e.ev.cl 326 [v0, (.int .i64 10)] G3) fun x4 G5 =>
  some (x4, G5)) (
  some ((.int .i64 11), G3))
theorem f432 (h : ExLe Q e (E orc)) (v0 v1 : Value) (G : GS) : Ref (s432 true e v0 v1 G) ((E orc).cl 432 [v0, v1] G) := cS (S := fun q e => s432 q e v0 v1 G) Tryz.func432 (by unfold s432; exact Ref.gq)
/-- (*coxswain/insert.Insert).clear -/
def s433 (q : Bool) (e : Ex) (v0 v1 : Value) (G : GS) : OG :=
  bS (e.ev.cl 436 [v0, v1] G) fun x0 G1 =>
  ifV x0 (
  some ((.int .i64 11), G1)) (
  some ((.int .i64 10), G1))
theorem f433 (h : ExLe Q e (E orc)) (v0 v1 : Value) (G : GS) : Ref (s433 true e v0 v1 G) ((E orc).cl 433 [v0, v1] G) := cS (S := fun q e => s433 q e v0 v1 G) Tryz.func433 (by unfold s433; exact Ref.gq)
/-- (*coxswain/insert.Insert).let -/
def s434 (q : Bool) (e : Ex) (v0 v1 : Value) (G : GS) : OG :=
  nl q 450 3 15 37 v0 G fun x2 =>
  nf q 450 12 24 v0 fun x4 =>
  bP (st Q q 37 1 x4 x2 G) fun G5 =>
  nf q 450 0 0 v0 fun x7 =>
  bP (lda Q q 31 13 x7 (G5.room 12)) fun x8 =>
  nl q 450 5 17 3 v0 (G5.room 12) fun x11 =>
  bS (e.ev.cl 105 [x8, x11, (.int .i64 3)] (G5.room 12)) fun x13 G12 =>
  bS (e.ev.cl 355 [v1, x13, (.int .u64 18446744073709551615)] G12) fun x15 G14 =>
  bP (bn Q q .neq 37 (.tmp 22) (.const (.int .u64 0)) x15 (.int .u64 0)) fun x16 =>
  ifV x16 (
  some ((.int .i64 0), G14)) (
  nf q 450 0 0 v0 fun x18 =>
  bP (fa Q q 31 3 3 x18) fun x19 =>
  bP (lda Q q 29 10 x19 (G14.room 14)) fun x20 =>
  nl q 450 5 17 3 v0 (G14.room 14) fun x23 =>
  bS (e.ev.cl 388 [x20, x23] (G14.room 14)) fun x25 G24 =>
  nf q 450 11 23 v0 fun x27 =>
  bP (st Q q 187 1 x27 x25 G24) fun G28 =>
  some ((.int .i64 12), G28))
theorem f434 (h : ExLe Q e (E orc)) (v0 v1 : Value) (G : GS) : Ref (s434 true e v0 v1 G) ((E orc).cl 434 [v0, v1] G) := cS (S := fun q e => s434 q e v0 v1 G) Tryz.func434 (by unfold s434; exact Ref.gq)
/-- (*coxswain/insert.Insert).wait -/
def s435 (q : Bool) (e : Ex) (v0 v1 : Value) (G : GS) : OG :=
  nf q 450 12 24 v0 fun x1 =>
  bP (st Q q 37 1 x1 (.int .u64 0) G) fun G2 =>
  nl q 450 11 23 187 v0 G2 fun x5 =>
  bS (e.ev.cl 389 [x5, v1] G2) fun x6 G7 =>
  ifV x6 (
  some ((.int .i64 0), G7)) (
  some ((.int .i64 12), G7))
theorem f435 (h : ExLe Q e (E orc)) (v0 v1 : Value) (G : GS) : Ref (s435 true e v0 v1 G) ((E orc).cl 435 [v0, v1] G) := cS (S := fun q e => s435 q e v0 v1 G) Tryz.func435 (by unfold s435; exact Ref.gq)
/-- (*coxswain/insert.Insert).seeks -/
def s436 (q : Bool) (e : Ex) (v0 v1 : Value) (G : GS) : OG :=
  nl q 450 10 22 186 v0 G fun x2 =>
  bS (e.ev.cl 386 [x2, v1] G) fun x3 G4 =>
  nl q 450 10 22 186 v0 G4 fun x7 =>
  bS (e.ev.cl 387 [x7] G4) fun x8 G9 =>
  nf q 450 12 24 v0 fun x11 =>
  bP (st Q q 37 1 x11 x8 G9) fun G12 =>
  some (x3, G12)
theorem f436 (h : ExLe Q e (E orc)) (v0 v1 : Value) (G : GS) : Ref (s436 true e v0 v1 G) ((E orc).cl 436 [v0, v1] G) := cS (S := fun q e => s436 q e v0 v1 G) Tryz.func436 (by unfold s436; exact Ref.gq)
def b437_0 (q : Bool) (e : Ex) (lp : LpF) (τ : Env) (G : GS) : OL :=
  bV q (τ 3) fun a3_ =>
  bV q (τ 7) fun a7_ =>
  bV q (τ 8) fun a8_ =>
  bV q (τ 9) fun a9_ =>
  bP (bn Q q .lss 3 (.tmp 9) (.tmp 8) a9_ a8_) fun x0 =>
  ifV x0 (
  bP (ias Q q 460 4 a7_ a9_) fun x1 =>
  bP (lda Q q 459 4 x1 G) fun x2 =>
  bS (al Q q 459 z459 G) fun x3 G4 =>
  bP (st Q q 459 4 x3 x2 G4) fun G5 =>
  bP (fa Q q 459 3 3 x3) fun x6 =>
  bP (ld Q q 37 x6 G5) fun x7 =>
  bS (bs Q q 54 1 (rep z37 1) 1 [(0, 0, 1)] [x7] G5) fun x8 G9 =>
  bS (ap Q q 54 54 1 8 a3_ x8 G9) fun x10 G11 =>
  bP (bn Q q .add 3 (.tmp 9) (.const (.int .i64 1)) a9_ (.int .i64 1)) fun x12 =>
  lp (xq q 20 τ [(9, x12), (18, x12), (3, x10), (17, x10), (16, x8), (15, x7), (14, x6), (13, a3_), (5, x3), (12, x2), (11, x1), (10, x0)] [(7, a7_), (8, a8_)]) G11) (
  some ((.exit 0), xq q 20 τ [(10, x0)] [(3, a3_), (7, a7_), (8, a8_), (9, a9_)], G))
theorem l437_0 (h : ExLe Q e (E orc)) : LT orc 20 (subAt [1, 1, 0, 1, 0, 0] (bodyOf Tryz.f437)) (b437_0 true e) := cL fun hlp τ G => by unfold b437_0; exact Ref.gq
/-- (*coxswain/find.Find).Succs -/
def s437 (q : Bool) (e : Ex) (v0 : Value) (G : GS) : OG :=
  bS (e.ev.cl 442 [v0] G) fun x0 G1 =>
  bP (ln Q q 460 x0) fun x2 =>
  bLq q e 437 0 (subAt [1, 1, 0, 1, 0, 0] (bodyOf Tryz.f437)) 20 (nth undef [v0]) [(9, (.int .i64 0)), (8, x2), (7, x0), (6, v0), (3, (.slice none 0 0)), (2, (.slice none 0 0))] [] G1 fun e3 t4 G5 =>
  bV q (t4 3) fun t4x3_ =>
  ifE e3 (.exit 0) (
  some (t4x3_, G5)) (none)
theorem f437 (h : ExLe Q e (E orc)) (v0 : Value) (G : GS) : Ref (s437 true e v0 G) ((E orc).cl 437 [v0] G) := cS (S := fun q e => s437 q e v0 G) Tryz.func437 (by unfold s437; exact Ref.gq)
/-- (*coxswain/insert.Insert).hangs -/
def s438 (q : Bool) (e : Ex) (v0 v1 : Value) (G : GS) : OG :=
  nl q 450 10 22 186 v0 (G.room 15) fun x2 =>
  bS (e.ev.cl 443 [x2] (G.room 15)) fun x4 G3 =>
  nf q 450 8 20 v0 fun x6 =>
  bP (ld Q q 3 x6 G3) fun x7 =>
  chk ((sameO (ld Q q 3 x6 (G.room 15)) x7 && true)) <|
  bP (ias Q q 54 1 x4 x7) fun x8 =>
  bP (ld Q q 37 x8 G3) fun x9 =>
  nf q 450 12 24 v0 fun x11 =>
  bP (st Q q 37 1 x11 x9 G3) fun G12 =>
  nf q 450 0 0 v0 fun x14 =>
  bP (lda Q q 31 13 x14 (G12.room 38)) fun x15 =>
  nl q 450 10 22 186 v0 (G12.room 38) fun x18 =>
  bS (e.ev.cl 444 [x18] (G12.room 38)) fun x20 G19 =>
  chk ((sameO (lda Q q 31 13 x14 G19) x15 && true)) <|
  nf q 450 8 20 v0 fun x22 =>
  bP (ld Q q 3 x22 G19) fun x23 =>
  chk ((sameO (ld Q q 3 x22 (G12.room 38)) x23 && true)) <|
  bP (ias Q q 127 1 x20 x23) fun x24 =>
  bP (ld Q q 3 x24 G19) fun x25 =>
  nf q 450 8 20 v0 fun x27 =>
  bP (ld Q q 3 x27 G19) fun x28 =>
  chk ((sameO (ld Q q 3 x27 (G12.room 38)) x28 && true)) <|
  bS (e.ev.cl 99 [x15, x25, x28] G19) fun x30 G29 =>
  nf q 450 10 22 v0 fun x32 =>
  bP (ld Q q 186 x32 G29) fun x33 =>
  chk ((sameO (ld Q q 186 x32 G19) x33 && (sameO (ld Q q 186 x32 (G12.room 38)) x33 && true))) <|
  bS (e.ev.cl 437 [x33] G29) fun x35 G34 =>
  nf q 450 8 20 v0 fun x37 =>
  bP (ld Q q 3 x37 G34) fun x38 =>
  chk ((sameO (ld Q q 3 x37 G29) x38 && (sameO (ld Q q 3 x37 G19) x38 && (sameO (ld Q q 3 x37 (G12.room 38)) x38 && true)))) <|
  bP (ias Q q 54 1 x35 x38) fun x39 =>
  bP (ld Q q 37 x39 G34) fun x40 =>
  nf q 450 3 15 v0 fun x42 =>
  bP (ld Q q 37 x42 G34) fun x43 =>
  chk ((sameO (ld Q q 37 x42 G29) x43 && (sameO (ld Q q 37 x42 G19) x43 && (sameO (ld Q q 37 x42 (G12.room 38)) x43 && true)))) <|
  bS (e.ev.cl 328 [v1, x30, x40, x43] G34) fun x45 G44 =>
  some (x45, G44)
theorem f438 (h : ExLe Q e (E orc)) (v0 v1 : Value) (G : GS) : Ref (s438 true e v0 v1 G) ((E orc).cl 438 [v0, v1] G) := cS (S := fun q e => s438 q e v0 v1 G) Tryz.func438 (by unfold s438; exact Ref.gq)
/-- (*coxswain/insert.Insert).up -/
def s439 (q : Bool) (e : Ex) (v0 : Value) (G : GS) : OG :=
  nl q 450 8 20 3 v0 (G.room 9) fun x2 =>
  nl q 450 6 18 3 v0 (G.room 9) fun x5 =>
  bP (bn Q q .geq 3 (.tmp 6) (.tmp 10) x2 x5) fun x6 =>
  ifV x6 (
  some ((.int .i64 9), (G.room 9))) (
  some ((.int .i64 4), (G.room 9)))
theorem f439 (h : ExLe Q e (E orc)) (v0 : Value) (G : GS) : Ref (s439 true e v0 G) ((E orc).cl 439 [v0] G) := cS (S := fun q e => s439 q e v0 G) Tryz.func439 (by unfold s439; exact Ref.gq)
/-- (*coxswain/insert.Insert).read -/
def s440 (q : Bool) (e : Ex) (v0 v1 v2 : Value) (G : GS) : OG :=
  nl q 450 3 15 37 v0 G fun x2 =>
  nf q 450 12 24 v0 fun x4 =>
  bP (st Q q 37 1 x4 x2 G) fun G5 =>
  nf q 450 0 0 v0 fun x7 =>
  bP (lda Q q 31 13 x7 (G5.room 13)) fun x8 =>
  nl q 450 5 17 3 v0 (G5.room 13) fun x11 =>
  bS (e.ev.cl 99 [x8, x11, v2] (G5.room 13)) fun x13 G12 =>
  bS (e.ev.cl 240 [v1, x13] G12) fun x15 G14 =>
  some (x15, G14)
theorem f440 (h : ExLe Q e (E orc)) (v0 v1 v2 : Value) (G : GS) : Ref (s440 true e v0 v1 v2 G) ((E orc).cl 440 [v0, v1, v2] G) := cS (S := fun q e => s440 q e v0 v1 v2 G) Tryz.func440 (by unfold s440; exact Ref.gq)
/-- (*coxswain/insert.Insert).swap -/
def s441 (q : Bool) (e : Ex) (v0 v1 v2 v3 v4 : Value) (G : GS) : OG :=
  nl q 450 3 15 37 v0 G fun x2 =>
  nf q 450 12 24 v0 fun x4 =>
  bP (st Q q 37 1 x4 x2 G) fun G5 =>
  bS (e.ev.cl 328 [v1, v2, v3, v4] G5) fun x6 G7 =>
  some (x6, G7)
theorem f441 (h : ExLe Q e (E orc)) (v0 v1 v2 v3 v4 : Value) (G : GS) : Ref (s441 true e v0 v1 v2 v3 v4 G) ((E orc).cl 441 [v0, v1, v2, v3, v4] G) := cS (S := fun q e => s441 q e v0 v1 v2 v3 v4 G) Tryz.func441 (by unfold s441; exact Ref.gq)
/-- (*coxswain/find.Find).all -/
def s442 (q : Bool) (e : Ex) (v0 : Value) (G : GS) : OG :=
  bS (e.ev.cl 445 [v0] G) fun x0 G1 =>
  bP (bn Q q .neq 38 (.tmp 4) (.const (.int .i64 0)) x0 (.int .i64 0)) fun x2 =>
  ifV x2 (
  some ((.slice none 0 0), G1)) (
  nl q 462 5 20 460 v0 G1 fun x5 =>
  some (x5, G1))
theorem f442 (h : ExLe Q e (E orc)) (v0 : Value) (G : GS) : Ref (s442 true e v0 G) ((E orc).cl 442 [v0] G) := cS (S := fun q e => s442 q e v0 G) Tryz.func442 (by unfold s442; exact Ref.gq)
def b443_0 (q : Bool) (e : Ex) (lp : LpF) (τ : Env) (G : GS) : OL :=
  bV q (τ 3) fun a3_ =>
  bV q (τ 7) fun a7_ =>
  bV q (τ 8) fun a8_ =>
  bV q (τ 9) fun a9_ =>
  bP (bn Q q .lss 3 (.tmp 9) (.tmp 8) a9_ a8_) fun x0 =>
  ifV x0 (
  bP (ias Q q 460 4 a7_ a9_) fun x1 =>
  bP (lda Q q 459 4 x1 G) fun x2 =>
  bS (al Q q 459 z459 G) fun x3 G4 =>
  bP (st Q q 459 4 x3 x2 G4) fun G5 =>
  bP (fa Q q 459 2 2 x3) fun x6 =>
  bP (ld Q q 37 x6 G5) fun x7 =>
  bS (bs Q q 54 1 (rep z37 1) 1 [(0, 0, 1)] [x7] G5) fun x8 G9 =>
  bS (ap Q q 54 54 1 8 a3_ x8 G9) fun x10 G11 =>
  bP (bn Q q .add 3 (.tmp 9) (.const (.int .i64 1)) a9_ (.int .i64 1)) fun x12 =>
  lp (xq q 20 τ [(9, x12), (18, x12), (3, x10), (17, x10), (16, x8), (15, x7), (14, x6), (13, a3_), (5, x3), (12, x2), (11, x1), (10, x0)] [(7, a7_), (8, a8_)]) G11) (
  some ((.exit 0), xq q 20 τ [(10, x0)] [(3, a3_), (7, a7_), (8, a8_), (9, a9_)], G))
theorem l443_0 (h : ExLe Q e (E orc)) : LT orc 20 (subAt [1, 1, 0, 1, 0, 0] (bodyOf Tryz.f443)) (b443_0 true e) := cL fun hlp τ G => by unfold b443_0; exact Ref.gq
/-- (*coxswain/find.Find).Known -/
def s443 (q : Bool) (e : Ex) (v0 : Value) (G : GS) : OG :=
  bS (e.ev.cl 442 [v0] G) fun x0 G1 =>
  bP (ln Q q 460 x0) fun x2 =>
  bLq q e 443 0 (subAt [1, 1, 0, 1, 0, 0] (bodyOf Tryz.f443)) 20 (nth undef [v0]) [(9, (.int .i64 0)), (8, x2), (7, x0), (6, v0), (3, (.slice none 0 0)), (2, (.slice none 0 0))] [] G1 fun e3 t4 G5 =>
  bV q (t4 3) fun t4x3_ =>
  ifE e3 (.exit 0) (
  some (t4x3_, G5)) (none)
theorem f443 (h : ExLe Q e (E orc)) (v0 : Value) (G : GS) : Ref (s443 true e v0 G) ((E orc).cl 443 [v0] G) := cS (S := fun q e => s443 q e v0 G) Tryz.func443 (by unfold s443; exact Ref.gq)
def b444_0 (q : Bool) (e : Ex) (lp : LpF) (τ : Env) (G : GS) : OL :=
  bV q (τ 3) fun a3_ =>
  bV q (τ 7) fun a7_ =>
  bV q (τ 8) fun a8_ =>
  bV q (τ 9) fun a9_ =>
  bP (bn Q q .lss 3 (.tmp 9) (.tmp 8) a9_ a8_) fun x0 =>
  ifV x0 (
  bP (ias Q q 460 4 a7_ a9_) fun x1 =>
  bP (lda Q q 459 4 x1 G) fun x2 =>
  bS (al Q q 459 z459 G) fun x3 G4 =>
  bP (st Q q 459 4 x3 x2 G4) fun G5 =>
  bP (fa Q q 459 1 1 x3) fun x6 =>
  bP (ld Q q 3 x6 G5) fun x7 =>
  bS (bs Q q 127 1 (rep z3 1) 1 [(0, 0, 1)] [x7] G5) fun x8 G9 =>
  bS (ap Q q 127 127 1 8 a3_ x8 G9) fun x10 G11 =>
  bP (bn Q q .add 3 (.tmp 9) (.const (.int .i64 1)) a9_ (.int .i64 1)) fun x12 =>
  lp (xq q 20 τ [(9, x12), (18, x12), (3, x10), (17, x10), (16, x8), (15, x7), (14, x6), (13, a3_), (5, x3), (12, x2), (11, x1), (10, x0)] [(7, a7_), (8, a8_)]) G11) (
  some ((.exit 0), xq q 20 τ [(10, x0)] [(3, a3_), (7, a7_), (8, a8_), (9, a9_)], G))
theorem l444_0 (h : ExLe Q e (E orc)) : LT orc 20 (subAt [1, 1, 0, 1, 0, 0] (bodyOf Tryz.f444)) (b444_0 true e) := cL fun hlp τ G => by unfold b444_0; exact Ref.gq
/-- (*coxswain/find.Find).Preds -/
def s444 (q : Bool) (e : Ex) (v0 : Value) (G : GS) : OG :=
  bS (e.ev.cl 442 [v0] G) fun x0 G1 =>
  bP (ln Q q 460 x0) fun x2 =>
  bLq q e 444 0 (subAt [1, 1, 0, 1, 0, 0] (bodyOf Tryz.f444)) 20 (nth undef [v0]) [(9, (.int .i64 0)), (8, x2), (7, x0), (6, v0), (3, (.slice none 0 0)), (2, (.slice none 0 0))] [] G1 fun e3 t4 G5 =>
  bV q (t4 3) fun t4x3_ =>
  ifE e3 (.exit 0) (
  some (t4x3_, G5)) (none)
theorem f444 (h : ExLe Q e (E orc)) (v0 : Value) (G : GS) : Ref (s444 true e v0 G) ((E orc).cl 444 [v0] G) := cS (S := fun q e => s444 q e v0 G) Tryz.func444 (by unfold s444; exact Ref.gq)
/-- (*coxswain/find.Find).Err -/
def s445 (q : Bool) (e : Ex) (v0 : Value) (G : GS) : OG :=
  bP (ep Q q false 186 (.tmp 4) (.const (.pointer none)) v0 (.pointer none)) fun x0 =>
  bS (gV x0 false v0 G) fun x1 G2 =>
  bS (gP x0 false (pNil x1) G2) fun x3 G4 =>
  bS (gP x0 false (fa Q q 462 7 22 x3) G4) fun x5 G6 =>
  bS (gP x0 false (ld Q q 4 x5 G6) G6) fun x7 G8 =>
  bS (gP x0 false (un Q q .not x7) G8) fun x9 G10 =>
  bP (pickV x0 (.bool true) x9) fun x11 =>
  ifV x11 (
  some ((.int .i64 1), G10)) (
  nl q 462 2 14 3 v0 G10 fun x14 =>
  bP (bn Q q .neq 3 (.tmp 17) (.const (.int .i64 9)) x14 (.int .i64 9)) fun x15 =>
  ifV x15 (
  some ((.int .i64 14), G10)) (
  nl q 462 8 23 38 v0 G10 fun x18 =>
  some (x18, G10)))
theorem f445 (h : ExLe Q e (E orc)) (v0 : Value) (G : GS) : Ref (s445 true e v0 G) ((E orc).cl 445 [v0] G) := cS (S := fun q e => s445 q e v0 G) Tryz.func445 (by unfold s445; exact Ref.gq)
def clT (orc : FuncId → Bool) (e : Ex) (f : FuncId) (vs : List Value) (G : GS) : OG :=
fork f 283 (fork f 114 (fork f 51 (fork f 34 (fork f 12 (fork f 7 (fork f 5 (fork f 3 (leaf f 3 (app0 (orc 3) (hasTab Q G) (s3 true e) vs G)) (
leaf f 5 (app0 (orc 5) (hasTab Q G) (s5 true e) vs G))) (
fork f 6 (leaf f 6 (app0 (orc 6) (hasTab Q G) (s6 true e) vs G)) (
leaf f 7 (app3 (s7 true e) vs G)))) (
fork f 10 (fork f 8 (leaf f 8 (app3 (s8 true e) vs G)) (
leaf f 10 (app2 (s10 true e) vs G))) (
fork f 11 (leaf f 11 (app2 (s11 true e) vs G)) (
leaf f 12 (app1 (s12 true e) vs G))))) (
fork f 16 (fork f 14 (fork f 13 (leaf f 13 (app1 (s13 true e) vs G)) (
leaf f 14 (app2 (s14 true e) vs G))) (
fork f 15 (leaf f 15 (app2 (s15 true e) vs G)) (
leaf f 16 (app3 (s16 true e) vs G)))) (
fork f 20 (fork f 17 (leaf f 17 (app0 (orc 17) (hasTab Q G) (s17 true e) vs G)) (
leaf f 20 (app1 (s20 true e) vs G))) (
fork f 22 (leaf f 22 (app2 (s22 true e) vs G)) (
leaf f 34 (app1 (s34 true e) vs G)))))) (
fork f 43 (fork f 39 (fork f 37 (fork f 36 (leaf f 36 (app3 (s36 true e) vs G)) (
leaf f 37 (app1 (s37 true e) vs G))) (
fork f 38 (leaf f 38 (app2 (s38 true e) vs G)) (
leaf f 39 (app1 (s39 true e) vs G)))) (
fork f 41 (fork f 40 (leaf f 40 (app4 (s40 true e) vs G)) (
leaf f 41 (app2 (s41 true e) vs G))) (
fork f 42 (leaf f 42 (app1 (s42 true e) vs G)) (
leaf f 43 (app1 (s43 true e) vs G))))) (
fork f 47 (fork f 45 (fork f 44 (leaf f 44 (app1 (s44 true e) vs G)) (
leaf f 45 (app1 (s45 true e) vs G))) (
fork f 46 (leaf f 46 (app2 (s46 true e) vs G)) (
leaf f 47 (app1 (s47 true e) vs G)))) (
fork f 49 (fork f 48 (leaf f 48 (app1 (s48 true e) vs G)) (
leaf f 49 (app2 (s49 true e) vs G))) (
fork f 50 (leaf f 50 (app2 (s50 true e) vs G)) (
leaf f 51 (app2 (s51 true e) vs G))))))) (
fork f 88 (fork f 59 (fork f 55 (fork f 53 (fork f 52 (leaf f 52 (app1 (s52 true e) vs G)) (
leaf f 53 (app1 (s53 true e) vs G))) (
fork f 54 (leaf f 54 (app1 (s54 true e) vs G)) (
leaf f 55 (app1 (s55 true e) vs G)))) (
fork f 57 (fork f 56 (leaf f 56 (app1 (s56 true e) vs G)) (
leaf f 57 (app1 (s57 true e) vs G))) (
fork f 58 (leaf f 58 (app2 (s58 true e) vs G)) (
leaf f 59 (app5 (s59 true e) vs G))))) (
fork f 74 (fork f 70 (fork f 60 (leaf f 60 (app1 (s60 true e) vs G)) (
leaf f 70 (app1 (s70 true e) vs G))) (
fork f 71 (leaf f 71 (app2 (s71 true e) vs G)) (
leaf f 74 (app5 (s74 true e) vs G)))) (
fork f 84 (fork f 81 (leaf f 81 (app2 (s81 true e) vs G)) (
leaf f 84 (app2 (s84 true e) vs G))) (
fork f 86 (leaf f 86 (app2 (s86 true e) vs G)) (
leaf f 88 (app1 (s88 true e) vs G)))))) (
fork f 106 (fork f 102 (fork f 100 (fork f 99 (leaf f 99 (app3 (s99 true e) vs G)) (
leaf f 100 (app2 (s100 true e) vs G))) (
fork f 101 (leaf f 101 (app2 (s101 true e) vs G)) (
leaf f 102 (app3 (s102 true e) vs G)))) (
fork f 104 (fork f 103 (leaf f 103 (app2 (s103 true e) vs G)) (
leaf f 104 (app3 (s104 true e) vs G))) (
fork f 105 (leaf f 105 (app3 (s105 true e) vs G)) (
leaf f 106 (app1 (s106 true e) vs G))))) (
fork f 110 (fork f 108 (fork f 107 (leaf f 107 (app2 (s107 true e) vs G)) (
leaf f 108 (app2 (s108 true e) vs G))) (
fork f 109 (leaf f 109 (app1 (s109 true e) vs G)) (
leaf f 110 (app1 (s110 true e) vs G)))) (
fork f 112 (fork f 111 (leaf f 111 (app1 (s111 true e) vs G)) (
leaf f 112 (app1 (s112 true e) vs G))) (
fork f 113 (leaf f 113 (app2 (s113 true e) vs G)) (
leaf f 114 (app1 (s114 true e) vs G)))))))) (
fork f 184 (fork f 168 (fork f 129 (fork f 118 (fork f 116 (fork f 115 (leaf f 115 (app3 (s115 true e) vs G)) (
leaf f 116 (app3 (s116 true e) vs G))) (
fork f 117 (leaf f 117 (app2 (s117 true e) vs G)) (
leaf f 118 (app3 (s118 true e) vs G)))) (
fork f 120 (fork f 119 (leaf f 119 (app4 (s119 true e) vs G)) (
leaf f 120 (app2 (s120 true e) vs G))) (
fork f 121 (leaf f 121 (app1 (s121 true e) vs G)) (
leaf f 129 (app2 (s129 true e) vs G))))) (
fork f 144 (fork f 131 (fork f 130 (leaf f 130 (app2 (s130 true e) vs G)) (
leaf f 131 (app2 (s131 true e) vs G))) (
fork f 134 (leaf f 134 (app1 (s134 true e) vs G)) (
leaf f 144 (app2 (s144 true e) vs G)))) (
fork f 166 (fork f 165 (leaf f 165 (app2 (s165 true e) vs G)) (
leaf f 166 (app3 (s166 true e) vs G))) (
fork f 167 (leaf f 167 (app1 (s167 true e) vs G)) (
leaf f 168 (app2 (s168 true e) vs G)))))) (
fork f 176 (fork f 172 (fork f 170 (fork f 169 (leaf f 169 (app1 (s169 true e) vs G)) (
leaf f 170 (app2 (s170 true e) vs G))) (
fork f 171 (leaf f 171 (app1 (s171 true e) vs G)) (
leaf f 172 (app3 (s172 true e) vs G)))) (
fork f 174 (fork f 173 (leaf f 173 (app3 (s173 true e) vs G)) (
leaf f 174 (app3 (s174 true e) vs G))) (
fork f 175 (leaf f 175 (app2 (s175 true e) vs G)) (
leaf f 176 (app2 (s176 true e) vs G))))) (
fork f 180 (fork f 178 (fork f 177 (leaf f 177 (app2 (s177 true e) vs G)) (
leaf f 178 (app2 (s178 true e) vs G))) (
fork f 179 (leaf f 179 (app2 (s179 true e) vs G)) (
leaf f 180 (app1 (s180 true e) vs G)))) (
fork f 182 (fork f 181 (leaf f 181 (app2 (s181 true e) vs G)) (
leaf f 182 (app1 (s182 true e) vs G))) (
fork f 183 (leaf f 183 (app1 (s183 true e) vs G)) (
leaf f 184 (app2 (s184 true e) vs G))))))) (
fork f 238 (fork f 230 (fork f 191 (fork f 188 (fork f 187 (leaf f 187 (app1 (s187 true e) vs G)) (
leaf f 188 (app2 (s188 true e) vs G))) (
fork f 190 (leaf f 190 (app1 (s190 true e) vs G)) (
leaf f 191 (app1 (s191 true e) vs G)))) (
fork f 195 (fork f 192 (leaf f 192 (app2 (s192 true e) vs G)) (
leaf f 195 (app1 (s195 true e) vs G))) (
fork f 196 (leaf f 196 (app3 (s196 true e) vs G)) (
leaf f 230 (app2 (s230 true e) vs G))))) (
fork f 234 (fork f 232 (fork f 231 (leaf f 231 (app3 (s231 true e) vs G)) (
leaf f 232 (app2 (s232 true e) vs G))) (
fork f 233 (leaf f 233 (app4 (s233 true e) vs G)) (
leaf f 234 (app2 (s234 true e) vs G)))) (
fork f 236 (fork f 235 (leaf f 235 (app2 (s235 true e) vs G)) (
leaf f 236 (app0 (orc 236) (hasTab Q G) (s236 true e) vs G))) (
fork f 237 (leaf f 237 (app2 (s237 true e) vs G)) (
leaf f 238 (app1 (s238 true e) vs G)))))) (
fork f 246 (fork f 242 (fork f 240 (fork f 239 (leaf f 239 (app1 (s239 true e) vs G)) (
leaf f 240 (app2 (s240 true e) vs G))) (
fork f 241 (leaf f 241 (app2 (s241 true e) vs G)) (
leaf f 242 (app1 (s242 true e) vs G)))) (
fork f 244 (fork f 243 (leaf f 243 (app1 (s243 true e) vs G)) (
leaf f 244 (app1 (s244 true e) vs G))) (
fork f 245 (leaf f 245 (app2 (s245 true e) vs G)) (
leaf f 246 (app1 (s246 true e) vs G))))) (
fork f 250 (fork f 248 (fork f 247 (leaf f 247 (app1 (s247 true e) vs G)) (
leaf f 248 (app1 (s248 true e) vs G))) (
fork f 249 (leaf f 249 (app1 (s249 true e) vs G)) (
leaf f 250 (app3 (s250 true e) vs G)))) (
fork f 252 (fork f 251 (leaf f 251 (app1 (s251 true e) vs G)) (
leaf f 252 (app2 (s252 true e) vs G))) (
fork f 281 (leaf f 281 (app1 (s281 true e) vs G)) (
fork f 282 (leaf f 282 (app1 (s282 true e) vs G)) (
leaf f 283 (app2 (s283 true e) vs G)))))))))) (
fork f 359 (fork f 324 (fork f 299 (fork f 291 (fork f 287 (fork f 285 (fork f 284 (leaf f 284 (app2 (s284 true e) vs G)) (
leaf f 285 (app1 (s285 true e) vs G))) (
fork f 286 (leaf f 286 (app1 (s286 true e) vs G)) (
leaf f 287 (app2 (s287 true e) vs G)))) (
fork f 289 (fork f 288 (leaf f 288 (app2 (s288 true e) vs G)) (
leaf f 289 (app1 (s289 true e) vs G))) (
fork f 290 (leaf f 290 (app2 (s290 true e) vs G)) (
leaf f 291 (app2 (s291 true e) vs G))))) (
fork f 295 (fork f 293 (fork f 292 (leaf f 292 (app1 (s292 true e) vs G)) (
leaf f 293 (app5 (s293 true e) vs G))) (
fork f 294 (leaf f 294 (app1 (s294 true e) vs G)) (
leaf f 295 (app1 (s295 true e) vs G)))) (
fork f 297 (fork f 296 (leaf f 296 (app4 (s296 true e) vs G)) (
leaf f 297 (app1 (s297 true e) vs G))) (
fork f 298 (leaf f 298 (app2 (s298 true e) vs G)) (
leaf f 299 (app2 (s299 true e) vs G)))))) (
fork f 316 (fork f 303 (fork f 301 (fork f 300 (leaf f 300 (app2 (s300 true e) vs G)) (
leaf f 301 (app2 (s301 true e) vs G))) (
fork f 302 (leaf f 302 (app2 (s302 true e) vs G)) (
leaf f 303 (app1 (s303 true e) vs G)))) (
fork f 314 (fork f 304 (leaf f 304 (app2 (s304 true e) vs G)) (
leaf f 314 (app0 (orc 314) (hasTab Q G) (s314 true e) vs G))) (
fork f 315 (leaf f 315 (app3 (s315 true e) vs G)) (
leaf f 316 (app2 (s316 true e) vs G))))) (
fork f 320 (fork f 318 (fork f 317 (leaf f 317 (app2 (s317 true e) vs G)) (
leaf f 318 (app2 (s318 true e) vs G))) (
fork f 319 (leaf f 319 (app1 (s319 true e) vs G)) (
leaf f 320 (app1 (s320 true e) vs G)))) (
fork f 322 (fork f 321 (leaf f 321 (app1 (s321 true e) vs G)) (
leaf f 322 (app4 (s322 true e) vs G))) (
fork f 323 (leaf f 323 (app4 (s323 true e) vs G)) (
leaf f 324 (app5 (s324 true e) vs G))))))) (
fork f 343 (fork f 332 (fork f 328 (fork f 326 (fork f 325 (leaf f 325 (app3 (s325 true e) vs G)) (
leaf f 326 (app2 (s326 true e) vs G))) (
fork f 327 (leaf f 327 (app2 (s327 true e) vs G)) (
leaf f 328 (app4 (s328 true e) vs G)))) (
fork f 330 (fork f 329 (leaf f 329 (app2 (s329 true e) vs G)) (
leaf f 330 (app2 (s330 true e) vs G))) (
fork f 331 (leaf f 331 (app2 (s331 true e) vs G)) (
leaf f 332 (app1 (s332 true e) vs G))))) (
fork f 339 (fork f 337 (fork f 333 (leaf f 333 (app2 (s333 true e) vs G)) (
leaf f 337 (app2 (s337 true e) vs G))) (
fork f 338 (leaf f 338 (app1 (s338 true e) vs G)) (
leaf f 339 (app2 (s339 true e) vs G)))) (
fork f 341 (fork f 340 (leaf f 340 (app1 (s340 true e) vs G)) (
leaf f 341 (app3 (s341 true e) vs G))) (
fork f 342 (leaf f 342 (app2 (s342 true e) vs G)) (
leaf f 343 (app2 (s343 true e) vs G)))))) (
fork f 351 (fork f 347 (fork f 345 (fork f 344 (leaf f 344 (app1 (s344 true e) vs G)) (
leaf f 345 (app2 (s345 true e) vs G))) (
fork f 346 (leaf f 346 (app2 (s346 true e) vs G)) (
leaf f 347 (app2 (s347 true e) vs G)))) (
fork f 349 (fork f 348 (leaf f 348 (app2 (s348 true e) vs G)) (
leaf f 349 (app2 (s349 true e) vs G))) (
fork f 350 (leaf f 350 (app2 (s350 true e) vs G)) (
leaf f 351 (app2 (s351 true e) vs G))))) (
fork f 355 (fork f 353 (fork f 352 (leaf f 352 (app2 (s352 true e) vs G)) (
leaf f 353 (app2 (s353 true e) vs G))) (
fork f 354 (leaf f 354 (app2 (s354 true e) vs G)) (
leaf f 355 (app3 (s355 true e) vs G)))) (
fork f 357 (fork f 356 (leaf f 356 (app3 (s356 true e) vs G)) (
leaf f 357 (app2 (s357 true e) vs G))) (
fork f 358 (leaf f 358 (app2 (s358 true e) vs G)) (
leaf f 359 (app1 (s359 true e) vs G)))))))) (
fork f 409 (fork f 390 (fork f 382 (fork f 378 (fork f 376 (fork f 375 (leaf f 375 (app2 (s375 true e) vs G)) (
leaf f 376 (app2 (s376 true e) vs G))) (
fork f 377 (leaf f 377 (app1 (s377 true e) vs G)) (
leaf f 378 (app1 (s378 true e) vs G)))) (
fork f 380 (fork f 379 (leaf f 379 (app2 (s379 true e) vs G)) (
leaf f 380 (app2 (s380 true e) vs G))) (
fork f 381 (leaf f 381 (app3 (s381 true e) vs G)) (
leaf f 382 (app1 (s382 true e) vs G))))) (
fork f 386 (fork f 384 (fork f 383 (leaf f 383 (app2 (s383 true e) vs G)) (
leaf f 384 (app2 (s384 true e) vs G))) (
fork f 385 (leaf f 385 (app2 (s385 true e) vs G)) (
leaf f 386 (app2 (s386 true e) vs G)))) (
fork f 388 (fork f 387 (leaf f 387 (app1 (s387 true e) vs G)) (
leaf f 388 (app2 (s388 true e) vs G))) (
fork f 389 (leaf f 389 (app2 (s389 true e) vs G)) (
leaf f 390 (app2 (s390 true e) vs G)))))) (
fork f 400 (fork f 394 (fork f 392 (fork f 391 (leaf f 391 (app1 (s391 true e) vs G)) (
leaf f 392 (app1 (s392 true e) vs G))) (
fork f 393 (leaf f 393 (app2 (s393 true e) vs G)) (
leaf f 394 (app2 (s394 true e) vs G)))) (
fork f 397 (fork f 395 (leaf f 395 (app2 (s395 true e) vs G)) (
leaf f 397 (app2 (s397 true e) vs G))) (
fork f 398 (leaf f 398 (app2 (s398 true e) vs G)) (
leaf f 400 (app2 (s400 true e) vs G))))) (
fork f 405 (fork f 403 (fork f 402 (leaf f 402 (app2 (s402 true e) vs G)) (
leaf f 403 (app2 (s403 true e) vs G))) (
fork f 404 (leaf f 404 (app2 (s404 true e) vs G)) (
leaf f 405 (app1 (s405 true e) vs G)))) (
fork f 407 (fork f 406 (leaf f 406 (app2 (s406 true e) vs G)) (
leaf f 407 (app2 (s407 true e) vs G))) (
fork f 408 (leaf f 408 (app3 (s408 true e) vs G)) (
leaf f 409 (app2 (s409 true e) vs G))))))) (
fork f 428 (fork f 420 (fork f 414 (fork f 412 (fork f 411 (leaf f 411 (app1 (s411 true e) vs G)) (
leaf f 412 (app1 (s412 true e) vs G))) (
fork f 413 (leaf f 413 (app2 (s413 true e) vs G)) (
leaf f 414 (app2 (s414 true e) vs G)))) (
fork f 418 (fork f 415 (leaf f 415 (app2 (s415 true e) vs G)) (
leaf f 418 (app2 (s418 true e) vs G))) (
fork f 419 (leaf f 419 (app2 (s419 true e) vs G)) (
leaf f 420 (app1 (s420 true e) vs G))))) (
fork f 424 (fork f 422 (fork f 421 (leaf f 421 (app2 (s421 true e) vs G)) (
leaf f 422 (app2 (s422 true e) vs G))) (
fork f 423 (leaf f 423 (app0 (orc 423) (hasTab Q G) (s423 true e) vs G)) (
leaf f 424 (app2 (s424 true e) vs G)))) (
fork f 426 (fork f 425 (leaf f 425 (app2 (s425 true e) vs G)) (
leaf f 426 (app2 (s426 true e) vs G))) (
fork f 427 (leaf f 427 (app2 (s427 true e) vs G)) (
leaf f 428 (app2 (s428 true e) vs G)))))) (
fork f 436 (fork f 432 (fork f 430 (fork f 429 (leaf f 429 (app2 (s429 true e) vs G)) (
leaf f 430 (app2 (s430 true e) vs G))) (
fork f 431 (leaf f 431 (app2 (s431 true e) vs G)) (
leaf f 432 (app2 (s432 true e) vs G)))) (
fork f 434 (fork f 433 (leaf f 433 (app2 (s433 true e) vs G)) (
leaf f 434 (app2 (s434 true e) vs G))) (
fork f 435 (leaf f 435 (app2 (s435 true e) vs G)) (
leaf f 436 (app2 (s436 true e) vs G))))) (
fork f 440 (fork f 438 (fork f 437 (leaf f 437 (app1 (s437 true e) vs G)) (
leaf f 438 (app2 (s438 true e) vs G))) (
fork f 439 (leaf f 439 (app1 (s439 true e) vs G)) (
leaf f 440 (app3 (s440 true e) vs G)))) (
fork f 442 (fork f 441 (leaf f 441 (app5 (s441 true e) vs G)) (
leaf f 442 (app1 (s442 true e) vs G))) (
fork f 443 (leaf f 443 (app1 (s443 true e) vs G)) (
fork f 444 (leaf f 444 (app1 (s444 true e) vs G)) (
leaf f 445 (app1 (s445 true e) vs G))))))))))
theorem clT_ok (h : ExLe Q e (E orc)) (f : FuncId) (vs : List Value) (G : GS) : Ref (clT orc e f vs G) ((E orc).cl f vs G) :=
Ref.fork (Ref.fork (Ref.fork (Ref.fork (Ref.fork (Ref.fork (Ref.fork (Ref.fork (cf (Ref.app0 (f3 h) vs G)) (
cf (Ref.app0 (f5 h) vs G))) (
Ref.fork (cf (Ref.app0 (f6 h) vs G)) (
cf (Ref.app3 (f7 h) vs G)))) (
Ref.fork (Ref.fork (cf (Ref.app3 (f8 h) vs G)) (
cf (Ref.app2 (f10 h) vs G))) (
Ref.fork (cf (Ref.app2 (f11 h) vs G)) (
cf (Ref.app1 (f12 h) vs G))))) (
Ref.fork (Ref.fork (Ref.fork (cf (Ref.app1 (f13 h) vs G)) (
cf (Ref.app2 (f14 h) vs G))) (
Ref.fork (cf (Ref.app2 (f15 h) vs G)) (
cf (Ref.app3 (f16 h) vs G)))) (
Ref.fork (Ref.fork (cf (Ref.app0 (f17 h) vs G)) (
cf (Ref.app1 (f20 h) vs G))) (
Ref.fork (cf (Ref.app2 (f22 h) vs G)) (
cf (Ref.app1 (f34 h) vs G)))))) (
Ref.fork (Ref.fork (Ref.fork (Ref.fork (cf (Ref.app3 (f36 h) vs G)) (
cf (Ref.app1 (f37 h) vs G))) (
Ref.fork (cf (Ref.app2 (f38 h) vs G)) (
cf (Ref.app1 (f39 h) vs G)))) (
Ref.fork (Ref.fork (cf (Ref.app4 (f40 h) vs G)) (
cf (Ref.app2 (f41 h) vs G))) (
Ref.fork (cf (Ref.app1 (f42 h) vs G)) (
cf (Ref.app1 (f43 h) vs G))))) (
Ref.fork (Ref.fork (Ref.fork (cf (Ref.app1 (f44 h) vs G)) (
cf (Ref.app1 (f45 h) vs G))) (
Ref.fork (cf (Ref.app2 (f46 h) vs G)) (
cf (Ref.app1 (f47 h) vs G)))) (
Ref.fork (Ref.fork (cf (Ref.app1 (f48 h) vs G)) (
cf (Ref.app2 (f49 h) vs G))) (
Ref.fork (cf (Ref.app2 (f50 h) vs G)) (
cf (Ref.app2 (f51 h) vs G))))))) (
Ref.fork (Ref.fork (Ref.fork (Ref.fork (Ref.fork (cf (Ref.app1 (f52 h) vs G)) (
cf (Ref.app1 (f53 h) vs G))) (
Ref.fork (cf (Ref.app1 (f54 h) vs G)) (
cf (Ref.app1 (f55 h) vs G)))) (
Ref.fork (Ref.fork (cf (Ref.app1 (f56 h) vs G)) (
cf (Ref.app1 (f57 h) vs G))) (
Ref.fork (cf (Ref.app2 (f58 h) vs G)) (
cf (Ref.app5 (f59 h) vs G))))) (
Ref.fork (Ref.fork (Ref.fork (cf (Ref.app1 (f60 h) vs G)) (
cf (Ref.app1 (f70 h) vs G))) (
Ref.fork (cf (Ref.app2 (f71 h) vs G)) (
cf (Ref.app5 (f74 h) vs G)))) (
Ref.fork (Ref.fork (cf (Ref.app2 (f81 h) vs G)) (
cf (Ref.app2 (f84 h) vs G))) (
Ref.fork (cf (Ref.app2 (f86 h) vs G)) (
cf (Ref.app1 (f88 h) vs G)))))) (
Ref.fork (Ref.fork (Ref.fork (Ref.fork (cf (Ref.app3 (f99 h) vs G)) (
cf (Ref.app2 (f100 h) vs G))) (
Ref.fork (cf (Ref.app2 (f101 h) vs G)) (
cf (Ref.app3 (f102 h) vs G)))) (
Ref.fork (Ref.fork (cf (Ref.app2 (f103 h) vs G)) (
cf (Ref.app3 (f104 h) vs G))) (
Ref.fork (cf (Ref.app3 (f105 h) vs G)) (
cf (Ref.app1 (f106 h) vs G))))) (
Ref.fork (Ref.fork (Ref.fork (cf (Ref.app2 (f107 h) vs G)) (
cf (Ref.app2 (f108 h) vs G))) (
Ref.fork (cf (Ref.app1 (f109 h) vs G)) (
cf (Ref.app1 (f110 h) vs G)))) (
Ref.fork (Ref.fork (cf (Ref.app1 (f111 h) vs G)) (
cf (Ref.app1 (f112 h) vs G))) (
Ref.fork (cf (Ref.app2 (f113 h) vs G)) (
cf (Ref.app1 (f114 h) vs G)))))))) (
Ref.fork (Ref.fork (Ref.fork (Ref.fork (Ref.fork (Ref.fork (cf (Ref.app3 (f115 h) vs G)) (
cf (Ref.app3 (f116 h) vs G))) (
Ref.fork (cf (Ref.app2 (f117 h) vs G)) (
cf (Ref.app3 (f118 h) vs G)))) (
Ref.fork (Ref.fork (cf (Ref.app4 (f119 h) vs G)) (
cf (Ref.app2 (f120 h) vs G))) (
Ref.fork (cf (Ref.app1 (f121 h) vs G)) (
cf (Ref.app2 (f129 h) vs G))))) (
Ref.fork (Ref.fork (Ref.fork (cf (Ref.app2 (f130 h) vs G)) (
cf (Ref.app2 (f131 h) vs G))) (
Ref.fork (cf (Ref.app1 (f134 h) vs G)) (
cf (Ref.app2 (f144 h) vs G)))) (
Ref.fork (Ref.fork (cf (Ref.app2 (f165 h) vs G)) (
cf (Ref.app3 (f166 h) vs G))) (
Ref.fork (cf (Ref.app1 (f167 h) vs G)) (
cf (Ref.app2 (f168 h) vs G)))))) (
Ref.fork (Ref.fork (Ref.fork (Ref.fork (cf (Ref.app1 (f169 h) vs G)) (
cf (Ref.app2 (f170 h) vs G))) (
Ref.fork (cf (Ref.app1 (f171 h) vs G)) (
cf (Ref.app3 (f172 h) vs G)))) (
Ref.fork (Ref.fork (cf (Ref.app3 (f173 h) vs G)) (
cf (Ref.app3 (f174 h) vs G))) (
Ref.fork (cf (Ref.app2 (f175 h) vs G)) (
cf (Ref.app2 (f176 h) vs G))))) (
Ref.fork (Ref.fork (Ref.fork (cf (Ref.app2 (f177 h) vs G)) (
cf (Ref.app2 (f178 h) vs G))) (
Ref.fork (cf (Ref.app2 (f179 h) vs G)) (
cf (Ref.app1 (f180 h) vs G)))) (
Ref.fork (Ref.fork (cf (Ref.app2 (f181 h) vs G)) (
cf (Ref.app1 (f182 h) vs G))) (
Ref.fork (cf (Ref.app1 (f183 h) vs G)) (
cf (Ref.app2 (f184 h) vs G))))))) (
Ref.fork (Ref.fork (Ref.fork (Ref.fork (Ref.fork (cf (Ref.app1 (f187 h) vs G)) (
cf (Ref.app2 (f188 h) vs G))) (
Ref.fork (cf (Ref.app1 (f190 h) vs G)) (
cf (Ref.app1 (f191 h) vs G)))) (
Ref.fork (Ref.fork (cf (Ref.app2 (f192 h) vs G)) (
cf (Ref.app1 (f195 h) vs G))) (
Ref.fork (cf (Ref.app3 (f196 h) vs G)) (
cf (Ref.app2 (f230 h) vs G))))) (
Ref.fork (Ref.fork (Ref.fork (cf (Ref.app3 (f231 h) vs G)) (
cf (Ref.app2 (f232 h) vs G))) (
Ref.fork (cf (Ref.app4 (f233 h) vs G)) (
cf (Ref.app2 (f234 h) vs G)))) (
Ref.fork (Ref.fork (cf (Ref.app2 (f235 h) vs G)) (
cf (Ref.app0 (f236 h) vs G))) (
Ref.fork (cf (Ref.app2 (f237 h) vs G)) (
cf (Ref.app1 (f238 h) vs G)))))) (
Ref.fork (Ref.fork (Ref.fork (Ref.fork (cf (Ref.app1 (f239 h) vs G)) (
cf (Ref.app2 (f240 h) vs G))) (
Ref.fork (cf (Ref.app2 (f241 h) vs G)) (
cf (Ref.app1 (f242 h) vs G)))) (
Ref.fork (Ref.fork (cf (Ref.app1 (f243 h) vs G)) (
cf (Ref.app1 (f244 h) vs G))) (
Ref.fork (cf (Ref.app2 (f245 h) vs G)) (
cf (Ref.app1 (f246 h) vs G))))) (
Ref.fork (Ref.fork (Ref.fork (cf (Ref.app1 (f247 h) vs G)) (
cf (Ref.app1 (f248 h) vs G))) (
Ref.fork (cf (Ref.app1 (f249 h) vs G)) (
cf (Ref.app3 (f250 h) vs G)))) (
Ref.fork (Ref.fork (cf (Ref.app1 (f251 h) vs G)) (
cf (Ref.app2 (f252 h) vs G))) (
Ref.fork (cf (Ref.app1 (f281 h) vs G)) (
Ref.fork (cf (Ref.app1 (f282 h) vs G)) (
cf (Ref.app2 (f283 h) vs G)))))))))) (
Ref.fork (Ref.fork (Ref.fork (Ref.fork (Ref.fork (Ref.fork (Ref.fork (cf (Ref.app2 (f284 h) vs G)) (
cf (Ref.app1 (f285 h) vs G))) (
Ref.fork (cf (Ref.app1 (f286 h) vs G)) (
cf (Ref.app2 (f287 h) vs G)))) (
Ref.fork (Ref.fork (cf (Ref.app2 (f288 h) vs G)) (
cf (Ref.app1 (f289 h) vs G))) (
Ref.fork (cf (Ref.app2 (f290 h) vs G)) (
cf (Ref.app2 (f291 h) vs G))))) (
Ref.fork (Ref.fork (Ref.fork (cf (Ref.app1 (f292 h) vs G)) (
cf (Ref.app5 (f293 h) vs G))) (
Ref.fork (cf (Ref.app1 (f294 h) vs G)) (
cf (Ref.app1 (f295 h) vs G)))) (
Ref.fork (Ref.fork (cf (Ref.app4 (f296 h) vs G)) (
cf (Ref.app1 (f297 h) vs G))) (
Ref.fork (cf (Ref.app2 (f298 h) vs G)) (
cf (Ref.app2 (f299 h) vs G)))))) (
Ref.fork (Ref.fork (Ref.fork (Ref.fork (cf (Ref.app2 (f300 h) vs G)) (
cf (Ref.app2 (f301 h) vs G))) (
Ref.fork (cf (Ref.app2 (f302 h) vs G)) (
cf (Ref.app1 (f303 h) vs G)))) (
Ref.fork (Ref.fork (cf (Ref.app2 (f304 h) vs G)) (
cf (Ref.app0 (f314 h) vs G))) (
Ref.fork (cf (Ref.app3 (f315 h) vs G)) (
cf (Ref.app2 (f316 h) vs G))))) (
Ref.fork (Ref.fork (Ref.fork (cf (Ref.app2 (f317 h) vs G)) (
cf (Ref.app2 (f318 h) vs G))) (
Ref.fork (cf (Ref.app1 (f319 h) vs G)) (
cf (Ref.app1 (f320 h) vs G)))) (
Ref.fork (Ref.fork (cf (Ref.app1 (f321 h) vs G)) (
cf (Ref.app4 (f322 h) vs G))) (
Ref.fork (cf (Ref.app4 (f323 h) vs G)) (
cf (Ref.app5 (f324 h) vs G))))))) (
Ref.fork (Ref.fork (Ref.fork (Ref.fork (Ref.fork (cf (Ref.app3 (f325 h) vs G)) (
cf (Ref.app2 (f326 h) vs G))) (
Ref.fork (cf (Ref.app2 (f327 h) vs G)) (
cf (Ref.app4 (f328 h) vs G)))) (
Ref.fork (Ref.fork (cf (Ref.app2 (f329 h) vs G)) (
cf (Ref.app2 (f330 h) vs G))) (
Ref.fork (cf (Ref.app2 (f331 h) vs G)) (
cf (Ref.app1 (f332 h) vs G))))) (
Ref.fork (Ref.fork (Ref.fork (cf (Ref.app2 (f333 h) vs G)) (
cf (Ref.app2 (f337 h) vs G))) (
Ref.fork (cf (Ref.app1 (f338 h) vs G)) (
cf (Ref.app2 (f339 h) vs G)))) (
Ref.fork (Ref.fork (cf (Ref.app1 (f340 h) vs G)) (
cf (Ref.app3 (f341 h) vs G))) (
Ref.fork (cf (Ref.app2 (f342 h) vs G)) (
cf (Ref.app2 (f343 h) vs G)))))) (
Ref.fork (Ref.fork (Ref.fork (Ref.fork (cf (Ref.app1 (f344 h) vs G)) (
cf (Ref.app2 (f345 h) vs G))) (
Ref.fork (cf (Ref.app2 (f346 h) vs G)) (
cf (Ref.app2 (f347 h) vs G)))) (
Ref.fork (Ref.fork (cf (Ref.app2 (f348 h) vs G)) (
cf (Ref.app2 (f349 h) vs G))) (
Ref.fork (cf (Ref.app2 (f350 h) vs G)) (
cf (Ref.app2 (f351 h) vs G))))) (
Ref.fork (Ref.fork (Ref.fork (cf (Ref.app2 (f352 h) vs G)) (
cf (Ref.app2 (f353 h) vs G))) (
Ref.fork (cf (Ref.app2 (f354 h) vs G)) (
cf (Ref.app3 (f355 h) vs G)))) (
Ref.fork (Ref.fork (cf (Ref.app3 (f356 h) vs G)) (
cf (Ref.app2 (f357 h) vs G))) (
Ref.fork (cf (Ref.app2 (f358 h) vs G)) (
cf (Ref.app1 (f359 h) vs G)))))))) (
Ref.fork (Ref.fork (Ref.fork (Ref.fork (Ref.fork (Ref.fork (cf (Ref.app2 (f375 h) vs G)) (
cf (Ref.app2 (f376 h) vs G))) (
Ref.fork (cf (Ref.app1 (f377 h) vs G)) (
cf (Ref.app1 (f378 h) vs G)))) (
Ref.fork (Ref.fork (cf (Ref.app2 (f379 h) vs G)) (
cf (Ref.app2 (f380 h) vs G))) (
Ref.fork (cf (Ref.app3 (f381 h) vs G)) (
cf (Ref.app1 (f382 h) vs G))))) (
Ref.fork (Ref.fork (Ref.fork (cf (Ref.app2 (f383 h) vs G)) (
cf (Ref.app2 (f384 h) vs G))) (
Ref.fork (cf (Ref.app2 (f385 h) vs G)) (
cf (Ref.app2 (f386 h) vs G)))) (
Ref.fork (Ref.fork (cf (Ref.app1 (f387 h) vs G)) (
cf (Ref.app2 (f388 h) vs G))) (
Ref.fork (cf (Ref.app2 (f389 h) vs G)) (
cf (Ref.app2 (f390 h) vs G)))))) (
Ref.fork (Ref.fork (Ref.fork (Ref.fork (cf (Ref.app1 (f391 h) vs G)) (
cf (Ref.app1 (f392 h) vs G))) (
Ref.fork (cf (Ref.app2 (f393 h) vs G)) (
cf (Ref.app2 (f394 h) vs G)))) (
Ref.fork (Ref.fork (cf (Ref.app2 (f395 h) vs G)) (
cf (Ref.app2 (f397 h) vs G))) (
Ref.fork (cf (Ref.app2 (f398 h) vs G)) (
cf (Ref.app2 (f400 h) vs G))))) (
Ref.fork (Ref.fork (Ref.fork (cf (Ref.app2 (f402 h) vs G)) (
cf (Ref.app2 (f403 h) vs G))) (
Ref.fork (cf (Ref.app2 (f404 h) vs G)) (
cf (Ref.app1 (f405 h) vs G)))) (
Ref.fork (Ref.fork (cf (Ref.app2 (f406 h) vs G)) (
cf (Ref.app2 (f407 h) vs G))) (
Ref.fork (cf (Ref.app3 (f408 h) vs G)) (
cf (Ref.app2 (f409 h) vs G))))))) (
Ref.fork (Ref.fork (Ref.fork (Ref.fork (Ref.fork (cf (Ref.app1 (f411 h) vs G)) (
cf (Ref.app1 (f412 h) vs G))) (
Ref.fork (cf (Ref.app2 (f413 h) vs G)) (
cf (Ref.app2 (f414 h) vs G)))) (
Ref.fork (Ref.fork (cf (Ref.app2 (f415 h) vs G)) (
cf (Ref.app2 (f418 h) vs G))) (
Ref.fork (cf (Ref.app2 (f419 h) vs G)) (
cf (Ref.app1 (f420 h) vs G))))) (
Ref.fork (Ref.fork (Ref.fork (cf (Ref.app2 (f421 h) vs G)) (
cf (Ref.app2 (f422 h) vs G))) (
Ref.fork (cf (Ref.app0 (f423 h) vs G)) (
cf (Ref.app2 (f424 h) vs G)))) (
Ref.fork (Ref.fork (cf (Ref.app2 (f425 h) vs G)) (
cf (Ref.app2 (f426 h) vs G))) (
Ref.fork (cf (Ref.app2 (f427 h) vs G)) (
cf (Ref.app2 (f428 h) vs G)))))) (
Ref.fork (Ref.fork (Ref.fork (Ref.fork (cf (Ref.app2 (f429 h) vs G)) (
cf (Ref.app2 (f430 h) vs G))) (
Ref.fork (cf (Ref.app2 (f431 h) vs G)) (
cf (Ref.app2 (f432 h) vs G)))) (
Ref.fork (Ref.fork (cf (Ref.app2 (f433 h) vs G)) (
cf (Ref.app2 (f434 h) vs G))) (
Ref.fork (cf (Ref.app2 (f435 h) vs G)) (
cf (Ref.app2 (f436 h) vs G))))) (
Ref.fork (Ref.fork (Ref.fork (cf (Ref.app1 (f437 h) vs G)) (
cf (Ref.app2 (f438 h) vs G))) (
Ref.fork (cf (Ref.app1 (f439 h) vs G)) (
cf (Ref.app3 (f440 h) vs G)))) (
Ref.fork (Ref.fork (cf (Ref.app5 (f441 h) vs G)) (
cf (Ref.app1 (f442 h) vs G))) (
Ref.fork (cf (Ref.app1 (f443 h) vs G)) (
Ref.fork (cf (Ref.app1 (f444 h) vs G)) (
cf (Ref.app1 (f445 h) vs G))))))))))
def lpT (FUEL : Nat) (e : Ex) (f k : Nat) (τ : Env) (G : GS) : OL :=
fork f 188 (fork f 71 (fork f 22 (fork f 3 (leaf f 3 (leaf k 0 (lpS 121 (b3_0 true e) FUEL τ G))) (
fork f 15 (leaf f 15 (leaf k 0 (lpS 39 (b15_0 true e) FUEL τ G))) (
leaf f 22 (leaf k 0 (lpS 24 (b22_0 true e) FUEL τ G))))) (
fork f 36 (fork f 34 (leaf f 34 (leaf k 0 (lpS 42 (b34_0 true e) FUEL τ G))) (
leaf f 36 (leaf k 0 (lpS 29 (b36_0 true e) FUEL τ G)))) (
fork f 56 (leaf f 56 (leaf k 0 (lpS 20 (b56_0 true e) FUEL τ G))) (
leaf f 71 (leaf k 0 (lpS 23 (b71_0 true e) FUEL τ G)))))) (
fork f 116 (fork f 100 (leaf f 100 (fork k 1 (fork k 0 (leaf k 0 (lpS 74 (b100_0 true e) FUEL τ G)) (leaf k 1 (lpS 74 (b100_1 true e) FUEL τ G))) (fork k 2 (leaf k 2 (lpS 74 (b100_2 true e) FUEL τ G)) (leaf k 3 (lpS 74 (b100_3 true e) FUEL τ G))))) (
fork f 115 (leaf f 115 (leaf k 0 (lpS 26 (b115_0 true e) FUEL τ G))) (
leaf f 116 (leaf k 0 (lpS 36 (b116_0 true e) FUEL τ G))))) (
fork f 119 (fork f 118 (leaf f 118 (leaf k 0 (lpS 27 (b118_0 true e) FUEL τ G))) (
leaf f 119 (leaf k 0 (lpS 40 (b119_0 true e) FUEL τ G)))) (
fork f 129 (leaf f 129 (leaf k 0 (lpS 29 (b129_0 true e) FUEL τ G))) (
leaf f 188 (leaf k 0 (lpS 34 (b188_0 true e) FUEL τ G))))))) (
fork f 356 (fork f 233 (fork f 192 (leaf f 192 (leaf k 0 (lpS 91 (b192_0 true e) FUEL τ G))) (
fork f 231 (leaf f 231 (leaf k 0 (lpS 35 (b231_0 true e) FUEL τ G))) (
leaf f 233 (leaf k 0 (lpS 40 (b233_0 true e) FUEL τ G))))) (
fork f 282 (fork f 241 (leaf f 241 (leaf k 0 (lpS 18 (b241_0 true e) FUEL τ G))) (
leaf f 282 (leaf k 0 (lpS 24 (b282_0 true e) FUEL τ G)))) (
fork f 284 (leaf f 284 (leaf k 0 (lpS 24 (b284_0 true e) FUEL τ G))) (
leaf f 356 (leaf k 0 (lpS 25 (b356_0 true e) FUEL τ G)))))) (
fork f 419 (fork f 376 (leaf f 376 (leaf k 0 (lpS 162 (b376_0 true e) FUEL τ G))) (
fork f 386 (leaf f 386 (leaf k 0 (lpS 195 (b386_0 true e) FUEL τ G))) (
leaf f 419 (leaf k 0 (lpS 36 (b419_0 true e) FUEL τ G))))) (
fork f 437 (fork f 425 (leaf f 425 (leaf k 0 (lpS 66 (b425_0 true e) FUEL τ G))) (
leaf f 437 (leaf k 0 (lpS 20 (b437_0 true e) FUEL τ G)))) (
fork f 443 (leaf f 443 (leaf k 0 (lpS 20 (b443_0 true e) FUEL τ G))) (
leaf f 444 (leaf k 0 (lpS 20 (b444_0 true e) FUEL τ G)))))))
theorem lpT_ok (h : ExLe Q e (E orc)) (FUEL f k : Nat) (τ : Env) (G : GS) : Ref (lpT FUEL e f k τ G) (mapE ((E orc).lp (codeAt Q f k) (lst (nOf Q f) τ) G)) :=
Ref.fork (Ref.fork (Ref.fork (Ref.fork (cl' (ck (lp_leaf (l3_0 h) _ _ _))) (
Ref.fork (cl' (ck (lp_leaf (l15_0 h) _ _ _))) (
cl' (ck (lp_leaf (l22_0 h) _ _ _))))) (
Ref.fork (Ref.fork (cl' (ck (lp_leaf (l34_0 h) _ _ _))) (
cl' (ck (lp_leaf (l36_0 h) _ _ _)))) (
Ref.fork (cl' (ck (lp_leaf (l56_0 h) _ _ _))) (
cl' (ck (lp_leaf (l71_0 h) _ _ _)))))) (
Ref.fork (Ref.fork (cl' (Ref.fork (Ref.fork (ck (lp_leaf (l100_0 h) _ _ _)) (ck (lp_leaf (l100_1 h) _ _ _))) (Ref.fork (ck (lp_leaf (l100_2 h) _ _ _)) (ck (lp_leaf (l100_3 h) _ _ _))))) (
Ref.fork (cl' (ck (lp_leaf (l115_0 h) _ _ _))) (
cl' (ck (lp_leaf (l116_0 h) _ _ _))))) (
Ref.fork (Ref.fork (cl' (ck (lp_leaf (l118_0 h) _ _ _))) (
cl' (ck (lp_leaf (l119_0 h) _ _ _)))) (
Ref.fork (cl' (ck (lp_leaf (l129_0 h) _ _ _))) (
cl' (ck (lp_leaf (l188_0 h) _ _ _))))))) (
Ref.fork (Ref.fork (Ref.fork (cl' (ck (lp_leaf (l192_0 h) _ _ _))) (
Ref.fork (cl' (ck (lp_leaf (l231_0 h) _ _ _))) (
cl' (ck (lp_leaf (l233_0 h) _ _ _))))) (
Ref.fork (Ref.fork (cl' (ck (lp_leaf (l241_0 h) _ _ _))) (
cl' (ck (lp_leaf (l282_0 h) _ _ _)))) (
Ref.fork (cl' (ck (lp_leaf (l284_0 h) _ _ _))) (
cl' (ck (lp_leaf (l356_0 h) _ _ _)))))) (
Ref.fork (Ref.fork (cl' (ck (lp_leaf (l376_0 h) _ _ _))) (
Ref.fork (cl' (ck (lp_leaf (l386_0 h) _ _ _))) (
cl' (ck (lp_leaf (l419_0 h) _ _ _))))) (
Ref.fork (Ref.fork (cl' (ck (lp_leaf (l425_0 h) _ _ _))) (
cl' (ck (lp_leaf (l437_0 h) _ _ _)))) (
Ref.fork (cl' (ck (lp_leaf (l443_0 h) _ _ _))) (
cl' (ck (lp_leaf (l444_0 h) _ _ _)))))))
def kE (orc : FuncId → Bool) (n : Nat) : Ex := Nat.rec (motive := fun _ => Ex) ⟨Ev.zero, fun _ _ _ _ => none⟩ (fun _ e => ⟨⟨(evO Q orc 0).ex, clT orc e, (evO Q orc 2000).rd, (evO Q orc 2000).sc, (evO Q orc 0).lp⟩, lpT 6000 e⟩) n
theorem kE_ok (orc : FuncId → Bool) : ∀ n, ExLe Q (kE orc n) (E orc)
  | 0 => ⟨zero_le _, fun _ _ _ _ => .nil _⟩
  | n + 1 => ⟨⟨(le_evL Q orc 0).ex, fun f vs G r hr => clT_ok (kE_ok orc n) f vs G r hr, (le_evL Q orc 2000).rd, (le_evL Q orc 2000).sc, (le_evL Q orc 0).lp⟩, lpT_ok (kE_ok orc n) 6000⟩
/-- what the tables find true is true -/
theorem at_kE {orc : FuncId → Bool} {n f : Nat} {vs : List Value} (h : isTrue ((kE orc n).ev.cl f vs GS.empty) = true) : ∃ G', (E orc).cl f vs GS.empty = some (.bool true, G') := isTrue_of ((kE_ok orc n).ev.cl f vs GS.empty) h
theorem closed_kE {orc : FuncId → Bool} (ho : OrcOk Q orc) (hmix : Q.follows .mixedOrders = true) {n f : Nat} (h : isTrue ((kE orc n).ev.cl f [] GS.empty) = true) (w : World) : Calls Q f #[] w fun e w' => e = .returned (.bool true) ∧ Go.RowKit.Below w.heap.size w w' :=
  let ⟨_, hG⟩ := at_kE h
  law_plain hmix ho hG fun _ => trivial
end
end Go.Proofs.YtfdanfpjlcnpkaaGreat.Lift
