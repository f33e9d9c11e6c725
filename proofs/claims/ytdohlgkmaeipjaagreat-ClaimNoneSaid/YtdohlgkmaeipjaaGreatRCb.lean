/- the program's code, spelled out by a program of ours (lift3.lean) -/
import Derived.Test.YtdohlgkmaeipjaaGreatRCa
namespace Go.Proofs.YtdohlgkmaeipjaaGreat.Lift
open Go Go.Proofs.YtdohlgkmaeipjaaGreat.Gh Go.Proofs
set_option linter.unusedVariables false
set_option maxRecDepth 100000
/-- coxswain/stack.on$1 -/
noncomputable def s354 (q : Bool) (e : Ex) (v0 v1 : Value) (G : GS) : Option (Value × GS) :=
  bP (bn Q q .lss 3 (.tmp 4) (.const (.int .i64 0)) v0 (.int .i64 0)) fun x0 =>
  bS (gd x0 false (some (v0, G)) G) fun x1 G2 =>
  bS (gd x0 false (bP (ld Q q 111 v1 G2) fun y => some (y, G2)) G2) fun x3 G4 =>
  bS (gd x0 false (bP (ln Q q 111 x3) fun y => some (y, G4)) G4) fun x5 G6 =>
  bS (gd x0 false (bP (bn Q q .geq 3 (.tmp 7) (.tmp 9) x1 x5) fun y => some (y, G6)) G6) fun x7 G8 =>
  bP (pickV x0 (.bool true) x7) fun x9 =>
  ifV x9 (
  some ((.int .u64 0), G8)) (
  bP (ld Q q 111 v1 G8) fun x10 =>
  bP (ias Q q 111 1 x10 v0) fun x11 =>
  bP (ld Q q 41 x11 G8) fun x12 =>
  some (x12, G8))
theorem m354 {e : Ex} {E : Ev} (h : ExLe Q e E) (v0 v1 : Value) (G : GS) : Ref (s354 true e v0 v1 G) (s354 false (Ex.of E) v0 v1 G) := by
  unfold s354
  exact Ref.gq
theorem f354 {orc : FuncId → Bool} {e : Ex} (h : ExLe Q e (E orc)) (v0 v1 : Value) (G : GS) : Ref (s354 true e v0 v1 G) ((E orc).cl 354 [v0, v1] G) :=
  fun r hr => cl_sxE_some Q orc (vs := [v0, v1]) G Tryz.func354 (by kernel_rfl) (by kernel_rfl) (by kernel_rfl) (by kernel_rfl) (by kernel_rfl) (by kernel_rfl) (m354 h v0 v1 G r hr)
noncomputable def b355_0 (q : Bool) (e : Ex) (lp : Env → GS → Option (Exit × Env × GS)) (τ : Env) (G : GS) : Option (Exit × Env × GS) :=
  bV q (τ 0) fun a0_ =>
  bV q (τ 1) fun a1_ =>
  bV q (τ 2) fun a2_ =>
  bV q (τ 4) fun a4_ =>
  bV q (τ 5) fun a5_ =>
  bP (bn Q q .geq 3 (.tmp 12) (.const (.int .i64 0)) a4_ (.int .i64 0)) fun x0 =>
  bS (gd x0 true (some (a5_, G)) G) fun x1 G2 =>
  bS (gd x0 true (bP (fa Q q 23 2 2 a1_) fun y => some (y, G2)) G2) fun x3 G4 =>
  bS (gd x0 true (bP (ld Q q 3 x3 G4) fun y => some (y, G4)) G4) fun x5 G6 =>
  bS (gd x0 true (bP (bn Q q .lss 3 (.tmp 15) (.tmp 17) x1 x5) fun y => some (y, G6)) G6) fun x7 G8 =>
  bP (pickV x0 x7 (.bool false)) fun x9 =>
  bS (gd x9 true (some (a0_, G8)) G8) fun x10 G11 =>
  bS (gd x9 true (some (a4_, G11)) G11) fun x12 G13 =>
  bS (gd x9 true (bS (cValue e.ev x10 [x12] G13) fun y G => some (y, G)) G13) fun x14 G15 =>
  bP (pickV x9 x14 (.bool false)) fun x16 =>
  ifV x16 (
  bP (lda Q q 23 3 a1_ (G15.room 9)) fun x17 =>
  bP (ld Q q 180 a2_ (G15.room 9)) fun x18 =>
  bP (fa Q q 23 1 1 a1_) fun x19 =>
  bP (ld Q q 3 x19 (G15.room 9)) fun x20 =>
  bP (bn Q q .add 3 (.tmp 30) (.tmp 31) x20 a4_) fun x21 =>
  bS (cValue e.ev x18 [x21] (G15.room 9)) fun x23 G22 =>
  chk ((sameO (lda Q q 23 3 a1_ G22) x17 && true)) <|
  bS (e.ev.cl 356 [x17, x23] G22) fun x25 G24 =>
  bP (bn Q q .add 3 (.tmp 25) (.const (.int .i64 1)) a5_ (.int .i64 1)) fun x26 =>
  lp (xq q 35 τ [(5, x26), (26, x26), (25, a5_), (4, x25), (34, x25), (33, x23), (32, x21), (31, a4_), (30, x20), (29, x19), (28, x18), (27, x17), (24, x16), (23, x14), (22, x12), (21, x10), (20, x9), (19, x9), (18, x7), (17, x5), (16, x3), (15, x1), (14, x0), (13, x0), (12, a4_)] [(0, a0_), (1, a1_), (2, a2_)]) G24) (
  some ((.exit 0), xq q 35 τ [(24, x16), (23, x14), (22, x12), (21, x10), (20, x9), (19, x9), (18, x7), (17, x5), (16, x3), (15, x1), (14, x0), (13, x0), (12, a4_)] [(0, a0_), (1, a1_), (2, a2_), (4, a4_), (5, a5_)], G15))
theorem mb355_0 {e : Ex} {E : Ev} (h : ExLe Q e E) {lp lp' : Env → GS → Option (Exit × Env × GS)} (hlp : LpLe lp lp') (τ : Env) (G : GS) : Ref (b355_0 true e lp τ G) (b355_0 false (Ex.of E) lp' τ G) := by
  unfold b355_0
  exact Ref.gq
theorem l355_0 {orc : FuncId → Bool} {e : Ex} (h : ExLe Q e (E orc)) (lp : Env → GS → Option (Exit × Env × GS)) (hlp : ∀ τ G, Ref (lp τ G) (mapE ((E orc).lp (subAt [1, 1, 0, 0] (bodyOf Tryz.f355)) (lst 35 τ) G))) (T : List Value) (G : GS) (hT : T.length = 35) : Ref (b355_0 true e lp (nth undef T) G) (mapE ((E orc).lp (subAt [1, 1, 0, 0] (bodyOf Tryz.f355)) T G)) :=
  fun r hr => lp_sxN Q orc G hT (by kernel_rfl) (mb355_0 h ⟨hlp⟩ _ _ r hr)
/-- coxswain/stack.on$2 -/
noncomputable def s355 (q : Bool) (e : Ex) (v0 v1 v2 : Value) (G : GS) : Option (Value × GS) :=
  bP (lda Q q 23 3 v1 (G.room 7)) fun x0 =>
  bP (ld Q q 180 v2 (G.room 7)) fun x1 =>
  bP (fa Q q 23 0 0 v1) fun x2 =>
  bP (ld Q q 3 x2 (G.room 7)) fun x3 =>
  bS (cValue e.ev x1 [x3] (G.room 7)) fun x5 G4 =>
  chk ((sameO (lda Q q 23 3 v1 G4) x0 && true)) <|
  bS (e.ev.cl 356 [x0, x5] G4) fun x7 G6 =>
  bLq q e 355 0 (subAt [1, 1, 0, 0] (bodyOf Tryz.f355)) 35 (nth undef [v0, v1, v2]) [(5, (.int .i64 0)), (4, x7), (11, x7), (10, x5), (9, x3), (8, x2), (7, x1), (6, x0)] [] G6 fun e8 t9 G10 =>
  ifE e8 (.exit 0) (
  some (.tuple #[], G10)) (none)
theorem m355 {e : Ex} {E : Ev} (h : ExLe Q e E) (v0 v1 v2 : Value) (G : GS) : Ref (s355 true e v0 v1 v2 G) (s355 false (Ex.of E) v0 v1 v2 G) := by
  unfold s355
  exact Ref.gq
theorem f355 {orc : FuncId → Bool} {e : Ex} (h : ExLe Q e (E orc)) (v0 v1 v2 : Value) (G : GS) : Ref (s355 true e v0 v1 v2 G) ((E orc).cl 355 [v0, v1, v2] G) :=
  fun r hr => cl_sxE_some Q orc (vs := [v0, v1, v2]) G Tryz.func355 (by kernel_rfl) (by kernel_rfl) (by kernel_rfl) (by kernel_rfl) (by kernel_rfl) (by kernel_rfl) (m355 h v0 v1 v2 G r hr)
/-- coxswain/stack.read -/
noncomputable def s356 (q : Bool) (e : Ex) (v0 v1 : Value) (G : GS) : Option (Value × GS) :=
  bS (bx q v0 G) fun x0 G1 =>
  bS (e.ev.cl 189 [v1] G1) fun x2 G3 =>
  bP (pExtract x2 0) fun x4 =>
  bP (pExtract x2 1) fun x5 =>
  bS (al Q q 274 z274 G3) fun x6 G7 =>
  bP (st Q q 274 2 x6 x4 G7) fun G8 =>
  bP (fa Q q 274 0 0 x6) fun x9 =>
  bP (ld Q q 3 x9 G8) fun x10 =>
  bP (fa Q q 23 2 2 x0) fun x11 =>
  bP (ld Q q 3 x11 G8) fun x12 =>
  bP (bn Q q .geq 3 (.tmp 13) (.tmp 15) x10 x12) fun x13 =>
  ifV x13 (
  some ((.int .i64 (-1)), G8)) (
  bP (fa Q q 274 0 0 x6) fun x14 =>
  bP (ld Q q 3 x14 G8) fun x15 =>
  some (x15, G8))
theorem m356 {e : Ex} {E : Ev} (h : ExLe Q e E) (v0 v1 : Value) (G : GS) : Ref (s356 true e v0 v1 G) (s356 false (Ex.of E) v0 v1 G) := by
  unfold s356
  exact Ref.gq
theorem f356 {orc : FuncId → Bool} {e : Ex} (h : ExLe Q e (E orc)) (v0 v1 : Value) (G : GS) : Ref (s356 true e v0 v1 G) ((E orc).cl 356 [v0, v1] G) :=
  fun r hr => cl_sxE_some Q orc (vs := [v0, v1]) G Tryz.func356 (by kernel_rfl) (by kernel_rfl) (by kernel_rfl) (by kernel_rfl) (by kernel_rfl) (by kernel_rfl) (m356 h v0 v1 G r hr)
noncomputable def b357_0 (q : Bool) (e : Ex) (lp : Env → GS → Option (Exit × Env × GS)) (τ : Env) (G : GS) : Option (Exit × Env × GS) :=
  bV q (τ 5) fun a5_ =>
  bV q (τ 6) fun a6_ =>
  bV q (τ 7) fun a7_ =>
  bP (bn Q q .lss 3 (.tmp 7) (.tmp 6) a7_ a6_) fun x0 =>
  ifV x0 (
  bP (ias Q q 538 3 a5_ a7_) fun x1 =>
  bP (lda Q q 505 3 x1 G) fun x2 =>
  bS (al Q q 505 z505 G) fun x3 G4 =>
  bP (st Q q 505 3 x3 x2 G4) fun G5 =>
  bP (fa Q q 505 0 0 x3) fun x6 =>
  bP (ld Q q 3 x6 G5) fun x7 =>
  bP (fa Q q 505 1 1 x3) fun x8 =>
  bP (ld Q q 3 x8 G5) fun x9 =>
  bP (bn Q q .lss 3 (.tmp 12) (.tmp 14) x7 x9) fun x10 =>
  bS (gd x10 false (bP (fa Q q 505 0 0 x3) fun y => some (y, G5)) G5) fun x11 G12 =>
  bS (gd x10 false (bP (ld Q q 3 x11 G12) fun y => some (y, G12)) G12) fun x13 G14 =>
  bS (gd x10 false (bP (fa Q q 505 2 2 x3) fun y => some (y, G14)) G14) fun x15 G16 =>
  bS (gd x10 false (bP (ld Q q 3 x15 G16) fun y => some (y, G16)) G16) fun x17 G18 =>
  bS (gd x10 false (bP (bn Q q .gtr 3 (.tmp 18) (.tmp 20) x13 x17) fun y => some (y, G18)) G18) fun x19 G20 =>
  bP (pickV x10 (.bool true) x19) fun x21 =>
  ifV x21 (
  some (.ret, xq q 24 τ [(2, (.bool false)), (22, x21), (21, x19), (20, x17), (19, x15), (18, x13), (17, x11), (16, x10), (15, x10), (14, x9), (13, x8), (12, x7), (11, x6), (4, x3), (10, x2), (9, x1), (8, x0)] [(5, a5_), (6, a6_), (7, a7_)], G20)) (
  bP (bn Q q .add 3 (.tmp 7) (.const (.int .i64 1)) a7_ (.int .i64 1)) fun x22 =>
  lp (xq q 24 τ [(7, x22), (23, x22), (22, x21), (21, x19), (20, x17), (19, x15), (18, x13), (17, x11), (16, x10), (15, x10), (14, x9), (13, x8), (12, x7), (11, x6), (4, x3), (10, x2), (9, x1), (8, x0)] [(5, a5_), (6, a6_)]) G20)) (
  some ((.exit 0), xq q 24 τ [(8, x0)] [(5, a5_), (6, a6_), (7, a7_)], G))
theorem mb357_0 {e : Ex} {E : Ev} (h : ExLe Q e E) {lp lp' : Env → GS → Option (Exit × Env × GS)} (hlp : LpLe lp lp') (τ : Env) (G : GS) : Ref (b357_0 true e lp τ G) (b357_0 false (Ex.of E) lp' τ G) := by
  unfold b357_0
  exact Ref.gq
theorem l357_0 {orc : FuncId → Bool} {e : Ex} (h : ExLe Q e (E orc)) (lp : Env → GS → Option (Exit × Env × GS)) (hlp : ∀ τ G, Ref (lp τ G) (mapE ((E orc).lp (subAt [1, 0, 1, 0, 0] (bodyOf Tryz.f357)) (lst 24 τ) G))) (T : List Value) (G : GS) (hT : T.length = 24) : Ref (b357_0 true e lp (nth undef T) G) (mapE ((E orc).lp (subAt [1, 0, 1, 0, 0] (bodyOf Tryz.f357)) T G)) :=
  fun r hr => lp_sxN Q orc G hT (by kernel_rfl) (mb357_0 h ⟨hlp⟩ _ _ r hr)
/-- coxswain/word.within -/
noncomputable def s357 (q : Bool) (e : Ex) (v0 : Value) (G : GS) : Option (Value × GS) :=
  bP (ln Q q 538 v0) fun x0 =>
  bLq q e 357 0 (subAt [1, 0, 1, 0, 0] (bodyOf Tryz.f357)) 24 (nth undef [v0]) [(7, (.int .i64 0)), (6, x0), (5, v0), (2, (.bool false))] [] G fun e1 t2 G3 =>
  bV q (t2 2) fun t2x2_ =>
  ifE e1 (.exit 0) (
  some ((.bool true), G3)) (ifE e1 .ret (
  some (t2x2_, G3)) (none))
theorem m357 {e : Ex} {E : Ev} (h : ExLe Q e E) (v0 : Value) (G : GS) : Ref (s357 true e v0 G) (s357 false (Ex.of E) v0 G) := by
  unfold s357
  exact Ref.gq
theorem f357 {orc : FuncId → Bool} {e : Ex} (h : ExLe Q e (E orc)) (v0 : Value) (G : GS) : Ref (s357 true e v0 G) ((E orc).cl 357 [v0] G) :=
  fun r hr => cl_sxE_some Q orc (vs := [v0]) G Tryz.func357 (by kernel_rfl) (by kernel_rfl) (by kernel_rfl) (by kernel_rfl) (by kernel_rfl) (by kernel_rfl) (m357 h v0 G r hr)
noncomputable def b358_0 (q : Bool) (e : Ex) (lp : Env → GS → Option (Exit × Env × GS)) (τ : Env) (G : GS) : Option (Exit × Env × GS) :=
  bV q (τ 1) fun a1_ =>
  bV q (τ 5) fun a5_ =>
  bV q (τ 8) fun a8_ =>
  bV q (τ 9) fun a9_ =>
  bV q (τ 10) fun a10_ =>
  bP (bn Q q .lss 3 (.tmp 10) (.tmp 9) a10_ a9_) fun x0 =>
  ifV x0 (
  bP (ias Q q 507 2 a8_ a10_) fun x1 =>
  bP (lda Q q 392 2 x1 G) fun x2 =>
  bS (al Q q 392 z392 G) fun x3 G4 =>
  bP (st Q q 392 2 x3 x2 G4) fun G5 =>
  bP (lda Q q 392 2 x3 (G5.room 8)) fun x6 =>
  bP (ias Q q 78 1 a1_ a10_) fun x7 =>
  bP (ld Q q 3 x7 (G5.room 8)) fun x8 =>
  bS (e.ev.cl 399 [a5_, x6, x8] (G5.room 8)) fun x10 G9 =>
  bP (bn Q q .add 3 (.tmp 10) (.const (.int .i64 1)) a10_ (.int .i64 1)) fun x11 =>
  lp (xq q 24 τ [(10, x11), (22, x11), (5, x10), (21, x10), (20, x8), (19, x7), (18, a10_), (17, a1_), (16, x6), (15, a5_), (6, a10_), (7, x3), (14, x2), (13, x1), (12, a10_), (11, x0)] [(1, a1_), (8, a8_), (9, a9_)]) G9) (
  some ((.exit 0), xq q 24 τ [(11, x0)] [(1, a1_), (5, a5_), (8, a8_), (9, a9_), (10, a10_)], G))
theorem mb358_0 {e : Ex} {E : Ev} (h : ExLe Q e E) {lp lp' : Env → GS → Option (Exit × Env × GS)} (hlp : LpLe lp lp') (τ : Env) (G : GS) : Ref (b358_0 true e lp τ G) (b358_0 false (Ex.of E) lp' τ G) := by
  unfold b358_0
  exact Ref.gq
theorem l358_0 {orc : FuncId → Bool} {e : Ex} (h : ExLe Q e (E orc)) (lp : Env → GS → Option (Exit × Env × GS)) (hlp : ∀ τ G, Ref (lp τ G) (mapE ((E orc).lp (subAt [1, 1, 0, 1, 0, 0] (bodyOf Tryz.f358)) (lst 24 τ) G))) (T : List Value) (G : GS) (hT : T.length = 24) : Ref (b358_0 true e lp (nth undef T) G) (mapE ((E orc).lp (subAt [1, 1, 0, 1, 0, 0] (bodyOf Tryz.f358)) T G)) :=
  fun r hr => lp_sxN Q orc G hT (by kernel_rfl) (mb358_0 h ⟨hlp⟩ _ _ r hr)
/-- coxswain/word.lay -/
noncomputable def s358 (q : Bool) (e : Ex) (v0 v1 : Value) (G : GS) : Option (Value × GS) :=
  bP (ln Q q 507 v0) fun x0 =>
  bLq q e 358 0 (subAt [1, 1, 0, 1, 0, 0] (bodyOf Tryz.f358)) 24 (nth undef [v0, v1]) [(10, (.int .i64 0)), (9, x0), (8, v0), (5, (.int .u64 0)), (4, (.int .u64 0))] [] G fun e1 t2 G3 =>
  bV q (t2 5) fun t2x5_ =>
  ifE e1 (.exit 0) (
  some (t2x5_, G3)) (none)
theorem m358 {e : Ex} {E : Ev} (h : ExLe Q e E) (v0 v1 : Value) (G : GS) : Ref (s358 true e v0 v1 G) (s358 false (Ex.of E) v0 v1 G) := by
  unfold s358
  exact Ref.gq
theorem f358 {orc : FuncId → Bool} {e : Ex} (h : ExLe Q e (E orc)) (v0 v1 : Value) (G : GS) : Ref (s358 true e v0 v1 G) ((E orc).cl 358 [v0, v1] G) :=
  fun r hr => cl_sxE_some Q orc (vs := [v0, v1]) G Tryz.func358 (by kernel_rfl) (by kernel_rfl) (by kernel_rfl) (by kernel_rfl) (by kernel_rfl) (by kernel_rfl) (m358 h v0 v1 G r hr)
noncomputable def b359_0 (q : Bool) (e : Ex) (lp : Env → GS → Option (Exit × Env × GS)) (τ : Env) (G : GS) : Option (Exit × Env × GS) :=
  bV q (τ 0) fun a0_ =>
  bV q (τ 1) fun a1_ =>
  bV q (τ 5) fun a5_ =>
  bV q (τ 6) fun a6_ =>
  bP (bn Q q .lss 3 (.tmp 6) (.tmp 5) a6_ a5_) fun x0 =>
  ifV x0 (
  bP (fa Q q 27 1 1 a1_) fun x1 =>
  bP (ld Q q 3 x1 G) fun x2 =>
  bP (bn Q q .add 3 (.tmp 12) (.tmp 13) x2 a6_) fun x3 =>
  bS (cValue e.ev a0_ [a6_, x3] G) fun x4 G5 =>
  bP (un Q q .not x4) fun x6 =>
  ifV x6 (
  some (.ret, xq q 18 τ [(16, x6), (15, x4), (14, x3), (13, a6_), (12, x2), (11, x1), (10, a6_), (9, a0_), (3, a6_), (8, a6_), (7, x0)] [(0, a0_), (1, a1_), (5, a5_), (6, a6_)], G5)) (
  bP (bn Q q .add 3 (.tmp 6) (.const (.int .i64 1)) a6_ (.int .i64 1)) fun x7 =>
  lp (xq q 18 τ [(6, x7), (17, x7), (16, x6), (15, x4), (14, x3), (13, a6_), (12, x2), (11, x1), (10, a6_), (9, a0_), (3, a6_), (8, a6_), (7, x0)] [(0, a0_), (1, a1_), (5, a5_)]) G5)) (
  some ((.exit 0), xq q 18 τ [(7, x0)] [(0, a0_), (1, a1_), (5, a5_), (6, a6_)], G))
theorem mb359_0 {e : Ex} {E : Ev} (h : ExLe Q e E) {lp lp' : Env → GS → Option (Exit × Env × GS)} (hlp : LpLe lp lp') (τ : Env) (G : GS) : Ref (b359_0 true e lp τ G) (b359_0 false (Ex.of E) lp' τ G) := by
  unfold b359_0
  exact Ref.gq
theorem l359_0 {orc : FuncId → Bool} {e : Ex} (h : ExLe Q e (E orc)) (lp : Env → GS → Option (Exit × Env × GS)) (hlp : ∀ τ G, Ref (lp τ G) (mapE ((E orc).lp (subAt [1, 0, 0] (bodyOf Tryz.f359)) (lst 18 τ) G))) (T : List Value) (G : GS) (hT : T.length = 18) : Ref (b359_0 true e lp (nth undef T) G) (mapE ((E orc).lp (subAt [1, 0, 0] (bodyOf Tryz.f359)) T G)) :=
  fun r hr => lp_sxN Q orc G hT (by kernel_rfl) (mb359_0 h ⟨hlp⟩ _ _ r hr)
/-- coxswain/epoch.pins$1 -/
noncomputable def s359 (q : Bool) (e : Ex) (v0 v1 : Value) (G : GS) : Option (Value × GS) :=
  bP (fa Q q 27 2 2 v1) fun x0 =>
  bP (ld Q q 3 x0 G) fun x1 =>
  bLq q e 359 0 (subAt [1, 0, 0] (bodyOf Tryz.f359)) 18 (nth undef [v0, v1]) [(6, (.int .i64 0)), (5, x1), (4, x0)] [] G fun e2 t3 G4 =>
  ifE e2 (.exit 0) (
  some (.tuple #[], G4)) (ifE e2 .ret (
  some (.tuple #[], G4)) (none))
theorem m359 {e : Ex} {E : Ev} (h : ExLe Q e E) (v0 v1 : Value) (G : GS) : Ref (s359 true e v0 v1 G) (s359 false (Ex.of E) v0 v1 G) := by
  unfold s359
  exact Ref.gq
theorem f359 {orc : FuncId → Bool} {e : Ex} (h : ExLe Q e (E orc)) (v0 v1 : Value) (G : GS) : Ref (s359 true e v0 v1 G) ((E orc).cl 359 [v0, v1] G) :=
  fun r hr => cl_sxE_some Q orc (vs := [v0, v1]) G Tryz.func359 (by kernel_rfl) (by kernel_rfl) (by kernel_rfl) (by kernel_rfl) (by kernel_rfl) (by kernel_rfl) (m359 h v0 v1 G r hr)
/-- coxswain/word.PutTop -/
noncomputable def s390 (q : Bool) (e : Ex) (v0 : Value) (G : GS) : Option (Value × GS) :=
  bS (bx q v0 G) fun x0 G1 =>
  bP (fa Q q 274 0 0 x0) fun x2 =>
  bP (ld Q q 3 x2 G1) fun x3 =>
  bP (bd Q q 505 z505 [(0, 0, 1), (1, 1, 1), (2, 2, 1)] [x3, (.int .i64 (-1)), (.int .i64 65534)]) fun x4 =>
  bP (fa Q q 274 1 1 x0) fun x5 =>
  bP (ld Q q 3 x5 G1) fun x6 =>
  bP (bd Q q 505 z505 [(0, 0, 1), (1, 1, 1), (2, 2, 1)] [x6, (.int .i64 0), (.int .i64 281474976710655)]) fun x7 =>
  bS (bs Q q 538 2 (rep z505 2) 3 [(0, 0, 3), (1, 3, 3)] [x4, x7] G1) fun x8 G9 =>
  bS (e.ev.cl 357 [x8] G9) fun x10 G11 =>
  bP (un Q q .not x10) fun x12 =>
  ifV x12 (
  some (.tuple #[(.int .u64 0), (.int .i64 3)], G11)) (
  bS (e.ev.cl 271 [] G11) fun x13 G14 =>
  bS (al Q q 393 z393 G14) fun x15 G16 =>
  bP (st Q q 393 4 x15 x13 G16) fun G17 =>
  bP (sla Q q 393 2 2 x15 none none none (G17.room 10)) fun x18 =>
  bP (fa Q q 274 0 0 x0) fun x19 =>
  bP (ld Q q 3 x19 (G17.room 10)) fun x20 =>
  bP (bn Q q .add 3 (.tmp 17) (.const (.int .i64 1)) x20 (.int .i64 1)) fun x21 =>
  bP (fa Q q 274 1 1 x0) fun x22 =>
  bP (ld Q q 3 x22 (G17.room 10)) fun x23 =>
  bS (bs Q q 78 2 (rep z3 2) 1 [(0, 0, 1), (1, 1, 1)] [x21, x23] ((G17.room 10).at' (G17.nx + 6))) fun x24 G25 =>
  bS (e.ev.cl 358 [x18, x24] (G25.back (G17.room 10))) fun x27 G26 =>
  some (.tuple #[x27, (.int .i64 0)], G26))
theorem m390 {e : Ex} {E : Ev} (h : ExLe Q e E) (v0 : Value) (G : GS) : Ref (s390 true e v0 G) (s390 false (Ex.of E) v0 G) := by
  unfold s390
  exact Ref.gq
theorem f390 {orc : FuncId → Bool} {e : Ex} (h : ExLe Q e (E orc)) (v0 : Value) (G : GS) : Ref (s390 true e v0 G) ((E orc).cl 390 [v0] G) :=
  fun r hr => cl_sxE_some Q orc (vs := [v0]) G Tryz.func390 (by kernel_rfl) (by kernel_rfl) (by kernel_rfl) (by kernel_rfl) (by kernel_rfl) (by kernel_rfl) (m390 h v0 G r hr)
/-- (*coxswain/stack.held).load -/
noncomputable def s392 (q : Bool) (e : Ex) (v0 v1 : Value) (G : GS) : Option (Value × GS) :=
  bP (pNil v0) fun x0 =>
  bP (fa Q q 486 0 0 x0) fun x1 =>
  bP (fa Q q 23 0 0 x1) fun x2 =>
  bP (ld Q q 3 x2 G) fun x3 =>
  bS (e.ev.cl 177 [v1, x3] G) fun x4 G5 =>
  bP (pNil v0) fun x6 =>
  bP (fa Q q 486 1 3 x6) fun x7 =>
  bP (st Q q 41 1 x7 x4 G5) fun G8 =>
  bP (pNil v0) fun x9 =>
  bP (fa Q q 486 0 0 x9) fun x10 =>
  bP (lda Q q 23 3 x10 (G8.room 10)) fun x11 =>
  bP (pNil v0) fun x12 =>
  bP (fa Q q 486 1 3 x12) fun x13 =>
  bP (ld Q q 41 x13 (G8.room 10)) fun x14 =>
  bS (e.ev.cl 356 [x11, x14] (G8.room 10)) fun x16 G15 =>
  some (x16, G15)
theorem m392 {e : Ex} {E : Ev} (h : ExLe Q e E) (v0 v1 : Value) (G : GS) : Ref (s392 true e v0 v1 G) (s392 false (Ex.of E) v0 v1 G) := by
  unfold s392
  exact Ref.gq
theorem f392 {orc : FuncId → Bool} {e : Ex} (h : ExLe Q e (E orc)) (v0 v1 : Value) (G : GS) : Ref (s392 true e v0 v1 G) ((E orc).cl 392 [v0, v1] G) :=
  fun r hr => cl_sxE_some Q orc (vs := [v0, v1]) G Tryz.func392 (by kernel_rfl) (by kernel_rfl) (by kernel_rfl) (by kernel_rfl) (by kernel_rfl) (by kernel_rfl) (m392 h v0 v1 G r hr)
/-- (*coxswain/stack.held).over -/
noncomputable def s393 (q : Bool) (e : Ex) (v0 : Value) (G : GS) : Option (Value × GS) :=
  bP (ep Q q false 536 (.tmp 3) (.const (.pointer none)) v0 (.pointer none)) fun x0 =>
  bS (gd x0 false (some (v0, G)) G) fun x1 G2 =>
  bS (gd x0 false (bP (pNil x1) fun y => some (y, G2)) G2) fun x3 G4 =>
  bS (gd x0 false (bP (fa Q q 486 4 6 x3) fun y => some (y, G4)) G4) fun x5 G6 =>
  bS (gd x0 false (bP (ld Q q 4 x5 G6) fun y => some (y, G6)) G6) fun x7 G8 =>
  bS (gd x0 false (bP (un Q q .not x7) fun y => some (y, G8)) G8) fun x9 G10 =>
  bP (pickV x0 (.bool true) x9) fun x11 =>
  bS (gd x11 false (some (v0, G10)) G10) fun x12 G13 =>
  bS (gd x11 false (bP (pNil x12) fun y => some (y, G13)) G13) fun x14 G15 =>
  bS (gd x11 false (bP (fa Q q 486 5 7 x14) fun y => some (y, G15)) G15) fun x16 G17 =>
  bS (gd x11 false (bP (ld Q q 4 x16 G17) fun y => some (y, G17)) G17) fun x18 G19 =>
  bP (pickV x11 (.bool true) x18) fun x20 =>
  some (x20, G19)
theorem m393 {e : Ex} {E : Ev} (h : ExLe Q e E) (v0 : Value) (G : GS) : Ref (s393 true e v0 G) (s393 false (Ex.of E) v0 G) := by
  unfold s393
  exact Ref.gq
theorem f393 {orc : FuncId → Bool} {e : Ex} (h : ExLe Q e (E orc)) (v0 : Value) (G : GS) : Ref (s393 true e v0 G) ((E orc).cl 393 [v0] G) :=
  fun r hr => cl_sxE_some Q orc (vs := [v0]) G Tryz.func393 (by kernel_rfl) (by kernel_rfl) (by kernel_rfl) (by kernel_rfl) (by kernel_rfl) (by kernel_rfl) (m393 h v0 G r hr)
/-- (*coxswain/stack.Push).second -/
noncomputable def s395 (q : Bool) (e : Ex) (v0 v1 : Value) (G : GS) : Option (Value × GS) :=
  bP (pNil v0) fun x0 =>
  bP (fa Q q 498 0 0 x0) fun x1 =>
  bP (fa Q q 486 0 0 x1) fun x2 =>
  bP (fa Q q 23 1 1 x2) fun x3 =>
  bP (ld Q q 3 x3 (G.room 20)) fun x4 =>
  bP (pNil v0) fun x5 =>
  bP (fa Q q 498 0 0 x5) fun x6 =>
  bP (fa Q q 486 2 4 x6) fun x7 =>
  bP (ld Q q 3 x7 (G.room 20)) fun x8 =>
  bP (bn Q q .add 3 (.tmp 10) (.tmp 15) x4 x8) fun x9 =>
  bP (pNil v0) fun x10 =>
  bP (fa Q q 498 0 0 x10) fun x11 =>
  bP (fa Q q 486 3 5 x11) fun x12 =>
  bP (ld Q q 3 x12 (G.room 20)) fun x13 =>
  bS (e.ev.cl 334 [x13] (G.room 20)) fun x15 G14 =>
  chk ((sameO (ld Q q 3 x7 G14) x8 && (sameO (ld Q q 3 x3 G14) x4 && true))) <|
  bS (e.ev.cl 45 [v1, x9, x15] G14) fun x17 G16 =>
  bP (pNil v0) fun x18 =>
  bP (fa Q q 498 1 9 x18) fun x19 =>
  bP (st Q q 496 1 x19 (.func (.func 421) #[] #[]) G16) fun G20 =>
  some (.tuple #[], G20)
theorem m395 {e : Ex} {E : Ev} (h : ExLe Q e E) (v0 v1 : Value) (G : GS) : Ref (s395 true e v0 v1 G) (s395 false (Ex.of E) v0 v1 G) := by
  unfold s395
  exact Ref.gq
theorem f395 {orc : FuncId → Bool} {e : Ex} (h : ExLe Q e (E orc)) (v0 v1 : Value) (G : GS) : Ref (s395 true e v0 v1 G) ((E orc).cl 395 [v0, v1] G) :=
  fun r hr => cl_sxE_some Q orc (vs := [v0, v1]) G Tryz.func395 (by kernel_rfl) (by kernel_rfl) (by kernel_rfl) (by kernel_rfl) (by kernel_rfl) (by kernel_rfl) (m395 h v0 v1 G r hr)
noncomputable def b397_0 (q : Bool) (e : Ex) (lp : Env → GS → Option (Exit × Env × GS)) (τ : Env) (G : GS) : Option (Exit × Env × GS) :=
  bV q (τ 0) fun a0_ =>
  bV q (τ 2) fun a2_ =>
  bV q (τ 4) fun a4_ =>
  bV q (τ 5) fun a5_ =>
  bP (bn Q q .geq 3 (.tmp 9) (.const (.int .i64 0)) a5_ (.int .i64 0)) fun x0 =>
  ifV x0 (
  bP (fa Q q 280 0 0 a4_) fun x1 =>
  bP (st Q q 3 1 x1 a5_ G) fun G2 =>
  bP (fa Q q 280 3 3 a4_) fun x3 =>
  bP (st Q q 41 1 x3 (.int .u64 0) G2) fun G4 =>
  bP (lda Q q 280 4 a4_ G4) fun x5 =>
  bS (cValue e.ev a0_ [a5_, x5] G4) fun x6 G7 =>
  bP (un Q q .not x6) fun x8 =>
  ifV x8 (
  some (.ret, xq q 25 τ [(20, x8), (19, x6), (18, x5), (17, a5_), (16, a0_), (15, x3), (14, x1), (13, a5_), (10, x0), (9, a5_)] [(0, a0_), (2, a2_), (4, a4_), (5, a5_)], G7)) (
  bP (ld Q q 281 a2_ G7) fun x9 =>
  bP (ias Q q 281 4 x9 a5_) fun x10 =>
  bP (lda Q q 280 4 x10 G7) fun x11 =>
  bP (st Q q 280 4 a4_ x11 G7) fun G12 =>
  bP (bn Q q .sub 3 (.tmp 11) (.const (.int .i64 1)) a5_ (.int .i64 1)) fun x13 =>
  lp (xq q 25 τ [(5, x13), (12, x13), (11, a5_), (24, x11), (23, x10), (22, a5_), (21, x9), (20, x8), (19, x6), (18, x5), (17, a5_), (16, a0_), (15, x3), (14, x1), (13, a5_), (10, x0), (9, a5_)] [(0, a0_), (2, a2_), (4, a4_)]) G12)) (
  some ((.exit 0), xq q 25 τ [(10, x0), (9, a5_)] [(0, a0_), (2, a2_), (4, a4_), (5, a5_)], G))
theorem mb397_0 {e : Ex} {E : Ev} (h : ExLe Q e E) {lp lp' : Env → GS → Option (Exit × Env × GS)} (hlp : LpLe lp lp') (τ : Env) (G : GS) : Ref (b397_0 true e lp τ G) (b397_0 false (Ex.of E) lp' τ G) := by
  unfold b397_0
  exact Ref.gq
theorem l397_0 {orc : FuncId → Bool} {e : Ex} (h : ExLe Q e (E orc)) (lp : Env → GS → Option (Exit × Env × GS)) (hlp : ∀ τ G, Ref (lp τ G) (mapE ((E orc).lp (subAt [1, 1, 0, 0] (bodyOf Tryz.f397)) (lst 25 τ) G))) (T : List Value) (G : GS) (hT : T.length = 25) : Ref (b397_0 true e lp (nth undef T) G) (mapE ((E orc).lp (subAt [1, 1, 0, 0] (bodyOf Tryz.f397)) T G)) :=
  fun r hr => lp_sxN Q orc G hT (by kernel_rfl) (mb397_0 h ⟨hlp⟩ _ _ r hr)
/-- coxswain/find.down$1 -/
noncomputable def s397 (q : Bool) (e : Ex) (v0 v1 v2 : Value) (G : GS) : Option (Value × GS) :=
  bP (bd Q q 280 z280 [(1, 1, 1)] [(.int .i64 (-1))]) fun x0 =>
  bS (al Q q 280 z280 G) fun x1 G2 =>
  bP (st Q q 280 4 x1 x0 G2) fun G3 =>
  bP (ld Q q 3 v1 G3) fun x4 =>
  bP (bn Q q .sub 3 (.tmp 7) (.const (.int .i64 1)) x4 (.int .i64 1)) fun x5 =>
  bLq q e 397 0 (subAt [1, 1, 0, 0] (bodyOf Tryz.f397)) 25 (nth undef [v0, v1, v2]) [(5, x5), (8, x5), (7, x4), (4, x1), (6, x0)] [] G3 fun e6 t7 G8 =>
  ifE e6 (.exit 0) (
  some (.tuple #[], G8)) (ifE e6 .ret (
  some (.tuple #[], G8)) (none))
theorem m397 {e : Ex} {E : Ev} (h : ExLe Q e E) (v0 v1 v2 : Value) (G : GS) : Ref (s397 true e v0 v1 v2 G) (s397 false (Ex.of E) v0 v1 v2 G) := by
  unfold s397
  exact Ref.gq
theorem f397 {orc : FuncId → Bool} {e : Ex} (h : ExLe Q e (E orc)) (v0 v1 v2 : Value) (G : GS) : Ref (s397 true e v0 v1 v2 G) ((E orc).cl 397 [v0, v1, v2] G) :=
  fun r hr => cl_sxE_some Q orc (vs := [v0, v1, v2]) G Tryz.func397 (by kernel_rfl) (by kernel_rfl) (by kernel_rfl) (by kernel_rfl) (by kernel_rfl) (by kernel_rfl) (m397 h v0 v1 v2 G r hr)
/-- (*coxswain/stack.Push).Step -/
noncomputable def s398 (q : Bool) (e : Ex) (v0 v1 : Value) (G : GS) : Option (Value × GS) :=
  bP (ep Q q false 381 (.tmp 5) (.const (.pointer none)) v0 (.pointer none)) fun x0 =>
  bS (gd x0 false (some (v0, G)) G) fun x1 G2 =>
  bS (gd x0 false (bP (pNil x1) fun y => some (y, G2)) G2) fun x3 G4 =>
  bS (gd x0 false (bP (fa Q q 498 0 0 x3) fun y => some (y, G4)) G4) fun x5 G6 =>
  bS (gd x0 false (bS (e.ev.cl 393 [x5] G6) fun y G => some (y, G)) G6) fun x7 G8 =>
  bP (pickV x0 (.bool true) x7) fun x9 =>
  ifV x9 (
  some ((.bool true), G8)) (
  bP (pNil v0) fun x10 =>
  bP (fa Q q 498 1 9 x10) fun x11 =>
  bP (ld Q q 496 x11 G8) fun x12 =>
  bS (cValue e.ev x12 [v0, v1] G8) fun x13 G14 =>
  bP (pNil v0) fun x15 =>
  bP (fa Q q 498 0 0 x15) fun x16 =>
  bP (fa Q q 486 5 7 x16) fun x17 =>
  bP (ld Q q 4 x17 G14) fun x18 =>
  some (x18, G14))
theorem m398 {e : Ex} {E : Ev} (h : ExLe Q e E) (v0 v1 : Value) (G : GS) : Ref (s398 true e v0 v1 G) (s398 false (Ex.of E) v0 v1 G) := by
  unfold s398
  exact Ref.gq
theorem f398 {orc : FuncId → Bool} {e : Ex} (h : ExLe Q e (E orc)) (v0 v1 : Value) (G : GS) : Ref (s398 true e v0 v1 G) ((E orc).cl 398 [v0, v1] G) :=
  fun r hr => cl_sxE_some Q orc (vs := [v0, v1]) G Tryz.func398 (by kernel_rfl) (by kernel_rfl) (by kernel_rfl) (by kernel_rfl) (by kernel_rfl) (by kernel_rfl) (m398 h v0 v1 G r hr)
/-- (coxswain/word.raw).with -/
noncomputable def s399 (q : Bool) (e : Ex) (v0 v1 v2 : Value) (G : GS) : Option (Value × GS) :=
  bS (bx q v1 G) fun x0 G1 =>
  bP (cv Q q 3 41 .i64 .u64 v2) fun x2 =>
  bP (fa Q q 392 0 0 x0) fun x3 =>
  bP (ld Q q 3 x3 G1) fun x4 =>
  bP (bn Q q .shl 41 (.tmp 9) (.tmp 11) x2 x4) fun x5 =>
  bP (bn Q q .or 395 (.tmp 7) (.tmp 12) v0 x5) fun x6 =>
  some (x6, G1)
theorem m399 {e : Ex} {E : Ev} (h : ExLe Q e E) (v0 v1 v2 : Value) (G : GS) : Ref (s399 true e v0 v1 v2 G) (s399 false (Ex.of E) v0 v1 v2 G) := by
  unfold s399
  exact Ref.gq
theorem f399 {orc : FuncId → Bool} {e : Ex} (h : ExLe Q e (E orc)) (v0 v1 v2 : Value) (G : GS) : Ref (s399 true e v0 v1 v2 G) ((E orc).cl 399 [v0, v1, v2] G) :=
  fun r hr => cl_sxE_some Q orc (vs := [v0, v1, v2]) G Tryz.func399 (by kernel_rfl) (by kernel_rfl) (by kernel_rfl) (by kernel_rfl) (by kernel_rfl) (by kernel_rfl) (m399 h v0 v1 v2 G r hr)
/-- (*coxswain/stack.Push).third -/
noncomputable def s421 (q : Bool) (e : Ex) (v0 v1 : Value) (G : GS) : Option (Value × GS) :=
  bP (pNil v0) fun x0 =>
  bP (fa Q q 498 1 9 x0) fun x1 =>
  bP (st Q q 496 1 x1 (.func (.func 344) #[] #[]) G) fun G2 =>
  bP (pNil v0) fun x3 =>
  bP (fa Q q 498 0 0 x3) fun x4 =>
  bP (pNil v0) fun x5 =>
  bP (fa Q q 498 0 0 x5) fun x6 =>
  bP (fa Q q 486 2 4 x6) fun x7 =>
  bP (ld Q q 3 x7 (G2.room 10)) fun x8 =>
  bS (e.ev.cl 435 [x4, v1, x8] (G2.room 10)) fun x10 G9 =>
  ifV x10 (
  bP (pNil v0) fun x11 =>
  bP (fa Q q 498 0 0 x11) fun x12 =>
  bS (e.ev.cl 345 [x12, (.int .i64 0)] G9) fun x13 G14 =>
  some (.tuple #[], G14)) (
  some (.tuple #[], G9))
theorem m421 {e : Ex} {E : Ev} (h : ExLe Q e E) (v0 v1 : Value) (G : GS) : Ref (s421 true e v0 v1 G) (s421 false (Ex.of E) v0 v1 G) := by
  unfold s421
  exact Ref.gq
theorem f421 {orc : FuncId → Bool} {e : Ex} (h : ExLe Q e (E orc)) (v0 v1 : Value) (G : GS) : Ref (s421 true e v0 v1 G) ((E orc).cl 421 [v0, v1] G) :=
  fun r hr => cl_sxE_some Q orc (vs := [v0, v1]) G Tryz.func421 (by kernel_rfl) (by kernel_rfl) (by kernel_rfl) (by kernel_rfl) (by kernel_rfl) (by kernel_rfl) (m421 h v0 v1 G r hr)
/-- (*coxswain/stack.held).swap -/
noncomputable def s435 (q : Bool) (e : Ex) (v0 v1 v2 : Value) (G : GS) : Option (Value × GS) :=
  bP (pNil v0) fun x0 =>
  bP (fa Q q 486 1 3 x0) fun x1 =>
  bP (ld Q q 41 x1 G) fun x2 =>
  bS (e.ev.cl 189 [x2] G) fun x3 G4 =>
  bP (pExtract x3 0) fun x5 =>
  bP (pExtract x3 1) fun x6 =>
  bS (al Q q 274 z274 G4) fun x7 G8 =>
  bP (st Q q 274 2 x7 x5 G8) fun G9 =>
  bP (fa Q q 274 1 1 x7) fun x10 =>
  bP (ld Q q 3 x10 G9) fun x11 =>
  bP (bn Q q .add 3 (.tmp 22) (.const (.int .i64 1)) x11 (.int .i64 1)) fun x12 =>
  bP (bn Q q .and 3 (.tmp 23) (.const (.int .i64 281474976710655)) x12 (.int .i64 281474976710655)) fun x13 =>
  bP (bd Q q 274 z274 [(0, 0, 1), (1, 1, 1)] [v2, x13]) fun x14 =>
  bS (e.ev.cl 390 [x14] G9) fun x15 G16 =>
  bP (pExtract x15 0) fun x17 =>
  bP (pExtract x15 1) fun x18 =>
  bP (pNil v0) fun x19 =>
  bP (fa Q q 486 0 0 x19) fun x20 =>
  bP (fa Q q 23 0 0 x20) fun x21 =>
  bP (ld Q q 3 x21 (G16.room 13)) fun x22 =>
  bP (pNil v0) fun x23 =>
  bP (fa Q q 486 1 3 x23) fun x24 =>
  bP (ld Q q 41 x24 (G16.room 13)) fun x25 =>
  bS (e.ev.cl 68 [v1, x22, x25, x17] (G16.room 13)) fun x27 G26 =>
  some (x27, G26)
theorem m435 {e : Ex} {E : Ev} (h : ExLe Q e E) (v0 v1 v2 : Value) (G : GS) : Ref (s435 true e v0 v1 v2 G) (s435 false (Ex.of E) v0 v1 v2 G) := by
  unfold s435
  exact Ref.gq
theorem f435 {orc : FuncId → Bool} {e : Ex} (h : ExLe Q e (E orc)) (v0 v1 v2 : Value) (G : GS) : Ref (s435 true e v0 v1 v2 G) ((E orc).cl 435 [v0, v1, v2] G) :=
  fun r hr => cl_sxE_some Q orc (vs := [v0, v1, v2]) G Tryz.func435 (by kernel_rfl) (by kernel_rfl) (by kernel_rfl) (by kernel_rfl) (by kernel_rfl) (by kernel_rfl) (m435 h v0 v1 v2 G r hr)
/-- (coxswain/tower.node).cells -/
noncomputable def s520 (q : Bool) (e : Ex) (v0 : Value) (G : GS) : Option (Value × GS) :=
  bP (bn Q q .add 3 (.const (.int .i64 4)) (.tmp 3) (.int .i64 4) v0) fun x0 =>
  some (x0, G)
theorem m520 {e : Ex} {E : Ev} (h : ExLe Q e E) (v0 : Value) (G : GS) : Ref (s520 true e v0 G) (s520 false (Ex.of E) v0 G) := by
  unfold s520
  exact Ref.gq
theorem f520 {orc : FuncId → Bool} {e : Ex} (h : ExLe Q e (E orc)) (v0 : Value) (G : GS) : Ref (s520 true e v0 G) ((E orc).cl 520 [v0] G) :=
  fun r hr => cl_sxE_some Q orc (vs := [v0]) G Tryz.func520 (by kernel_rfl) (by kernel_rfl) (by kernel_rfl) (by kernel_rfl) (by kernel_rfl) (by kernel_rfl) (m520 h v0 G r hr)
/-- (coxswain/tower.head).cells -/
noncomputable def s521 (q : Bool) (e : Ex) (v0 : Value) (G : GS) : Option (Value × GS) :=
  some (v0, G)
theorem m521 {e : Ex} {E : Ev} (h : ExLe Q e E) (v0 : Value) (G : GS) : Ref (s521 true e v0 G) (s521 false (Ex.of E) v0 G) := by
  unfold s521
  exact Ref.gq
theorem f521 {orc : FuncId → Bool} {e : Ex} (h : ExLe Q e (E orc)) (v0 : Value) (G : GS) : Ref (s521 true e v0 G) ((E orc).cl 521 [v0] G) :=
  fun r hr => cl_sxE_some Q orc (vs := [v0]) G Tryz.func521 (by kernel_rfl) (by kernel_rfl) (by kernel_rfl) (by kernel_rfl) (by kernel_rfl) (by kernel_rfl) (m521 h v0 G r hr)
noncomputable def clT (orc : FuncId → Bool) (e : Ex) (f : FuncId) (vs : List Value) (G : GS) : Option (Value × GS) :=
  fork f 193 (
fork f 71 (
fork f 21 (
fork f 14 (
fork f 10 (
fork f 3 (
leaf f 3 (app1 (s3 true e) vs G)) (
fork f 9 (
leaf f 9 (app1 (s9 true e) vs G)) (
leaf f 10 (app1 (s10 true e) vs G)))) (
fork f 12 (
fork f 11 (
leaf f 11 (app1 (s11 true e) vs G)) (
leaf f 12 (app2 (s12 true e) vs G))) (
fork f 13 (
leaf f 13 (app2 (s13 true e) vs G)) (
leaf f 14 (app3 (s14 true e) vs G))))) (
fork f 17 (
fork f 15 (
leaf f 15 (app1 (s15 true e) vs G)) (
fork f 16 (
leaf f 16 (app1 (s16 true e) vs G)) (
leaf f 17 (app1 (s17 true e) vs G)))) (
fork f 19 (
fork f 18 (
leaf f 18 (app1 (s18 true e) vs G)) (
leaf f 19 (app1 (s19 true e) vs G))) (
fork f 20 (
leaf f 20 (app1 (s20 true e) vs G)) (
leaf f 21 (app1 (s21 true e) vs G)))))) (
fork f 63 (
fork f 49 (
fork f 22 (
leaf f 22 (app0 (orc 22) (hasTab Q G) (s22 true e) vs G)) (
fork f 45 (
leaf f 45 (app3 (s45 true e) vs G)) (
leaf f 49 (app1 (s49 true e) vs G)))) (
fork f 61 (
fork f 53 (
leaf f 53 (app1 (s53 true e) vs G)) (
leaf f 61 (app1 (s61 true e) vs G))) (
fork f 62 (
leaf f 62 (app1 (s62 true e) vs G)) (
leaf f 63 (app1 (s63 true e) vs G))))) (
fork f 67 (
fork f 65 (
fork f 64 (
leaf f 64 (app2 (s64 true e) vs G)) (
leaf f 65 (app2 (s65 true e) vs G))) (
fork f 66 (
leaf f 66 (app3 (s66 true e) vs G)) (
leaf f 67 (app1 (s67 true e) vs G)))) (
fork f 69 (
fork f 68 (
leaf f 68 (app4 (s68 true e) vs G)) (
leaf f 69 (app3 (s69 true e) vs G))) (
fork f 70 (
leaf f 70 (app2 (s70 true e) vs G)) (
leaf f 71 (app2 (s71 true e) vs G))))))) (
fork f 85 (
fork f 78 (
fork f 74 (
fork f 72 (
leaf f 72 (app2 (s72 true e) vs G)) (
fork f 73 (
leaf f 73 (app2 (s73 true e) vs G)) (
leaf f 74 (app1 (s74 true e) vs G)))) (
fork f 76 (
fork f 75 (
leaf f 75 (app2 (s75 true e) vs G)) (
leaf f 76 (app3 (s76 true e) vs G))) (
fork f 77 (
leaf f 77 (app2 (s77 true e) vs G)) (
leaf f 78 (app1 (s78 true e) vs G))))) (
fork f 81 (
fork f 79 (
leaf f 79 (app1 (s79 true e) vs G)) (
fork f 80 (
leaf f 80 (app0 (orc 80) (hasTab Q G) (s80 true e) vs G)) (
leaf f 81 (app4 (s81 true e) vs G)))) (
fork f 83 (
fork f 82 (
leaf f 82 (app4 (s82 true e) vs G)) (
leaf f 83 (app3 (s83 true e) vs G))) (
fork f 84 (
leaf f 84 (app2 (s84 true e) vs G)) (
leaf f 85 (app2 (s85 true e) vs G)))))) (
fork f 159 (
fork f 103 (
fork f 86 (
leaf f 86 (app0 (orc 86) (hasTab Q G) (s86 true e) vs G)) (
fork f 102 (
leaf f 102 (app1 (s102 true e) vs G)) (
leaf f 103 (app1 (s103 true e) vs G)))) (
fork f 156 (
fork f 105 (
leaf f 105 (app1 (s105 true e) vs G)) (
leaf f 156 (app2 (s156 true e) vs G))) (
fork f 158 (
leaf f 158 (app2 (s158 true e) vs G)) (
leaf f 159 (app5 (s159 true e) vs G))))) (
fork f 189 (
fork f 171 (
fork f 160 (
leaf f 160 (app1 (s160 true e) vs G)) (
leaf f 171 (app2 (s171 true e) vs G))) (
fork f 177 (
leaf f 177 (app2 (s177 true e) vs G)) (
leaf f 189 (app1 (s189 true e) vs G)))) (
fork f 191 (
fork f 190 (
leaf f 190 (app1 (s190 true e) vs G)) (
leaf f 191 (app3 (s191 true e) vs G))) (
fork f 192 (
leaf f 192 (app1 (s192 true e) vs G)) (
leaf f 193 (app1 (s193 true e) vs G)))))))) (
fork f 283 (
fork f 257 (
fork f 200 (
fork f 196 (
fork f 194 (
leaf f 194 (app2 (s194 true e) vs G)) (
fork f 195 (
leaf f 195 (app1 (s195 true e) vs G)) (
leaf f 196 (app2 (s196 true e) vs G)))) (
fork f 198 (
fork f 197 (
leaf f 197 (app1 (s197 true e) vs G)) (
leaf f 198 (app3 (s198 true e) vs G))) (
fork f 199 (
leaf f 199 (app2 (s199 true e) vs G)) (
leaf f 200 (app2 (s200 true e) vs G))))) (
fork f 246 (
fork f 201 (
leaf f 201 (app3 (s201 true e) vs G)) (
fork f 202 (
leaf f 202 (app2 (s202 true e) vs G)) (
leaf f 246 (app2 (s246 true e) vs G)))) (
fork f 254 (
fork f 248 (
leaf f 248 (app1 (s248 true e) vs G)) (
leaf f 254 (app1 (s254 true e) vs G))) (
fork f 256 (
leaf f 256 (app1 (s256 true e) vs G)) (
leaf f 257 (app2 (s257 true e) vs G)))))) (
fork f 275 (
fork f 271 (
fork f 260 (
leaf f 260 (app1 (s260 true e) vs G)) (
fork f 268 (
leaf f 268 (app2 (s268 true e) vs G)) (
leaf f 271 (app0 (orc 271) (hasTab Q G) (s271 true e) vs G)))) (
fork f 273 (
fork f 272 (
leaf f 272 (app2 (s272 true e) vs G)) (
leaf f 273 (app3 (s273 true e) vs G))) (
fork f 274 (
leaf f 274 (app3 (s274 true e) vs G)) (
leaf f 275 (app2 (s275 true e) vs G))))) (
fork f 279 (
fork f 277 (
fork f 276 (
leaf f 276 (app2 (s276 true e) vs G)) (
leaf f 277 (app1 (s277 true e) vs G))) (
fork f 278 (
leaf f 278 (app1 (s278 true e) vs G)) (
leaf f 279 (app1 (s279 true e) vs G)))) (
fork f 281 (
fork f 280 (
leaf f 280 (app2 (s280 true e) vs G)) (
leaf f 281 (app2 (s281 true e) vs G))) (
fork f 282 (
leaf f 282 (app3 (s282 true e) vs G)) (
leaf f 283 (app2 (s283 true e) vs G))))))) (
fork f 355 (
fork f 345 (
fork f 320 (
fork f 286 (
leaf f 286 (app1 (s286 true e) vs G)) (
fork f 287 (
leaf f 287 (app1 (s287 true e) vs G)) (
leaf f 320 (app2 (s320 true e) vs G)))) (
fork f 334 (
fork f 321 (
leaf f 321 (app2 (s321 true e) vs G)) (
leaf f 334 (app1 (s334 true e) vs G))) (
fork f 344 (
leaf f 344 (app2 (s344 true e) vs G)) (
leaf f 345 (app2 (s345 true e) vs G))))) (
fork f 351 (
fork f 349 (
leaf f 349 (app2 (s349 true e) vs G)) (
fork f 350 (
leaf f 350 (app2 (s350 true e) vs G)) (
leaf f 351 (app4 (s351 true e) vs G)))) (
fork f 353 (
fork f 352 (
leaf f 352 (app2 (s352 true e) vs G)) (
leaf f 353 (app2 (s353 true e) vs G))) (
fork f 354 (
leaf f 354 (app2 (s354 true e) vs G)) (
leaf f 355 (app3 (s355 true e) vs G)))))) (
fork f 393 (
fork f 358 (
fork f 356 (
leaf f 356 (app2 (s356 true e) vs G)) (
fork f 357 (
leaf f 357 (app1 (s357 true e) vs G)) (
leaf f 358 (app2 (s358 true e) vs G)))) (
fork f 390 (
fork f 359 (
leaf f 359 (app2 (s359 true e) vs G)) (
leaf f 390 (app1 (s390 true e) vs G))) (
fork f 392 (
leaf f 392 (app2 (s392 true e) vs G)) (
leaf f 393 (app1 (s393 true e) vs G))))) (
fork f 399 (
fork f 397 (
fork f 395 (
leaf f 395 (app2 (s395 true e) vs G)) (
leaf f 397 (app3 (s397 true e) vs G))) (
fork f 398 (
leaf f 398 (app2 (s398 true e) vs G)) (
leaf f 399 (app3 (s399 true e) vs G)))) (
fork f 435 (
fork f 421 (
leaf f 421 (app2 (s421 true e) vs G)) (
leaf f 435 (app3 (s435 true e) vs G))) (
fork f 520 (
leaf f 520 (app1 (s520 true e) vs G)) (
leaf f 521 (app1 (s521 true e) vs G))))))))
theorem clT_ok {orc : FuncId → Bool} {e : Ex} (h : ExLe Q e (E orc)) (f : FuncId) (vs : List Value) (G : GS) : Ref (clT orc e f vs G) ((E orc).cl f vs G) :=
  Ref.fork (
Ref.fork (
Ref.fork (
Ref.fork (
Ref.fork (
Ref.fork (
Ref.leaf (y := fun f => (E orc).cl f vs G) (Ref.app1 (fun u0 G => f3 h u0 G) vs G)) (
Ref.fork (
Ref.leaf (y := fun f => (E orc).cl f vs G) (Ref.app1 (fun u0 G => f9 h u0 G) vs G)) (
Ref.leaf (y := fun f => (E orc).cl f vs G) (Ref.app1 (fun u0 G => f10 h u0 G) vs G)))) (
Ref.fork (
Ref.fork (
Ref.leaf (y := fun f => (E orc).cl f vs G) (Ref.app1 (fun u0 G => f11 h u0 G) vs G)) (
Ref.leaf (y := fun f => (E orc).cl f vs G) (Ref.app2 (fun u0 u1 G => f12 h u0 u1 G) vs G))) (
Ref.fork (
Ref.leaf (y := fun f => (E orc).cl f vs G) (Ref.app2 (fun u0 u1 G => f13 h u0 u1 G) vs G)) (
Ref.leaf (y := fun f => (E orc).cl f vs G) (Ref.app3 (fun u0 u1 u2 G => f14 h u0 u1 u2 G) vs G))))) (
Ref.fork (
Ref.fork (
Ref.leaf (y := fun f => (E orc).cl f vs G) (Ref.app1 (fun u0 G => f15 h u0 G) vs G)) (
Ref.fork (
Ref.leaf (y := fun f => (E orc).cl f vs G) (Ref.app1 (fun u0 G => f16 h u0 G) vs G)) (
Ref.leaf (y := fun f => (E orc).cl f vs G) (Ref.app1 (fun u0 G => f17 h u0 G) vs G)))) (
Ref.fork (
Ref.fork (
Ref.leaf (y := fun f => (E orc).cl f vs G) (Ref.app1 (fun u0 G => f18 h u0 G) vs G)) (
Ref.leaf (y := fun f => (E orc).cl f vs G) (Ref.app1 (fun u0 G => f19 h u0 G) vs G))) (
Ref.fork (
Ref.leaf (y := fun f => (E orc).cl f vs G) (Ref.app1 (fun u0 G => f20 h u0 G) vs G)) (
Ref.leaf (y := fun f => (E orc).cl f vs G) (Ref.app1 (fun u0 G => f21 h u0 G) vs G)))))) (
Ref.fork (
Ref.fork (
Ref.fork (
Ref.leaf (y := fun f => (E orc).cl f vs G) (Ref.app0 (fun ho G => f22 h ho G) vs G)) (
Ref.fork (
Ref.leaf (y := fun f => (E orc).cl f vs G) (Ref.app3 (fun u0 u1 u2 G => f45 h u0 u1 u2 G) vs G)) (
Ref.leaf (y := fun f => (E orc).cl f vs G) (Ref.app1 (fun u0 G => f49 h u0 G) vs G)))) (
Ref.fork (
Ref.fork (
Ref.leaf (y := fun f => (E orc).cl f vs G) (Ref.app1 (fun u0 G => f53 h u0 G) vs G)) (
Ref.leaf (y := fun f => (E orc).cl f vs G) (Ref.app1 (fun u0 G => f61 h u0 G) vs G))) (
Ref.fork (
Ref.leaf (y := fun f => (E orc).cl f vs G) (Ref.app1 (fun u0 G => f62 h u0 G) vs G)) (
Ref.leaf (y := fun f => (E orc).cl f vs G) (Ref.app1 (fun u0 G => f63 h u0 G) vs G))))) (
Ref.fork (
Ref.fork (
Ref.fork (
Ref.leaf (y := fun f => (E orc).cl f vs G) (Ref.app2 (fun u0 u1 G => f64 h u0 u1 G) vs G)) (
Ref.leaf (y := fun f => (E orc).cl f vs G) (Ref.app2 (fun u0 u1 G => f65 h u0 u1 G) vs G))) (
Ref.fork (
Ref.leaf (y := fun f => (E orc).cl f vs G) (Ref.app3 (fun u0 u1 u2 G => f66 h u0 u1 u2 G) vs G)) (
Ref.leaf (y := fun f => (E orc).cl f vs G) (Ref.app1 (fun u0 G => f67 h u0 G) vs G)))) (
Ref.fork (
Ref.fork (
Ref.leaf (y := fun f => (E orc).cl f vs G) (Ref.app4 (fun u0 u1 u2 u3 G => f68 h u0 u1 u2 u3 G) vs G)) (
Ref.leaf (y := fun f => (E orc).cl f vs G) (Ref.app3 (fun u0 u1 u2 G => f69 h u0 u1 u2 G) vs G))) (
Ref.fork (
Ref.leaf (y := fun f => (E orc).cl f vs G) (Ref.app2 (fun u0 u1 G => f70 h u0 u1 G) vs G)) (
Ref.leaf (y := fun f => (E orc).cl f vs G) (Ref.app2 (fun u0 u1 G => f71 h u0 u1 G) vs G))))))) (
Ref.fork (
Ref.fork (
Ref.fork (
Ref.fork (
Ref.leaf (y := fun f => (E orc).cl f vs G) (Ref.app2 (fun u0 u1 G => f72 h u0 u1 G) vs G)) (
Ref.fork (
Ref.leaf (y := fun f => (E orc).cl f vs G) (Ref.app2 (fun u0 u1 G => f73 h u0 u1 G) vs G)) (
Ref.leaf (y := fun f => (E orc).cl f vs G) (Ref.app1 (fun u0 G => f74 h u0 G) vs G)))) (
Ref.fork (
Ref.fork (
Ref.leaf (y := fun f => (E orc).cl f vs G) (Ref.app2 (fun u0 u1 G => f75 h u0 u1 G) vs G)) (
Ref.leaf (y := fun f => (E orc).cl f vs G) (Ref.app3 (fun u0 u1 u2 G => f76 h u0 u1 u2 G) vs G))) (
Ref.fork (
Ref.leaf (y := fun f => (E orc).cl f vs G) (Ref.app2 (fun u0 u1 G => f77 h u0 u1 G) vs G)) (
Ref.leaf (y := fun f => (E orc).cl f vs G) (Ref.app1 (fun u0 G => f78 h u0 G) vs G))))) (
Ref.fork (
Ref.fork (
Ref.leaf (y := fun f => (E orc).cl f vs G) (Ref.app1 (fun u0 G => f79 h u0 G) vs G)) (
Ref.fork (
Ref.leaf (y := fun f => (E orc).cl f vs G) (Ref.app0 (fun ho G => f80 h ho G) vs G)) (
Ref.leaf (y := fun f => (E orc).cl f vs G) (Ref.app4 (fun u0 u1 u2 u3 G => f81 h u0 u1 u2 u3 G) vs G)))) (
Ref.fork (
Ref.fork (
Ref.leaf (y := fun f => (E orc).cl f vs G) (Ref.app4 (fun u0 u1 u2 u3 G => f82 h u0 u1 u2 u3 G) vs G)) (
Ref.leaf (y := fun f => (E orc).cl f vs G) (Ref.app3 (fun u0 u1 u2 G => f83 h u0 u1 u2 G) vs G))) (
Ref.fork (
Ref.leaf (y := fun f => (E orc).cl f vs G) (Ref.app2 (fun u0 u1 G => f84 h u0 u1 G) vs G)) (
Ref.leaf (y := fun f => (E orc).cl f vs G) (Ref.app2 (fun u0 u1 G => f85 h u0 u1 G) vs G)))))) (
Ref.fork (
Ref.fork (
Ref.fork (
Ref.leaf (y := fun f => (E orc).cl f vs G) (Ref.app0 (fun ho G => f86 h ho G) vs G)) (
Ref.fork (
Ref.leaf (y := fun f => (E orc).cl f vs G) (Ref.app1 (fun u0 G => f102 h u0 G) vs G)) (
Ref.leaf (y := fun f => (E orc).cl f vs G) (Ref.app1 (fun u0 G => f103 h u0 G) vs G)))) (
Ref.fork (
Ref.fork (
Ref.leaf (y := fun f => (E orc).cl f vs G) (Ref.app1 (fun u0 G => f105 h u0 G) vs G)) (
Ref.leaf (y := fun f => (E orc).cl f vs G) (Ref.app2 (fun u0 u1 G => f156 h u0 u1 G) vs G))) (
Ref.fork (
Ref.leaf (y := fun f => (E orc).cl f vs G) (Ref.app2 (fun u0 u1 G => f158 h u0 u1 G) vs G)) (
Ref.leaf (y := fun f => (E orc).cl f vs G) (Ref.app5 (fun u0 u1 u2 u3 u4 G => f159 h u0 u1 u2 u3 u4 G) vs G))))) (
Ref.fork (
Ref.fork (
Ref.fork (
Ref.leaf (y := fun f => (E orc).cl f vs G) (Ref.app1 (fun u0 G => f160 h u0 G) vs G)) (
Ref.leaf (y := fun f => (E orc).cl f vs G) (Ref.app2 (fun u0 u1 G => f171 h u0 u1 G) vs G))) (
Ref.fork (
Ref.leaf (y := fun f => (E orc).cl f vs G) (Ref.app2 (fun u0 u1 G => f177 h u0 u1 G) vs G)) (
Ref.leaf (y := fun f => (E orc).cl f vs G) (Ref.app1 (fun u0 G => f189 h u0 G) vs G)))) (
Ref.fork (
Ref.fork (
Ref.leaf (y := fun f => (E orc).cl f vs G) (Ref.app1 (fun u0 G => f190 h u0 G) vs G)) (
Ref.leaf (y := fun f => (E orc).cl f vs G) (Ref.app3 (fun u0 u1 u2 G => f191 h u0 u1 u2 G) vs G))) (
Ref.fork (
Ref.leaf (y := fun f => (E orc).cl f vs G) (Ref.app1 (fun u0 G => f192 h u0 G) vs G)) (
Ref.leaf (y := fun f => (E orc).cl f vs G) (Ref.app1 (fun u0 G => f193 h u0 G) vs G)))))))) (
Ref.fork (
Ref.fork (
Ref.fork (
Ref.fork (
Ref.fork (
Ref.leaf (y := fun f => (E orc).cl f vs G) (Ref.app2 (fun u0 u1 G => f194 h u0 u1 G) vs G)) (
Ref.fork (
Ref.leaf (y := fun f => (E orc).cl f vs G) (Ref.app1 (fun u0 G => f195 h u0 G) vs G)) (
Ref.leaf (y := fun f => (E orc).cl f vs G) (Ref.app2 (fun u0 u1 G => f196 h u0 u1 G) vs G)))) (
Ref.fork (
Ref.fork (
Ref.leaf (y := fun f => (E orc).cl f vs G) (Ref.app1 (fun u0 G => f197 h u0 G) vs G)) (
Ref.leaf (y := fun f => (E orc).cl f vs G) (Ref.app3 (fun u0 u1 u2 G => f198 h u0 u1 u2 G) vs G))) (
Ref.fork (
Ref.leaf (y := fun f => (E orc).cl f vs G) (Ref.app2 (fun u0 u1 G => f199 h u0 u1 G) vs G)) (
Ref.leaf (y := fun f => (E orc).cl f vs G) (Ref.app2 (fun u0 u1 G => f200 h u0 u1 G) vs G))))) (
Ref.fork (
Ref.fork (
Ref.leaf (y := fun f => (E orc).cl f vs G) (Ref.app3 (fun u0 u1 u2 G => f201 h u0 u1 u2 G) vs G)) (
Ref.fork (
Ref.leaf (y := fun f => (E orc).cl f vs G) (Ref.app2 (fun u0 u1 G => f202 h u0 u1 G) vs G)) (
Ref.leaf (y := fun f => (E orc).cl f vs G) (Ref.app2 (fun u0 u1 G => f246 h u0 u1 G) vs G)))) (
Ref.fork (
Ref.fork (
Ref.leaf (y := fun f => (E orc).cl f vs G) (Ref.app1 (fun u0 G => f248 h u0 G) vs G)) (
Ref.leaf (y := fun f => (E orc).cl f vs G) (Ref.app1 (fun u0 G => f254 h u0 G) vs G))) (
Ref.fork (
Ref.leaf (y := fun f => (E orc).cl f vs G) (Ref.app1 (fun u0 G => f256 h u0 G) vs G)) (
Ref.leaf (y := fun f => (E orc).cl f vs G) (Ref.app2 (fun u0 u1 G => f257 h u0 u1 G) vs G)))))) (
Ref.fork (
Ref.fork (
Ref.fork (
Ref.leaf (y := fun f => (E orc).cl f vs G) (Ref.app1 (fun u0 G => f260 h u0 G) vs G)) (
Ref.fork (
Ref.leaf (y := fun f => (E orc).cl f vs G) (Ref.app2 (fun u0 u1 G => f268 h u0 u1 G) vs G)) (
Ref.leaf (y := fun f => (E orc).cl f vs G) (Ref.app0 (fun ho G => f271 h ho G) vs G)))) (
Ref.fork (
Ref.fork (
Ref.leaf (y := fun f => (E orc).cl f vs G) (Ref.app2 (fun u0 u1 G => f272 h u0 u1 G) vs G)) (
Ref.leaf (y := fun f => (E orc).cl f vs G) (Ref.app3 (fun u0 u1 u2 G => f273 h u0 u1 u2 G) vs G))) (
Ref.fork (
Ref.leaf (y := fun f => (E orc).cl f vs G) (Ref.app3 (fun u0 u1 u2 G => f274 h u0 u1 u2 G) vs G)) (
Ref.leaf (y := fun f => (E orc).cl f vs G) (Ref.app2 (fun u0 u1 G => f275 h u0 u1 G) vs G))))) (
Ref.fork (
Ref.fork (
Ref.fork (
Ref.leaf (y := fun f => (E orc).cl f vs G) (Ref.app2 (fun u0 u1 G => f276 h u0 u1 G) vs G)) (
Ref.leaf (y := fun f => (E orc).cl f vs G) (Ref.app1 (fun u0 G => f277 h u0 G) vs G))) (
Ref.fork (
Ref.leaf (y := fun f => (E orc).cl f vs G) (Ref.app1 (fun u0 G => f278 h u0 G) vs G)) (
Ref.leaf (y := fun f => (E orc).cl f vs G) (Ref.app1 (fun u0 G => f279 h u0 G) vs G)))) (
Ref.fork (
Ref.fork (
Ref.leaf (y := fun f => (E orc).cl f vs G) (Ref.app2 (fun u0 u1 G => f280 h u0 u1 G) vs G)) (
Ref.leaf (y := fun f => (E orc).cl f vs G) (Ref.app2 (fun u0 u1 G => f281 h u0 u1 G) vs G))) (
Ref.fork (
Ref.leaf (y := fun f => (E orc).cl f vs G) (Ref.app3 (fun u0 u1 u2 G => f282 h u0 u1 u2 G) vs G)) (
Ref.leaf (y := fun f => (E orc).cl f vs G) (Ref.app2 (fun u0 u1 G => f283 h u0 u1 G) vs G))))))) (
Ref.fork (
Ref.fork (
Ref.fork (
Ref.fork (
Ref.leaf (y := fun f => (E orc).cl f vs G) (Ref.app1 (fun u0 G => f286 h u0 G) vs G)) (
Ref.fork (
Ref.leaf (y := fun f => (E orc).cl f vs G) (Ref.app1 (fun u0 G => f287 h u0 G) vs G)) (
Ref.leaf (y := fun f => (E orc).cl f vs G) (Ref.app2 (fun u0 u1 G => f320 h u0 u1 G) vs G)))) (
Ref.fork (
Ref.fork (
Ref.leaf (y := fun f => (E orc).cl f vs G) (Ref.app2 (fun u0 u1 G => f321 h u0 u1 G) vs G)) (
Ref.leaf (y := fun f => (E orc).cl f vs G) (Ref.app1 (fun u0 G => f334 h u0 G) vs G))) (
Ref.fork (
Ref.leaf (y := fun f => (E orc).cl f vs G) (Ref.app2 (fun u0 u1 G => f344 h u0 u1 G) vs G)) (
Ref.leaf (y := fun f => (E orc).cl f vs G) (Ref.app2 (fun u0 u1 G => f345 h u0 u1 G) vs G))))) (
Ref.fork (
Ref.fork (
Ref.leaf (y := fun f => (E orc).cl f vs G) (Ref.app2 (fun u0 u1 G => f349 h u0 u1 G) vs G)) (
Ref.fork (
Ref.leaf (y := fun f => (E orc).cl f vs G) (Ref.app2 (fun u0 u1 G => f350 h u0 u1 G) vs G)) (
Ref.leaf (y := fun f => (E orc).cl f vs G) (Ref.app4 (fun u0 u1 u2 u3 G => f351 h u0 u1 u2 u3 G) vs G)))) (
Ref.fork (
Ref.fork (
Ref.leaf (y := fun f => (E orc).cl f vs G) (Ref.app2 (fun u0 u1 G => f352 h u0 u1 G) vs G)) (
Ref.leaf (y := fun f => (E orc).cl f vs G) (Ref.app2 (fun u0 u1 G => f353 h u0 u1 G) vs G))) (
Ref.fork (
Ref.leaf (y := fun f => (E orc).cl f vs G) (Ref.app2 (fun u0 u1 G => f354 h u0 u1 G) vs G)) (
Ref.leaf (y := fun f => (E orc).cl f vs G) (Ref.app3 (fun u0 u1 u2 G => f355 h u0 u1 u2 G) vs G)))))) (
Ref.fork (
Ref.fork (
Ref.fork (
Ref.leaf (y := fun f => (E orc).cl f vs G) (Ref.app2 (fun u0 u1 G => f356 h u0 u1 G) vs G)) (
Ref.fork (
Ref.leaf (y := fun f => (E orc).cl f vs G) (Ref.app1 (fun u0 G => f357 h u0 G) vs G)) (
Ref.leaf (y := fun f => (E orc).cl f vs G) (Ref.app2 (fun u0 u1 G => f358 h u0 u1 G) vs G)))) (
Ref.fork (
Ref.fork (
Ref.leaf (y := fun f => (E orc).cl f vs G) (Ref.app2 (fun u0 u1 G => f359 h u0 u1 G) vs G)) (
Ref.leaf (y := fun f => (E orc).cl f vs G) (Ref.app1 (fun u0 G => f390 h u0 G) vs G))) (
Ref.fork (
Ref.leaf (y := fun f => (E orc).cl f vs G) (Ref.app2 (fun u0 u1 G => f392 h u0 u1 G) vs G)) (
Ref.leaf (y := fun f => (E orc).cl f vs G) (Ref.app1 (fun u0 G => f393 h u0 G) vs G))))) (
Ref.fork (
Ref.fork (
Ref.fork (
Ref.leaf (y := fun f => (E orc).cl f vs G) (Ref.app2 (fun u0 u1 G => f395 h u0 u1 G) vs G)) (
Ref.leaf (y := fun f => (E orc).cl f vs G) (Ref.app3 (fun u0 u1 u2 G => f397 h u0 u1 u2 G) vs G))) (
Ref.fork (
Ref.leaf (y := fun f => (E orc).cl f vs G) (Ref.app2 (fun u0 u1 G => f398 h u0 u1 G) vs G)) (
Ref.leaf (y := fun f => (E orc).cl f vs G) (Ref.app3 (fun u0 u1 u2 G => f399 h u0 u1 u2 G) vs G)))) (
Ref.fork (
Ref.fork (
Ref.leaf (y := fun f => (E orc).cl f vs G) (Ref.app2 (fun u0 u1 G => f421 h u0 u1 G) vs G)) (
Ref.leaf (y := fun f => (E orc).cl f vs G) (Ref.app3 (fun u0 u1 u2 G => f435 h u0 u1 u2 G) vs G))) (
Ref.fork (
Ref.leaf (y := fun f => (E orc).cl f vs G) (Ref.app1 (fun u0 G => f520 h u0 G) vs G)) (
Ref.leaf (y := fun f => (E orc).cl f vs G) (Ref.app1 (fun u0 G => f521 h u0 G) vs G))))))))
noncomputable def lpT (FUEL : Nat) (e : Ex) (f k : Nat) (τ : Env) (G : GS) : Option (Exit × Env × GS) :=
  fork f 171 (
fork f 80 (
fork f 12 (
fork f 3 (
leaf f 3 (leaf k 0 (lpS 157 (b3_0 true e) FUEL τ G))) (
leaf f 12 (leaf k 0 (lpS 162 (b12_0 true e) FUEL τ G)))) (
fork f 53 (
leaf f 53 (leaf k 0 (lpS 42 (b53_0 true e) FUEL τ G))) (
leaf f 80 (leaf k 0 (lpS 38 (b80_0 true e) FUEL τ G))))) (
fork f 82 (
fork f 81 (
leaf f 81 (leaf k 0 (lpS 54 (b81_0 true e) FUEL τ G))) (
leaf f 82 (leaf k 0 (lpS 61 (b82_0 true e) FUEL τ G)))) (
fork f 84 (
leaf f 84 (leaf k 0 (lpS 31 (b84_0 true e) FUEL τ G))) (
fork f 156 (
leaf f 156 (leaf k 0 (lpS 24 (b156_0 true e) FUEL τ G))) (
leaf f 171 (leaf k 0 (lpS 29 (b171_0 true e) FUEL τ G))))))) (
fork f 351 (
fork f 246 (
fork f 196 (
leaf f 196 (leaf k 0 (lpS 195 (b196_0 true e) FUEL τ G))) (
leaf f 246 (leaf k 0 (lpS 23 (b246_0 true e) FUEL τ G)))) (
fork f 257 (
leaf f 257 (leaf k 0 (lpS 34 (b257_0 true e) FUEL τ G))) (
leaf f 351 (leaf k 0 (lpS 40 (b351_0 true e) FUEL τ G))))) (
fork f 357 (
fork f 355 (
leaf f 355 (leaf k 0 (lpS 35 (b355_0 true e) FUEL τ G))) (
leaf f 357 (leaf k 0 (lpS 24 (b357_0 true e) FUEL τ G)))) (
fork f 358 (
leaf f 358 (leaf k 0 (lpS 24 (b358_0 true e) FUEL τ G))) (
fork f 359 (
leaf f 359 (leaf k 0 (lpS 18 (b359_0 true e) FUEL τ G))) (
leaf f 397 (leaf k 0 (lpS 25 (b397_0 true e) FUEL τ G)))))))
theorem lpT_ok {orc : FuncId → Bool} {e : Ex} (h : ExLe Q e (E orc)) (FUEL f k : Nat) (τ : Env) (G : GS) : Ref (lpT FUEL e f k τ G) (mapE ((E orc).lp (codeAt Q f k) (lst (nOf Q f) τ) G)) :=
  Ref.fork (
Ref.fork (
Ref.fork (
Ref.fork (
Ref.leaf (y := fun f => mapE ((E orc).lp (codeAt Q f k) (lst (nOf Q f) τ) G)) (Ref.leaf (y := fun k => mapE ((E orc).lp (codeAt Q 3 k) (lst (nOf Q 3) τ) G)) (lp_leaf (c := (subAt [1, 1, 1, 1, 0, 1, 0, 0] (bodyOf Tryz.f3))) (l3_0 h) _ _ _))) (
Ref.leaf (y := fun f => mapE ((E orc).lp (codeAt Q f k) (lst (nOf Q f) τ) G)) (Ref.leaf (y := fun k => mapE ((E orc).lp (codeAt Q 12 k) (lst (nOf Q 12) τ) G)) (lp_leaf (c := (subAt [1, 0, 1, 1, 0, 0, 0] (bodyOf Tryz.f12))) (l12_0 h) _ _ _)))) (
Ref.fork (
Ref.leaf (y := fun f => mapE ((E orc).lp (codeAt Q f k) (lst (nOf Q f) τ) G)) (Ref.leaf (y := fun k => mapE ((E orc).lp (codeAt Q 53 k) (lst (nOf Q 53) τ) G)) (lp_leaf (c := (subAt [1, 1, 1, 0, 1, 0, 0] (bodyOf Tryz.f53))) (l53_0 h) _ _ _))) (
Ref.leaf (y := fun f => mapE ((E orc).lp (codeAt Q f k) (lst (nOf Q f) τ) G)) (Ref.leaf (y := fun k => mapE ((E orc).lp (codeAt Q 80 k) (lst (nOf Q 80) τ) G)) (lp_leaf (c := (subAt [1, 1, 1, 1, 1, 0, 1, 0, 0] (bodyOf Tryz.f80))) (l80_0 h) _ _ _))))) (
Ref.fork (
Ref.fork (
Ref.leaf (y := fun f => mapE ((E orc).lp (codeAt Q f k) (lst (nOf Q f) τ) G)) (Ref.leaf (y := fun k => mapE ((E orc).lp (codeAt Q 81 k) (lst (nOf Q 81) τ) G)) (lp_leaf (c := (subAt [1, 1, 0, 1, 0, 0] (bodyOf Tryz.f81))) (l81_0 h) _ _ _))) (
Ref.leaf (y := fun f => mapE ((E orc).lp (codeAt Q f k) (lst (nOf Q f) τ) G)) (Ref.leaf (y := fun k => mapE ((E orc).lp (codeAt Q 82 k) (lst (nOf Q 82) τ) G)) (lp_leaf (c := (subAt [1, 1, 0, 1, 0, 0] (bodyOf Tryz.f82))) (l82_0 h) _ _ _)))) (
Ref.fork (
Ref.leaf (y := fun f => mapE ((E orc).lp (codeAt Q f k) (lst (nOf Q f) τ) G)) (Ref.leaf (y := fun k => mapE ((E orc).lp (codeAt Q 84 k) (lst (nOf Q 84) τ) G)) (lp_leaf (c := (subAt [1, 1, 0, 1, 0, 0] (bodyOf Tryz.f84))) (l84_0 h) _ _ _))) (
Ref.fork (
Ref.leaf (y := fun f => mapE ((E orc).lp (codeAt Q f k) (lst (nOf Q f) τ) G)) (Ref.leaf (y := fun k => mapE ((E orc).lp (codeAt Q 156 k) (lst (nOf Q 156) τ) G)) (lp_leaf (c := (subAt [1, 1, 1, 1, 0, 0] (bodyOf Tryz.f156))) (l156_0 h) _ _ _))) (
Ref.leaf (y := fun f => mapE ((E orc).lp (codeAt Q f k) (lst (nOf Q f) τ) G)) (Ref.leaf (y := fun k => mapE ((E orc).lp (codeAt Q 171 k) (lst (nOf Q 171) τ) G)) (lp_leaf (c := (subAt [1, 1, 1, 1, 1, 0, 0] (bodyOf Tryz.f171))) (l171_0 h) _ _ _))))))) (
Ref.fork (
Ref.fork (
Ref.fork (
Ref.leaf (y := fun f => mapE ((E orc).lp (codeAt Q f k) (lst (nOf Q f) τ) G)) (Ref.leaf (y := fun k => mapE ((E orc).lp (codeAt Q 196 k) (lst (nOf Q 196) τ) G)) (lp_leaf (c := (subAt [1, 0, 1, 1, 1, 1, 1, 0, 0, 0] (bodyOf Tryz.f196))) (l196_0 h) _ _ _))) (
Ref.leaf (y := fun f => mapE ((E orc).lp (codeAt Q f k) (lst (nOf Q f) τ) G)) (Ref.leaf (y := fun k => mapE ((E orc).lp (codeAt Q 246 k) (lst (nOf Q 246) τ) G)) (lp_leaf (c := (subAt [1, 1, 1, 1, 0, 0] (bodyOf Tryz.f246))) (l246_0 h) _ _ _)))) (
Ref.fork (
Ref.leaf (y := fun f => mapE ((E orc).lp (codeAt Q f k) (lst (nOf Q f) τ) G)) (Ref.leaf (y := fun k => mapE ((E orc).lp (codeAt Q 257 k) (lst (nOf Q 257) τ) G)) (lp_leaf (c := (subAt [1, 1, 1, 1, 0, 0] (bodyOf Tryz.f257))) (l257_0 h) _ _ _))) (
Ref.leaf (y := fun f => mapE ((E orc).lp (codeAt Q f k) (lst (nOf Q f) τ) G)) (Ref.leaf (y := fun k => mapE ((E orc).lp (codeAt Q 351 k) (lst (nOf Q 351) τ) G)) (lp_leaf (c := (subAt [1, 1, 0, 0] (bodyOf Tryz.f351))) (l351_0 h) _ _ _))))) (
Ref.fork (
Ref.fork (
Ref.leaf (y := fun f => mapE ((E orc).lp (codeAt Q f k) (lst (nOf Q f) τ) G)) (Ref.leaf (y := fun k => mapE ((E orc).lp (codeAt Q 355 k) (lst (nOf Q 355) τ) G)) (lp_leaf (c := (subAt [1, 1, 0, 0] (bodyOf Tryz.f355))) (l355_0 h) _ _ _))) (
Ref.leaf (y := fun f => mapE ((E orc).lp (codeAt Q f k) (lst (nOf Q f) τ) G)) (Ref.leaf (y := fun k => mapE ((E orc).lp (codeAt Q 357 k) (lst (nOf Q 357) τ) G)) (lp_leaf (c := (subAt [1, 0, 1, 0, 0] (bodyOf Tryz.f357))) (l357_0 h) _ _ _)))) (
Ref.fork (
Ref.leaf (y := fun f => mapE ((E orc).lp (codeAt Q f k) (lst (nOf Q f) τ) G)) (Ref.leaf (y := fun k => mapE ((E orc).lp (codeAt Q 358 k) (lst (nOf Q 358) τ) G)) (lp_leaf (c := (subAt [1, 1, 0, 1, 0, 0] (bodyOf Tryz.f358))) (l358_0 h) _ _ _))) (
Ref.fork (
Ref.leaf (y := fun f => mapE ((E orc).lp (codeAt Q f k) (lst (nOf Q f) τ) G)) (Ref.leaf (y := fun k => mapE ((E orc).lp (codeAt Q 359 k) (lst (nOf Q 359) τ) G)) (lp_leaf (c := (subAt [1, 0, 0] (bodyOf Tryz.f359))) (l359_0 h) _ _ _))) (
Ref.leaf (y := fun f => mapE ((E orc).lp (codeAt Q f k) (lst (nOf Q f) τ) G)) (Ref.leaf (y := fun k => mapE ((E orc).lp (codeAt Q 397 k) (lst (nOf Q 397) τ) G)) (lp_leaf (c := (subAt [1, 1, 0, 0] (bodyOf Tryz.f397))) (l397_0 h) _ _ _)))))))
noncomputable def kE (orc : FuncId → Bool) (n : Nat) : Ex := Nat.rec (motive := fun _ => Ex) ⟨Ev.zero, fun _ _ _ _ => none⟩ (fun _ e => ⟨⟨(evO Q orc 0).ex, clT orc e, (evO Q orc 2000).rd, (evO Q orc 2000).sc, (evO Q orc 0).lp⟩, lpT 6000 e⟩) n
theorem kE_ok (orc : FuncId → Bool) : ∀ n, ExLe Q (kE orc n) (E orc)
  | 0 => ⟨zero_le _, fun _ _ _ _ => .nil _⟩
  | n + 1 => ⟨⟨(le_evL Q orc 0).ex, fun f vs G r hr => clT_ok (kE_ok orc n) f vs G r hr, (le_evL Q orc 2000).rd, (le_evL Q orc 2000).sc, (le_evL Q orc 0).lp⟩, lpT_ok (kE_ok orc n) 6000⟩
/-- what the tables find true is true -/
theorem at_kE {orc : FuncId → Bool} {n f : Nat} {vs : List Value} (h : isTrue ((kE orc n).ev.cl f vs GS.empty) = true) : ∃ G', (E orc).cl f vs GS.empty = some (.bool true, G') := isTrue_of ((kE_ok orc n).ev.cl f vs GS.empty) h
theorem closed_kE {orc : FuncId → Bool} (ho : OrcOk Q orc) (hmix : Q.follows .mixedOrders = true) {n f : Nat} (h : isTrue ((kE orc n).ev.cl f [] GS.empty) = true) (w : World) : Calls Q f #[] w fun e w' => e = .returned (.bool true) ∧ Go.RowKit.Below w.heap.size w w' :=
  let ⟨_, hG⟩ := at_kE h
  law_plain hmix ho hG fun _ => trivial
end Go.Proofs.YtdohlgkmaeipjaaGreat.Lift
