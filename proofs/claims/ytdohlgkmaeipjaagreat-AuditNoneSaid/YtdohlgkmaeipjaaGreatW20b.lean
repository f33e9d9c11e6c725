/- the program's code, spelled out by a program of ours (lift2.lean) -/
import Derived.Test.YtdohlgkmaeipjaaGreatW20a
namespace Go.Proofs.YtdohlgkmaeipjaaGreat.LiftK
open Go Go.Proofs.YtdohlgkmaeipjaaGreat.Gh Go.Proofs
set_option linter.unusedVariables false
set_option maxRecDepth 100000
noncomputable def b355_0 (q : Bool) (e : Ex) (lp : Env → GS → Option (Exit × Env × GS)) (τ : Env) (G : GS) : Option (Exit × Env × GS) :=
  bV q (τ 0) fun a0_ =>
  bV q (τ 1) fun a1_ =>
  bV q (τ 2) fun a2_ =>
  bV q (τ 4) fun a4_ =>
  bV q (τ 5) fun a5_ =>
  bP (bn Q q .geq 3 (.tmp 12) (.const (.int .i64 0)) a4_ (.int .i64 0)) fun x0 =>
  bS (gd x0 true (some (a5_, G)) G) fun x1 G2 =>
  bS (gd x0 true (bP (fa Q q 23 2 2 a1_) fun y => some (y, G2)) G2) fun x3 G4 =>
  bS (gd x0 true (bP (ld Q q 3 x3 G4) fun y => some (y, G4)) G4) fun x5 G6 =>
  bS (gd x0 true (bP (bn Q q .lss 3 (.tmp 15) (.tmp 17) x1 x5) fun y => some (y, G6)) G6) fun x7 G8 =>
  bP (pickV x0 x7 (.bool false)) fun x9 =>
  bS (gd x9 true (some (a0_, G8)) G8) fun x10 G11 =>
  bS (gd x9 true (some (a4_, G11)) G11) fun x12 G13 =>
  bS (gd x9 true (bS (cValue e.ev x10 [x12] G13) fun y G => some (y, G)) G13) fun x14 G15 =>
  bP (pickV x9 x14 (.bool false)) fun x16 =>
  ifV x16 (
  bP (lda Q q 23 3 a1_ (G15.room 9)) fun x17 =>
  bP (ld Q q 180 a2_ (G15.room 9)) fun x18 =>
  bP (fa Q q 23 1 1 a1_) fun x19 =>
  bP (ld Q q 3 x19 (G15.room 9)) fun x20 =>
  bP (bn Q q .add 3 (.tmp 30) (.tmp 31) x20 a4_) fun x21 =>
  bS (cValue e.ev x18 [x21] (G15.room 9)) fun x23 G22 =>
  chk ((sameO (lda Q q 23 3 a1_ G22) x17 && true)) <|
  bS (e.ev.cl 356 [x17, x23] G22) fun x25 G24 =>
  bP (bn Q q .add 3 (.tmp 25) (.const (.int .i64 1)) a5_ (.int .i64 1)) fun x26 =>
  lp (tu τ [(0, a0_), (1, a1_), (2, a2_), (4, x25), (5, x26), (12, a4_), (13, x0), (14, x0), (15, x1), (16, x3), (17, x5), (18, x7), (19, x9), (20, x9), (21, x10), (22, x12), (23, x14), (24, x16), (25, a5_), (26, x26), (27, x17), (28, x18), (29, x19), (30, x20), (31, a4_), (32, x21), (33, x23), (34, x25)]) G24) (
  some ((.exit 0), clq q 35 (tu τ [(0, a0_), (1, a1_), (2, a2_), (4, a4_), (5, a5_), (12, a4_), (13, x0), (14, x0), (15, x1), (16, x3), (17, x5), (18, x7), (19, x9), (20, x9), (21, x10), (22, x12), (23, x14), (24, x16)]), G15))
theorem mb355_0 {e : Ex} {E : Ev} (h : ExLe Q e E) {lp lp' : Env → GS → Option (Exit × Env × GS)} (hlp : LpLe lp lp') (τ : Env) (G : GS) : Ref (b355_0 true e lp τ G) (b355_0 false (Ex.of E) lp' τ G) := by
  unfold b355_0
  exact Ref.go
theorem l355_0 {orc : FuncId → Bool} {e : Ex} (h : ExLe Q e (E orc)) (lp : Env → GS → Option (Exit × Env × GS)) (hlp : ∀ τ G, Ref (lp τ G) (mapE ((E orc).lp (subAt [1, 1, 0, 0] (bodyOf Tryz.f355)) (lst 35 τ) G))) (T : List Value) (G : GS) (hT : T.length = 35) : Ref (b355_0 true e lp (nth undef T) G) (mapE ((E orc).lp (subAt [1, 1, 0, 0] (bodyOf Tryz.f355)) T G)) :=
  fun r hr => lp_sxM Q orc G hT (by kernel_rfl) (mb355_0 h ⟨hlp⟩ _ _ r hr)
/-- coxswain/stack.on$2 -/
noncomputable def s355 (q : Bool) (e : Ex) (v0 v1 v2 : Value) (G : GS) : Option (Value × GS) :=
  bP (lda Q q 23 3 v1 (G.room 7)) fun x0 =>
  bP (ld Q q 180 v2 (G.room 7)) fun x1 =>
  bP (fa Q q 23 0 0 v1) fun x2 =>
  bP (ld Q q 3 x2 (G.room 7)) fun x3 =>
  bS (cValue e.ev x1 [x3] (G.room 7)) fun x5 G4 =>
  chk ((sameO (lda Q q 23 3 v1 G4) x0 && true)) <|
  bS (e.ev.cl 356 [x0, x5] G4) fun x7 G6 =>
  bL q e 355 0 (subAt [1, 1, 0, 0] (bodyOf Tryz.f355)) 35 (tu (nth undef [v0, v1, v2]) [(4, x7), (5, (.int .i64 0)), (6, x0), (7, x1), (8, x2), (9, x3), (10, x5), (11, x7)]) G6 fun e8 t9 G10 =>
  ifE e8 (.exit 0) (
  some (.tuple #[], G10)) (none)
theorem m355 {e : Ex} {E : Ev} (h : ExLe Q e E) (v0 v1 v2 : Value) (G : GS) : Ref (s355 true e v0 v1 v2 G) (s355 false (Ex.of E) v0 v1 v2 G) := by
  unfold s355
  exact Ref.go
theorem f355 {orc : FuncId → Bool} {e : Ex} (h : ExLe Q e (E orc)) (v0 v1 v2 : Value) (G : GS) : Ref (s355 true e v0 v1 v2 G) ((E orc).cl 355 [v0, v1, v2] G) :=
  fun r hr => cl_sxE_some Q orc (vs := [v0, v1, v2]) G Tryz.func355 (by kernel_rfl) (by kernel_rfl) (by kernel_rfl) (by kernel_rfl) (by kernel_rfl) (by kernel_rfl) (m355 h v0 v1 v2 G r hr)
/-- coxswain/stack.read -/
noncomputable def s356 (q : Bool) (e : Ex) (v0 v1 : Value) (G : GS) : Option (Value × GS) :=
  bS (bx q v0 G) fun x0 G1 =>
  bS (e.ev.cl 189 [v1] G1) fun x2 G3 =>
  bP (pExtract x2 0) fun x4 =>
  bP (pExtract x2 1) fun x5 =>
  bS (al Q q 274 z274 G3) fun x6 G7 =>
  bP (st Q q 274 2 x6 x4 G7) fun G8 =>
  bP (fa Q q 274 0 0 x6) fun x9 =>
  bP (ld Q q 3 x9 G8) fun x10 =>
  bP (fa Q q 23 2 2 x0) fun x11 =>
  bP (ld Q q 3 x11 G8) fun x12 =>
  bP (bn Q q .geq 3 (.tmp 13) (.tmp 15) x10 x12) fun x13 =>
  ifV x13 (
  some ((.int .i64 (-1)), G8)) (
  bP (fa Q q 274 0 0 x6) fun x14 =>
  bP (ld Q q 3 x14 G8) fun x15 =>
  some (x15, G8))
theorem m356 {e : Ex} {E : Ev} (h : ExLe Q e E) (v0 v1 : Value) (G : GS) : Ref (s356 true e v0 v1 G) (s356 false (Ex.of E) v0 v1 G) := by
  unfold s356
  exact Ref.go
theorem f356 {orc : FuncId → Bool} {e : Ex} (h : ExLe Q e (E orc)) (v0 v1 : Value) (G : GS) : Ref (s356 true e v0 v1 G) ((E orc).cl 356 [v0, v1] G) :=
  fun r hr => cl_sxE_some Q orc (vs := [v0, v1]) G Tryz.func356 (by kernel_rfl) (by kernel_rfl) (by kernel_rfl) (by kernel_rfl) (by kernel_rfl) (by kernel_rfl) (m356 h v0 v1 G r hr)
noncomputable def b357_0 (q : Bool) (e : Ex) (lp : Env → GS → Option (Exit × Env × GS)) (τ : Env) (G : GS) : Option (Exit × Env × GS) :=
  bV q (τ 5) fun a5_ =>
  bV q (τ 6) fun a6_ =>
  bV q (τ 7) fun a7_ =>
  bP (bn Q q .lss 3 (.tmp 7) (.tmp 6) a7_ a6_) fun x0 =>
  ifV x0 (
  bP (ias Q q 538 3 a5_ a7_) fun x1 =>
  bP (lda Q q 505 3 x1 G) fun x2 =>
  bS (al Q q 505 z505 G) fun x3 G4 =>
  bP (st Q q 505 3 x3 x2 G4) fun G5 =>
  bP (fa Q q 505 0 0 x3) fun x6 =>
  bP (ld Q q 3 x6 G5) fun x7 =>
  bP (fa Q q 505 1 1 x3) fun x8 =>
  bP (ld Q q 3 x8 G5) fun x9 =>
  bP (bn Q q .lss 3 (.tmp 12) (.tmp 14) x7 x9) fun x10 =>
  bS (gd x10 false (bP (fa Q q 505 0 0 x3) fun y => some (y, G5)) G5) fun x11 G12 =>
  bS (gd x10 false (bP (ld Q q 3 x11 G12) fun y => some (y, G12)) G12) fun x13 G14 =>
  bS (gd x10 false (bP (fa Q q 505 2 2 x3) fun y => some (y, G14)) G14) fun x15 G16 =>
  bS (gd x10 false (bP (ld Q q 3 x15 G16) fun y => some (y, G16)) G16) fun x17 G18 =>
  bS (gd x10 false (bP (bn Q q .gtr 3 (.tmp 18) (.tmp 20) x13 x17) fun y => some (y, G18)) G18) fun x19 G20 =>
  bP (pickV x10 (.bool true) x19) fun x21 =>
  ifV x21 (
  some (.ret, clq q 24 (tu τ [(5, a5_), (6, a6_), (7, a7_), (2, (.bool false)), (4, x3), (8, x0), (9, x1), (10, x2), (11, x6), (12, x7), (13, x8), (14, x9), (15, x10), (16, x10), (17, x11), (18, x13), (19, x15), (20, x17), (21, x19), (22, x21)]), G20)) (
  bP (bn Q q .add 3 (.tmp 7) (.const (.int .i64 1)) a7_ (.int .i64 1)) fun x22 =>
  lp (tu τ [(5, a5_), (6, a6_), (7, x22), (4, x3), (8, x0), (9, x1), (10, x2), (11, x6), (12, x7), (13, x8), (14, x9), (15, x10), (16, x10), (17, x11), (18, x13), (19, x15), (20, x17), (21, x19), (22, x21), (23, x22)]) G20)) (
  some ((.exit 0), clq q 24 (tu τ [(5, a5_), (6, a6_), (7, a7_), (8, x0)]), G))
theorem mb357_0 {e : Ex} {E : Ev} (h : ExLe Q e E) {lp lp' : Env → GS → Option (Exit × Env × GS)} (hlp : LpLe lp lp') (τ : Env) (G : GS) : Ref (b357_0 true e lp τ G) (b357_0 false (Ex.of E) lp' τ G) := by
  unfold b357_0
  exact Ref.go
theorem l357_0 {orc : FuncId → Bool} {e : Ex} (h : ExLe Q e (E orc)) (lp : Env → GS → Option (Exit × Env × GS)) (hlp : ∀ τ G, Ref (lp τ G) (mapE ((E orc).lp (subAt [1, 0, 1, 0, 0] (bodyOf Tryz.f357)) (lst 24 τ) G))) (T : List Value) (G : GS) (hT : T.length = 24) : Ref (b357_0 true e lp (nth undef T) G) (mapE ((E orc).lp (subAt [1, 0, 1, 0, 0] (bodyOf Tryz.f357)) T G)) :=
  fun r hr => lp_sxM Q orc G hT (by kernel_rfl) (mb357_0 h ⟨hlp⟩ _ _ r hr)
/-- coxswain/word.within -/
noncomputable def s357 (q : Bool) (e : Ex) (v0 : Value) (G : GS) : Option (Value × GS) :=
  bP (ln Q q 538 v0) fun x0 =>
  bL q e 357 0 (subAt [1, 0, 1, 0, 0] (bodyOf Tryz.f357)) 24 (tu (nth undef [v0]) [(2, (.bool false)), (5, v0), (6, x0), (7, (.int .i64 0))]) G fun e1 t2 G3 =>
  bV q (t2 2) fun t2x2_ =>
  ifE e1 (.exit 0) (
  some ((.bool true), G3)) (ifE e1 .ret (
  some (t2x2_, G3)) (none))
theorem m357 {e : Ex} {E : Ev} (h : ExLe Q e E) (v0 : Value) (G : GS) : Ref (s357 true e v0 G) (s357 false (Ex.of E) v0 G) := by
  unfold s357
  exact Ref.go
theorem f357 {orc : FuncId → Bool} {e : Ex} (h : ExLe Q e (E orc)) (v0 : Value) (G : GS) : Ref (s357 true e v0 G) ((E orc).cl 357 [v0] G) :=
  fun r hr => cl_sxE_some Q orc (vs := [v0]) G Tryz.func357 (by kernel_rfl) (by kernel_rfl) (by kernel_rfl) (by kernel_rfl) (by kernel_rfl) (by kernel_rfl) (m357 h v0 G r hr)
noncomputable def b358_0 (q : Bool) (e : Ex) (lp : Env → GS → Option (Exit × Env × GS)) (τ : Env) (G : GS) : Option (Exit × Env × GS) :=
  bV q (τ 1) fun a1_ =>
  bV q (τ 5) fun a5_ =>
  bV q (τ 8) fun a8_ =>
  bV q (τ 9) fun a9_ =>
  bV q (τ 10) fun a10_ =>
  bP (bn Q q .lss 3 (.tmp 10) (.tmp 9) a10_ a9_) fun x0 =>
  ifV x0 (
  bP (ias Q q 507 2 a8_ a10_) fun x1 =>
  bP (lda Q q 392 2 x1 G) fun x2 =>
  bS (al Q q 392 z392 G) fun x3 G4 =>
  bP (st Q q 392 2 x3 x2 G4) fun G5 =>
  bP (lda Q q 392 2 x3 (G5.room 8)) fun x6 =>
  bP (ias Q q 78 1 a1_ a10_) fun x7 =>
  bP (ld Q q 3 x7 (G5.room 8)) fun x8 =>
  bS (e.ev.cl 399 [a5_, x6, x8] (G5.room 8)) fun x10 G9 =>
  bP (bn Q q .add 3 (.tmp 10) (.const (.int .i64 1)) a10_ (.int .i64 1)) fun x11 =>
  lp (tu τ [(1, a1_), (5, x10), (8, a8_), (9, a9_), (10, x11), (6, a10_), (7, x3), (11, x0), (12, a10_), (13, x1), (14, x2), (15, a5_), (16, x6), (17, a1_), (18, a10_), (19, x7), (20, x8), (21, x10), (22, x11)]) G9) (
  some ((.exit 0), clq q 24 (tu τ [(1, a1_), (5, a5_), (8, a8_), (9, a9_), (10, a10_), (11, x0)]), G))
theorem mb358_0 {e : Ex} {E : Ev} (h : ExLe Q e E) {lp lp' : Env → GS → Option (Exit × Env × GS)} (hlp : LpLe lp lp') (τ : Env) (G : GS) : Ref (b358_0 true e lp τ G) (b358_0 false (Ex.of E) lp' τ G) := by
  unfold b358_0
  exact Ref.go
theorem l358_0 {orc : FuncId → Bool} {e : Ex} (h : ExLe Q e (E orc)) (lp : Env → GS → Option (Exit × Env × GS)) (hlp : ∀ τ G, Ref (lp τ G) (mapE ((E orc).lp (subAt [1, 1, 0, 1, 0, 0] (bodyOf Tryz.f358)) (lst 24 τ) G))) (T : List Value) (G : GS) (hT : T.length = 24) : Ref (b358_0 true e lp (nth undef T) G) (mapE ((E orc).lp (subAt [1, 1, 0, 1, 0, 0] (bodyOf Tryz.f358)) T G)) :=
  fun r hr => lp_sxM Q orc G hT (by kernel_rfl) (mb358_0 h ⟨hlp⟩ _ _ r hr)
/-- coxswain/word.lay -/
noncomputable def s358 (q : Bool) (e : Ex) (v0 v1 : Value) (G : GS) : Option (Value × GS) :=
  bP (ln Q q 507 v0) fun x0 =>
  bL q e 358 0 (subAt [1, 1, 0, 1, 0, 0] (bodyOf Tryz.f358)) 24 (tu (nth undef [v0, v1]) [(4, (.int .u64 0)), (5, (.int .u64 0)), (8, v0), (9, x0), (10, (.int .i64 0))]) G fun e1 t2 G3 =>
  bV q (t2 5) fun t2x5_ =>
  ifE e1 (.exit 0) (
  some (t2x5_, G3)) (none)
theorem m358 {e : Ex} {E : Ev} (h : ExLe Q e E) (v0 v1 : Value) (G : GS) : Ref (s358 true e v0 v1 G) (s358 false (Ex.of E) v0 v1 G) := by
  unfold s358
  exact Ref.go
theorem f358 {orc : FuncId → Bool} {e : Ex} (h : ExLe Q e (E orc)) (v0 v1 : Value) (G : GS) : Ref (s358 true e v0 v1 G) ((E orc).cl 358 [v0, v1] G) :=
  fun r hr => cl_sxE_some Q orc (vs := [v0, v1]) G Tryz.func358 (by kernel_rfl) (by kernel_rfl) (by kernel_rfl) (by kernel_rfl) (by kernel_rfl) (by kernel_rfl) (m358 h v0 v1 G r hr)
noncomputable def b359_0 (q : Bool) (e : Ex) (lp : Env → GS → Option (Exit × Env × GS)) (τ : Env) (G : GS) : Option (Exit × Env × GS) :=
  bV q (τ 0) fun a0_ =>
  bV q (τ 1) fun a1_ =>
  bV q (τ 5) fun a5_ =>
  bV q (τ 6) fun a6_ =>
  bP (bn Q q .lss 3 (.tmp 6) (.tmp 5) a6_ a5_) fun x0 =>
  ifV x0 (
  bP (fa Q q 27 1 1 a1_) fun x1 =>
  bP (ld Q q 3 x1 G) fun x2 =>
  bP (bn Q q .add 3 (.tmp 12) (.tmp 13) x2 a6_) fun x3 =>
  bS (cValue e.ev a0_ [a6_, x3] G) fun x4 G5 =>
  bP (un Q q .not x4) fun x6 =>
  ifV x6 (
  some (.ret, clq q 18 (tu τ [(0, a0_), (1, a1_), (5, a5_), (6, a6_), (3, a6_), (7, x0), (8, a6_), (9, a0_), (10, a6_), (11, x1), (12, x2), (13, a6_), (14, x3), (15, x4), (16, x6)]), G5)) (
  bP (bn Q q .add 3 (.tmp 6) (.const (.int .i64 1)) a6_ (.int .i64 1)) fun x7 =>
  lp (tu τ [(0, a0_), (1, a1_), (5, a5_), (6, x7), (3, a6_), (7, x0), (8, a6_), (9, a0_), (10, a6_), (11, x1), (12, x2), (13, a6_), (14, x3), (15, x4), (16, x6), (17, x7)]) G5)) (
  some ((.exit 0), clq q 18 (tu τ [(0, a0_), (1, a1_), (5, a5_), (6, a6_), (7, x0)]), G))
theorem mb359_0 {e : Ex} {E : Ev} (h : ExLe Q e E) {lp lp' : Env → GS → Option (Exit × Env × GS)} (hlp : LpLe lp lp') (τ : Env) (G : GS) : Ref (b359_0 true e lp τ G) (b359_0 false (Ex.of E) lp' τ G) := by
  unfold b359_0
  exact Ref.go
theorem l359_0 {orc : FuncId → Bool} {e : Ex} (h : ExLe Q e (E orc)) (lp : Env → GS → Option (Exit × Env × GS)) (hlp : ∀ τ G, Ref (lp τ G) (mapE ((E orc).lp (subAt [1, 0, 0] (bodyOf Tryz.f359)) (lst 18 τ) G))) (T : List Value) (G : GS) (hT : T.length = 18) : Ref (b359_0 true e lp (nth undef T) G) (mapE ((E orc).lp (subAt [1, 0, 0] (bodyOf Tryz.f359)) T G)) :=
  fun r hr => lp_sxM Q orc G hT (by kernel_rfl) (mb359_0 h ⟨hlp⟩ _ _ r hr)
/-- coxswain/epoch.pins$1 -/
noncomputable def s359 (q : Bool) (e : Ex) (v0 v1 : Value) (G : GS) : Option (Value × GS) :=
  bP (fa Q q 27 2 2 v1) fun x0 =>
  bP (ld Q q 3 x0 G) fun x1 =>
  bL q e 359 0 (subAt [1, 0, 0] (bodyOf Tryz.f359)) 18 (tu (nth undef [v0, v1]) [(4, x0), (5, x1), (6, (.int .i64 0))]) G fun e2 t3 G4 =>
  ifE e2 (.exit 0) (
  some (.tuple #[], G4)) (ifE e2 .ret (
  some (.tuple #[], G4)) (none))
theorem m359 {e : Ex} {E : Ev} (h : ExLe Q e E) (v0 v1 : Value) (G : GS) : Ref (s359 true e v0 v1 G) (s359 false (Ex.of E) v0 v1 G) := by
  unfold s359
  exact Ref.go
theorem f359 {orc : FuncId → Bool} {e : Ex} (h : ExLe Q e (E orc)) (v0 v1 : Value) (G : GS) : Ref (s359 true e v0 v1 G) ((E orc).cl 359 [v0, v1] G) :=
  fun r hr => cl_sxE_some Q orc (vs := [v0, v1]) G Tryz.func359 (by kernel_rfl) (by kernel_rfl) (by kernel_rfl) (by kernel_rfl) (by kernel_rfl) (by kernel_rfl) (m359 h v0 v1 G r hr)
/-- coxswain/epoch.none -/
noncomputable def s360 (q : Bool) (e : Ex) (v0 v1 : Value) (G : GS) : Option (Value × GS) :=
  bS (bx q v0 G) fun x0 G1 =>
  bP (bn Q q .lss 3 (.tmp 5) (.const (.int .i64 0)) v1 (.int .i64 0)) fun x2 =>
  bS (gd x2 false (some (v1, G1)) G1) fun x3 G4 =>
  bS (gd x2 false (bP (fa Q q 27 2 2 x0) fun y => some (y, G4)) G4) fun x5 G6 =>
  bS (gd x2 false (bP (ld Q q 3 x5 G6) fun y => some (y, G6)) G6) fun x7 G8 =>
  bS (gd x2 false (bP (bn Q q .geq 3 (.tmp 8) (.tmp 10) x3 x7) fun y => some (y, G8)) G8) fun x9 G10 =>
  bP (pickV x2 (.bool true) x9) fun x11 =>
  some (x11, G10)
theorem m360 {e : Ex} {E : Ev} (h : ExLe Q e E) (v0 v1 : Value) (G : GS) : Ref (s360 true e v0 v1 G) (s360 false (Ex.of E) v0 v1 G) := by
  unfold s360
  exact Ref.go
theorem f360 {orc : FuncId → Bool} {e : Ex} (h : ExLe Q e (E orc)) (v0 v1 : Value) (G : GS) : Ref (s360 true e v0 v1 G) ((E orc).cl 360 [v0, v1] G) :=
  fun r hr => cl_sxE_some Q orc (vs := [v0, v1]) G Tryz.func360 (by kernel_rfl) (by kernel_rfl) (by kernel_rfl) (by kernel_rfl) (by kernel_rfl) (by kernel_rfl) (m360 h v0 v1 G r hr)
/-- (*coxswain/epoch.lines).ends -/
noncomputable def s361 (q : Bool) (e : Ex) (v0 v1 : Value) (G : GS) : Option (Value × GS) :=
  bP (pNil v0) fun x0 =>
  bP (fa Q q 510 1 3 x0) fun x1 =>
  bP (st Q q 3 1 x1 (.int .i64 (-1)) G) fun G2 =>
  bP (pNil v0) fun x3 =>
  bP (fa Q q 510 3 5 x3) fun x4 =>
  bP (st Q q 33 1 x4 v1 G2) fun G5 =>
  some (.tuple #[], G5)
theorem m361 {e : Ex} {E : Ev} (h : ExLe Q e E) (v0 v1 : Value) (G : GS) : Ref (s361 true e v0 v1 G) (s361 false (Ex.of E) v0 v1 G) := by
  unfold s361
  exact Ref.go
theorem f361 {orc : FuncId → Bool} {e : Ex} (h : ExLe Q e (E orc)) (v0 v1 : Value) (G : GS) : Ref (s361 true e v0 v1 G) ((E orc).cl 361 [v0, v1] G) :=
  fun r hr => cl_sxE_some Q orc (vs := [v0, v1]) G Tryz.func361 (by kernel_rfl) (by kernel_rfl) (by kernel_rfl) (by kernel_rfl) (by kernel_rfl) (by kernel_rfl) (m361 h v0 v1 G r hr)
/-- (*coxswain/epoch.Pin).load -/
noncomputable def s362 (q : Bool) (e : Ex) (v0 v1 : Value) (G : GS) : Option (Value × GS) :=
  bP (pNil v0) fun x0 =>
  bP (fa Q q 512 1 6 x0) fun x1 =>
  bP (fa Q q 27 0 0 x1) fun x2 =>
  bP (ld Q q 3 x2 G) fun x3 =>
  bS (e.ev.cl 177 [v1, x3] G) fun x4 G5 =>
  bP (cv Q q 41 415 .u64 .u32 x4) fun x6 =>
  bP (pNil v0) fun x7 =>
  bP (fa Q q 512 3 10 x7) fun x8 =>
  bP (st Q q 415 1 x8 x6 G5) fun G9 =>
  bP (pNil v0) fun x10 =>
  bP (fa Q q 512 0 0 x10) fun x11 =>
  bP (fa Q q 510 1 3 x11) fun x12 =>
  bP (st Q q 3 1 x12 (.int .i64 1) G9) fun G13 =>
  some (.tuple #[], G13)
theorem m362 {e : Ex} {E : Ev} (h : ExLe Q e E) (v0 v1 : Value) (G : GS) : Ref (s362 true e v0 v1 G) (s362 false (Ex.of E) v0 v1 G) := by
  unfold s362
  exact Ref.go
theorem f362 {orc : FuncId → Bool} {e : Ex} (h : ExLe Q e (E orc)) (v0 v1 : Value) (G : GS) : Ref (s362 true e v0 v1 G) ((E orc).cl 362 [v0, v1] G) :=
  fun r hr => cl_sxE_some Q orc (vs := [v0, v1]) G Tryz.func362 (by kernel_rfl) (by kernel_rfl) (by kernel_rfl) (by kernel_rfl) (by kernel_rfl) (by kernel_rfl) (m362 h v0 v1 G r hr)
/-- (*coxswain/epoch.Pin).store -/
noncomputable def s363 (q : Bool) (e : Ex) (v0 v1 : Value) (G : GS) : Option (Value × GS) :=
  bP (pNil v0) fun x0 =>
  bP (fa Q q 512 2 9 x0) fun x1 =>
  bP (ld Q q 3 x1 (G.room 12)) fun x2 =>
  bP (pNil v0) fun x3 =>
  bP (fa Q q 512 3 10 x3) fun x4 =>
  bP (ld Q q 415 x4 (G.room 12)) fun x5 =>
  bP (cv Q q 415 41 .u32 .u64 x5) fun x6 =>
  bP (bn Q q .add 41 (.tmp 13) (.const (.int .u64 1)) x6 (.int .u64 1)) fun x7 =>
  bS (e.ev.cl 45 [v1, x2, x7] (G.room 12)) fun x9 G8 =>
  bP (pNil v0) fun x10 =>
  bP (fa Q q 512 0 0 x10) fun x11 =>
  bP (fa Q q 510 1 3 x11) fun x12 =>
  bP (st Q q 3 1 x12 (.int .i64 2) G8) fun G13 =>
  some (.tuple #[], G13)
theorem m363 {e : Ex} {E : Ev} (h : ExLe Q e E) (v0 v1 : Value) (G : GS) : Ref (s363 true e v0 v1 G) (s363 false (Ex.of E) v0 v1 G) := by
  unfold s363
  exact Ref.go
theorem f363 {orc : FuncId → Bool} {e : Ex} (h : ExLe Q e (E orc)) (v0 v1 : Value) (G : GS) : Ref (s363 true e v0 v1 G) ((E orc).cl 363 [v0, v1] G) :=
  fun r hr => cl_sxE_some Q orc (vs := [v0, v1]) G Tryz.func363 (by kernel_rfl) (by kernel_rfl) (by kernel_rfl) (by kernel_rfl) (by kernel_rfl) (by kernel_rfl) (m363 h v0 v1 G r hr)
/-- (*coxswain/epoch.Pin).again -/
noncomputable def s364 (q : Bool) (e : Ex) (v0 v1 : Value) (G : GS) : Option (Value × GS) :=
  bP (pNil v0) fun x0 =>
  bP (fa Q q 512 1 6 x0) fun x1 =>
  bP (fa Q q 27 0 0 x1) fun x2 =>
  bP (ld Q q 3 x2 G) fun x3 =>
  bS (e.ev.cl 177 [v1, x3] G) fun x4 G5 =>
  bP (cv Q q 41 415 .u64 .u32 x4) fun x6 =>
  bP (pNil v0) fun x7 =>
  bP (fa Q q 512 3 10 x7) fun x8 =>
  bP (ld Q q 415 x8 G5) fun x9 =>
  bP (bn Q q .eql 415 (.tmp 13) (.tmp 17) x6 x9) fun x10 =>
  ifV x10 (
  bP (pNil v0) fun x11 =>
  bP (fa Q q 512 0 0 x11) fun x12 =>
  bS (e.ev.cl 361 [x12, (.int .i64 0)] G5) fun x13 G14 =>
  some (.tuple #[], G14)) (
  bP (pNil v0) fun x15 =>
  bP (fa Q q 512 3 10 x15) fun x16 =>
  bP (st Q q 415 1 x16 x6 G5) fun G17 =>
  bP (pNil v0) fun x18 =>
  bP (fa Q q 512 0 0 x18) fun x19 =>
  bP (fa Q q 510 1 3 x19) fun x20 =>
  bP (st Q q 3 1 x20 (.int .i64 1) G17) fun G21 =>
  some (.tuple #[], G21))
theorem m364 {e : Ex} {E : Ev} (h : ExLe Q e E) (v0 v1 : Value) (G : GS) : Ref (s364 true e v0 v1 G) (s364 false (Ex.of E) v0 v1 G) := by
  unfold s364
  exact Ref.go
theorem f364 {orc : FuncId → Bool} {e : Ex} (h : ExLe Q e (E orc)) (v0 v1 : Value) (G : GS) : Ref (s364 true e v0 v1 G) ((E orc).cl 364 [v0, v1] G) :=
  fun r hr => cl_sxE_some Q orc (vs := [v0, v1]) G Tryz.func364 (by kernel_rfl) (by kernel_rfl) (by kernel_rfl) (by kernel_rfl) (by kernel_rfl) (by kernel_rfl) (m364 h v0 v1 G r hr)
/-- (*coxswain/epoch.lines).told -/
noncomputable def s365 (q : Bool) (e : Ex) (v0 : Value) (G : GS) : Option (Value × GS) :=
  bP (pNil v0) fun x0 =>
  bP (fa Q q 510 2 4 x0) fun x1 =>
  bP (ld Q q 4 x1 G) fun x2 =>
  bP (un Q q .not x2) fun x3 =>
  ifV x3 (
  some ((.int .i64 1), G)) (
  bP (pNil v0) fun x4 =>
  bP (fa Q q 510 1 3 x4) fun x5 =>
  bP (ld Q q 3 x5 G) fun x6 =>
  bP (bn Q q .neq 3 (.tmp 13) (.const (.int .i64 (-1))) x6 (.int .i64 (-1))) fun x7 =>
  ifV x7 (
  some ((.int .i64 14), G)) (
  bP (pNil v0) fun x8 =>
  bP (fa Q q 510 3 5 x8) fun x9 =>
  bP (ld Q q 33 x9 G) fun x10 =>
  some (x10, G)))
theorem m365 {e : Ex} {E : Ev} (h : ExLe Q e E) (v0 : Value) (G : GS) : Ref (s365 true e v0 G) (s365 false (Ex.of E) v0 G) := by
  unfold s365
  exact Ref.go
theorem f365 {orc : FuncId → Bool} {e : Ex} (h : ExLe Q e (E orc)) (v0 : Value) (G : GS) : Ref (s365 true e v0 G) ((E orc).cl 365 [v0] G) :=
  fun r hr => cl_sxE_some Q orc (vs := [v0]) G Tryz.func365 (by kernel_rfl) (by kernel_rfl) (by kernel_rfl) (by kernel_rfl) (by kernel_rfl) (by kernel_rfl) (m365 h v0 G r hr)
/-- (*coxswain/ready.Put).lay -/
noncomputable def s366 (q : Bool) (e : Ex) (v0 : Value) (G : GS) : Option (Value × GS) :=
  bS (bx q v0 G) fun x0 G1 =>
  bP (bd Q q 548 z548 [(0, 0, 1), (1, 1, 1)] [(.func (.func 400) #[] #[x0]), (.func (.func 402) #[] #[])]) fun x2 =>
  bS (bx q x2 G1) fun x3 G4 =>
  bP (ifc Q q 541 x3) fun x5 =>
  some (x5, G4)
theorem m366 {e : Ex} {E : Ev} (h : ExLe Q e E) (v0 : Value) (G : GS) : Ref (s366 true e v0 G) (s366 false (Ex.of E) v0 G) := by
  unfold s366
  exact Ref.go
theorem f366 {orc : FuncId → Bool} {e : Ex} (h : ExLe Q e (E orc)) (v0 : Value) (G : GS) : Ref (s366 true e v0 G) ((E orc).cl 366 [v0] G) :=
  fun r hr => cl_sxE_some Q orc (vs := [v0]) G Tryz.func366 (by kernel_rfl) (by kernel_rfl) (by kernel_rfl) (by kernel_rfl) (by kernel_rfl) (by kernel_rfl) (m366 h v0 G r hr)
/-- (*coxswain/ready.Put).link -/
noncomputable def s367 (q : Bool) (e : Ex) (v0 : Value) (G : GS) : Option (Value × GS) :=
  bS (bx q v0 G) fun x0 G1 =>
  bP (bd Q q 556 z556 [(0, 0, 1), (1, 1, 1)] [(.func (.func 403) #[] #[x0]), (.func (.func 405) #[] #[])]) fun x2 =>
  bS (bx q x2 G1) fun x3 G4 =>
  bP (ifc Q q 549 x3) fun x5 =>
  some (x5, G4)
theorem m367 {e : Ex} {E : Ev} (h : ExLe Q e E) (v0 : Value) (G : GS) : Ref (s367 true e v0 G) (s367 false (Ex.of E) v0 G) := by
  unfold s367
  exact Ref.go
theorem f367 {orc : FuncId → Bool} {e : Ex} (h : ExLe Q e (E orc)) (v0 : Value) (G : GS) : Ref (s367 true e v0 G) ((E orc).cl 367 [v0] G) :=
  fun r hr => cl_sxE_some Q orc (vs := [v0]) G Tryz.func367 (by kernel_rfl) (by kernel_rfl) (by kernel_rfl) (by kernel_rfl) (by kernel_rfl) (by kernel_rfl) (m367 h v0 G r hr)
/-- (*coxswain/ready.Put).given$1 -/
noncomputable def s368 (q : Bool) (e : Ex) (v0 : Value) (G : GS) : Option (Value × GS) :=
  bP (ld Q q 80 v0 G) fun x0 =>
  bP (pNil x0) fun x1 =>
  bP (fa Q q 303 0 0 x1) fun x2 =>
  bS (e.ev.cl 223 [x2, .nilFunc] G) fun x3 G4 =>
  some (x3, G4)
theorem m368 {e : Ex} {E : Ev} (h : ExLe Q e E) (v0 : Value) (G : GS) : Ref (s368 true e v0 G) (s368 false (Ex.of E) v0 G) := by
  unfold s368
  exact Ref.go
theorem f368 {orc : FuncId → Bool} {e : Ex} (h : ExLe Q e (E orc)) (v0 : Value) (G : GS) : Ref (s368 true e v0 G) ((E orc).cl 368 [v0] G) :=
  fun r hr => cl_sxE_some Q orc (vs := [v0]) G Tryz.func368 (by kernel_rfl) (by kernel_rfl) (by kernel_rfl) (by kernel_rfl) (by kernel_rfl) (by kernel_rfl) (m368 h v0 G r hr)
/-- (*coxswain/epoch.Unpin).clear -/
noncomputable def s370 (q : Bool) (e : Ex) (v0 v1 : Value) (G : GS) : Option (Value × GS) :=
  bP (pNil v0) fun x0 =>
  bP (fa Q q 518 1 6 x0) fun x1 =>
  bP (ld Q q 3 x1 G) fun x2 =>
  bS (e.ev.cl 45 [v1, x2, (.int .u64 0)] G) fun x3 G4 =>
  bP (pNil v0) fun x5 =>
  bP (fa Q q 518 0 0 x5) fun x6 =>
  bS (e.ev.cl 361 [x6, (.int .i64 0)] G4) fun x7 G8 =>
  some (.tuple #[], G8)
theorem m370 {e : Ex} {E : Ev} (h : ExLe Q e E) (v0 v1 : Value) (G : GS) : Ref (s370 true e v0 v1 G) (s370 false (Ex.of E) v0 v1 G) := by
  unfold s370
  exact Ref.go
theorem f370 {orc : FuncId → Bool} {e : Ex} (h : ExLe Q e (E orc)) (v0 v1 : Value) (G : GS) : Ref (s370 true e v0 v1 G) ((E orc).cl 370 [v0, v1] G) :=
  fun r hr => cl_sxE_some Q orc (vs := [v0, v1]) G Tryz.func370 (by kernel_rfl) (by kernel_rfl) (by kernel_rfl) (by kernel_rfl) (by kernel_rfl) (by kernel_rfl) (m370 h v0 v1 G r hr)
/-- coxswain/word.PutTop -/
noncomputable def s390 (q : Bool) (e : Ex) (v0 : Value) (G : GS) : Option (Value × GS) :=
  bS (bx q v0 G) fun x0 G1 =>
  bP (fa Q q 274 0 0 x0) fun x2 =>
  bP (ld Q q 3 x2 G1) fun x3 =>
  bP (bd Q q 505 z505 [(0, 0, 1), (1, 1, 1), (2, 2, 1)] [x3, (.int .i64 (-1)), (.int .i64 65534)]) fun x4 =>
  bP (fa Q q 274 1 1 x0) fun x5 =>
  bP (ld Q q 3 x5 G1) fun x6 =>
  bP (bd Q q 505 z505 [(0, 0, 1), (1, 1, 1), (2, 2, 1)] [x6, (.int .i64 0), (.int .i64 281474976710655)]) fun x7 =>
  bS (bs Q q 538 2 (rep z505 2) 3 [(0, 0, 3), (1, 3, 3)] [x4, x7] G1) fun x8 G9 =>
  bS (e.ev.cl 357 [x8] G9) fun x10 G11 =>
  bP (un Q q .not x10) fun x12 =>
  ifV x12 (
  some (.tuple #[(.int .u64 0), (.int .i64 3)], G11)) (
  bS (e.ev.cl 271 [] G11) fun x13 G14 =>
  bS (al Q q 393 z393 G14) fun x15 G16 =>
  bP (st Q q 393 4 x15 x13 G16) fun G17 =>
  bP (sla Q q 393 2 2 x15 none none none (G17.room 10)) fun x18 =>
  bP (fa Q q 274 0 0 x0) fun x19 =>
  bP (ld Q q 3 x19 (G17.room 10)) fun x20 =>
  bP (bn Q q .add 3 (.tmp 17) (.const (.int .i64 1)) x20 (.int .i64 1)) fun x21 =>
  bP (fa Q q 274 1 1 x0) fun x22 =>
  bP (ld Q q 3 x22 (G17.room 10)) fun x23 =>
  bS (bs Q q 78 2 (rep z3 2) 1 [(0, 0, 1), (1, 1, 1)] [x21, x23] ((G17.room 10).at' (G17.nx + 6))) fun x24 G25 =>
  bS (e.ev.cl 358 [x18, x24] (G25.back (G17.room 10))) fun x27 G26 =>
  some (.tuple #[x27, (.int .i64 0)], G26))
theorem m390 {e : Ex} {E : Ev} (h : ExLe Q e E) (v0 : Value) (G : GS) : Ref (s390 true e v0 G) (s390 false (Ex.of E) v0 G) := by
  unfold s390
  exact Ref.go
theorem f390 {orc : FuncId → Bool} {e : Ex} (h : ExLe Q e (E orc)) (v0 : Value) (G : GS) : Ref (s390 true e v0 G) ((E orc).cl 390 [v0] G) :=
  fun r hr => cl_sxE_some Q orc (vs := [v0]) G Tryz.func390 (by kernel_rfl) (by kernel_rfl) (by kernel_rfl) (by kernel_rfl) (by kernel_rfl) (by kernel_rfl) (m390 h v0 G r hr)
/-- (*coxswain/stack.Pop).second -/
noncomputable def s391 (q : Bool) (e : Ex) (v0 v1 : Value) (G : GS) : Option (Value × GS) :=
  bP (pNil v0) fun x0 =>
  bP (fa Q q 489 0 0 x0) fun x1 =>
  bP (fa Q q 486 0 0 x1) fun x2 =>
  bP (lda Q q 23 3 x2 (G.room 25)) fun x3 =>
  bP (pNil v0) fun x4 =>
  bP (fa Q q 489 0 0 x4) fun x5 =>
  bP (fa Q q 486 0 0 x5) fun x6 =>
  bP (fa Q q 23 1 1 x6) fun x7 =>
  bP (ld Q q 3 x7 (G.room 25)) fun x8 =>
  bP (pNil v0) fun x9 =>
  bP (fa Q q 489 0 0 x9) fun x10 =>
  bP (fa Q q 486 2 4 x10) fun x11 =>
  bP (ld Q q 3 x11 (G.room 25)) fun x12 =>
  bP (bn Q q .add 3 (.tmp 16) (.tmp 21) x8 x12) fun x13 =>
  bS (e.ev.cl 177 [v1, x13] (G.room 25)) fun x15 G14 =>
  chk ((sameO (lda Q q 23 3 x2 G14) x3 && true)) <|
  bS (e.ev.cl 356 [x3, x15] G14) fun x17 G16 =>
  bP (pNil v0) fun x18 =>
  bP (fa Q q 489 0 0 x18) fun x19 =>
  bP (fa Q q 486 3 5 x19) fun x20 =>
  bP (st Q q 3 1 x20 x17 G16) fun G21 =>
  bP (pNil v0) fun x22 =>
  bP (fa Q q 489 1 9 x22) fun x23 =>
  bP (st Q q 487 1 x23 (.func (.func 419) #[] #[]) G21) fun G24 =>
  some (.tuple #[], G24)
theorem m391 {e : Ex} {E : Ev} (h : ExLe Q e E) (v0 v1 : Value) (G : GS) : Ref (s391 true e v0 v1 G) (s391 false (Ex.of E) v0 v1 G) := by
  unfold s391
  exact Ref.go
theorem f391 {orc : FuncId → Bool} {e : Ex} (h : ExLe Q e (E orc)) (v0 v1 : Value) (G : GS) : Ref (s391 true e v0 v1 G) ((E orc).cl 391 [v0, v1] G) :=
  fun r hr => cl_sxE_some Q orc (vs := [v0, v1]) G Tryz.func391 (by kernel_rfl) (by kernel_rfl) (by kernel_rfl) (by kernel_rfl) (by kernel_rfl) (by kernel_rfl) (m391 h v0 v1 G r hr)
/-- (*coxswain/stack.held).load -/
noncomputable def s392 (q : Bool) (e : Ex) (v0 v1 : Value) (G : GS) : Option (Value × GS) :=
  bP (pNil v0) fun x0 =>
  bP (fa Q q 486 0 0 x0) fun x1 =>
  bP (fa Q q 23 0 0 x1) fun x2 =>
  bP (ld Q q 3 x2 G) fun x3 =>
  bS (e.ev.cl 177 [v1, x3] G) fun x4 G5 =>
  bP (pNil v0) fun x6 =>
  bP (fa Q q 486 1 3 x6) fun x7 =>
  bP (st Q q 41 1 x7 x4 G5) fun G8 =>
  bP (pNil v0) fun x9 =>
  bP (fa Q q 486 0 0 x9) fun x10 =>
  bP (lda Q q 23 3 x10 (G8.room 10)) fun x11 =>
  bP (pNil v0) fun x12 =>
  bP (fa Q q 486 1 3 x12) fun x13 =>
  bP (ld Q q 41 x13 (G8.room 10)) fun x14 =>
  bS (e.ev.cl 356 [x11, x14] (G8.room 10)) fun x16 G15 =>
  some (x16, G15)
theorem m392 {e : Ex} {E : Ev} (h : ExLe Q e E) (v0 v1 : Value) (G : GS) : Ref (s392 true e v0 v1 G) (s392 false (Ex.of E) v0 v1 G) := by
  unfold s392
  exact Ref.go
theorem f392 {orc : FuncId → Bool} {e : Ex} (h : ExLe Q e (E orc)) (v0 v1 : Value) (G : GS) : Ref (s392 true e v0 v1 G) ((E orc).cl 392 [v0, v1] G) :=
  fun r hr => cl_sxE_some Q orc (vs := [v0, v1]) G Tryz.func392 (by kernel_rfl) (by kernel_rfl) (by kernel_rfl) (by kernel_rfl) (by kernel_rfl) (by kernel_rfl) (m392 h v0 v1 G r hr)
/-- (*coxswain/stack.held).over -/
noncomputable def s393 (q : Bool) (e : Ex) (v0 : Value) (G : GS) : Option (Value × GS) :=
  bP (ep Q q false 536 (.tmp 3) (.const (.pointer none)) v0 (.pointer none)) fun x0 =>
  bS (gd x0 false (some (v0, G)) G) fun x1 G2 =>
  bS (gd x0 false (bP (pNil x1) fun y => some (y, G2)) G2) fun x3 G4 =>
  bS (gd x0 false (bP (fa Q q 486 4 6 x3) fun y => some (y, G4)) G4) fun x5 G6 =>
  bS (gd x0 false (bP (ld Q q 4 x5 G6) fun y => some (y, G6)) G6) fun x7 G8 =>
  bS (gd x0 false (bP (un Q q .not x7) fun y => some (y, G8)) G8) fun x9 G10 =>
  bP (pickV x0 (.bool true) x9) fun x11 =>
  bS (gd x11 false (some (v0, G10)) G10) fun x12 G13 =>
  bS (gd x11 false (bP (pNil x12) fun y => some (y, G13)) G13) fun x14 G15 =>
  bS (gd x11 false (bP (fa Q q 486 5 7 x14) fun y => some (y, G15)) G15) fun x16 G17 =>
  bS (gd x11 false (bP (ld Q q 4 x16 G17) fun y => some (y, G17)) G17) fun x18 G19 =>
  bP (pickV x11 (.bool true) x18) fun x20 =>
  some (x20, G19)
theorem m393 {e : Ex} {E : Ev} (h : ExLe Q e E) (v0 : Value) (G : GS) : Ref (s393 true e v0 G) (s393 false (Ex.of E) v0 G) := by
  unfold s393
  exact Ref.go
theorem f393 {orc : FuncId → Bool} {e : Ex} (h : ExLe Q e (E orc)) (v0 : Value) (G : GS) : Ref (s393 true e v0 G) ((E orc).cl 393 [v0] G) :=
  fun r hr => cl_sxE_some Q orc (vs := [v0]) G Tryz.func393 (by kernel_rfl) (by kernel_rfl) (by kernel_rfl) (by kernel_rfl) (by kernel_rfl) (by kernel_rfl) (m393 h v0 G r hr)
/-- (*coxswain/stack.held).index -/
noncomputable def s394 (q : Bool) (e : Ex) (v0 : Value) (G : GS) : Option (Value × GS) :=
  bS (e.ev.cl 420 [v0] G) fun x0 G1 =>
  bP (bn Q q .neq 33 (.tmp 7) (.const (.int .i64 0)) x0 (.int .i64 0)) fun x2 =>
  ifV x2 (
  some (.tuple #[(.int .i64 0), x0], G1)) (
  bP (pNil v0) fun x3 =>
  bP (fa Q q 486 2 4 x3) fun x4 =>
  bP (ld Q q 3 x4 G1) fun x5 =>
  some (.tuple #[x5, (.int .i64 0)], G1))
theorem m394 {e : Ex} {E : Ev} (h : ExLe Q e E) (v0 : Value) (G : GS) : Ref (s394 true e v0 G) (s394 false (Ex.of E) v0 G) := by
  unfold s394
  exact Ref.go
theorem f394 {orc : FuncId → Bool} {e : Ex} (h : ExLe Q e (E orc)) (v0 : Value) (G : GS) : Ref (s394 true e v0 G) ((E orc).cl 394 [v0] G) :=
  fun r hr => cl_sxE_some Q orc (vs := [v0]) G Tryz.func394 (by kernel_rfl) (by kernel_rfl) (by kernel_rfl) (by kernel_rfl) (by kernel_rfl) (by kernel_rfl) (m394 h v0 G r hr)
noncomputable def b397_0 (q : Bool) (e : Ex) (lp : Env → GS → Option (Exit × Env × GS)) (τ : Env) (G : GS) : Option (Exit × Env × GS) :=
  bV q (τ 0) fun a0_ =>
  bV q (τ 2) fun a2_ =>
  bV q (τ 4) fun a4_ =>
  bV q (τ 5) fun a5_ =>
  bP (bn Q q .geq 3 (.tmp 9) (.const (.int .i64 0)) a5_ (.int .i64 0)) fun x0 =>
  ifV x0 (
  bP (fa Q q 280 0 0 a4_) fun x1 =>
  bP (st Q q 3 1 x1 a5_ G) fun G2 =>
  bP (fa Q q 280 3 3 a4_) fun x3 =>
  bP (st Q q 41 1 x3 (.int .u64 0) G2) fun G4 =>
  bP (lda Q q 280 4 a4_ G4) fun x5 =>
  bS (cValue e.ev a0_ [a5_, x5] G4) fun x6 G7 =>
  bP (un Q q .not x6) fun x8 =>
  ifV x8 (
  some (.ret, clq q 25 (tu τ [(0, a0_), (2, a2_), (4, a4_), (5, a5_), (9, a5_), (10, x0), (13, a5_), (14, x1), (15, x3), (16, a0_), (17, a5_), (18, x5), (19, x6), (20, x8)]), G7)) (
  bP (ld Q q 281 a2_ G7) fun x9 =>
  bP (ias Q q 281 4 x9 a5_) fun x10 =>
  bP (lda Q q 280 4 x10 G7) fun x11 =>
  bP (st Q q 280 4 a4_ x11 G7) fun G12 =>
  bP (bn Q q .sub 3 (.tmp 11) (.const (.int .i64 1)) a5_ (.int .i64 1)) fun x13 =>
  lp (tu τ [(0, a0_), (2, a2_), (4, a4_), (5, x13), (9, a5_), (10, x0), (11, a5_), (12, x13), (13, a5_), (14, x1), (15, x3), (16, a0_), (17, a5_), (18, x5), (19, x6), (20, x8), (21, x9), (22, a5_), (23, x10), (24, x11)]) G12)) (
  some ((.exit 0), clq q 25 (tu τ [(0, a0_), (2, a2_), (4, a4_), (5, a5_), (9, a5_), (10, x0)]), G))
theorem mb397_0 {e : Ex} {E : Ev} (h : ExLe Q e E) {lp lp' : Env → GS → Option (Exit × Env × GS)} (hlp : LpLe lp lp') (τ : Env) (G : GS) : Ref (b397_0 true e lp τ G) (b397_0 false (Ex.of E) lp' τ G) := by
  unfold b397_0
  exact Ref.go
theorem l397_0 {orc : FuncId → Bool} {e : Ex} (h : ExLe Q e (E orc)) (lp : Env → GS → Option (Exit × Env × GS)) (hlp : ∀ τ G, Ref (lp τ G) (mapE ((E orc).lp (subAt [1, 1, 0, 0] (bodyOf Tryz.f397)) (lst 25 τ) G))) (T : List Value) (G : GS) (hT : T.length = 25) : Ref (b397_0 true e lp (nth undef T) G) (mapE ((E orc).lp (subAt [1, 1, 0, 0] (bodyOf Tryz.f397)) T G)) :=
  fun r hr => lp_sxM Q orc G hT (by kernel_rfl) (mb397_0 h ⟨hlp⟩ _ _ r hr)
/-- coxswain/find.down$1 -/
noncomputable def s397 (q : Bool) (e : Ex) (v0 v1 v2 : Value) (G : GS) : Option (Value × GS) :=
  bP (bd Q q 280 z280 [(1, 1, 1)] [(.int .i64 (-1))]) fun x0 =>
  bS (al Q q 280 z280 G) fun x1 G2 =>
  bP (st Q q 280 4 x1 x0 G2) fun G3 =>
  bP (ld Q q 3 v1 G3) fun x4 =>
  bP (bn Q q .sub 3 (.tmp 7) (.const (.int .i64 1)) x4 (.int .i64 1)) fun x5 =>
  bL q e 397 0 (subAt [1, 1, 0, 0] (bodyOf Tryz.f397)) 25 (tu (nth undef [v0, v1, v2]) [(4, x1), (5, x5), (6, x0), (7, x4), (8, x5)]) G3 fun e6 t7 G8 =>
  ifE e6 (.exit 0) (
  some (.tuple #[], G8)) (ifE e6 .ret (
  some (.tuple #[], G8)) (none))
theorem m397 {e : Ex} {E : Ev} (h : ExLe Q e E) (v0 v1 v2 : Value) (G : GS) : Ref (s397 true e v0 v1 v2 G) (s397 false (Ex.of E) v0 v1 v2 G) := by
  unfold s397
  exact Ref.go
theorem f397 {orc : FuncId → Bool} {e : Ex} (h : ExLe Q e (E orc)) (v0 v1 v2 : Value) (G : GS) : Ref (s397 true e v0 v1 v2 G) ((E orc).cl 397 [v0, v1, v2] G) :=
  fun r hr => cl_sxE_some Q orc (vs := [v0, v1, v2]) G Tryz.func397 (by kernel_rfl) (by kernel_rfl) (by kernel_rfl) (by kernel_rfl) (by kernel_rfl) (by kernel_rfl) (m397 h v0 v1 v2 G r hr)
/-- (coxswain/word.raw).with -/
noncomputable def s399 (q : Bool) (e : Ex) (v0 v1 v2 : Value) (G : GS) : Option (Value × GS) :=
  bS (bx q v1 G) fun x0 G1 =>
  bP (cv Q q 3 41 .i64 .u64 v2) fun x2 =>
  bP (fa Q q 392 0 0 x0) fun x3 =>
  bP (ld Q q 3 x3 G1) fun x4 =>
  bP (bn Q q .shl 41 (.tmp 9) (.tmp 11) x2 x4) fun x5 =>
  bP (bn Q q .or 395 (.tmp 7) (.tmp 12) v0 x5) fun x6 =>
  some (x6, G1)
theorem m399 {e : Ex} {E : Ev} (h : ExLe Q e E) (v0 v1 v2 : Value) (G : GS) : Ref (s399 true e v0 v1 v2 G) (s399 false (Ex.of E) v0 v1 v2 G) := by
  unfold s399
  exact Ref.go
theorem f399 {orc : FuncId → Bool} {e : Ex} (h : ExLe Q e (E orc)) (v0 v1 v2 : Value) (G : GS) : Ref (s399 true e v0 v1 v2 G) ((E orc).cl 399 [v0, v1, v2] G) :=
  fun r hr => cl_sxE_some Q orc (vs := [v0, v1, v2]) G Tryz.func399 (by kernel_rfl) (by kernel_rfl) (by kernel_rfl) (by kernel_rfl) (by kernel_rfl) (by kernel_rfl) (m399 h v0 v1 v2 G r hr)
/-- (*coxswain/ready.Put).lay$1 -/
noncomputable def s400 (q : Bool) (e : Ex) (v0 : Value) (G : GS) : Option (Value × GS) :=
  bP (ld Q q 80 v0 (G.room 23)) fun x0 =>
  bP (pNil x0) fun x1 =>
  bP (fa Q q 303 0 0 x1) fun x2 =>
  bP (fa Q q 300 0 0 x2) fun x3 =>
  bP (lda Q q 31 13 x3 (G.room 23)) fun x4 =>
  bP (ld Q q 80 v0 (G.room 23)) fun x5 =>
  bP (pNil x5) fun x6 =>
  bP (fa Q q 303 5 23 x6) fun x7 =>
  bP (ld Q q 41 x7 (G.room 23)) fun x8 =>
  bP (ld Q q 80 v0 (G.room 23)) fun x9 =>
  bP (pNil x9) fun x10 =>
  bP (fa Q q 303 1 19 x10) fun x11 =>
  bP (ld Q q 41 x11 (G.room 23)) fun x12 =>
  bP (ld Q q 80 v0 (G.room 23)) fun x13 =>
  bP (pNil x13) fun x14 =>
  bP (fa Q q 303 2 20 x14) fun x15 =>
  bP (ld Q q 3 x15 (G.room 23)) fun x16 =>
  bP (ld Q q 80 v0 (G.room 23)) fun x17 =>
  bP (pNil x17) fun x18 =>
  bP (fa Q q 303 3 21 x18) fun x19 =>
  bP (ld Q q 3 x19 (G.room 23)) fun x20 =>
  bS (e.ev.cl 401 [x4, x8, x12, x16, x20] (G.room 23)) fun x22 G21 =>
  some (x22, G21)
theorem m400 {e : Ex} {E : Ev} (h : ExLe Q e E) (v0 : Value) (G : GS) : Ref (s400 true e v0 G) (s400 false (Ex.of E) v0 G) := by
  unfold s400
  exact Ref.go
theorem f400 {orc : FuncId → Bool} {e : Ex} (h : ExLe Q e (E orc)) (v0 : Value) (G : GS) : Ref (s400 true e v0 G) ((E orc).cl 400 [v0] G) :=
  fun r hr => cl_sxE_some Q orc (vs := [v0]) G Tryz.func400 (by kernel_rfl) (by kernel_rfl) (by kernel_rfl) (by kernel_rfl) (by kernel_rfl) (by kernel_rfl) (m400 h v0 G r hr)
/-- coxswain/tower.NewLay -/
noncomputable def s401 (q : Bool) (e : Ex) (v0 v1 v2 v3 v4 : Value) (G : GS) : Option (Value × GS) :=
  bS (bx q v0 G) fun x0 G1 =>
  bP (lda Q q 31 13 x0 G1) fun x2 =>
  bS (e.ev.cl 422 [x2, v1, v3, v4] G1) fun x3 G4 =>
  bP (bd Q q 566 z566 [(0, 0, 1), (1, 1, 1), (4, 7, 1)] [(.bool true), v1, x3]) fun x5 =>
  bS (bx q x5 G4) fun x6 G7 =>
  bP (pNil x6) fun x8 =>
  bP (fa Q q 566 4 7 x8) fun x9 =>
  bP (ld Q q 33 x9 G7) fun x10 =>
  bP (bn Q q .neq 33 (.tmp 25) (.const (.int .i64 0)) x10 (.int .i64 0)) fun x11 =>
  ifV x11 (
  bP (pNil x6) fun x12 =>
  bP (fa Q q 566 3 6 x12) fun x13 =>
  bP (st Q q 3 1 x13 (.int .i64 4) G7) fun G14 =>
  some (x6, G14)) (
  bP (lda Q q 31 13 x0 G7) fun x15 =>
  bS (e.ev.cl 352 [x15, v1] G7) fun x16 G17 =>
  bS (al Q q 3 z3 G17) fun x18 G19 =>
  bP (st Q q 3 1 x18 x16 G19) fun G20 =>
  bS (cValue e.ev (.func (.func 423) #[] #[x0, x18]) [(.int .i64 0), v2] G20) fun x21 G22 =>
  bP (cv Q q 3 41 .i64 .u64 v3) fun x23 =>
  bS (cValue e.ev (.func (.func 423) #[] #[x0, x18]) [(.int .i64 1), x23] G22) fun x24 G25 =>
  bP (cv Q q 3 41 .i64 .u64 v4) fun x26 =>
  bS (cValue e.ev (.func (.func 423) #[] #[x0, x18]) [(.int .i64 2), x26] G25) fun x27 G28 =>
  bS (cValue e.ev (.func (.func 423) #[] #[x0, x18]) [(.int .i64 3), (.int .u64 2)] G28) fun x29 G30 =>
  bP (bd Q q 564 z564 [(0, 0, 1), (1, 1, 1), (2, 2, 1), (3, 3, 1)] [x21, x24, x27, x29]) fun x31 =>
  bP (pNil x6) fun x32 =>
  bP (fa Q q 566 2 2 x32) fun x33 =>
  bP (st Q q 564 4 x33 x31 G30) fun G34 =>
  some (x6, G34))
theorem m401 {e : Ex} {E : Ev} (h : ExLe Q e E) (v0 v1 v2 v3 v4 : Value) (G : GS) : Ref (s401 true e v0 v1 v2 v3 v4 G) (s401 false (Ex.of E) v0 v1 v2 v3 v4 G) := by
  unfold s401
  exact Ref.go
theorem f401 {orc : FuncId → Bool} {e : Ex} (h : ExLe Q e (E orc)) (v0 v1 v2 v3 v4 : Value) (G : GS) : Ref (s401 true e v0 v1 v2 v3 v4 G) ((E orc).cl 401 [v0, v1, v2, v3, v4] G) :=
  fun r hr => cl_sxE_some Q orc (vs := [v0, v1, v2, v3, v4]) G Tryz.func401 (by kernel_rfl) (by kernel_rfl) (by kernel_rfl) (by kernel_rfl) (by kernel_rfl) (by kernel_rfl) (m401 h v0 v1 v2 v3 v4 G r hr)
/-- (*coxswain/tower.Lay).By -/
noncomputable def s402 (q : Bool) (e : Ex) (v0 : Value) (G : GS) : Option (Value × GS) :=
  bP (ep Q q false 542 (.tmp 3) (.const (.pointer none)) v0 (.pointer none)) fun x0 =>
  bS (gd x0 false (some (v0, G)) G) fun x1 G2 =>
  bS (gd x0 false (bP (pNil x1) fun y => some (y, G2)) G2) fun x3 G4 =>
  bS (gd x0 false (bP (fa Q q 566 4 7 x3) fun y => some (y, G4)) G4) fun x5 G6 =>
  bS (gd x0 false (bP (ld Q q 33 x5 G6) fun y => some (y, G6)) G6) fun x7 G8 =>
  bS (gd x0 false (bP (bn Q q .neq 33 (.tmp 9) (.const (.int .i64 0)) x7 (.int .i64 0)) fun y => some (y, G8)) G8) fun x9 G10 =>
  bP (pickV x0 (.bool true) x9) fun x11 =>
  bS (gd x11 false (some (v0, G10)) G10) fun x12 G13 =>
  bS (gd x11 false (bP (pNil x12) fun y => some (y, G13)) G13) fun x14 G15 =>
  bS (gd x11 false (bP (fa Q q 566 3 6 x14) fun y => some (y, G15)) G15) fun x16 G17 =>
  bS (gd x11 false (bP (ld Q q 3 x16 G17) fun y => some (y, G17)) G17) fun x18 G19 =>
  bS (gd x11 false (bP (bn Q q .eql 3 (.tmp 16) (.const (.int .i64 0)) x18 (.int .i64 0)) fun y => some (y, G19)) G19) fun x20 G21 =>
  bP (pickV x11 (.bool true) x20) fun x22 =>
  ifV x22 (
  some ((.int .u64 0), G21)) (
  bP (pNil v0) fun x23 =>
  bP (fa Q q 566 1 1 x23) fun x24 =>
  bP (ld Q q 41 x24 G21) fun x25 =>
  some (x25, G21))
theorem m402 {e : Ex} {E : Ev} (h : ExLe Q e E) (v0 : Value) (G : GS) : Ref (s402 true e v0 G) (s402 false (Ex.of E) v0 G) := by
  unfold s402
  exact Ref.go
theorem f402 {orc : FuncId → Bool} {e : Ex} (h : ExLe Q e (E orc)) (v0 : Value) (G : GS) : Ref (s402 true e v0 G) ((E orc).cl 402 [v0] G) :=
  fun r hr => cl_sxE_some Q orc (vs := [v0]) G Tryz.func402 (by kernel_rfl) (by kernel_rfl) (by kernel_rfl) (by kernel_rfl) (by kernel_rfl) (by kernel_rfl) (m402 h v0 G r hr)
/-- (*coxswain/ready.Put).link$1 -/
noncomputable def s403 (q : Bool) (e : Ex) (v0 : Value) (G : GS) : Option (Value × GS) :=
  bP (ld Q q 80 v0 (G.room 19)) fun x0 =>
  bP (pNil x0) fun x1 =>
  bP (fa Q q 303 0 0 x1) fun x2 =>
  bP (fa Q q 300 0 0 x2) fun x3 =>
  bP (lda Q q 31 13 x3 (G.room 19)) fun x4 =>
  bP (ld Q q 80 v0 (G.room 19)) fun x5 =>
  bP (pNil x5) fun x6 =>
  bP (fa Q q 303 5 23 x6) fun x7 =>
  bP (ld Q q 41 x7 (G.room 19)) fun x8 =>
  bP (ld Q q 80 v0 (G.room 19)) fun x9 =>
  bP (pNil x9) fun x10 =>
  bP (fa Q q 303 1 19 x10) fun x11 =>
  bP (ld Q q 41 x11 (G.room 19)) fun x12 =>
  bP (ld Q q 80 v0 (G.room 19)) fun x13 =>
  bP (pNil x13) fun x14 =>
  bP (fa Q q 303 3 21 x14) fun x15 =>
  bP (ld Q q 3 x15 (G.room 19)) fun x16 =>
  bS (e.ev.cl 404 [x4, x8, x12, x16] (G.room 19)) fun x18 G17 =>
  some (x18, G17)
theorem m403 {e : Ex} {E : Ev} (h : ExLe Q e E) (v0 : Value) (G : GS) : Ref (s403 true e v0 G) (s403 false (Ex.of E) v0 G) := by
  unfold s403
  exact Ref.go
theorem f403 {orc : FuncId → Bool} {e : Ex} (h : ExLe Q e (E orc)) (v0 : Value) (G : GS) : Ref (s403 true e v0 G) ((E orc).cl 403 [v0] G) :=
  fun r hr => cl_sxE_some Q orc (vs := [v0]) G Tryz.func403 (by kernel_rfl) (by kernel_rfl) (by kernel_rfl) (by kernel_rfl) (by kernel_rfl) (by kernel_rfl) (m403 h v0 G r hr)
/-- coxswain/insert.NewInsert -/
noncomputable def s404 (q : Bool) (e : Ex) (v0 v1 v2 v3 : Value) (G : GS) : Option (Value × GS) :=
  bS (bx q v0 G) fun x0 G1 =>
  bP (lda Q q 31 13 x0 (G1.room 11)) fun x2 =>
  bP (lda Q q 31 13 x0 (G1.room 11)) fun x3 =>
  bS (e.ev.cl 425 [x3, v1, v3] (G1.room 11)) fun x5 G4 =>
  chk ((sameO (lda Q q 31 13 x0 G4) x2 && true)) <|
  bP (bd Q q 571 z571 [(0, 0, 13), (1, 13, 1), (3, 15, 1), (4, 16, 1), (6, 18, 1), (13, 25, 1)] [x2, (.bool true), v1, v2, v3, x5]) fun x6 =>
  bS (bx q x6 (G4.at' (G1.nx + 9))) fun x7 G8 =>
  bP (pNil x7) fun x9 =>
  bP (fa Q q 571 13 25 x9) fun x10 =>
  bP (ld Q q 33 x10 (G8.back G4)) fun x11 =>
  bP (bn Q q .eql 33 (.tmp 25) (.const (.int .i64 0)) x11 (.int .i64 0)) fun x12 =>
  ifV x12 (
  bS (e.ev.cl 203 [v1] (G8.back G4)) fun x13 G14 =>
  bP (pExtract x13 0) fun x15 =>
  bP (pExtract x13 1) fun x16 =>
  bS (al Q q 289 z289 G14) fun x17 G18 =>
  bP (st Q q 289 3 x17 x15 G18) fun G19 =>
  bP (fa Q q 289 0 0 x17) fun x20 =>
  bP (ld Q q 3 x20 G19) fun x21 =>
  bP (pNil x7) fun x22 =>
  bP (fa Q q 571 5 17 x22) fun x23 =>
  bP (st Q q 3 1 x23 x21 G19) fun G24 =>
  bS (e.ev.cl 426 [x7, (.int .i64 1)] G24) fun x25 G26 =>
  bP (pNil x7) fun x27 =>
  bP (fa Q q 571 7 19 x27) fun x28 =>
  bP (st Q q 569 1 x28 x25 G26) fun G29 =>
  some (x7, G29)) (
  some (x7, (G8.back G4)))
theorem m404 {e : Ex} {E : Ev} (h : ExLe Q e E) (v0 v1 v2 v3 : Value) (G : GS) : Ref (s404 true e v0 v1 v2 v3 G) (s404 false (Ex.of E) v0 v1 v2 v3 G) := by
  unfold s404
  exact Ref.go
theorem f404 {orc : FuncId → Bool} {e : Ex} (h : ExLe Q e (E orc)) (v0 v1 v2 v3 : Value) (G : GS) : Ref (s404 true e v0 v1 v2 v3 G) ((E orc).cl 404 [v0, v1, v2, v3] G) :=
  fun r hr => cl_sxE_some Q orc (vs := [v0, v1, v2, v3]) G Tryz.func404 (by kernel_rfl) (by kernel_rfl) (by kernel_rfl) (by kernel_rfl) (by kernel_rfl) (by kernel_rfl) (m404 h v0 v1 v2 v3 G r hr)
/-- (*coxswain/insert.Insert).By -/
noncomputable def s405 (q : Bool) (e : Ex) (v0 : Value) (G : GS) : Option (Value × GS) :=
  bP (ep Q q false 550 (.tmp 3) (.const (.pointer none)) v0 (.pointer none)) fun x0 =>
  ifV x0 (
  some ((.int .u64 0), G)) (
  bP (pNil v0) fun x1 =>
  bP (fa Q q 571 12 24 x1) fun x2 =>
  bP (ld Q q 41 x2 G) fun x3 =>
  some (x3, G))
theorem m405 {e : Ex} {E : Ev} (h : ExLe Q e E) (v0 : Value) (G : GS) : Ref (s405 true e v0 G) (s405 false (Ex.of E) v0 G) := by
  unfold s405
  exact Ref.go
theorem f405 {orc : FuncId → Bool} {e : Ex} (h : ExLe Q e (E orc)) (v0 : Value) (G : GS) : Ref (s405 true e v0 G) ((E orc).cl 405 [v0] G) :=
  fun r hr => cl_sxE_some Q orc (vs := [v0]) G Tryz.func405 (by kernel_rfl) (by kernel_rfl) (by kernel_rfl) (by kernel_rfl) (by kernel_rfl) (by kernel_rfl) (m405 h v0 G r hr)
/-- (*coxswain/stack.Pop).third -/
noncomputable def s419 (q : Bool) (e : Ex) (v0 v1 : Value) (G : GS) : Option (Value × GS) :=
  bP (pNil v0) fun x0 =>
  bP (fa Q q 489 1 9 x0) fun x1 =>
  bP (st Q q 487 1 x1 (.func (.func 335) #[] #[]) G) fun G2 =>
  bP (pNil v0) fun x3 =>
  bP (fa Q q 489 0 0 x3) fun x4 =>
  bP (pNil v0) fun x5 =>
  bP (fa Q q 489 0 0 x5) fun x6 =>
  bP (fa Q q 486 3 5 x6) fun x7 =>
  bP (ld Q q 3 x7 (G2.room 10)) fun x8 =>
  bS (e.ev.cl 435 [x4, v1, x8] (G2.room 10)) fun x10 G9 =>
  ifV x10 (
  bP (pNil v0) fun x11 =>
  bP (fa Q q 489 0 0 x11) fun x12 =>
  bS (e.ev.cl 345 [x12, (.int .i64 0)] G9) fun x13 G14 =>
  some (.tuple #[], G14)) (
  some (.tuple #[], G9))
theorem m419 {e : Ex} {E : Ev} (h : ExLe Q e E) (v0 v1 : Value) (G : GS) : Ref (s419 true e v0 v1 G) (s419 false (Ex.of E) v0 v1 G) := by
  unfold s419
  exact Ref.go
theorem f419 {orc : FuncId → Bool} {e : Ex} (h : ExLe Q e (E orc)) (v0 v1 : Value) (G : GS) : Ref (s419 true e v0 v1 G) ((E orc).cl 419 [v0, v1] G) :=
  fun r hr => cl_sxE_some Q orc (vs := [v0, v1]) G Tryz.func419 (by kernel_rfl) (by kernel_rfl) (by kernel_rfl) (by kernel_rfl) (by kernel_rfl) (by kernel_rfl) (m419 h v0 v1 G r hr)
/-- (*coxswain/stack.held).told -/
noncomputable def s420 (q : Bool) (e : Ex) (v0 : Value) (G : GS) : Option (Value × GS) :=
  bP (ep Q q false 536 (.tmp 4) (.const (.pointer none)) v0 (.pointer none)) fun x0 =>
  bS (gd x0 false (some (v0, G)) G) fun x1 G2 =>
  bS (gd x0 false (bP (pNil x1) fun y => some (y, G2)) G2) fun x3 G4 =>
  bS (gd x0 false (bP (fa Q q 486 4 6 x3) fun y => some (y, G4)) G4) fun x5 G6 =>
  bS (gd x0 false (bP (ld Q q 4 x5 G6) fun y => some (y, G6)) G6) fun x7 G8 =>
  bS (gd x0 false (bP (un Q q .not x7) fun y => some (y, G8)) G8) fun x9 G10 =>
  bP (pickV x0 (.bool true) x9) fun x11 =>
  ifV x11 (
  some ((.int .i64 1), G10)) (
  bP (pNil v0) fun x12 =>
  bP (fa Q q 486 5 7 x12) fun x13 =>
  bP (ld Q q 4 x13 G10) fun x14 =>
  bP (un Q q .not x14) fun x15 =>
  ifV x15 (
  some ((.int .i64 14), G10)) (
  bP (pNil v0) fun x16 =>
  bP (fa Q q 486 6 8 x16) fun x17 =>
  bP (ld Q q 33 x17 G10) fun x18 =>
  some (x18, G10)))
theorem m420 {e : Ex} {E : Ev} (h : ExLe Q e E) (v0 : Value) (G : GS) : Ref (s420 true e v0 G) (s420 false (Ex.of E) v0 G) := by
  unfold s420
  exact Ref.go
theorem f420 {orc : FuncId → Bool} {e : Ex} (h : ExLe Q e (E orc)) (v0 : Value) (G : GS) : Ref (s420 true e v0 G) ((E orc).cl 420 [v0] G) :=
  fun r hr => cl_sxE_some Q orc (vs := [v0]) G Tryz.func420 (by kernel_rfl) (by kernel_rfl) (by kernel_rfl) (by kernel_rfl) (by kernel_rfl) (by kernel_rfl) (m420 h v0 G r hr)
/-- coxswain/tower.refused -/
noncomputable def s422 (q : Bool) (e : Ex) (v0 v1 v2 v3 : Value) (G : GS) : Option (Value × GS) :=
  bS (bx q v0 G) fun x0 G1 =>
  bP (lda Q q 31 13 x0 G1) fun x2 =>
  bS (e.ev.cl 102 [x2] G1) fun x3 G4 =>
  bP (un Q q .not x3) fun x5 =>
  ifV x5 (
  some ((.int .i64 2), G4)) (
  bS (e.ev.cl 203 [v1] G4) fun x6 G7 =>
  bP (pExtract x6 0) fun x8 =>
  bP (pExtract x6 1) fun x9 =>
  bS (al Q q 289 z289 G7) fun x10 G11 =>
  bP (st Q q 289 3 x10 x8 G11) fun G12 =>
  bP (bn Q q .neq 33 (.tmp 20) (.const (.int .i64 0)) x9 (.int .i64 0)) fun x13 =>
  ifV x13 (
  some ((.int .i64 5), G12)) (
  bP (fa Q q 289 0 0 x10) fun x14 =>
  bP (ld Q q 3 x14 G12) fun x15 =>
  bP (bn Q q .lss 3 (.tmp 24) (.const (.int .i64 0)) x15 (.int .i64 0)) fun x16 =>
  bS (gd x16 false (bP (fa Q q 289 2 2 x10) fun y => some (y, G12)) G12) fun x17 G18 =>
  bS (gd x16 false (bP (ld Q q 4 x17 G18) fun y => some (y, G18)) G18) fun x19 G20 =>
  bP (pickV x16 (.bool true) x19) fun x21 =>
  bS (gd x21 false (bP (fa Q q 289 0 0 x10) fun y => some (y, G20)) G20) fun x22 G23 =>
  bS (gd x21 false (bP (ld Q q 3 x22 G23) fun y => some (y, G23)) G23) fun x24 G25 =>
  bS (gd x21 false (bP (fa Q q 31 3 3 x0) fun y => some (y, G25)) G25) fun x26 G27 =>
  bS (gd x21 false (bP (fa Q q 29 0 0 x26) fun y => some (y, G27)) G27) fun x28 G29 =>
  bS (gd x21 false (bP (fa Q q 25 0 0 x28) fun y => some (y, G29)) G29) fun x30 G31 =>
  bS (gd x21 false (bP (fa Q q 23 2 2 x30) fun y => some (y, G31)) G31) fun x32 G33 =>
  bS (gd x21 false (bP (ld Q q 3 x32 G33) fun y => some (y, G33)) G33) fun x34 G35 =>
  bS (gd x21 false (bP (bn Q q .geq 3 (.tmp 32) (.tmp 37) x24 x34) fun y => some (y, G35)) G35) fun x36 G37 =>
  bP (pickV x21 (.bool true) x36) fun x38 =>
  bS (gd x38 false (some (v2, G37)) G37) fun x39 G40 =>
  bS (gd x38 false (bP (bn Q q .lss 3 (.tmp 41) (.const (.int .i64 0)) x39 (.int .i64 0)) fun y => some (y, G40)) G40) fun x41 G42 =>
  bP (pickV x38 (.bool true) x41) fun x43 =>
  bS (gd x43 false (some (v2, G42)) G42) fun x44 G45 =>
  bS (gd x43 false (bP (bn Q q .gtr 3 (.tmp 45) (.const (.int .i64 65534)) x44 (.int .i64 65534)) fun y => some (y, G45)) G45) fun x46 G47 =>
  bP (pickV x43 (.bool true) x46) fun x48 =>
  bS (gd x48 false (some (v3, G47)) G47) fun x49 G50 =>
  bS (gd x48 false (bP (bn Q q .lss 3 (.tmp 49) (.const (.int .i64 1)) x49 (.int .i64 1)) fun y => some (y, G50)) G50) fun x51 G52 =>
  bP (pickV x48 (.bool true) x51) fun x53 =>
  bS (gd x53 false (some (v3, G52)) G52) fun x54 G55 =>
  bS (gd x53 false (bP (fa Q q 31 2 2 x0) fun y => some (y, G55)) G55) fun x56 G57 =>
  bS (gd x53 false (bP (ld Q q 3 x56 G57) fun y => some (y, G57)) G57) fun x58 G59 =>
  bS (gd x53 false (bP (bn Q q .gtr 3 (.tmp 53) (.tmp 55) x54 x58) fun y => some (y, G59)) G59) fun x60 G61 =>
  bP (pickV x53 (.bool true) x60) fun x62 =>
  ifV x62 (
  some ((.int .i64 3), G61)) (
  some ((.int .i64 0), G61))))
theorem m422 {e : Ex} {E : Ev} (h : ExLe Q e E) (v0 v1 v2 v3 : Value) (G : GS) : Ref (s422 true e v0 v1 v2 v3 G) (s422 false (Ex.of E) v0 v1 v2 v3 G) := by
  unfold s422
  exact Ref.go
theorem f422 {orc : FuncId → Bool} {e : Ex} (h : ExLe Q e (E orc)) (v0 v1 v2 v3 : Value) (G : GS) : Ref (s422 true e v0 v1 v2 v3 G) ((E orc).cl 422 [v0, v1, v2, v3] G) :=
  fun r hr => cl_sxE_some Q orc (vs := [v0, v1, v2, v3]) G Tryz.func422 (by kernel_rfl) (by kernel_rfl) (by kernel_rfl) (by kernel_rfl) (by kernel_rfl) (by kernel_rfl) (m422 h v0 v1 v2 v3 G r hr)
/-- coxswain/tower.NewLay$1 -/
noncomputable def s423 (q : Bool) (e : Ex) (v0 v1 v2 v3 : Value) (G : GS) : Option (Value × GS) :=
  bS (bx q v0 G) fun x0 G1 =>
  bS (bx q v1 G1) fun x2 G3 =>
  some ((.func (.func 424) #[] #[v2, v3, x0, x2]), G3)
theorem m423 {e : Ex} {E : Ev} (h : ExLe Q e E) (v0 v1 v2 v3 : Value) (G : GS) : Ref (s423 true e v0 v1 v2 v3 G) (s423 false (Ex.of E) v0 v1 v2 v3 G) := by
  unfold s423
  exact Ref.go
theorem f423 {orc : FuncId → Bool} {e : Ex} (h : ExLe Q e (E orc)) (v0 v1 v2 v3 : Value) (G : GS) : Ref (s423 true e v0 v1 v2 v3 G) ((E orc).cl 423 [v0, v1, v2, v3] G) :=
  fun r hr => cl_sxE_some Q orc (vs := [v0, v1, v2, v3]) G Tryz.func423 (by kernel_rfl) (by kernel_rfl) (by kernel_rfl) (by kernel_rfl) (by kernel_rfl) (by kernel_rfl) (m423 h v0 v1 v2 v3 G r hr)
/-- coxswain/tower.NewLay$1$1 -/
noncomputable def s424 (q : Bool) (e : Ex) (v0 v1 v2 v3 v4 : Value) (G : GS) : Option (Value × GS) :=
  bP (lda Q q 31 13 v1 (G.room 7)) fun x0 =>
  bP (ld Q q 3 v2 (G.room 7)) fun x1 =>
  bP (ld Q q 3 v3 (G.room 7)) fun x2 =>
  bS (e.ev.cl 191 [x0, x1, x2] (G.room 7)) fun x4 G3 =>
  bP (ld Q q 41 v4 G3) fun x5 =>
  chk ((sameO (ld Q q 41 v4 (G.room 7)) x5 && true)) <|
  bS (e.ev.cl 45 [v0, x4, x5] G3) fun x7 G6 =>
  some (.tuple #[], G6)
theorem m424 {e : Ex} {E : Ev} (h : ExLe Q e E) (v0 v1 v2 v3 v4 : Value) (G : GS) : Ref (s424 true e v0 v1 v2 v3 v4 G) (s424 false (Ex.of E) v0 v1 v2 v3 v4 G) := by
  unfold s424
  exact Ref.go
theorem f424 {orc : FuncId → Bool} {e : Ex} (h : ExLe Q e (E orc)) (v0 v1 v2 v3 v4 : Value) (G : GS) : Ref (s424 true e v0 v1 v2 v3 v4 G) ((E orc).cl 424 [v0, v1, v2, v3, v4] G) :=
  fun r hr => cl_sxE_some Q orc (vs := [v0, v1, v2, v3, v4]) G Tryz.func424 (by kernel_rfl) (by kernel_rfl) (by kernel_rfl) (by kernel_rfl) (by kernel_rfl) (by kernel_rfl) (m424 h v0 v1 v2 v3 v4 G r hr)
/-- coxswain/insert.refused -/
noncomputable def s425 (q : Bool) (e : Ex) (v0 v1 v2 : Value) (G : GS) : Option (Value × GS) :=
  bS (bx q v0 G) fun x0 G1 =>
  bP (lda Q q 31 13 x0 G1) fun x2 =>
  bS (e.ev.cl 191 [x2, (.int .i64 0), (.int .i64 0)] G1) fun x3 G4 =>
  bP (bn Q q .lss 3 (.tmp 10) (.const (.int .i64 0)) x3 (.int .i64 0)) fun x5 =>
  ifV x5 (
  some ((.int .i64 2), G4)) (
  bS (e.ev.cl 203 [v1] G4) fun x6 G7 =>
  bP (pExtract x6 0) fun x8 =>
  bP (pExtract x6 1) fun x9 =>
  bS (al Q q 289 z289 G7) fun x10 G11 =>
  bP (st Q q 289 3 x10 x8 G11) fun G12 =>
  bP (bn Q q .neq 33 (.tmp 18) (.const (.int .i64 0)) x9 (.int .i64 0)) fun x13 =>
  ifV x13 (
  some ((.int .i64 5), G12)) (
  bP (fa Q q 289 0 0 x10) fun x14 =>
  bP (ld Q q 3 x14 G12) fun x15 =>
  bP (bn Q q .lss 3 (.tmp 22) (.const (.int .i64 0)) x15 (.int .i64 0)) fun x16 =>
  bS (gd x16 false (bP (fa Q q 289 2 2 x10) fun y => some (y, G12)) G12) fun x17 G18 =>
  bS (gd x16 false (bP (ld Q q 4 x17 G18) fun y => some (y, G18)) G18) fun x19 G20 =>
  bP (pickV x16 (.bool true) x19) fun x21 =>
  bS (gd x21 false (bP (fa Q q 289 0 0 x10) fun y => some (y, G20)) G20) fun x22 G23 =>
  bS (gd x21 false (bP (ld Q q 3 x22 G23) fun y => some (y, G23)) G23) fun x24 G25 =>
  bS (gd x21 false (bP (fa Q q 31 3 3 x0) fun y => some (y, G25)) G25) fun x26 G27 =>
  bS (gd x21 false (bP (fa Q q 29 0 0 x26) fun y => some (y, G27)) G27) fun x28 G29 =>
  bS (gd x21 false (bP (fa Q q 25 0 0 x28) fun y => some (y, G29)) G29) fun x30 G31 =>
  bS (gd x21 false (bP (fa Q q 23 2 2 x30) fun y => some (y, G31)) G31) fun x32 G33 =>
  bS (gd x21 false (bP (ld Q q 3 x32 G33) fun y => some (y, G33)) G33) fun x34 G35 =>
  bS (gd x21 false (bP (bn Q q .geq 3 (.tmp 30) (.tmp 35) x24 x34) fun y => some (y, G35)) G35) fun x36 G37 =>
  bP (pickV x21 (.bool true) x36) fun x38 =>
  bS (gd x38 false (some (v2, G37)) G37) fun x39 G40 =>
  bS (gd x38 false (bP (bn Q q .lss 3 (.tmp 39) (.const (.int .i64 1)) x39 (.int .i64 1)) fun y => some (y, G40)) G40) fun x41 G42 =>
  bP (pickV x38 (.bool true) x41) fun x43 =>
  bS (gd x43 false (some (v2, G42)) G42) fun x44 G45 =>
  bS (gd x43 false (bP (fa Q q 31 2 2 x0) fun y => some (y, G45)) G45) fun x46 G47 =>
  bS (gd x43 false (bP (ld Q q 3 x46 G47) fun y => some (y, G47)) G47) fun x48 G49 =>
  bS (gd x43 false (bP (bn Q q .gtr 3 (.tmp 43) (.tmp 45) x44 x48) fun y => some (y, G49)) G49) fun x50 G51 =>
  bP (pickV x43 (.bool true) x50) fun x52 =>
  ifV x52 (
  some ((.int .i64 3), G51)) (
  some ((.int .i64 0), G51))))
theorem m425 {e : Ex} {E : Ev} (h : ExLe Q e E) (v0 v1 v2 : Value) (G : GS) : Ref (s425 true e v0 v1 v2 G) (s425 false (Ex.of E) v0 v1 v2 G) := by
  unfold s425
  exact Ref.go
theorem f425 {orc : FuncId → Bool} {e : Ex} (h : ExLe Q e (E orc)) (v0 v1 v2 : Value) (G : GS) : Ref (s425 true e v0 v1 v2 G) ((E orc).cl 425 [v0, v1, v2] G) :=
  fun r hr => cl_sxE_some Q orc (vs := [v0, v1, v2]) G Tryz.func425 (by kernel_rfl) (by kernel_rfl) (by kernel_rfl) (by kernel_rfl) (by kernel_rfl) (by kernel_rfl) (m425 h v0 v1 v2 G r hr)
/-- (*coxswain/insert.Insert).anew -/
noncomputable def s426 (q : Bool) (e : Ex) (v0 v1 : Value) (G : GS) : Option (Value × GS) :=
  bP (pNil v0) fun x0 =>
  bP (fa Q q 571 0 0 x0) fun x1 =>
  bP (lda Q q 31 13 x1 (G.room 13)) fun x2 =>
  bP (pNil v0) fun x3 =>
  bP (fa Q q 571 4 16 x3) fun x4 =>
  bP (ld Q q 41 x4 (G.room 13)) fun x5 =>
  bS (e.ev.cl 72 [x2, x5] (G.room 13)) fun x7 G6 =>
  bP (pNil v0) fun x8 =>
  bP (fa Q q 571 10 22 x8) fun x9 =>
  bP (st Q q 37 1 x9 x7 G6) fun G10 =>
  some (v1, G10)
theorem m426 {e : Ex} {E : Ev} (h : ExLe Q e E) (v0 v1 : Value) (G : GS) : Ref (s426 true e v0 v1 G) (s426 false (Ex.of E) v0 v1 G) := by
  unfold s426
  exact Ref.go
theorem f426 {orc : FuncId → Bool} {e : Ex} (h : ExLe Q e (E orc)) (v0 v1 : Value) (G : GS) : Ref (s426 true e v0 v1 G) ((E orc).cl 426 [v0, v1] G) :=
  fun r hr => cl_sxE_some Q orc (vs := [v0, v1]) G Tryz.func426 (by kernel_rfl) (by kernel_rfl) (by kernel_rfl) (by kernel_rfl) (by kernel_rfl) (by kernel_rfl) (m426 h v0 v1 G r hr)
/-- (*coxswain/epoch.lines).step -/
noncomputable def s429 (q : Bool) (e : Ex) (v0 v1 : Value) (G : GS) : Option (Value × GS) :=
  bP (pNil v0) fun x0 =>
  bP (fa Q q 510 2 4 x0) fun x1 =>
  bP (ld Q q 4 x1 G) fun x2 =>
  bP (un Q q .not x2) fun x3 =>
  bS (gd x3 false (some (v0, G)) G) fun x4 G5 =>
  bS (gd x3 false (bP (pNil x4) fun y => some (y, G5)) G5) fun x6 G7 =>
  bS (gd x3 false (bP (fa Q q 510 1 3 x6) fun y => some (y, G7)) G7) fun x8 G9 =>
  bS (gd x3 false (bP (ld Q q 3 x8 G9) fun y => some (y, G9)) G9) fun x10 G11 =>
  bS (gd x3 false (bP (bn Q q .eql 3 (.tmp 14) (.const (.int .i64 (-1))) x10 (.int .i64 (-1))) fun y => some (y, G11)) G11) fun x12 G13 =>
  bP (pickV x3 (.bool true) x12) fun x14 =>
  ifV x14 (
  some ((.bool true), G13)) (
  bP (pNil v0) fun x15 =>
  bP (fa Q q 510 1 3 x15) fun x16 =>
  bP (ld Q q 3 x16 (G13.room 11)) fun x17 =>
  bP (pNil v0) fun x18 =>
  bP (fa Q q 510 0 0 x18) fun x19 =>
  bP (iaa Q q 508 3 1 x19 x17) fun x20 =>
  bP (ld Q q 159 x20 (G13.room 11)) fun x21 =>
  bS (cValue e.ev x21 [v1] (G13.room 11)) fun x23 G22 =>
  bP (pNil v0) fun x24 =>
  bP (fa Q q 510 1 3 x24) fun x25 =>
  bP (ld Q q 3 x25 G22) fun x26 =>
  bP (bn Q q .eql 3 (.tmp 31) (.const (.int .i64 (-1))) x26 (.int .i64 (-1))) fun x27 =>
  some (x27, G22))
theorem m429 {e : Ex} {E : Ev} (h : ExLe Q e E) (v0 v1 : Value) (G : GS) : Ref (s429 true e v0 v1 G) (s429 false (Ex.of E) v0 v1 G) := by
  unfold s429
  exact Ref.go
theorem f429 {orc : FuncId → Bool} {e : Ex} (h : ExLe Q e (E orc)) (v0 v1 : Value) (G : GS) : Ref (s429 true e v0 v1 G) ((E orc).cl 429 [v0, v1] G) :=
  fun r hr => cl_sxE_some Q orc (vs := [v0, v1]) G Tryz.func429 (by kernel_rfl) (by kernel_rfl) (by kernel_rfl) (by kernel_rfl) (by kernel_rfl) (by kernel_rfl) (m429 h v0 v1 G r hr)
/-- (*coxswain/stack.held).swap -/
noncomputable def s435 (q : Bool) (e : Ex) (v0 v1 v2 : Value) (G : GS) : Option (Value × GS) :=
  bP (pNil v0) fun x0 =>
  bP (fa Q q 486 1 3 x0) fun x1 =>
  bP (ld Q q 41 x1 G) fun x2 =>
  bS (e.ev.cl 189 [x2] G) fun x3 G4 =>
  bP (pExtract x3 0) fun x5 =>
  bP (pExtract x3 1) fun x6 =>
  bS (al Q q 274 z274 G4) fun x7 G8 =>
  bP (st Q q 274 2 x7 x5 G8) fun G9 =>
  bP (fa Q q 274 1 1 x7) fun x10 =>
  bP (ld Q q 3 x10 G9) fun x11 =>
  bP (bn Q q .add 3 (.tmp 22) (.const (.int .i64 1)) x11 (.int .i64 1)) fun x12 =>
  bP (bn Q q .and 3 (.tmp 23) (.const (.int .i64 281474976710655)) x12 (.int .i64 281474976710655)) fun x13 =>
  bP (bd Q q 274 z274 [(0, 0, 1), (1, 1, 1)] [v2, x13]) fun x14 =>
  bS (e.ev.cl 390 [x14] G9) fun x15 G16 =>
  bP (pExtract x15 0) fun x17 =>
  bP (pExtract x15 1) fun x18 =>
  bP (pNil v0) fun x19 =>
  bP (fa Q q 486 0 0 x19) fun x20 =>
  bP (fa Q q 23 0 0 x20) fun x21 =>
  bP (ld Q q 3 x21 (G16.room 13)) fun x22 =>
  bP (pNil v0) fun x23 =>
  bP (fa Q q 486 1 3 x23) fun x24 =>
  bP (ld Q q 41 x24 (G16.room 13)) fun x25 =>
  bS (e.ev.cl 68 [v1, x22, x25, x17] (G16.room 13)) fun x27 G26 =>
  some (x27, G26)
theorem m435 {e : Ex} {E : Ev} (h : ExLe Q e E) (v0 v1 v2 : Value) (G : GS) : Ref (s435 true e v0 v1 v2 G) (s435 false (Ex.of E) v0 v1 v2 G) := by
  unfold s435
  exact Ref.go
theorem f435 {orc : FuncId → Bool} {e : Ex} (h : ExLe Q e (E orc)) (v0 v1 v2 : Value) (G : GS) : Ref (s435 true e v0 v1 v2 G) ((E orc).cl 435 [v0, v1, v2] G) :=
  fun r hr => cl_sxE_some Q orc (vs := [v0, v1, v2]) G Tryz.func435 (by kernel_rfl) (by kernel_rfl) (by kernel_rfl) (by kernel_rfl) (by kernel_rfl) (by kernel_rfl) (m435 h v0 v1 v2 G r hr)
/-- (coxswain/tower.node).cells -/
noncomputable def s520 (q : Bool) (e : Ex) (v0 : Value) (G : GS) : Option (Value × GS) :=
  bP (bn Q q .add 3 (.const (.int .i64 4)) (.tmp 3) (.int .i64 4) v0) fun x0 =>
  some (x0, G)
theorem m520 {e : Ex} {E : Ev} (h : ExLe Q e E) (v0 : Value) (G : GS) : Ref (s520 true e v0 G) (s520 false (Ex.of E) v0 G) := by
  unfold s520
  exact Ref.go
theorem f520 {orc : FuncId → Bool} {e : Ex} (h : ExLe Q e (E orc)) (v0 : Value) (G : GS) : Ref (s520 true e v0 G) ((E orc).cl 520 [v0] G) :=
  fun r hr => cl_sxE_some Q orc (vs := [v0]) G Tryz.func520 (by kernel_rfl) (by kernel_rfl) (by kernel_rfl) (by kernel_rfl) (by kernel_rfl) (by kernel_rfl) (m520 h v0 G r hr)
/-- (coxswain/tower.head).cells -/
noncomputable def s521 (q : Bool) (e : Ex) (v0 : Value) (G : GS) : Option (Value × GS) :=
  some (v0, G)
theorem m521 {e : Ex} {E : Ev} (h : ExLe Q e E) (v0 : Value) (G : GS) : Ref (s521 true e v0 G) (s521 false (Ex.of E) v0 G) := by
  unfold s521
  exact Ref.go
theorem f521 {orc : FuncId → Bool} {e : Ex} (h : ExLe Q e (E orc)) (v0 : Value) (G : GS) : Ref (s521 true e v0 G) ((E orc).cl 521 [v0] G) :=
  fun r hr => cl_sxE_some Q orc (vs := [v0]) G Tryz.func521 (by kernel_rfl) (by kernel_rfl) (by kernel_rfl) (by kernel_rfl) (by kernel_rfl) (by kernel_rfl) (m521 h v0 G r hr)
/-- (*coxswain/ready.part[*coxswain/epoch.Pin]).run -/
noncomputable def s529 (q : Bool) (e : Ex) (v0 v1 : Value) (G : GS) : Option (Value × GS) :=
  bP (pNil v0) fun x0 =>
  bP (fa Q q 423 4 4 x0) fun x1 =>
  bP (ld Q q 4 x1 G) fun x2 =>
  bP (un Q q .not x2) fun x3 =>
  ifV x3 (
  bP (pNil v0) fun x4 =>
  bP (fa Q q 423 0 0 x4) fun x5 =>
  bP (ld Q q 419 x5 G) fun x6 =>
  bS (cValue e.ev x6 [] G) fun x7 G8 =>
  bP (pNil v0) fun x9 =>
  bP (fa Q q 423 3 3 x9) fun x10 =>
  bP (st Q q 417 1 x10 x7 G8) fun G11 =>
  bP (pNil v0) fun x12 =>
  bP (fa Q q 423 4 4 x12) fun x13 =>
  bP (st Q q 4 1 x13 (.bool true) G11) fun G14 =>
  bP (pNil v0) fun x15 =>
  bP (fa Q q 423 3 3 x15) fun x16 =>
  bP (ld Q q 417 x16 G14) fun x17 =>
  bP (ifc Q q 417 x17) fun x18 =>
  bS (cInvoke Q e.ev x18 "Step" [v1] G14) fun x19 G20 =>
  bP (pNil v0) fun x21 =>
  bP (fa Q q 423 1 1 x21) fun x22 =>
  bP (ld Q q 421 x22 G20) fun x23 =>
  bP (ef Q q true 421 (.tmp 34) (.const .nilFunc) x23 .nilFunc) fun x24 =>
  ifV x24 (
  bP (pNil v0) fun x25 =>
  bP (fa Q q 423 1 1 x25) fun x26 =>
  bP (ld Q q 421 x26 (G20.room 10)) fun x27 =>
  bP (pNil v0) fun x28 =>
  bP (fa Q q 423 3 3 x28) fun x29 =>
  bP (ld Q q 417 x29 (G20.room 10)) fun x30 =>
  bS (cValue e.ev x27 [x30] (G20.room 10)) fun x32 G31 =>
  bS (gd x19 true (some (v0, G31)) G31) fun x33 G34 =>
  bS (gd x19 true (bP (pNil x33) fun y => some (y, G34)) G34) fun x35 G36 =>
  bS (gd x19 true (bP (fa Q q 423 2 2 x35) fun y => some (y, G36)) G36) fun x37 G38 =>
  bS (gd x19 true (bP (ld Q q 420 x37 G38) fun y => some (y, G38)) G38) fun x39 G40 =>
  bS (gd x19 true (bP (ef Q q true 420 (.tmp 50) (.const .nilFunc) x39 .nilFunc) fun y => some (y, G40)) G40) fun x41 G42 =>
  bP (pickV x19 x41 (.bool false)) fun x43 =>
  ifV x43 (
  bP (pNil v0) fun x44 =>
  bP (fa Q q 423 2 2 x44) fun x45 =>
  bP (ld Q q 420 x45 (G42.room 9)) fun x46 =>
  bP (pNil v0) fun x47 =>
  bP (fa Q q 423 3 3 x47) fun x48 =>
  bP (ld Q q 417 x48 (G42.room 9)) fun x49 =>
  bS (cValue e.ev x46 [x49] (G42.room 9)) fun x51 G50 =>
  some (.tuple #[x19, x32], G50)) (
  some (.tuple #[x19, x32], G42))) (
  bS (gd x19 true (some (v0, G20)) G20) fun x52 G53 =>
  bS (gd x19 true (bP (pNil x52) fun y => some (y, G53)) G53) fun x54 G55 =>
  bS (gd x19 true (bP (fa Q q 423 2 2 x54) fun y => some (y, G55)) G55) fun x56 G57 =>
  bS (gd x19 true (bP (ld Q q 420 x56 G57) fun y => some (y, G57)) G57) fun x58 G59 =>
  bS (gd x19 true (bP (ef Q q true 420 (.tmp 50) (.const .nilFunc) x58 .nilFunc) fun y => some (y, G59)) G59) fun x60 G61 =>
  bP (pickV x19 x60 (.bool false)) fun x62 =>
  ifV x62 (
  bP (pNil v0) fun x63 =>
  bP (fa Q q 423 2 2 x63) fun x64 =>
  bP (ld Q q 420 x64 (G61.room 9)) fun x65 =>
  bP (pNil v0) fun x66 =>
  bP (fa Q q 423 3 3 x66) fun x67 =>
  bP (ld Q q 417 x67 (G61.room 9)) fun x68 =>
  bS (cValue e.ev x65 [x68] (G61.room 9)) fun x70 G69 =>
  some (.tuple #[x19, (.int .u64 0)], G69)) (
  some (.tuple #[x19, (.int .u64 0)], G61)))) (
  bP (pNil v0) fun x71 =>
  bP (fa Q q 423 3 3 x71) fun x72 =>
  bP (ld Q q 417 x72 G) fun x73 =>
  bP (ifc Q q 417 x73) fun x74 =>
  bS (cInvoke Q e.ev x74 "Step" [v1] G) fun x75 G76 =>
  bP (pNil v0) fun x77 =>
  bP (fa Q q 423 1 1 x77) fun x78 =>
  bP (ld Q q 421 x78 G76) fun x79 =>
  bP (ef Q q true 421 (.tmp 34) (.const .nilFunc) x79 .nilFunc) fun x80 =>
  ifV x80 (
  bP (pNil v0) fun x81 =>
  bP (fa Q q 423 1 1 x81) fun x82 =>
  bP (ld Q q 421 x82 (G76.room 10)) fun x83 =>
  bP (pNil v0) fun x84 =>
  bP (fa Q q 423 3 3 x84) fun x85 =>
  bP (ld Q q 417 x85 (G76.room 10)) fun x86 =>
  bS (cValue e.ev x83 [x86] (G76.room 10)) fun x88 G87 =>
  bS (gd x75 true (some (v0, G87)) G87) fun x89 G90 =>
  bS (gd x75 true (bP (pNil x89) fun y => some (y, G90)) G90) fun x91 G92 =>
  bS (gd x75 true (bP (fa Q q 423 2 2 x91) fun y => some (y, G92)) G92) fun x93 G94 =>
  bS (gd x75 true (bP (ld Q q 420 x93 G94) fun y => some (y, G94)) G94) fun x95 G96 =>
  bS (gd x75 true (bP (ef Q q true 420 (.tmp 50) (.const .nilFunc) x95 .nilFunc) fun y => some (y, G96)) G96) fun x97 G98 =>
  bP (pickV x75 x97 (.bool false)) fun x99 =>
  ifV x99 (
  bP (pNil v0) fun x100 =>
  bP (fa Q q 423 2 2 x100) fun x101 =>
  bP (ld Q q 420 x101 (G98.room 9)) fun x102 =>
  bP (pNil v0) fun x103 =>
  bP (fa Q q 423 3 3 x103) fun x104 =>
  bP (ld Q q 417 x104 (G98.room 9)) fun x105 =>
  bS (cValue e.ev x102 [x105] (G98.room 9)) fun x107 G106 =>
  some (.tuple #[x75, x88], G106)) (
  some (.tuple #[x75, x88], G98))) (
  bS (gd x75 true (some (v0, G76)) G76) fun x108 G109 =>
  bS (gd x75 true (bP (pNil x108) fun y => some (y, G109)) G109) fun x110 G111 =>
  bS (gd x75 true (bP (fa Q q 423 2 2 x110) fun y => some (y, G111)) G111) fun x112 G113 =>
  bS (gd x75 true (bP (ld Q q 420 x112 G113) fun y => some (y, G113)) G113) fun x114 G115 =>
  bS (gd x75 true (bP (ef Q q true 420 (.tmp 50) (.const .nilFunc) x114 .nilFunc) fun y => some (y, G115)) G115) fun x116 G117 =>
  bP (pickV x75 x116 (.bool false)) fun x118 =>
  ifV x118 (
  bP (pNil v0) fun x119 =>
  bP (fa Q q 423 2 2 x119) fun x120 =>
  bP (ld Q q 420 x120 (G117.room 9)) fun x121 =>
  bP (pNil v0) fun x122 =>
  bP (fa Q q 423 3 3 x122) fun x123 =>
  bP (ld Q q 417 x123 (G117.room 9)) fun x124 =>
  bS (cValue e.ev x121 [x124] (G117.room 9)) fun x126 G125 =>
  some (.tuple #[x75, (.int .u64 0)], G125)) (
  some (.tuple #[x75, (.int .u64 0)], G117))))
theorem m529 {e : Ex} {E : Ev} (h : ExLe Q e E) (v0 v1 : Value) (G : GS) : Ref (s529 true e v0 v1 G) (s529 false (Ex.of E) v0 v1 G) := by
  unfold s529
  exact Ref.go
theorem f529 {orc : FuncId → Bool} {e : Ex} (h : ExLe Q e (E orc)) (v0 v1 : Value) (G : GS) : Ref (s529 true e v0 v1 G) ((E orc).cl 529 [v0, v1] G) :=
  fun r hr => cl_sxE_some Q orc (vs := [v0, v1]) G Tryz.func529 (by kernel_rfl) (by kernel_rfl) (by kernel_rfl) (by kernel_rfl) (by kernel_rfl) (by kernel_rfl) (m529 h v0 v1 G r hr)
/-- (*coxswain/epoch.Pin).Step -/
noncomputable def s530 (q : Bool) (e : Ex) (v0 v1 : Value) (G : GS) : Option (Value × GS) :=
  bP (ep Q q false 417 (.tmp 5) (.const (.pointer none)) v0 (.pointer none)) fun x0 =>
  bS (gd x0 false (some (v0, G)) G) fun x1 G2 =>
  bS (gd x0 false (bP (pNil x1) fun y => some (y, G2)) G2) fun x3 G4 =>
  bS (gd x0 false (bP (fa Q q 512 0 0 x3) fun y => some (y, G4)) G4) fun x5 G6 =>
  bS (gd x0 false (some (v1, G6)) G6) fun x7 G8 =>
  bS (gd x0 false (bS (e.ev.cl 429 [x5, x7] G8) fun y G => some (y, G)) G8) fun x9 G10 =>
  bP (pickV x0 (.bool true) x9) fun x11 =>
  some (x11, G10)
theorem m530 {e : Ex} {E : Ev} (h : ExLe Q e E) (v0 v1 : Value) (G : GS) : Ref (s530 true e v0 v1 G) (s530 false (Ex.of E) v0 v1 G) := by
  unfold s530
  exact Ref.go
theorem f530 {orc : FuncId → Bool} {e : Ex} (h : ExLe Q e (E orc)) (v0 v1 : Value) (G : GS) : Ref (s530 true e v0 v1 G) ((E orc).cl 530 [v0, v1] G) :=
  fun r hr => cl_sxE_some Q orc (vs := [v0, v1]) G Tryz.func530 (by kernel_rfl) (by kernel_rfl) (by kernel_rfl) (by kernel_rfl) (by kernel_rfl) (by kernel_rfl) (m530 h v0 v1 G r hr)
/-- (*coxswain/ready.part[*coxswain/arena.Alloc]).run -/
noncomputable def s531 (q : Bool) (e : Ex) (v0 v1 : Value) (G : GS) : Option (Value × GS) :=
  bP (pNil v0) fun x0 =>
  bP (fa Q q 429 4 4 x0) fun x1 =>
  bP (ld Q q 4 x1 G) fun x2 =>
  bP (un Q q .not x2) fun x3 =>
  ifV x3 (
  bP (pNil v0) fun x4 =>
  bP (fa Q q 429 0 0 x4) fun x5 =>
  bP (ld Q q 425 x5 G) fun x6 =>
  bS (cValue e.ev x6 [] G) fun x7 G8 =>
  bP (pNil v0) fun x9 =>
  bP (fa Q q 429 3 3 x9) fun x10 =>
  bP (st Q q 145 1 x10 x7 G8) fun G11 =>
  bP (pNil v0) fun x12 =>
  bP (fa Q q 429 4 4 x12) fun x13 =>
  bP (st Q q 4 1 x13 (.bool true) G11) fun G14 =>
  bP (pNil v0) fun x15 =>
  bP (fa Q q 429 3 3 x15) fun x16 =>
  bP (ld Q q 145 x16 G14) fun x17 =>
  bP (ifc Q q 145 x17) fun x18 =>
  bS (cInvoke Q e.ev x18 "Step" [v1] G14) fun x19 G20 =>
  bP (pNil v0) fun x21 =>
  bP (fa Q q 429 1 1 x21) fun x22 =>
  bP (ld Q q 427 x22 G20) fun x23 =>
  bP (ef Q q true 427 (.tmp 34) (.const .nilFunc) x23 .nilFunc) fun x24 =>
  ifV x24 (
  bP (pNil v0) fun x25 =>
  bP (fa Q q 429 1 1 x25) fun x26 =>
  bP (ld Q q 427 x26 (G20.room 10)) fun x27 =>
  bP (pNil v0) fun x28 =>
  bP (fa Q q 429 3 3 x28) fun x29 =>
  bP (ld Q q 145 x29 (G20.room 10)) fun x30 =>
  bS (cValue e.ev x27 [x30] (G20.room 10)) fun x32 G31 =>
  bS (gd x19 true (some (v0, G31)) G31) fun x33 G34 =>
  bS (gd x19 true (bP (pNil x33) fun y => some (y, G34)) G34) fun x35 G36 =>
  bS (gd x19 true (bP (fa Q q 429 2 2 x35) fun y => some (y, G36)) G36) fun x37 G38 =>
  bS (gd x19 true (bP (ld Q q 426 x37 G38) fun y => some (y, G38)) G38) fun x39 G40 =>
  bS (gd x19 true (bP (ef Q q true 426 (.tmp 50) (.const .nilFunc) x39 .nilFunc) fun y => some (y, G40)) G40) fun x41 G42 =>
  bP (pickV x19 x41 (.bool false)) fun x43 =>
  ifV x43 (
  bP (pNil v0) fun x44 =>
  bP (fa Q q 429 2 2 x44) fun x45 =>
  bP (ld Q q 426 x45 (G42.room 9)) fun x46 =>
  bP (pNil v0) fun x47 =>
  bP (fa Q q 429 3 3 x47) fun x48 =>
  bP (ld Q q 145 x48 (G42.room 9)) fun x49 =>
  bS (cValue e.ev x46 [x49] (G42.room 9)) fun x51 G50 =>
  some (.tuple #[x19, x32], G50)) (
  some (.tuple #[x19, x32], G42))) (
  bS (gd x19 true (some (v0, G20)) G20) fun x52 G53 =>
  bS (gd x19 true (bP (pNil x52) fun y => some (y, G53)) G53) fun x54 G55 =>
  bS (gd x19 true (bP (fa Q q 429 2 2 x54) fun y => some (y, G55)) G55) fun x56 G57 =>
  bS (gd x19 true (bP (ld Q q 426 x56 G57) fun y => some (y, G57)) G57) fun x58 G59 =>
  bS (gd x19 true (bP (ef Q q true 426 (.tmp 50) (.const .nilFunc) x58 .nilFunc) fun y => some (y, G59)) G59) fun x60 G61 =>
  bP (pickV x19 x60 (.bool false)) fun x62 =>
  ifV x62 (
  bP (pNil v0) fun x63 =>
  bP (fa Q q 429 2 2 x63) fun x64 =>
  bP (ld Q q 426 x64 (G61.room 9)) fun x65 =>
  bP (pNil v0) fun x66 =>
  bP (fa Q q 429 3 3 x66) fun x67 =>
  bP (ld Q q 145 x67 (G61.room 9)) fun x68 =>
  bS (cValue e.ev x65 [x68] (G61.room 9)) fun x70 G69 =>
  some (.tuple #[x19, (.int .u64 0)], G69)) (
  some (.tuple #[x19, (.int .u64 0)], G61)))) (
  bP (pNil v0) fun x71 =>
  bP (fa Q q 429 3 3 x71) fun x72 =>
  bP (ld Q q 145 x72 G) fun x73 =>
  bP (ifc Q q 145 x73) fun x74 =>
  bS (cInvoke Q e.ev x74 "Step" [v1] G) fun x75 G76 =>
  bP (pNil v0) fun x77 =>
  bP (fa Q q 429 1 1 x77) fun x78 =>
  bP (ld Q q 427 x78 G76) fun x79 =>
  bP (ef Q q true 427 (.tmp 34) (.const .nilFunc) x79 .nilFunc) fun x80 =>
  ifV x80 (
  bP (pNil v0) fun x81 =>
  bP (fa Q q 429 1 1 x81) fun x82 =>
  bP (ld Q q 427 x82 (G76.room 10)) fun x83 =>
  bP (pNil v0) fun x84 =>
  bP (fa Q q 429 3 3 x84) fun x85 =>
  bP (ld Q q 145 x85 (G76.room 10)) fun x86 =>
  bS (cValue e.ev x83 [x86] (G76.room 10)) fun x88 G87 =>
  bS (gd x75 true (some (v0, G87)) G87) fun x89 G90 =>
  bS (gd x75 true (bP (pNil x89) fun y => some (y, G90)) G90) fun x91 G92 =>
  bS (gd x75 true (bP (fa Q q 429 2 2 x91) fun y => some (y, G92)) G92) fun x93 G94 =>
  bS (gd x75 true (bP (ld Q q 426 x93 G94) fun y => some (y, G94)) G94) fun x95 G96 =>
  bS (gd x75 true (bP (ef Q q true 426 (.tmp 50) (.const .nilFunc) x95 .nilFunc) fun y => some (y, G96)) G96) fun x97 G98 =>
  bP (pickV x75 x97 (.bool false)) fun x99 =>
  ifV x99 (
  bP (pNil v0) fun x100 =>
  bP (fa Q q 429 2 2 x100) fun x101 =>
  bP (ld Q q 426 x101 (G98.room 9)) fun x102 =>
  bP (pNil v0) fun x103 =>
  bP (fa Q q 429 3 3 x103) fun x104 =>
  bP (ld Q q 145 x104 (G98.room 9)) fun x105 =>
  bS (cValue e.ev x102 [x105] (G98.room 9)) fun x107 G106 =>
  some (.tuple #[x75, x88], G106)) (
  some (.tuple #[x75, x88], G98))) (
  bS (gd x75 true (some (v0, G76)) G76) fun x108 G109 =>
  bS (gd x75 true (bP (pNil x108) fun y => some (y, G109)) G109) fun x110 G111 =>
  bS (gd x75 true (bP (fa Q q 429 2 2 x110) fun y => some (y, G111)) G111) fun x112 G113 =>
  bS (gd x75 true (bP (ld Q q 426 x112 G113) fun y => some (y, G113)) G113) fun x114 G115 =>
  bS (gd x75 true (bP (ef Q q true 426 (.tmp 50) (.const .nilFunc) x114 .nilFunc) fun y => some (y, G115)) G115) fun x116 G117 =>
  bP (pickV x75 x116 (.bool false)) fun x118 =>
  ifV x118 (
  bP (pNil v0) fun x119 =>
  bP (fa Q q 429 2 2 x119) fun x120 =>
  bP (ld Q q 426 x120 (G117.room 9)) fun x121 =>
  bP (pNil v0) fun x122 =>
  bP (fa Q q 429 3 3 x122) fun x123 =>
  bP (ld Q q 145 x123 (G117.room 9)) fun x124 =>
  bS (cValue e.ev x121 [x124] (G117.room 9)) fun x126 G125 =>
  some (.tuple #[x75, (.int .u64 0)], G125)) (
  some (.tuple #[x75, (.int .u64 0)], G117))))
theorem m531 {e : Ex} {E : Ev} (h : ExLe Q e E) (v0 v1 : Value) (G : GS) : Ref (s531 true e v0 v1 G) (s531 false (Ex.of E) v0 v1 G) := by
  unfold s531
  exact Ref.go
theorem f531 {orc : FuncId → Bool} {e : Ex} (h : ExLe Q e (E orc)) (v0 v1 : Value) (G : GS) : Ref (s531 true e v0 v1 G) ((E orc).cl 531 [v0, v1] G) :=
  fun r hr => cl_sxE_some Q orc (vs := [v0, v1]) G Tryz.func531 (by kernel_rfl) (by kernel_rfl) (by kernel_rfl) (by kernel_rfl) (by kernel_rfl) (by kernel_rfl) (m531 h v0 v1 G r hr)
/-- (*coxswain/ready.part[*coxswain/epoch.Unpin]).run -/
noncomputable def s532 (q : Bool) (e : Ex) (v0 v1 : Value) (G : GS) : Option (Value × GS) :=
  bP (pNil v0) fun x0 =>
  bP (fa Q q 438 4 4 x0) fun x1 =>
  bP (ld Q q 4 x1 G) fun x2 =>
  bP (un Q q .not x2) fun x3 =>
  ifV x3 (
  bP (pNil v0) fun x4 =>
  bP (fa Q q 438 0 0 x4) fun x5 =>
  bP (ld Q q 434 x5 G) fun x6 =>
  bS (cValue e.ev x6 [] G) fun x7 G8 =>
  bP (pNil v0) fun x9 =>
  bP (fa Q q 438 3 3 x9) fun x10 =>
  bP (st Q q 432 1 x10 x7 G8) fun G11 =>
  bP (pNil v0) fun x12 =>
  bP (fa Q q 438 4 4 x12) fun x13 =>
  bP (st Q q 4 1 x13 (.bool true) G11) fun G14 =>
  bP (pNil v0) fun x15 =>
  bP (fa Q q 438 3 3 x15) fun x16 =>
  bP (ld Q q 432 x16 G14) fun x17 =>
  bP (ifc Q q 432 x17) fun x18 =>
  bS (cInvoke Q e.ev x18 "Step" [v1] G14) fun x19 G20 =>
  bP (pNil v0) fun x21 =>
  bP (fa Q q 438 1 1 x21) fun x22 =>
  bP (ld Q q 435 x22 G20) fun x23 =>
  bP (ef Q q true 435 (.tmp 34) (.const .nilFunc) x23 .nilFunc) fun x24 =>
  ifV x24 (
  bP (pNil v0) fun x25 =>
  bP (fa Q q 438 1 1 x25) fun x26 =>
  bP (ld Q q 435 x26 (G20.room 10)) fun x27 =>
  bP (pNil v0) fun x28 =>
  bP (fa Q q 438 3 3 x28) fun x29 =>
  bP (ld Q q 432 x29 (G20.room 10)) fun x30 =>
  bS (cValue e.ev x27 [x30] (G20.room 10)) fun x32 G31 =>
  bS (gd x19 true (some (v0, G31)) G31) fun x33 G34 =>
  bS (gd x19 true (bP (pNil x33) fun y => some (y, G34)) G34) fun x35 G36 =>
  bS (gd x19 true (bP (fa Q q 438 2 2 x35) fun y => some (y, G36)) G36) fun x37 G38 =>
  bS (gd x19 true (bP (ld Q q 436 x37 G38) fun y => some (y, G38)) G38) fun x39 G40 =>
  bS (gd x19 true (bP (ef Q q true 436 (.tmp 50) (.const .nilFunc) x39 .nilFunc) fun y => some (y, G40)) G40) fun x41 G42 =>
  bP (pickV x19 x41 (.bool false)) fun x43 =>
  ifV x43 (
  bP (pNil v0) fun x44 =>
  bP (fa Q q 438 2 2 x44) fun x45 =>
  bP (ld Q q 436 x45 (G42.room 9)) fun x46 =>
  bP (pNil v0) fun x47 =>
  bP (fa Q q 438 3 3 x47) fun x48 =>
  bP (ld Q q 432 x48 (G42.room 9)) fun x49 =>
  bS (cValue e.ev x46 [x49] (G42.room 9)) fun x51 G50 =>
  some (.tuple #[x19, x32], G50)) (
  some (.tuple #[x19, x32], G42))) (
  bS (gd x19 true (some (v0, G20)) G20) fun x52 G53 =>
  bS (gd x19 true (bP (pNil x52) fun y => some (y, G53)) G53) fun x54 G55 =>
  bS (gd x19 true (bP (fa Q q 438 2 2 x54) fun y => some (y, G55)) G55) fun x56 G57 =>
  bS (gd x19 true (bP (ld Q q 436 x56 G57) fun y => some (y, G57)) G57) fun x58 G59 =>
  bS (gd x19 true (bP (ef Q q true 436 (.tmp 50) (.const .nilFunc) x58 .nilFunc) fun y => some (y, G59)) G59) fun x60 G61 =>
  bP (pickV x19 x60 (.bool false)) fun x62 =>
  ifV x62 (
  bP (pNil v0) fun x63 =>
  bP (fa Q q 438 2 2 x63) fun x64 =>
  bP (ld Q q 436 x64 (G61.room 9)) fun x65 =>
  bP (pNil v0) fun x66 =>
  bP (fa Q q 438 3 3 x66) fun x67 =>
  bP (ld Q q 432 x67 (G61.room 9)) fun x68 =>
  bS (cValue e.ev x65 [x68] (G61.room 9)) fun x70 G69 =>
  some (.tuple #[x19, (.int .u64 0)], G69)) (
  some (.tuple #[x19, (.int .u64 0)], G61)))) (
  bP (pNil v0) fun x71 =>
  bP (fa Q q 438 3 3 x71) fun x72 =>
  bP (ld Q q 432 x72 G) fun x73 =>
  bP (ifc Q q 432 x73) fun x74 =>
  bS (cInvoke Q e.ev x74 "Step" [v1] G) fun x75 G76 =>
  bP (pNil v0) fun x77 =>
  bP (fa Q q 438 1 1 x77) fun x78 =>
  bP (ld Q q 435 x78 G76) fun x79 =>
  bP (ef Q q true 435 (.tmp 34) (.const .nilFunc) x79 .nilFunc) fun x80 =>
  ifV x80 (
  bP (pNil v0) fun x81 =>
  bP (fa Q q 438 1 1 x81) fun x82 =>
  bP (ld Q q 435 x82 (G76.room 10)) fun x83 =>
  bP (pNil v0) fun x84 =>
  bP (fa Q q 438 3 3 x84) fun x85 =>
  bP (ld Q q 432 x85 (G76.room 10)) fun x86 =>
  bS (cValue e.ev x83 [x86] (G76.room 10)) fun x88 G87 =>
  bS (gd x75 true (some (v0, G87)) G87) fun x89 G90 =>
  bS (gd x75 true (bP (pNil x89) fun y => some (y, G90)) G90) fun x91 G92 =>
  bS (gd x75 true (bP (fa Q q 438 2 2 x91) fun y => some (y, G92)) G92) fun x93 G94 =>
  bS (gd x75 true (bP (ld Q q 436 x93 G94) fun y => some (y, G94)) G94) fun x95 G96 =>
  bS (gd x75 true (bP (ef Q q true 436 (.tmp 50) (.const .nilFunc) x95 .nilFunc) fun y => some (y, G96)) G96) fun x97 G98 =>
  bP (pickV x75 x97 (.bool false)) fun x99 =>
  ifV x99 (
  bP (pNil v0) fun x100 =>
  bP (fa Q q 438 2 2 x100) fun x101 =>
  bP (ld Q q 436 x101 (G98.room 9)) fun x102 =>
  bP (pNil v0) fun x103 =>
  bP (fa Q q 438 3 3 x103) fun x104 =>
  bP (ld Q q 432 x104 (G98.room 9)) fun x105 =>
  bS (cValue e.ev x102 [x105] (G98.room 9)) fun x107 G106 =>
  some (.tuple #[x75, x88], G106)) (
  some (.tuple #[x75, x88], G98))) (
  bS (gd x75 true (some (v0, G76)) G76) fun x108 G109 =>
  bS (gd x75 true (bP (pNil x108) fun y => some (y, G109)) G109) fun x110 G111 =>
  bS (gd x75 true (bP (fa Q q 438 2 2 x110) fun y => some (y, G111)) G111) fun x112 G113 =>
  bS (gd x75 true (bP (ld Q q 436 x112 G113) fun y => some (y, G113)) G113) fun x114 G115 =>
  bS (gd x75 true (bP (ef Q q true 436 (.tmp 50) (.const .nilFunc) x114 .nilFunc) fun y => some (y, G115)) G115) fun x116 G117 =>
  bP (pickV x75 x116 (.bool false)) fun x118 =>
  ifV x118 (
  bP (pNil v0) fun x119 =>
  bP (fa Q q 438 2 2 x119) fun x120 =>
  bP (ld Q q 436 x120 (G117.room 9)) fun x121 =>
  bP (pNil v0) fun x122 =>
  bP (fa Q q 438 3 3 x122) fun x123 =>
  bP (ld Q q 432 x123 (G117.room 9)) fun x124 =>
  bS (cValue e.ev x121 [x124] (G117.room 9)) fun x126 G125 =>
  some (.tuple #[x75, (.int .u64 0)], G125)) (
  some (.tuple #[x75, (.int .u64 0)], G117))))
theorem m532 {e : Ex} {E : Ev} (h : ExLe Q e E) (v0 v1 : Value) (G : GS) : Ref (s532 true e v0 v1 G) (s532 false (Ex.of E) v0 v1 G) := by
  unfold s532
  exact Ref.go
theorem f532 {orc : FuncId → Bool} {e : Ex} (h : ExLe Q e (E orc)) (v0 v1 : Value) (G : GS) : Ref (s532 true e v0 v1 G) ((E orc).cl 532 [v0, v1] G) :=
  fun r hr => cl_sxE_some Q orc (vs := [v0, v1]) G Tryz.func532 (by kernel_rfl) (by kernel_rfl) (by kernel_rfl) (by kernel_rfl) (by kernel_rfl) (by kernel_rfl) (m532 h v0 v1 G r hr)
/-- (*coxswain/epoch.Unpin).Step -/
noncomputable def s534 (q : Bool) (e : Ex) (v0 v1 : Value) (G : GS) : Option (Value × GS) :=
  bP (ep Q q false 432 (.tmp 5) (.const (.pointer none)) v0 (.pointer none)) fun x0 =>
  bS (gd x0 false (some (v0, G)) G) fun x1 G2 =>
  bS (gd x0 false (bP (pNil x1) fun y => some (y, G2)) G2) fun x3 G4 =>
  bS (gd x0 false (bP (fa Q q 518 0 0 x3) fun y => some (y, G4)) G4) fun x5 G6 =>
  bS (gd x0 false (some (v1, G6)) G6) fun x7 G8 =>
  bS (gd x0 false (bS (e.ev.cl 429 [x5, x7] G8) fun y G => some (y, G)) G8) fun x9 G10 =>
  bP (pickV x0 (.bool true) x9) fun x11 =>
  some (x11, G10)
theorem m534 {e : Ex} {E : Ev} (h : ExLe Q e E) (v0 v1 : Value) (G : GS) : Ref (s534 true e v0 v1 G) (s534 false (Ex.of E) v0 v1 G) := by
  unfold s534
  exact Ref.go
theorem f534 {orc : FuncId → Bool} {e : Ex} (h : ExLe Q e (E orc)) (v0 v1 : Value) (G : GS) : Ref (s534 true e v0 v1 G) ((E orc).cl 534 [v0, v1] G) :=
  fun r hr => cl_sxE_some Q orc (vs := [v0, v1]) G Tryz.func534 (by kernel_rfl) (by kernel_rfl) (by kernel_rfl) (by kernel_rfl) (by kernel_rfl) (by kernel_rfl) (m534 h v0 v1 G r hr)
/-- (*coxswain/ready.part[*coxswain/tower.Lay]).run -/
noncomputable def s538 (q : Bool) (e : Ex) (v0 v1 : Value) (G : GS) : Option (Value × GS) :=
  bP (pNil v0) fun x0 =>
  bP (fa Q q 548 4 4 x0) fun x1 =>
  bP (ld Q q 4 x1 G) fun x2 =>
  bP (un Q q .not x2) fun x3 =>
  ifV x3 (
  bP (pNil v0) fun x4 =>
  bP (fa Q q 548 0 0 x4) fun x5 =>
  bP (ld Q q 544 x5 G) fun x6 =>
  bS (cValue e.ev x6 [] G) fun x7 G8 =>
  bP (pNil v0) fun x9 =>
  bP (fa Q q 548 3 3 x9) fun x10 =>
  bP (st Q q 542 1 x10 x7 G8) fun G11 =>
  bP (pNil v0) fun x12 =>
  bP (fa Q q 548 4 4 x12) fun x13 =>
  bP (st Q q 4 1 x13 (.bool true) G11) fun G14 =>
  bP (pNil v0) fun x15 =>
  bP (fa Q q 548 3 3 x15) fun x16 =>
  bP (ld Q q 542 x16 G14) fun x17 =>
  bP (ifc Q q 542 x17) fun x18 =>
  bS (cInvoke Q e.ev x18 "Step" [v1] G14) fun x19 G20 =>
  bP (pNil v0) fun x21 =>
  bP (fa Q q 548 1 1 x21) fun x22 =>
  bP (ld Q q 545 x22 G20) fun x23 =>
  bP (ef Q q true 545 (.tmp 34) (.const .nilFunc) x23 .nilFunc) fun x24 =>
  ifV x24 (
  bP (pNil v0) fun x25 =>
  bP (fa Q q 548 1 1 x25) fun x26 =>
  bP (ld Q q 545 x26 (G20.room 10)) fun x27 =>
  bP (pNil v0) fun x28 =>
  bP (fa Q q 548 3 3 x28) fun x29 =>
  bP (ld Q q 542 x29 (G20.room 10)) fun x30 =>
  bS (cValue e.ev x27 [x30] (G20.room 10)) fun x32 G31 =>
  bS (gd x19 true (some (v0, G31)) G31) fun x33 G34 =>
  bS (gd x19 true (bP (pNil x33) fun y => some (y, G34)) G34) fun x35 G36 =>
  bS (gd x19 true (bP (fa Q q 548 2 2 x35) fun y => some (y, G36)) G36) fun x37 G38 =>
  bS (gd x19 true (bP (ld Q q 546 x37 G38) fun y => some (y, G38)) G38) fun x39 G40 =>
  bS (gd x19 true (bP (ef Q q true 546 (.tmp 50) (.const .nilFunc) x39 .nilFunc) fun y => some (y, G40)) G40) fun x41 G42 =>
  bP (pickV x19 x41 (.bool false)) fun x43 =>
  ifV x43 (
  bP (pNil v0) fun x44 =>
  bP (fa Q q 548 2 2 x44) fun x45 =>
  bP (ld Q q 546 x45 (G42.room 9)) fun x46 =>
  bP (pNil v0) fun x47 =>
  bP (fa Q q 548 3 3 x47) fun x48 =>
  bP (ld Q q 542 x48 (G42.room 9)) fun x49 =>
  bS (cValue e.ev x46 [x49] (G42.room 9)) fun x51 G50 =>
  some (.tuple #[x19, x32], G50)) (
  some (.tuple #[x19, x32], G42))) (
  bS (gd x19 true (some (v0, G20)) G20) fun x52 G53 =>
  bS (gd x19 true (bP (pNil x52) fun y => some (y, G53)) G53) fun x54 G55 =>
  bS (gd x19 true (bP (fa Q q 548 2 2 x54) fun y => some (y, G55)) G55) fun x56 G57 =>
  bS (gd x19 true (bP (ld Q q 546 x56 G57) fun y => some (y, G57)) G57) fun x58 G59 =>
  bS (gd x19 true (bP (ef Q q true 546 (.tmp 50) (.const .nilFunc) x58 .nilFunc) fun y => some (y, G59)) G59) fun x60 G61 =>
  bP (pickV x19 x60 (.bool false)) fun x62 =>
  ifV x62 (
  bP (pNil v0) fun x63 =>
  bP (fa Q q 548 2 2 x63) fun x64 =>
  bP (ld Q q 546 x64 (G61.room 9)) fun x65 =>
  bP (pNil v0) fun x66 =>
  bP (fa Q q 548 3 3 x66) fun x67 =>
  bP (ld Q q 542 x67 (G61.room 9)) fun x68 =>
  bS (cValue e.ev x65 [x68] (G61.room 9)) fun x70 G69 =>
  some (.tuple #[x19, (.int .u64 0)], G69)) (
  some (.tuple #[x19, (.int .u64 0)], G61)))) (
  bP (pNil v0) fun x71 =>
  bP (fa Q q 548 3 3 x71) fun x72 =>
  bP (ld Q q 542 x72 G) fun x73 =>
  bP (ifc Q q 542 x73) fun x74 =>
  bS (cInvoke Q e.ev x74 "Step" [v1] G) fun x75 G76 =>
  bP (pNil v0) fun x77 =>
  bP (fa Q q 548 1 1 x77) fun x78 =>
  bP (ld Q q 545 x78 G76) fun x79 =>
  bP (ef Q q true 545 (.tmp 34) (.const .nilFunc) x79 .nilFunc) fun x80 =>
  ifV x80 (
  bP (pNil v0) fun x81 =>
  bP (fa Q q 548 1 1 x81) fun x82 =>
  bP (ld Q q 545 x82 (G76.room 10)) fun x83 =>
  bP (pNil v0) fun x84 =>
  bP (fa Q q 548 3 3 x84) fun x85 =>
  bP (ld Q q 542 x85 (G76.room 10)) fun x86 =>
  bS (cValue e.ev x83 [x86] (G76.room 10)) fun x88 G87 =>
  bS (gd x75 true (some (v0, G87)) G87) fun x89 G90 =>
  bS (gd x75 true (bP (pNil x89) fun y => some (y, G90)) G90) fun x91 G92 =>
  bS (gd x75 true (bP (fa Q q 548 2 2 x91) fun y => some (y, G92)) G92) fun x93 G94 =>
  bS (gd x75 true (bP (ld Q q 546 x93 G94) fun y => some (y, G94)) G94) fun x95 G96 =>
  bS (gd x75 true (bP (ef Q q true 546 (.tmp 50) (.const .nilFunc) x95 .nilFunc) fun y => some (y, G96)) G96) fun x97 G98 =>
  bP (pickV x75 x97 (.bool false)) fun x99 =>
  ifV x99 (
  bP (pNil v0) fun x100 =>
  bP (fa Q q 548 2 2 x100) fun x101 =>
  bP (ld Q q 546 x101 (G98.room 9)) fun x102 =>
  bP (pNil v0) fun x103 =>
  bP (fa Q q 548 3 3 x103) fun x104 =>
  bP (ld Q q 542 x104 (G98.room 9)) fun x105 =>
  bS (cValue e.ev x102 [x105] (G98.room 9)) fun x107 G106 =>
  some (.tuple #[x75, x88], G106)) (
  some (.tuple #[x75, x88], G98))) (
  bS (gd x75 true (some (v0, G76)) G76) fun x108 G109 =>
  bS (gd x75 true (bP (pNil x108) fun y => some (y, G109)) G109) fun x110 G111 =>
  bS (gd x75 true (bP (fa Q q 548 2 2 x110) fun y => some (y, G111)) G111) fun x112 G113 =>
  bS (gd x75 true (bP (ld Q q 546 x112 G113) fun y => some (y, G113)) G113) fun x114 G115 =>
  bS (gd x75 true (bP (ef Q q true 546 (.tmp 50) (.const .nilFunc) x114 .nilFunc) fun y => some (y, G115)) G115) fun x116 G117 =>
  bP (pickV x75 x116 (.bool false)) fun x118 =>
  ifV x118 (
  bP (pNil v0) fun x119 =>
  bP (fa Q q 548 2 2 x119) fun x120 =>
  bP (ld Q q 546 x120 (G117.room 9)) fun x121 =>
  bP (pNil v0) fun x122 =>
  bP (fa Q q 548 3 3 x122) fun x123 =>
  bP (ld Q q 542 x123 (G117.room 9)) fun x124 =>
  bS (cValue e.ev x121 [x124] (G117.room 9)) fun x126 G125 =>
  some (.tuple #[x75, (.int .u64 0)], G125)) (
  some (.tuple #[x75, (.int .u64 0)], G117))))
theorem m538 {e : Ex} {E : Ev} (h : ExLe Q e E) (v0 v1 : Value) (G : GS) : Ref (s538 true e v0 v1 G) (s538 false (Ex.of E) v0 v1 G) := by
  unfold s538
  exact Ref.go
theorem f538 {orc : FuncId → Bool} {e : Ex} (h : ExLe Q e (E orc)) (v0 v1 : Value) (G : GS) : Ref (s538 true e v0 v1 G) ((E orc).cl 538 [v0, v1] G) :=
  fun r hr => cl_sxE_some Q orc (vs := [v0, v1]) G Tryz.func538 (by kernel_rfl) (by kernel_rfl) (by kernel_rfl) (by kernel_rfl) (by kernel_rfl) (by kernel_rfl) (m538 h v0 v1 G r hr)
noncomputable def b539_0 (q : Bool) (e : Ex) (lp : Env → GS → Option (Exit × Env × GS)) (τ : Env) (G : GS) : Option (Exit × Env × GS) :=
  bV q (τ 0) fun a0_ =>
  bV q (τ 1) fun a1_ =>
  bV q (τ 12) fun a12_ =>
  bV q (τ 13) fun a13_ =>
  bP (bn Q q .lss 3 (.tmp 13) (.const (.int .i64 4)) a13_ (.int .i64 4)) fun x0 =>
  ifV x0 (
  bP (ix Q q 564 4 a12_ a13_) fun x1 =>
  bP (pNil a0_) fun x2 =>
  bP (fa Q q 566 3 6 x2) fun x3 =>
  bP (ld Q q 3 x3 G) fun x4 =>
  bP (bn Q q .eql 3 (.tmp 17) (.tmp 21) a13_ x4) fun x5 =>
  ifV x5 (
  bS (cValue e.ev x1 [a1_] G) fun x6 G7 =>
  some ((.exit 0), clq q 36 (tu τ [(0, a0_), (1, a1_), (12, a12_), (13, a13_), (5, a13_), (6, x1), (14, x0), (15, a13_), (16, x1), (17, a13_), (18, a0_), (19, x2), (20, x3), (21, x4), (22, x5), (23, x1), (24, a1_), (25, x6)]), G7)) (
  bP (bn Q q .add 3 (.tmp 13) (.const (.int .i64 1)) a13_ (.int .i64 1)) fun x8 =>
  lp (tu τ [(0, a0_), (1, a1_), (12, a12_), (13, x8), (5, a13_), (6, x1), (14, x0), (15, a13_), (16, x1), (17, a13_), (18, a0_), (19, x2), (20, x3), (21, x4), (22, x5), (26, x8)]) G)) (
  some ((.exit 0), clq q 36 (tu τ [(0, a0_), (1, a1_), (12, a12_), (13, a13_), (14, x0)]), G))
theorem mb539_0 {e : Ex} {E : Ev} (h : ExLe Q e E) {lp lp' : Env → GS → Option (Exit × Env × GS)} (hlp : LpLe lp lp') (τ : Env) (G : GS) : Ref (b539_0 true e lp τ G) (b539_0 false (Ex.of E) lp' τ G) := by
  unfold b539_0
  exact Ref.go
theorem l539_0 {orc : FuncId → Bool} {e : Ex} (h : ExLe Q e (E orc)) (lp : Env → GS → Option (Exit × Env × GS)) (hlp : ∀ τ G, Ref (lp τ G) (mapE ((E orc).lp (subAt [1, 1, 0, 1, 0, 0] (bodyOf Tryz.f539)) (lst 36 τ) G))) (T : List Value) (G : GS) (hT : T.length = 36) : Ref (b539_0 true e lp (nth undef T) G) (mapE ((E orc).lp (subAt [1, 1, 0, 1, 0, 0] (bodyOf Tryz.f539)) T G)) :=
  fun r hr => lp_sxM Q orc G hT (by kernel_rfl) (mb539_0 h ⟨hlp⟩ _ _ r hr)
/-- (*coxswain/tower.Lay).Step -/
noncomputable def s539 (q : Bool) (e : Ex) (v0 v1 : Value) (G : GS) : Option (Value × GS) :=
  bS (e.ev.cl 540 [v0] G) fun x0 G1 =>
  ifV x0 (
  some ((.bool true), G1)) (
  bP (pNil v0) fun x2 =>
  bP (fa Q q 566 2 2 x2) fun x3 =>
  bP (lda Q q 564 4 x3 G1) fun x4 =>
  bL q e 539 0 (subAt [1, 1, 0, 1, 0, 0] (bodyOf Tryz.f539)) 36 (tu (nth undef [v0, v1]) [(4, (.bool false)), (7, v0), (8, x0), (9, v0), (10, x2), (11, x3), (12, x4), (13, (.int .i64 0))]) G1 fun e5 t6 G7 =>
  bV q (t6 0) fun t6x0_ =>
  ifE e5 (.exit 0) (
  bP (pNil t6x0_) fun x8 =>
  bP (fa Q q 566 3 6 x8) fun x9 =>
  bP (ld Q q 3 x9 G7) fun x10 =>
  bP (bn Q q .add 3 (.tmp 30) (.const (.int .i64 1)) x10 (.int .i64 1)) fun x11 =>
  bP (pNil t6x0_) fun x12 =>
  bP (fa Q q 566 3 6 x12) fun x13 =>
  bP (st Q q 3 1 x13 x11 G7) fun G14 =>
  bS (e.ev.cl 540 [t6x0_] G14) fun x15 G16 =>
  some (x15, G16)) (none))
theorem m539 {e : Ex} {E : Ev} (h : ExLe Q e E) (v0 v1 : Value) (G : GS) : Ref (s539 true e v0 v1 G) (s539 false (Ex.of E) v0 v1 G) := by
  unfold s539
  exact Ref.go
theorem f539 {orc : FuncId → Bool} {e : Ex} (h : ExLe Q e (E orc)) (v0 v1 : Value) (G : GS) : Ref (s539 true e v0 v1 G) ((E orc).cl 539 [v0, v1] G) :=
  fun r hr => cl_sxE_some Q orc (vs := [v0, v1]) G Tryz.func539 (by kernel_rfl) (by kernel_rfl) (by kernel_rfl) (by kernel_rfl) (by kernel_rfl) (by kernel_rfl) (m539 h v0 v1 G r hr)
/-- (*coxswain/tower.Lay).over -/
noncomputable def s540 (q : Bool) (e : Ex) (v0 : Value) (G : GS) : Option (Value × GS) :=
  bP (ep Q q false 542 (.tmp 3) (.const (.pointer none)) v0 (.pointer none)) fun x0 =>
  bS (gd x0 false (some (v0, G)) G) fun x1 G2 =>
  bS (gd x0 false (bP (pNil x1) fun y => some (y, G2)) G2) fun x3 G4 =>
  bS (gd x0 false (bP (fa Q q 566 0 0 x3) fun y => some (y, G4)) G4) fun x5 G6 =>
  bS (gd x0 false (bP (ld Q q 4 x5 G6) fun y => some (y, G6)) G6) fun x7 G8 =>
  bS (gd x0 false (bP (un Q q .not x7) fun y => some (y, G8)) G8) fun x9 G10 =>
  bP (pickV x0 (.bool true) x9) fun x11 =>
  bS (gd x11 false (some (v0, G10)) G10) fun x12 G13 =>
  bS (gd x11 false (bP (pNil x12) fun y => some (y, G13)) G13) fun x14 G15 =>
  bS (gd x11 false (bP (fa Q q 566 3 6 x14) fun y => some (y, G15)) G15) fun x16 G17 =>
  bS (gd x11 false (bP (ld Q q 3 x16 G17) fun y => some (y, G17)) G17) fun x18 G19 =>
  bS (gd x11 false (bP (bn Q q .eql 3 (.tmp 16) (.const (.int .i64 4)) x18 (.int .i64 4)) fun y => some (y, G19)) G19) fun x20 G21 =>
  bP (pickV x11 (.bool true) x20) fun x22 =>
  some (x22, G21)
theorem m540 {e : Ex} {E : Ev} (h : ExLe Q e E) (v0 : Value) (G : GS) : Ref (s540 true e v0 G) (s540 false (Ex.of E) v0 G) := by
  unfold s540
  exact Ref.go
theorem f540 {orc : FuncId → Bool} {e : Ex} (h : ExLe Q e (E orc)) (v0 : Value) (G : GS) : Ref (s540 true e v0 G) ((E orc).cl 540 [v0] G) :=
  fun r hr => cl_sxE_some Q orc (vs := [v0]) G Tryz.func540 (by kernel_rfl) (by kernel_rfl) (by kernel_rfl) (by kernel_rfl) (by kernel_rfl) (by kernel_rfl) (m540 h v0 G r hr)
/-- (*coxswain/ready.part[*coxswain/insert.Insert]).run -/
noncomputable def s541 (q : Bool) (e : Ex) (v0 v1 : Value) (G : GS) : Option (Value × GS) :=
  bP (pNil v0) fun x0 =>
  bP (fa Q q 556 4 4 x0) fun x1 =>
  bP (ld Q q 4 x1 G) fun x2 =>
  bP (un Q q .not x2) fun x3 =>
  ifV x3 (
  bP (pNil v0) fun x4 =>
  bP (fa Q q 556 0 0 x4) fun x5 =>
  bP (ld Q q 552 x5 G) fun x6 =>
  bS (cValue e.ev x6 [] G) fun x7 G8 =>
  bP (pNil v0) fun x9 =>
  bP (fa Q q 556 3 3 x9) fun x10 =>
  bP (st Q q 550 1 x10 x7 G8) fun G11 =>
  bP (pNil v0) fun x12 =>
  bP (fa Q q 556 4 4 x12) fun x13 =>
  bP (st Q q 4 1 x13 (.bool true) G11) fun G14 =>
  bP (pNil v0) fun x15 =>
  bP (fa Q q 556 3 3 x15) fun x16 =>
  bP (ld Q q 550 x16 G14) fun x17 =>
  bP (ifc Q q 550 x17) fun x18 =>
  bS (cInvoke Q e.ev x18 "Step" [v1] G14) fun x19 G20 =>
  bP (pNil v0) fun x21 =>
  bP (fa Q q 556 1 1 x21) fun x22 =>
  bP (ld Q q 553 x22 G20) fun x23 =>
  bP (ef Q q true 553 (.tmp 34) (.const .nilFunc) x23 .nilFunc) fun x24 =>
  ifV x24 (
  bP (pNil v0) fun x25 =>
  bP (fa Q q 556 1 1 x25) fun x26 =>
  bP (ld Q q 553 x26 (G20.room 10)) fun x27 =>
  bP (pNil v0) fun x28 =>
  bP (fa Q q 556 3 3 x28) fun x29 =>
  bP (ld Q q 550 x29 (G20.room 10)) fun x30 =>
  bS (cValue e.ev x27 [x30] (G20.room 10)) fun x32 G31 =>
  bS (gd x19 true (some (v0, G31)) G31) fun x33 G34 =>
  bS (gd x19 true (bP (pNil x33) fun y => some (y, G34)) G34) fun x35 G36 =>
  bS (gd x19 true (bP (fa Q q 556 2 2 x35) fun y => some (y, G36)) G36) fun x37 G38 =>
  bS (gd x19 true (bP (ld Q q 554 x37 G38) fun y => some (y, G38)) G38) fun x39 G40 =>
  bS (gd x19 true (bP (ef Q q true 554 (.tmp 50) (.const .nilFunc) x39 .nilFunc) fun y => some (y, G40)) G40) fun x41 G42 =>
  bP (pickV x19 x41 (.bool false)) fun x43 =>
  ifV x43 (
  bP (pNil v0) fun x44 =>
  bP (fa Q q 556 2 2 x44) fun x45 =>
  bP (ld Q q 554 x45 (G42.room 9)) fun x46 =>
  bP (pNil v0) fun x47 =>
  bP (fa Q q 556 3 3 x47) fun x48 =>
  bP (ld Q q 550 x48 (G42.room 9)) fun x49 =>
  bS (cValue e.ev x46 [x49] (G42.room 9)) fun x51 G50 =>
  some (.tuple #[x19, x32], G50)) (
  some (.tuple #[x19, x32], G42))) (
  bS (gd x19 true (some (v0, G20)) G20) fun x52 G53 =>
  bS (gd x19 true (bP (pNil x52) fun y => some (y, G53)) G53) fun x54 G55 =>
  bS (gd x19 true (bP (fa Q q 556 2 2 x54) fun y => some (y, G55)) G55) fun x56 G57 =>
  bS (gd x19 true (bP (ld Q q 554 x56 G57) fun y => some (y, G57)) G57) fun x58 G59 =>
  bS (gd x19 true (bP (ef Q q true 554 (.tmp 50) (.const .nilFunc) x58 .nilFunc) fun y => some (y, G59)) G59) fun x60 G61 =>
  bP (pickV x19 x60 (.bool false)) fun x62 =>
  ifV x62 (
  bP (pNil v0) fun x63 =>
  bP (fa Q q 556 2 2 x63) fun x64 =>
  bP (ld Q q 554 x64 (G61.room 9)) fun x65 =>
  bP (pNil v0) fun x66 =>
  bP (fa Q q 556 3 3 x66) fun x67 =>
  bP (ld Q q 550 x67 (G61.room 9)) fun x68 =>
  bS (cValue e.ev x65 [x68] (G61.room 9)) fun x70 G69 =>
  some (.tuple #[x19, (.int .u64 0)], G69)) (
  some (.tuple #[x19, (.int .u64 0)], G61)))) (
  bP (pNil v0) fun x71 =>
  bP (fa Q q 556 3 3 x71) fun x72 =>
  bP (ld Q q 550 x72 G) fun x73 =>
  bP (ifc Q q 550 x73) fun x74 =>
  bS (cInvoke Q e.ev x74 "Step" [v1] G) fun x75 G76 =>
  bP (pNil v0) fun x77 =>
  bP (fa Q q 556 1 1 x77) fun x78 =>
  bP (ld Q q 553 x78 G76) fun x79 =>
  bP (ef Q q true 553 (.tmp 34) (.const .nilFunc) x79 .nilFunc) fun x80 =>
  ifV x80 (
  bP (pNil v0) fun x81 =>
  bP (fa Q q 556 1 1 x81) fun x82 =>
  bP (ld Q q 553 x82 (G76.room 10)) fun x83 =>
  bP (pNil v0) fun x84 =>
  bP (fa Q q 556 3 3 x84) fun x85 =>
  bP (ld Q q 550 x85 (G76.room 10)) fun x86 =>
  bS (cValue e.ev x83 [x86] (G76.room 10)) fun x88 G87 =>
  bS (gd x75 true (some (v0, G87)) G87) fun x89 G90 =>
  bS (gd x75 true (bP (pNil x89) fun y => some (y, G90)) G90) fun x91 G92 =>
  bS (gd x75 true (bP (fa Q q 556 2 2 x91) fun y => some (y, G92)) G92) fun x93 G94 =>
  bS (gd x75 true (bP (ld Q q 554 x93 G94) fun y => some (y, G94)) G94) fun x95 G96 =>
  bS (gd x75 true (bP (ef Q q true 554 (.tmp 50) (.const .nilFunc) x95 .nilFunc) fun y => some (y, G96)) G96) fun x97 G98 =>
  bP (pickV x75 x97 (.bool false)) fun x99 =>
  ifV x99 (
  bP (pNil v0) fun x100 =>
  bP (fa Q q 556 2 2 x100) fun x101 =>
  bP (ld Q q 554 x101 (G98.room 9)) fun x102 =>
  bP (pNil v0) fun x103 =>
  bP (fa Q q 556 3 3 x103) fun x104 =>
  bP (ld Q q 550 x104 (G98.room 9)) fun x105 =>
  bS (cValue e.ev x102 [x105] (G98.room 9)) fun x107 G106 =>
  some (.tuple #[x75, x88], G106)) (
  some (.tuple #[x75, x88], G98))) (
  bS (gd x75 true (some (v0, G76)) G76) fun x108 G109 =>
  bS (gd x75 true (bP (pNil x108) fun y => some (y, G109)) G109) fun x110 G111 =>
  bS (gd x75 true (bP (fa Q q 556 2 2 x110) fun y => some (y, G111)) G111) fun x112 G113 =>
  bS (gd x75 true (bP (ld Q q 554 x112 G113) fun y => some (y, G113)) G113) fun x114 G115 =>
  bS (gd x75 true (bP (ef Q q true 554 (.tmp 50) (.const .nilFunc) x114 .nilFunc) fun y => some (y, G115)) G115) fun x116 G117 =>
  bP (pickV x75 x116 (.bool false)) fun x118 =>
  ifV x118 (
  bP (pNil v0) fun x119 =>
  bP (fa Q q 556 2 2 x119) fun x120 =>
  bP (ld Q q 554 x120 (G117.room 9)) fun x121 =>
  bP (pNil v0) fun x122 =>
  bP (fa Q q 556 3 3 x122) fun x123 =>
  bP (ld Q q 550 x123 (G117.room 9)) fun x124 =>
  bS (cValue e.ev x121 [x124] (G117.room 9)) fun x126 G125 =>
  some (.tuple #[x75, (.int .u64 0)], G125)) (
  some (.tuple #[x75, (.int .u64 0)], G117))))
theorem m541 {e : Ex} {E : Ev} (h : ExLe Q e E) (v0 v1 : Value) (G : GS) : Ref (s541 true e v0 v1 G) (s541 false (Ex.of E) v0 v1 G) := by
  unfold s541
  exact Ref.go
theorem f541 {orc : FuncId → Bool} {e : Ex} (h : ExLe Q e (E orc)) (v0 v1 : Value) (G : GS) : Ref (s541 true e v0 v1 G) ((E orc).cl 541 [v0, v1] G) :=
  fun r hr => cl_sxE_some Q orc (vs := [v0, v1]) G Tryz.func541 (by kernel_rfl) (by kernel_rfl) (by kernel_rfl) (by kernel_rfl) (by kernel_rfl) (by kernel_rfl) (m541 h v0 v1 G r hr)
/-- (*coxswain/insert.Insert).Step -/
noncomputable def s542 (q : Bool) (e : Ex) (v0 v1 : Value) (G : GS) : Option (Value × GS) :=
  bP (ep Q q false 550 (.tmp 6) (.const (.pointer none)) v0 (.pointer none)) fun x0 =>
  bS (gd x0 false (some (v0, G)) G) fun x1 G2 =>
  bS (gd x0 false (bP (pNil x1) fun y => some (y, G2)) G2) fun x3 G4 =>
  bS (gd x0 false (bP (fa Q q 571 7 19 x3) fun y => some (y, G4)) G4) fun x5 G6 =>
  bS (gd x0 false (bP (ld Q q 569 x5 G6) fun y => some (y, G6)) G6) fun x7 G8 =>
  bS (gd x0 false (bP (bn Q q .eql 569 (.tmp 12) (.const (.int .i64 0)) x7 (.int .i64 0)) fun y => some (y, G8)) G8) fun x9 G10 =>
  bP (pickV x0 (.bool true) x9) fun x11 =>
  ifV x11 (
  some ((.bool true), G10)) (
  bS (e.ev.cl 543 [] G10) fun x12 G13 =>
  bS (al Q q 616 z616 G13) fun x14 G15 =>
  bP (st Q q 616 13 x14 x12 G15) fun G16 =>
  bP (pNil v0) fun x17 =>
  bP (fa Q q 571 7 19 x17) fun x18 =>
  bP (ld Q q 569 x18 G16) fun x19 =>
  bP (iaa Q q 616 13 1 x14 x19) fun x20 =>
  bP (ld Q q 615 x20 G16) fun x21 =>
  bS (cValue e.ev x21 [v0, v1] G16) fun x22 G23 =>
  bP (pNil v0) fun x24 =>
  bP (fa Q q 571 7 19 x24) fun x25 =>
  bP (st Q q 569 1 x25 x22 G23) fun G26 =>
  bP (pNil v0) fun x27 =>
  bP (fa Q q 571 7 19 x27) fun x28 =>
  bP (ld Q q 569 x28 G26) fun x29 =>
  bP (bn Q q .eql 569 (.tmp 31) (.const (.int .i64 0)) x29 (.int .i64 0)) fun x30 =>
  some (x30, G26))
theorem m542 {e : Ex} {E : Ev} (h : ExLe Q e E) (v0 v1 : Value) (G : GS) : Ref (s542 true e v0 v1 G) (s542 false (Ex.of E) v0 v1 G) := by
  unfold s542
  exact Ref.go
theorem f542 {orc : FuncId → Bool} {e : Ex} (h : ExLe Q e (E orc)) (v0 v1 : Value) (G : GS) : Ref (s542 true e v0 v1 G) ((E orc).cl 542 [v0, v1] G) :=
  fun r hr => cl_sxE_some Q orc (vs := [v0, v1]) G Tryz.func542 (by kernel_rfl) (by kernel_rfl) (by kernel_rfl) (by kernel_rfl) (by kernel_rfl) (by kernel_rfl) (m542 h v0 v1 G r hr)
/-- coxswain/insert.table -/
noncomputable def s543 (q : Bool) (e : Ex) (G : GS) : Option (Value × GS) :=
  bS (al Q q 616 z616 G) fun x0 G1 =>
  bP (bd Q q 616 z616 [(1, 1, 1), (2, 2, 1), (3, 3, 1), (4, 4, 1), (5, 5, 1), (6, 6, 1), (7, 7, 1), (8, 8, 1), (9, 9, 1), (10, 10, 1), (11, 11, 1), (12, 12, 1)] [(.func (.func 544) #[] #[]), (.func (.func 545) #[] #[]), (.func (.func 546) #[] #[]), (.func (.func 547) #[] #[]), (.func (.func 548) #[] #[]), (.func (.func 549) #[] #[]), (.func (.func 550) #[] #[]), (.func (.func 551) #[] #[]), (.func (.func 552) #[] #[]), (.func (.func 553) #[] #[]), (.func (.func 554) #[] #[]), (.func (.func 555) #[] #[])]) fun x2 =>
  bP (st Q q 616 13 x0 x2 G1) fun G3 =>
  bP (lda Q q 616 13 x0 G3) fun x4 =>
  some (x4, G3)
theorem m543 {e : Ex} {E : Ev} (h : ExLe Q e E) (G : GS) : Ref (s543 true e  G) (s543 false (Ex.of E)  G) := by
  unfold s543
  exact Ref.go
theorem f543 {orc : FuncId → Bool} {e : Ex} (h : ExLe Q e (E orc)) (ho : orc 543 = false) (G : GS) : Ref (s543 true e  G) ((E orc).cl 543 [] G) :=
  fun r hr => cl_sxE_some Q orc (vs := []) G Tryz.func543 (by kernel_rfl) (by kernel_rfl) ho (by kernel_rfl) (by kernel_rfl) (by kernel_rfl) (m543 h  G r hr)
/-- (*coxswain/insert.Insert).find -/
noncomputable def s544 (q : Bool) (e : Ex) (v0 v1 : Value) (G : GS) : Option (Value × GS) :=
  bS (e.ev.cl 556 [v0, v1] G) fun x0 G1 =>
  bP (un Q q .not x0) fun x2 =>
  ifV x2 (
  some ((.int .i64 1), G1)) (
  bP (pNil v0) fun x3 =>
  bP (fa Q q 571 8 20 x3) fun x4 =>
  bP (st Q q 3 1 x4 (.int .i64 0) G1) fun G5 =>
  some ((.int .i64 2), G5))
theorem m544 {e : Ex} {E : Ev} (h : ExLe Q e E) (v0 v1 : Value) (G : GS) : Ref (s544 true e v0 v1 G) (s544 false (Ex.of E) v0 v1 G) := by
  unfold s544
  exact Ref.go
theorem f544 {orc : FuncId → Bool} {e : Ex} (h : ExLe Q e (E orc)) (v0 v1 : Value) (G : GS) : Ref (s544 true e v0 v1 G) ((E orc).cl 544 [v0, v1] G) :=
  fun r hr => cl_sxE_some Q orc (vs := [v0, v1]) G Tryz.func544 (by kernel_rfl) (by kernel_rfl) (by kernel_rfl) (by kernel_rfl) (by kernel_rfl) (by kernel_rfl) (m544 h v0 v1 G r hr)
noncomputable def b545_0 (q : Bool) (e : Ex) (lp : Env → GS → Option (Exit × Env × GS)) (τ : Env) (G : GS) : Option (Exit × Env × GS) :=
  bV q (τ 0) fun a0_ =>
  bV q (τ 1) fun a1_ =>
  bV q (τ 16) fun a16_ =>
  bV q (τ 17) fun a17_ =>
  bP (bn Q q .lss 3 (.tmp 17) (.tmp 16) a17_ a16_) fun x0 =>
  ifV x0 (
  bP (pNil a0_) fun x1 =>
  bP (fa Q q 571 8 20 x1) fun x2 =>
  bP (ld Q q 3 x2 G) fun x3 =>
  bP (bn Q q .neq 3 (.tmp 20) (.tmp 24) a17_ x3) fun x4 =>
  ifV x4 (
  bP (bn Q q .add 3 (.tmp 17) (.const (.int .i64 1)) a17_ (.int .i64 1)) fun x5 =>
  lp (tu τ [(0, a0_), (1, a1_), (16, a16_), (17, x5), (5, a17_), (18, x0), (19, a17_), (20, a17_), (21, a0_), (22, x1), (23, x2), (24, x3), (25, x4), (46, x5)]) G) (
  bP (pNil a0_) fun x6 =>
  bP (fa Q q 571 0 0 x6) fun x7 =>
  bP (lda Q q 31 13 x7 (G.room 20)) fun x8 =>
  bP (pNil a0_) fun x9 =>
  bP (fa Q q 571 5 17 x9) fun x10 =>
  bP (ld Q q 3 x10 (G.room 20)) fun x11 =>
  bS (e.ev.cl 69 [x8, x11, a17_] (G.room 20)) fun x13 G12 =>
  bP (pNil a0_) fun x14 =>
  bP (fa Q q 571 10 22 x14) fun x15 =>
  bP (ld Q q 37 x15 G12) fun x16 =>
  chk ((sameO (ld Q q 37 x15 (G.room 20)) x16 && true)) <|
  bS (e.ev.cl 557 [x16] G12) fun x18 G17 =>
  bP (ias Q q 111 1 x18 a17_) fun x19 =>
  bP (ld Q q 41 x19 G17) fun x20 =>
  bS (e.ev.cl 45 [a1_, x13, x20] G17) fun x22 G21 =>
  bP (bn Q q .add 3 (.tmp 17) (.const (.int .i64 1)) a17_ (.int .i64 1)) fun x23 =>
  lp (tu τ [(0, a0_), (1, a1_), (16, a16_), (17, x23), (5, a17_), (18, x0), (19, a17_), (20, a17_), (21, a0_), (22, x1), (23, x2), (24, x3), (25, x4), (26, a1_), (27, a0_), (28, x6), (29, x7), (30, x8), (31, a0_), (32, x9), (33, x10), (34, x11), (35, a17_), (36, x13), (37, a0_), (38, x14), (39, x15), (40, x16), (41, x18), (42, a17_), (43, x19), (44, x20), (45, x22), (46, x23)]) G21)) (
  some ((.exit 0), clq q 66 (tu τ [(0, a0_), (1, a1_), (16, a16_), (17, a17_), (18, x0)]), G))
theorem mb545_0 {e : Ex} {E : Ev} (h : ExLe Q e E) {lp lp' : Env → GS → Option (Exit × Env × GS)} (hlp : LpLe lp lp') (τ : Env) (G : GS) : Ref (b545_0 true e lp τ G) (b545_0 false (Ex.of E) lp' τ G) := by
  unfold b545_0
  exact Ref.go
theorem l545_0 {orc : FuncId → Bool} {e : Ex} (h : ExLe Q e (E orc)) (lp : Env → GS → Option (Exit × Env × GS)) (hlp : ∀ τ G, Ref (lp τ G) (mapE ((E orc).lp (subAt [1, 0, 1, 1, 0, 1, 0, 0] (bodyOf Tryz.f545)) (lst 66 τ) G))) (T : List Value) (G : GS) (hT : T.length = 66) : Ref (b545_0 true e lp (nth undef T) G) (mapE ((E orc).lp (subAt [1, 0, 1, 1, 0, 1, 0, 0] (bodyOf Tryz.f545)) T G)) :=
  fun r hr => lp_sxM Q orc G hT (by kernel_rfl) (mb545_0 h ⟨hlp⟩ _ _ r hr)
/-- (*coxswain/insert.Insert).store -/
noncomputable def s545 (q : Bool) (e : Ex) (v0 v1 : Value) (G : GS) : Option (Value × GS) :=
  bP (pNil v0) fun x0 =>
  bP (fa Q q 571 3 15 x0) fun x1 =>
  bP (ld Q q 41 x1 G) fun x2 =>
  bP (pNil v0) fun x3 =>
  bP (fa Q q 571 12 24 x3) fun x4 =>
  bP (st Q q 41 1 x4 x2 G) fun G5 =>
  bP (pNil v0) fun x6 =>
  bP (fa Q q 571 6 18 x6) fun x7 =>
  bP (ld Q q 3 x7 G5) fun x8 =>
  bL q e 545 0 (subAt [1, 0, 1, 1, 0, 1, 0, 0] (bodyOf Tryz.f545)) 66 (tu (nth undef [v0, v1]) [(4, (.int .i64 0)), (6, v0), (7, v0), (8, x0), (9, x1), (10, x2), (11, x3), (12, x4), (13, v0), (14, x6), (15, x7), (16, x8), (17, (.int .i64 0))]) G5 fun e9 t10 G11 =>
  bV q (t10 0) fun t10x0_ =>
  ifE e9 (.exit 0) (
  bP (pNil t10x0_) fun x12 =>
  bP (fa Q q 571 8 20 x12) fun x13 =>
  bP (ld Q q 3 x13 G11) fun x14 =>
  bP (bn Q q .add 3 (.tmp 50) (.const (.int .i64 1)) x14 (.int .i64 1)) fun x15 =>
  bP (pNil t10x0_) fun x16 =>
  bP (fa Q q 571 8 20 x16) fun x17 =>
  bP (st Q q 3 1 x17 x15 G11) fun G18 =>
  bP (pNil t10x0_) fun x19 =>
  bP (fa Q q 571 8 20 x19) fun x20 =>
  bP (ld Q q 3 x20 (G18.room 9)) fun x21 =>
  bP (pNil t10x0_) fun x22 =>
  bP (fa Q q 571 6 18 x22) fun x23 =>
  bP (ld Q q 3 x23 (G18.room 9)) fun x24 =>
  bP (bn Q q .lss 3 (.tmp 57) (.tmp 61) x21 x24) fun x25 =>
  ifV x25 (
  some ((.int .i64 2), (G18.room 9))) (
  bP (pNil t10x0_) fun x26 =>
  bP (fa Q q 571 8 20 x26) fun x27 =>
  bP (st Q q 3 1 x27 (.int .i64 0) (G18.room 9)) fun G28 =>
  some ((.int .i64 3), G28))) (none)
theorem m545 {e : Ex} {E : Ev} (h : ExLe Q e E) (v0 v1 : Value) (G : GS) : Ref (s545 true e v0 v1 G) (s545 false (Ex.of E) v0 v1 G) := by
  unfold s545
  exact Ref.go
theorem f545 {orc : FuncId → Bool} {e : Ex} (h : ExLe Q e (E orc)) (v0 v1 : Value) (G : GS) : Ref (s545 true e v0 v1 G) ((E orc).cl 545 [v0, v1] G) :=
  fun r hr => cl_sxE_some Q orc (vs := [v0, v1]) G Tryz.func545 (by kernel_rfl) (by kernel_rfl) (by kernel_rfl) (by kernel_rfl) (by kernel_rfl) (by kernel_rfl) (m545 h v0 v1 G r hr)
/-- (*coxswain/insert.Insert).enter -/
noncomputable def s546 (q : Bool) (e : Ex) (v0 v1 : Value) (G : GS) : Option (Value × GS) :=
  bS (e.ev.cl 558 [v0, v1] G) fun x0 G1 =>
  bP (un Q q .not x0) fun x2 =>
  ifV x2 (
  bS (e.ev.cl 426 [v0, (.int .i64 1)] G1) fun x3 G4 =>
  some (x3, G4)) (
  bP (pNil v0) fun x5 =>
  bP (fa Q q 571 2 14 x5) fun x6 =>
  bP (st Q q 4 1 x6 (.bool true) G1) fun G7 =>
  bP (pNil v0) fun x8 =>
  bP (fa Q q 571 8 20 x8) fun x9 =>
  bP (st Q q 3 1 x9 (.int .i64 1) G7) fun G10 =>
  bS (e.ev.cl 559 [v0] G10) fun x11 G12 =>
  some (x11, G12))
theorem m546 {e : Ex} {E : Ev} (h : ExLe Q e E) (v0 v1 : Value) (G : GS) : Ref (s546 true e v0 v1 G) (s546 false (Ex.of E) v0 v1 G) := by
  unfold s546
  exact Ref.go
theorem f546 {orc : FuncId → Bool} {e : Ex} (h : ExLe Q e (E orc)) (v0 v1 : Value) (G : GS) : Ref (s546 true e v0 v1 G) ((E orc).cl 546 [v0, v1] G) :=
  fun r hr => cl_sxE_some Q orc (vs := [v0, v1]) G Tryz.func546 (by kernel_rfl) (by kernel_rfl) (by kernel_rfl) (by kernel_rfl) (by kernel_rfl) (by kernel_rfl) (m546 h v0 v1 G r hr)
/-- (*coxswain/insert.Insert).load -/
noncomputable def s547 (q : Bool) (e : Ex) (v0 v1 : Value) (G : GS) : Option (Value × GS) :=
  bP (pNil v0) fun x0 =>
  bP (fa Q q 571 8 20 x0) fun x1 =>
  bP (ld Q q 3 x1 G) fun x2 =>
  bS (e.ev.cl 560 [v0, v1, x2] G) fun x3 G4 =>
  bP (pNil v0) fun x5 =>
  bP (fa Q q 571 9 21 x5) fun x6 =>
  bP (st Q q 41 1 x6 x3 G4) fun G7 =>
  bP (pNil v0) fun x8 =>
  bP (fa Q q 571 9 21 x8) fun x9 =>
  bP (ld Q q 41 x9 G7) fun x10 =>
  bS (e.ev.cl 192 [x10] G7) fun x11 G12 =>
  ifV x11 (
  some ((.int .i64 9), G12)) (
  bP (pNil v0) fun x13 =>
  bP (fa Q q 571 9 21 x13) fun x14 =>
  bP (ld Q q 41 x14 (G12.room 17)) fun x15 =>
  bP (pNil v0) fun x16 =>
  bP (fa Q q 571 10 22 x16) fun x17 =>
  bP (ld Q q 37 x17 (G12.room 17)) fun x18 =>
  bS (e.ev.cl 557 [x18] (G12.room 17)) fun x20 G19 =>
  chk ((sameO (ld Q q 41 x14 G19) x15 && true)) <|
  bP (pNil v0) fun x21 =>
  bP (fa Q q 571 8 20 x21) fun x22 =>
  bP (ld Q q 3 x22 G19) fun x23 =>
  chk ((sameO (ld Q q 3 x22 (G12.room 17)) x23 && true)) <|
  bP (ias Q q 111 1 x20 x23) fun x24 =>
  bP (ld Q q 41 x24 G19) fun x25 =>
  bP (bn Q q .neq 41 (.tmp 25) (.tmp 36) x15 x25) fun x26 =>
  ifV x26 (
  some ((.int .i64 5), G19)) (
  some ((.int .i64 6), G19)))
theorem m547 {e : Ex} {E : Ev} (h : ExLe Q e E) (v0 v1 : Value) (G : GS) : Ref (s547 true e v0 v1 G) (s547 false (Ex.of E) v0 v1 G) := by
  unfold s547
  exact Ref.go
theorem f547 {orc : FuncId → Bool} {e : Ex} (h : ExLe Q e (E orc)) (v0 v1 : Value) (G : GS) : Ref (s547 true e v0 v1 G) ((E orc).cl 547 [v0, v1] G) :=
  fun r hr => cl_sxE_some Q orc (vs := [v0, v1]) G Tryz.func547 (by kernel_rfl) (by kernel_rfl) (by kernel_rfl) (by kernel_rfl) (by kernel_rfl) (by kernel_rfl) (m547 h v0 v1 G r hr)
/-- (*coxswain/insert.Insert).turn -/
noncomputable def s548 (q : Bool) (e : Ex) (v0 v1 : Value) (G : GS) : Option (Value × GS) :=
  bP (pNil v0) fun x0 =>
  bP (fa Q q 571 0 0 x0) fun x1 =>
  bP (lda Q q 31 13 x1 (G.room 31)) fun x2 =>
  bP (pNil v0) fun x3 =>
  bP (fa Q q 571 5 17 x3) fun x4 =>
  bP (ld Q q 3 x4 (G.room 31)) fun x5 =>
  bP (pNil v0) fun x6 =>
  bP (fa Q q 571 8 20 x6) fun x7 =>
  bP (ld Q q 3 x7 (G.room 31)) fun x8 =>
  bS (e.ev.cl 69 [x2, x5, x8] (G.room 31)) fun x10 G9 =>
  bP (pNil v0) fun x11 =>
  bP (fa Q q 571 9 21 x11) fun x12 =>
  bP (ld Q q 41 x12 G9) fun x13 =>
  chk ((sameO (ld Q q 41 x12 (G.room 31)) x13 && true)) <|
  bP (pNil v0) fun x14 =>
  bP (fa Q q 571 10 22 x14) fun x15 =>
  bP (ld Q q 37 x15 G9) fun x16 =>
  chk ((sameO (ld Q q 37 x15 (G.room 31)) x16 && true)) <|
  bS (e.ev.cl 557 [x16] G9) fun x18 G17 =>
  chk ((sameO (ld Q q 41 x12 G17) x13 && true)) <|
  bP (pNil v0) fun x19 =>
  bP (fa Q q 571 8 20 x19) fun x20 =>
  bP (ld Q q 3 x20 G17) fun x21 =>
  chk ((sameO (ld Q q 3 x20 G9) x21 && (sameO (ld Q q 3 x20 (G.room 31)) x21 && true))) <|
  bP (ias Q q 111 1 x18 x21) fun x22 =>
  bP (ld Q q 41 x22 G17) fun x23 =>
  bS (e.ev.cl 561 [v0, v1, x10, x13, x23] G17) fun x25 G24 =>
  ifV x25 (
  some ((.int .i64 6), G24)) (
  some ((.int .i64 9), G24))
theorem m548 {e : Ex} {E : Ev} (h : ExLe Q e E) (v0 v1 : Value) (G : GS) : Ref (s548 true e v0 v1 G) (s548 false (Ex.of E) v0 v1 G) := by
  unfold s548
  exact Ref.go
theorem f548 {orc : FuncId → Bool} {e : Ex} (h : ExLe Q e (E orc)) (v0 v1 : Value) (G : GS) : Ref (s548 true e v0 v1 G) ((E orc).cl 548 [v0, v1] G) :=
  fun r hr => cl_sxE_some Q orc (vs := [v0, v1]) G Tryz.func548 (by kernel_rfl) (by kernel_rfl) (by kernel_rfl) (by kernel_rfl) (by kernel_rfl) (by kernel_rfl) (m548 h v0 v1 G r hr)
/-- (*coxswain/insert.Insert).link -/
noncomputable def s549 (q : Bool) (e : Ex) (v0 v1 : Value) (G : GS) : Option (Value × GS) :=
  bS (e.ev.cl 558 [v0, v1] G) fun x0 G1 =>
  bP (un Q q .not x0) fun x2 =>
  ifV x2 (
  bS (e.ev.cl 426 [v0, (.int .i64 7)] G1) fun x3 G4 =>
  some (x3, G4)) (
  bP (pNil v0) fun x5 =>
  bP (fa Q q 571 8 20 x5) fun x6 =>
  bP (ld Q q 3 x6 G1) fun x7 =>
  bP (bn Q q .add 3 (.tmp 14) (.const (.int .i64 1)) x7 (.int .i64 1)) fun x8 =>
  bP (pNil v0) fun x9 =>
  bP (fa Q q 571 8 20 x9) fun x10 =>
  bP (st Q q 3 1 x10 x8 G1) fun G11 =>
  bS (e.ev.cl 559 [v0] G11) fun x12 G13 =>
  some (x12, G13))
theorem m549 {e : Ex} {E : Ev} (h : ExLe Q e E) (v0 v1 : Value) (G : GS) : Ref (s549 true e v0 v1 G) (s549 false (Ex.of E) v0 v1 G) := by
  unfold s549
  exact Ref.go
theorem f549 {orc : FuncId → Bool} {e : Ex} (h : ExLe Q e (E orc)) (v0 v1 : Value) (G : GS) : Ref (s549 true e v0 v1 G) ((E orc).cl 549 [v0, v1] G) :=
  fun r hr => cl_sxE_some Q orc (vs := [v0, v1]) G Tryz.func549 (by kernel_rfl) (by kernel_rfl) (by kernel_rfl) (by kernel_rfl) (by kernel_rfl) (by kernel_rfl) (m549 h v0 v1 G r hr)
/-- (*coxswain/insert.Insert).findAgain -/
noncomputable def s550 (q : Bool) (e : Ex) (v0 v1 : Value) (G : GS) : Option (Value × GS) :=
  bS (e.ev.cl 556 [v0, v1] G) fun x0 G1 =>
  ifV x0 (
  some ((.int .i64 8), G1)) (
  some ((.int .i64 7), G1))
theorem m550 {e : Ex} {E : Ev} (h : ExLe Q e E) (v0 v1 : Value) (G : GS) : Ref (s550 true e v0 v1 G) (s550 false (Ex.of E) v0 v1 G) := by
  unfold s550
  exact Ref.go
theorem f550 {orc : FuncId → Bool} {e : Ex} (h : ExLe Q e (E orc)) (v0 v1 : Value) (G : GS) : Ref (s550 true e v0 v1 G) ((E orc).cl 550 [v0, v1] G) :=
  fun r hr => cl_sxE_some Q orc (vs := [v0, v1]) G Tryz.func550 (by kernel_rfl) (by kernel_rfl) (by kernel_rfl) (by kernel_rfl) (by kernel_rfl) (by kernel_rfl) (m550 h v0 v1 G r hr)
/-- (*coxswain/insert.Insert).look -/
noncomputable def s551 (q : Bool) (e : Ex) (v0 v1 : Value) (G : GS) : Option (Value × GS) :=
  bS (e.ev.cl 560 [v0, v1, (.int .i64 0)] G) fun x0 G1 =>
  bS (e.ev.cl 192 [x0] G1) fun x2 G3 =>
  ifV x2 (
  bS (e.ev.cl 426 [v0, (.int .i64 10)] G3) fun x4 G5 =>
  some (x4, G5)) (
  some ((.int .i64 4), G3))
theorem m551 {e : Ex} {E : Ev} (h : ExLe Q e E) (v0 v1 : Value) (G : GS) : Ref (s551 true e v0 v1 G) (s551 false (Ex.of E) v0 v1 G) := by
  unfold s551
  exact Ref.go
theorem f551 {orc : FuncId → Bool} {e : Ex} (h : ExLe Q e (E orc)) (v0 v1 : Value) (G : GS) : Ref (s551 true e v0 v1 G) ((E orc).cl 551 [v0, v1] G) :=
  fun r hr => cl_sxE_some Q orc (vs := [v0, v1]) G Tryz.func551 (by kernel_rfl) (by kernel_rfl) (by kernel_rfl) (by kernel_rfl) (by kernel_rfl) (by kernel_rfl) (m551 h v0 v1 G r hr)
/-- (*coxswain/insert.Insert).ask -/
noncomputable def s552 (q : Bool) (e : Ex) (v0 v1 : Value) (G : GS) : Option (Value × GS) :=
  bS (e.ev.cl 560 [v0, v1, (.int .i64 0)] G) fun x0 G1 =>
  bS (e.ev.cl 192 [x0] G1) fun x2 G3 =>
  ifV x2 (
  bS (e.ev.cl 426 [v0, (.int .i64 10)] G3) fun x4 G5 =>
  some (x4, G5)) (
  some ((.int .i64 11), G3))
theorem m552 {e : Ex} {E : Ev} (h : ExLe Q e E) (v0 v1 : Value) (G : GS) : Ref (s552 true e v0 v1 G) (s552 false (Ex.of E) v0 v1 G) := by
  unfold s552
  exact Ref.go
theorem f552 {orc : FuncId → Bool} {e : Ex} (h : ExLe Q e (E orc)) (v0 v1 : Value) (G : GS) : Ref (s552 true e v0 v1 G) ((E orc).cl 552 [v0, v1] G) :=
  fun r hr => cl_sxE_some Q orc (vs := [v0, v1]) G Tryz.func552 (by kernel_rfl) (by kernel_rfl) (by kernel_rfl) (by kernel_rfl) (by kernel_rfl) (by kernel_rfl) (m552 h v0 v1 G r hr)
/-- (*coxswain/insert.Insert).clear -/
noncomputable def s553 (q : Bool) (e : Ex) (v0 v1 : Value) (G : GS) : Option (Value × GS) :=
  bS (e.ev.cl 556 [v0, v1] G) fun x0 G1 =>
  ifV x0 (
  some ((.int .i64 11), G1)) (
  some ((.int .i64 10), G1))
theorem m553 {e : Ex} {E : Ev} (h : ExLe Q e E) (v0 v1 : Value) (G : GS) : Ref (s553 true e v0 v1 G) (s553 false (Ex.of E) v0 v1 G) := by
  unfold s553
  exact Ref.go
theorem f553 {orc : FuncId → Bool} {e : Ex} (h : ExLe Q e (E orc)) (v0 v1 : Value) (G : GS) : Ref (s553 true e v0 v1 G) ((E orc).cl 553 [v0, v1] G) :=
  fun r hr => cl_sxE_some Q orc (vs := [v0, v1]) G Tryz.func553 (by kernel_rfl) (by kernel_rfl) (by kernel_rfl) (by kernel_rfl) (by kernel_rfl) (by kernel_rfl) (m553 h v0 v1 G r hr)
/-- (*coxswain/insert.Insert).let -/
noncomputable def s554 (q : Bool) (e : Ex) (v0 v1 : Value) (G : GS) : Option (Value × GS) :=
  bP (pNil v0) fun x0 =>
  bP (fa Q q 571 3 15 x0) fun x1 =>
  bP (ld Q q 41 x1 G) fun x2 =>
  bP (pNil v0) fun x3 =>
  bP (fa Q q 571 12 24 x3) fun x4 =>
  bP (st Q q 41 1 x4 x2 G) fun G5 =>
  bP (pNil v0) fun x6 =>
  bP (fa Q q 571 0 0 x6) fun x7 =>
  bP (lda Q q 31 13 x7 (G5.room 12)) fun x8 =>
  bP (pNil v0) fun x9 =>
  bP (fa Q q 571 5 17 x9) fun x10 =>
  bP (ld Q q 3 x10 (G5.room 12)) fun x11 =>
  bS (e.ev.cl 191 [x8, x11, (.int .i64 3)] (G5.room 12)) fun x13 G12 =>
  bS (e.ev.cl 198 [v1, x13, (.int .u64 18446744073709551615)] G12) fun x15 G14 =>
  bP (bn Q q .neq 41 (.tmp 22) (.const (.int .u64 0)) x15 (.int .u64 0)) fun x16 =>
  ifV x16 (
  some ((.int .i64 0), G14)) (
  bP (pNil v0) fun x17 =>
  bP (fa Q q 571 0 0 x17) fun x18 =>
  bP (fa Q q 31 3 3 x18) fun x19 =>
  bP (lda Q q 29 10 x19 (G14.room 14)) fun x20 =>
  bP (pNil v0) fun x21 =>
  bP (fa Q q 571 5 17 x21) fun x22 =>
  bP (ld Q q 3 x22 (G14.room 14)) fun x23 =>
  bS (e.ev.cl 199 [x20, x23] (G14.room 14)) fun x25 G24 =>
  bP (pNil v0) fun x26 =>
  bP (fa Q q 571 11 23 x26) fun x27 =>
  bP (st Q q 38 1 x27 x25 G24) fun G28 =>
  some ((.int .i64 12), G28))
theorem m554 {e : Ex} {E : Ev} (h : ExLe Q e E) (v0 v1 : Value) (G : GS) : Ref (s554 true e v0 v1 G) (s554 false (Ex.of E) v0 v1 G) := by
  unfold s554
  exact Ref.go
theorem f554 {orc : FuncId → Bool} {e : Ex} (h : ExLe Q e (E orc)) (v0 v1 : Value) (G : GS) : Ref (s554 true e v0 v1 G) ((E orc).cl 554 [v0, v1] G) :=
  fun r hr => cl_sxE_some Q orc (vs := [v0, v1]) G Tryz.func554 (by kernel_rfl) (by kernel_rfl) (by kernel_rfl) (by kernel_rfl) (by kernel_rfl) (by kernel_rfl) (m554 h v0 v1 G r hr)
/-- (*coxswain/insert.Insert).wait -/
noncomputable def s555 (q : Bool) (e : Ex) (v0 v1 : Value) (G : GS) : Option (Value × GS) :=
  bP (pNil v0) fun x0 =>
  bP (fa Q q 571 12 24 x0) fun x1 =>
  bP (st Q q 41 1 x1 (.int .u64 0) G) fun G2 =>
  bP (pNil v0) fun x3 =>
  bP (fa Q q 571 11 23 x3) fun x4 =>
  bP (ld Q q 38 x4 G2) fun x5 =>
  bS (e.ev.cl 200 [x5, v1] G2) fun x6 G7 =>
  ifV x6 (
  some ((.int .i64 0), G7)) (
  some ((.int .i64 12), G7))
theorem m555 {e : Ex} {E : Ev} (h : ExLe Q e E) (v0 v1 : Value) (G : GS) : Ref (s555 true e v0 v1 G) (s555 false (Ex.of E) v0 v1 G) := by
  unfold s555
  exact Ref.go
theorem f555 {orc : FuncId → Bool} {e : Ex} (h : ExLe Q e (E orc)) (v0 v1 : Value) (G : GS) : Ref (s555 true e v0 v1 G) ((E orc).cl 555 [v0, v1] G) :=
  fun r hr => cl_sxE_some Q orc (vs := [v0, v1]) G Tryz.func555 (by kernel_rfl) (by kernel_rfl) (by kernel_rfl) (by kernel_rfl) (by kernel_rfl) (by kernel_rfl) (m555 h v0 v1 G r hr)
/-- (*coxswain/insert.Insert).seeks -/
noncomputable def s556 (q : Bool) (e : Ex) (v0 v1 : Value) (G : GS) : Option (Value × GS) :=
  bP (pNil v0) fun x0 =>
  bP (fa Q q 571 10 22 x0) fun x1 =>
  bP (ld Q q 37 x1 G) fun x2 =>
  bS (e.ev.cl 196 [x2, v1] G) fun x3 G4 =>
  bP (pNil v0) fun x5 =>
  bP (fa Q q 571 10 22 x5) fun x6 =>
  bP (ld Q q 37 x6 G4) fun x7 =>
  bS (e.ev.cl 197 [x7] G4) fun x8 G9 =>
  bP (pNil v0) fun x10 =>
  bP (fa Q q 571 12 24 x10) fun x11 =>
  bP (st Q q 41 1 x11 x8 G9) fun G12 =>
  some (x3, G12)
theorem m556 {e : Ex} {E : Ev} (h : ExLe Q e E) (v0 v1 : Value) (G : GS) : Ref (s556 true e v0 v1 G) (s556 false (Ex.of E) v0 v1 G) := by
  unfold s556
  exact Ref.go
theorem f556 {orc : FuncId → Bool} {e : Ex} (h : ExLe Q e (E orc)) (v0 v1 : Value) (G : GS) : Ref (s556 true e v0 v1 G) ((E orc).cl 556 [v0, v1] G) :=
  fun r hr => cl_sxE_some Q orc (vs := [v0, v1]) G Tryz.func556 (by kernel_rfl) (by kernel_rfl) (by kernel_rfl) (by kernel_rfl) (by kernel_rfl) (by kernel_rfl) (m556 h v0 v1 G r hr)
noncomputable def b557_0 (q : Bool) (e : Ex) (lp : Env → GS → Option (Exit × Env × GS)) (τ : Env) (G : GS) : Option (Exit × Env × GS) :=
  bV q (τ 3) fun a3_ =>
  bV q (τ 7) fun a7_ =>
  bV q (τ 8) fun a8_ =>
  bV q (τ 9) fun a9_ =>
  bP (bn Q q .lss 3 (.tmp 9) (.tmp 8) a9_ a8_) fun x0 =>
  ifV x0 (
  bP (ias Q q 281 4 a7_ a9_) fun x1 =>
  bP (lda Q q 280 4 x1 G) fun x2 =>
  bS (al Q q 280 z280 G) fun x3 G4 =>
  bP (st Q q 280 4 x3 x2 G4) fun G5 =>
  bP (fa Q q 280 3 3 x3) fun x6 =>
  bP (ld Q q 41 x6 G5) fun x7 =>
  bS (bs Q q 111 1 (rep z41 1) 1 [(0, 0, 1)] [x7] G5) fun x8 G9 =>
  bS (ap Q q 111 111 1 8 a3_ x8 G9) fun x10 G11 =>
  bP (bn Q q .add 3 (.tmp 9) (.const (.int .i64 1)) a9_ (.int .i64 1)) fun x12 =>
  lp (tu τ [(3, x10), (7, a7_), (8, a8_), (9, x12), (5, x3), (10, x0), (11, x1), (12, x2), (13, a3_), (14, x6), (15, x7), (16, x8), (17, x10), (18, x12)]) G11) (
  some ((.exit 0), clq q 20 (tu τ [(3, a3_), (7, a7_), (8, a8_), (9, a9_), (10, x0)]), G))
theorem mb557_0 {e : Ex} {E : Ev} (h : ExLe Q e E) {lp lp' : Env → GS → Option (Exit × Env × GS)} (hlp : LpLe lp lp') (τ : Env) (G : GS) : Ref (b557_0 true e lp τ G) (b557_0 false (Ex.of E) lp' τ G) := by
  unfold b557_0
  exact Ref.go
theorem l557_0 {orc : FuncId → Bool} {e : Ex} (h : ExLe Q e (E orc)) (lp : Env → GS → Option (Exit × Env × GS)) (hlp : ∀ τ G, Ref (lp τ G) (mapE ((E orc).lp (subAt [1, 1, 0, 1, 0, 0] (bodyOf Tryz.f557)) (lst 20 τ) G))) (T : List Value) (G : GS) (hT : T.length = 20) : Ref (b557_0 true e lp (nth undef T) G) (mapE ((E orc).lp (subAt [1, 1, 0, 1, 0, 0] (bodyOf Tryz.f557)) T G)) :=
  fun r hr => lp_sxM Q orc G hT (by kernel_rfl) (mb557_0 h ⟨hlp⟩ _ _ r hr)
/-- (*coxswain/find.Find).Succs -/
noncomputable def s557 (q : Bool) (e : Ex) (v0 : Value) (G : GS) : Option (Value × GS) :=
  bS (e.ev.cl 562 [v0] G) fun x0 G1 =>
  bP (ln Q q 281 x0) fun x2 =>
  bL q e 557 0 (subAt [1, 1, 0, 1, 0, 0] (bodyOf Tryz.f557)) 20 (tu (nth undef [v0]) [(2, (.slice none 0 0)), (3, (.slice none 0 0)), (6, v0), (7, x0), (8, x2), (9, (.int .i64 0))]) G1 fun e3 t4 G5 =>
  bV q (t4 3) fun t4x3_ =>
  ifE e3 (.exit 0) (
  some (t4x3_, G5)) (none)
theorem m557 {e : Ex} {E : Ev} (h : ExLe Q e E) (v0 : Value) (G : GS) : Ref (s557 true e v0 G) (s557 false (Ex.of E) v0 G) := by
  unfold s557
  exact Ref.go
theorem f557 {orc : FuncId → Bool} {e : Ex} (h : ExLe Q e (E orc)) (v0 : Value) (G : GS) : Ref (s557 true e v0 G) ((E orc).cl 557 [v0] G) :=
  fun r hr => cl_sxE_some Q orc (vs := [v0]) G Tryz.func557 (by kernel_rfl) (by kernel_rfl) (by kernel_rfl) (by kernel_rfl) (by kernel_rfl) (by kernel_rfl) (m557 h v0 G r hr)
/-- (*coxswain/insert.Insert).hangs -/
noncomputable def s558 (q : Bool) (e : Ex) (v0 v1 : Value) (G : GS) : Option (Value × GS) :=
  bP (pNil v0) fun x0 =>
  bP (fa Q q 571 10 22 x0) fun x1 =>
  bP (ld Q q 37 x1 (G.room 15)) fun x2 =>
  bS (e.ev.cl 563 [x2] (G.room 15)) fun x4 G3 =>
  bP (pNil v0) fun x5 =>
  bP (fa Q q 571 8 20 x5) fun x6 =>
  bP (ld Q q 3 x6 G3) fun x7 =>
  chk ((sameO (ld Q q 3 x6 (G.room 15)) x7 && true)) <|
  bP (ias Q q 111 1 x4 x7) fun x8 =>
  bP (ld Q q 41 x8 G3) fun x9 =>
  bP (pNil v0) fun x10 =>
  bP (fa Q q 571 12 24 x10) fun x11 =>
  bP (st Q q 41 1 x11 x9 G3) fun G12 =>
  bP (pNil v0) fun x13 =>
  bP (fa Q q 571 0 0 x13) fun x14 =>
  bP (lda Q q 31 13 x14 (G12.room 38)) fun x15 =>
  bP (pNil v0) fun x16 =>
  bP (fa Q q 571 10 22 x16) fun x17 =>
  bP (ld Q q 37 x17 (G12.room 38)) fun x18 =>
  bS (e.ev.cl 564 [x18] (G12.room 38)) fun x20 G19 =>
  chk ((sameO (lda Q q 31 13 x14 G19) x15 && true)) <|
  bP (pNil v0) fun x21 =>
  bP (fa Q q 571 8 20 x21) fun x22 =>
  bP (ld Q q 3 x22 G19) fun x23 =>
  chk ((sameO (ld Q q 3 x22 (G12.room 38)) x23 && true)) <|
  bP (ias Q q 78 1 x20 x23) fun x24 =>
  bP (ld Q q 3 x24 G19) fun x25 =>
  bP (pNil v0) fun x26 =>
  bP (fa Q q 571 8 20 x26) fun x27 =>
  bP (ld Q q 3 x27 G19) fun x28 =>
  chk ((sameO (ld Q q 3 x27 (G12.room 38)) x28 && true)) <|
  bS (e.ev.cl 69 [x15, x25, x28] G19) fun x30 G29 =>
  bP (pNil v0) fun x31 =>
  bP (fa Q q 571 10 22 x31) fun x32 =>
  bP (ld Q q 37 x32 G29) fun x33 =>
  chk ((sameO (ld Q q 37 x32 G19) x33 && (sameO (ld Q q 37 x32 (G12.room 38)) x33 && true))) <|
  bS (e.ev.cl 557 [x33] G29) fun x35 G34 =>
  bP (pNil v0) fun x36 =>
  bP (fa Q q 571 8 20 x36) fun x37 =>
  bP (ld Q q 3 x37 G34) fun x38 =>
  chk ((sameO (ld Q q 3 x37 G29) x38 && (sameO (ld Q q 3 x37 G19) x38 && (sameO (ld Q q 3 x37 (G12.room 38)) x38 && true)))) <|
  bP (ias Q q 111 1 x35 x38) fun x39 =>
  bP (ld Q q 41 x39 G34) fun x40 =>
  bP (pNil v0) fun x41 =>
  bP (fa Q q 571 3 15 x41) fun x42 =>
  bP (ld Q q 41 x42 G34) fun x43 =>
  chk ((sameO (ld Q q 41 x42 G29) x43 && (sameO (ld Q q 41 x42 G19) x43 && (sameO (ld Q q 41 x42 (G12.room 38)) x43 && true)))) <|
  bS (e.ev.cl 68 [v1, x30, x40, x43] G34) fun x45 G44 =>
  some (x45, G44)
theorem m558 {e : Ex} {E : Ev} (h : ExLe Q e E) (v0 v1 : Value) (G : GS) : Ref (s558 true e v0 v1 G) (s558 false (Ex.of E) v0 v1 G) := by
  unfold s558
  exact Ref.go
theorem f558 {orc : FuncId → Bool} {e : Ex} (h : ExLe Q e (E orc)) (v0 v1 : Value) (G : GS) : Ref (s558 true e v0 v1 G) ((E orc).cl 558 [v0, v1] G) :=
  fun r hr => cl_sxE_some Q orc (vs := [v0, v1]) G Tryz.func558 (by kernel_rfl) (by kernel_rfl) (by kernel_rfl) (by kernel_rfl) (by kernel_rfl) (by kernel_rfl) (m558 h v0 v1 G r hr)
/-- (*coxswain/insert.Insert).up -/
noncomputable def s559 (q : Bool) (e : Ex) (v0 : Value) (G : GS) : Option (Value × GS) :=
  bP (pNil v0) fun x0 =>
  bP (fa Q q 571 8 20 x0) fun x1 =>
  bP (ld Q q 3 x1 (G.room 9)) fun x2 =>
  bP (pNil v0) fun x3 =>
  bP (fa Q q 571 6 18 x3) fun x4 =>
  bP (ld Q q 3 x4 (G.room 9)) fun x5 =>
  bP (bn Q q .geq 3 (.tmp 6) (.tmp 10) x2 x5) fun x6 =>
  ifV x6 (
  some ((.int .i64 9), (G.room 9))) (
  some ((.int .i64 4), (G.room 9)))
theorem m559 {e : Ex} {E : Ev} (h : ExLe Q e E) (v0 : Value) (G : GS) : Ref (s559 true e v0 G) (s559 false (Ex.of E) v0 G) := by
  unfold s559
  exact Ref.go
theorem f559 {orc : FuncId → Bool} {e : Ex} (h : ExLe Q e (E orc)) (v0 : Value) (G : GS) : Ref (s559 true e v0 G) ((E orc).cl 559 [v0] G) :=
  fun r hr => cl_sxE_some Q orc (vs := [v0]) G Tryz.func559 (by kernel_rfl) (by kernel_rfl) (by kernel_rfl) (by kernel_rfl) (by kernel_rfl) (by kernel_rfl) (m559 h v0 G r hr)
/-- (*coxswain/insert.Insert).read -/
noncomputable def s560 (q : Bool) (e : Ex) (v0 v1 v2 : Value) (G : GS) : Option (Value × GS) :=
  bP (pNil v0) fun x0 =>
  bP (fa Q q 571 3 15 x0) fun x1 =>
  bP (ld Q q 41 x1 G) fun x2 =>
  bP (pNil v0) fun x3 =>
  bP (fa Q q 571 12 24 x3) fun x4 =>
  bP (st Q q 41 1 x4 x2 G) fun G5 =>
  bP (pNil v0) fun x6 =>
  bP (fa Q q 571 0 0 x6) fun x7 =>
  bP (lda Q q 31 13 x7 (G5.room 13)) fun x8 =>
  bP (pNil v0) fun x9 =>
  bP (fa Q q 571 5 17 x9) fun x10 =>
  bP (ld Q q 3 x10 (G5.room 13)) fun x11 =>
  bS (e.ev.cl 69 [x8, x11, v2] (G5.room 13)) fun x13 G12 =>
  bS (e.ev.cl 177 [v1, x13] G12) fun x15 G14 =>
  some (x15, G14)
theorem m560 {e : Ex} {E : Ev} (h : ExLe Q e E) (v0 v1 v2 : Value) (G : GS) : Ref (s560 true e v0 v1 v2 G) (s560 false (Ex.of E) v0 v1 v2 G) := by
  unfold s560
  exact Ref.go
theorem f560 {orc : FuncId → Bool} {e : Ex} (h : ExLe Q e (E orc)) (v0 v1 v2 : Value) (G : GS) : Ref (s560 true e v0 v1 v2 G) ((E orc).cl 560 [v0, v1, v2] G) :=
  fun r hr => cl_sxE_some Q orc (vs := [v0, v1, v2]) G Tryz.func560 (by kernel_rfl) (by kernel_rfl) (by kernel_rfl) (by kernel_rfl) (by kernel_rfl) (by kernel_rfl) (m560 h v0 v1 v2 G r hr)
/-- (*coxswain/insert.Insert).swap -/
noncomputable def s561 (q : Bool) (e : Ex) (v0 v1 v2 v3 v4 : Value) (G : GS) : Option (Value × GS) :=
  bP (pNil v0) fun x0 =>
  bP (fa Q q 571 3 15 x0) fun x1 =>
  bP (ld Q q 41 x1 G) fun x2 =>
  bP (pNil v0) fun x3 =>
  bP (fa Q q 571 12 24 x3) fun x4 =>
  bP (st Q q 41 1 x4 x2 G) fun G5 =>
  bS (e.ev.cl 68 [v1, v2, v3, v4] G5) fun x6 G7 =>
  some (x6, G7)
theorem m561 {e : Ex} {E : Ev} (h : ExLe Q e E) (v0 v1 v2 v3 v4 : Value) (G : GS) : Ref (s561 true e v0 v1 v2 v3 v4 G) (s561 false (Ex.of E) v0 v1 v2 v3 v4 G) := by
  unfold s561
  exact Ref.go
theorem f561 {orc : FuncId → Bool} {e : Ex} (h : ExLe Q e (E orc)) (v0 v1 v2 v3 v4 : Value) (G : GS) : Ref (s561 true e v0 v1 v2 v3 v4 G) ((E orc).cl 561 [v0, v1, v2, v3, v4] G) :=
  fun r hr => cl_sxE_some Q orc (vs := [v0, v1, v2, v3, v4]) G Tryz.func561 (by kernel_rfl) (by kernel_rfl) (by kernel_rfl) (by kernel_rfl) (by kernel_rfl) (by kernel_rfl) (m561 h v0 v1 v2 v3 v4 G r hr)
/-- (*coxswain/find.Find).all -/
noncomputable def s562 (q : Bool) (e : Ex) (v0 : Value) (G : GS) : Option (Value × GS) :=
  bS (e.ev.cl 565 [v0] G) fun x0 G1 =>
  bP (bn Q q .neq 33 (.tmp 4) (.const (.int .i64 0)) x0 (.int .i64 0)) fun x2 =>
  ifV x2 (
  some ((.slice none 0 0), G1)) (
  bP (pNil v0) fun x3 =>
  bP (fa Q q 283 5 20 x3) fun x4 =>
  bP (ld Q q 281 x4 G1) fun x5 =>
  some (x5, G1))
theorem m562 {e : Ex} {E : Ev} (h : ExLe Q e E) (v0 : Value) (G : GS) : Ref (s562 true e v0 G) (s562 false (Ex.of E) v0 G) := by
  unfold s562
  exact Ref.go
theorem f562 {orc : FuncId → Bool} {e : Ex} (h : ExLe Q e (E orc)) (v0 : Value) (G : GS) : Ref (s562 true e v0 G) ((E orc).cl 562 [v0] G) :=
  fun r hr => cl_sxE_some Q orc (vs := [v0]) G Tryz.func562 (by kernel_rfl) (by kernel_rfl) (by kernel_rfl) (by kernel_rfl) (by kernel_rfl) (by kernel_rfl) (m562 h v0 G r hr)
noncomputable def b563_0 (q : Bool) (e : Ex) (lp : Env → GS → Option (Exit × Env × GS)) (τ : Env) (G : GS) : Option (Exit × Env × GS) :=
  bV q (τ 3) fun a3_ =>
  bV q (τ 7) fun a7_ =>
  bV q (τ 8) fun a8_ =>
  bV q (τ 9) fun a9_ =>
  bP (bn Q q .lss 3 (.tmp 9) (.tmp 8) a9_ a8_) fun x0 =>
  ifV x0 (
  bP (ias Q q 281 4 a7_ a9_) fun x1 =>
  bP (lda Q q 280 4 x1 G) fun x2 =>
  bS (al Q q 280 z280 G) fun x3 G4 =>
  bP (st Q q 280 4 x3 x2 G4) fun G5 =>
  bP (fa Q q 280 2 2 x3) fun x6 =>
  bP (ld Q q 41 x6 G5) fun x7 =>
  bS (bs Q q 111 1 (rep z41 1) 1 [(0, 0, 1)] [x7] G5) fun x8 G9 =>
  bS (ap Q q 111 111 1 8 a3_ x8 G9) fun x10 G11 =>
  bP (bn Q q .add 3 (.tmp 9) (.const (.int .i64 1)) a9_ (.int .i64 1)) fun x12 =>
  lp (tu τ [(3, x10), (7, a7_), (8, a8_), (9, x12), (5, x3), (10, x0), (11, x1), (12, x2), (13, a3_), (14, x6), (15, x7), (16, x8), (17, x10), (18, x12)]) G11) (
  some ((.exit 0), clq q 20 (tu τ [(3, a3_), (7, a7_), (8, a8_), (9, a9_), (10, x0)]), G))
theorem mb563_0 {e : Ex} {E : Ev} (h : ExLe Q e E) {lp lp' : Env → GS → Option (Exit × Env × GS)} (hlp : LpLe lp lp') (τ : Env) (G : GS) : Ref (b563_0 true e lp τ G) (b563_0 false (Ex.of E) lp' τ G) := by
  unfold b563_0
  exact Ref.go
theorem l563_0 {orc : FuncId → Bool} {e : Ex} (h : ExLe Q e (E orc)) (lp : Env → GS → Option (Exit × Env × GS)) (hlp : ∀ τ G, Ref (lp τ G) (mapE ((E orc).lp (subAt [1, 1, 0, 1, 0, 0] (bodyOf Tryz.f563)) (lst 20 τ) G))) (T : List Value) (G : GS) (hT : T.length = 20) : Ref (b563_0 true e lp (nth undef T) G) (mapE ((E orc).lp (subAt [1, 1, 0, 1, 0, 0] (bodyOf Tryz.f563)) T G)) :=
  fun r hr => lp_sxM Q orc G hT (by kernel_rfl) (mb563_0 h ⟨hlp⟩ _ _ r hr)
/-- (*coxswain/find.Find).Known -/
noncomputable def s563 (q : Bool) (e : Ex) (v0 : Value) (G : GS) : Option (Value × GS) :=
  bS (e.ev.cl 562 [v0] G) fun x0 G1 =>
  bP (ln Q q 281 x0) fun x2 =>
  bL q e 563 0 (subAt [1, 1, 0, 1, 0, 0] (bodyOf Tryz.f563)) 20 (tu (nth undef [v0]) [(2, (.slice none 0 0)), (3, (.slice none 0 0)), (6, v0), (7, x0), (8, x2), (9, (.int .i64 0))]) G1 fun e3 t4 G5 =>
  bV q (t4 3) fun t4x3_ =>
  ifE e3 (.exit 0) (
  some (t4x3_, G5)) (none)
theorem m563 {e : Ex} {E : Ev} (h : ExLe Q e E) (v0 : Value) (G : GS) : Ref (s563 true e v0 G) (s563 false (Ex.of E) v0 G) := by
  unfold s563
  exact Ref.go
theorem f563 {orc : FuncId → Bool} {e : Ex} (h : ExLe Q e (E orc)) (v0 : Value) (G : GS) : Ref (s563 true e v0 G) ((E orc).cl 563 [v0] G) :=
  fun r hr => cl_sxE_some Q orc (vs := [v0]) G Tryz.func563 (by kernel_rfl) (by kernel_rfl) (by kernel_rfl) (by kernel_rfl) (by kernel_rfl) (by kernel_rfl) (m563 h v0 G r hr)
noncomputable def b564_0 (q : Bool) (e : Ex) (lp : Env → GS → Option (Exit × Env × GS)) (τ : Env) (G : GS) : Option (Exit × Env × GS) :=
  bV q (τ 3) fun a3_ =>
  bV q (τ 7) fun a7_ =>
  bV q (τ 8) fun a8_ =>
  bV q (τ 9) fun a9_ =>
  bP (bn Q q .lss 3 (.tmp 9) (.tmp 8) a9_ a8_) fun x0 =>
  ifV x0 (
  bP (ias Q q 281 4 a7_ a9_) fun x1 =>
  bP (lda Q q 280 4 x1 G) fun x2 =>
  bS (al Q q 280 z280 G) fun x3 G4 =>
  bP (st Q q 280 4 x3 x2 G4) fun G5 =>
  bP (fa Q q 280 1 1 x3) fun x6 =>
  bP (ld Q q 3 x6 G5) fun x7 =>
  bS (bs Q q 78 1 (rep z3 1) 1 [(0, 0, 1)] [x7] G5) fun x8 G9 =>
  bS (ap Q q 78 78 1 8 a3_ x8 G9) fun x10 G11 =>
  bP (bn Q q .add 3 (.tmp 9) (.const (.int .i64 1)) a9_ (.int .i64 1)) fun x12 =>
  lp (tu τ [(3, x10), (7, a7_), (8, a8_), (9, x12), (5, x3), (10, x0), (11, x1), (12, x2), (13, a3_), (14, x6), (15, x7), (16, x8), (17, x10), (18, x12)]) G11) (
  some ((.exit 0), clq q 20 (tu τ [(3, a3_), (7, a7_), (8, a8_), (9, a9_), (10, x0)]), G))
theorem mb564_0 {e : Ex} {E : Ev} (h : ExLe Q e E) {lp lp' : Env → GS → Option (Exit × Env × GS)} (hlp : LpLe lp lp') (τ : Env) (G : GS) : Ref (b564_0 true e lp τ G) (b564_0 false (Ex.of E) lp' τ G) := by
  unfold b564_0
  exact Ref.go
theorem l564_0 {orc : FuncId → Bool} {e : Ex} (h : ExLe Q e (E orc)) (lp : Env → GS → Option (Exit × Env × GS)) (hlp : ∀ τ G, Ref (lp τ G) (mapE ((E orc).lp (subAt [1, 1, 0, 1, 0, 0] (bodyOf Tryz.f564)) (lst 20 τ) G))) (T : List Value) (G : GS) (hT : T.length = 20) : Ref (b564_0 true e lp (nth undef T) G) (mapE ((E orc).lp (subAt [1, 1, 0, 1, 0, 0] (bodyOf Tryz.f564)) T G)) :=
  fun r hr => lp_sxM Q orc G hT (by kernel_rfl) (mb564_0 h ⟨hlp⟩ _ _ r hr)
/-- (*coxswain/find.Find).Preds -/
noncomputable def s564 (q : Bool) (e : Ex) (v0 : Value) (G : GS) : Option (Value × GS) :=
  bS (e.ev.cl 562 [v0] G) fun x0 G1 =>
  bP (ln Q q 281 x0) fun x2 =>
  bL q e 564 0 (subAt [1, 1, 0, 1, 0, 0] (bodyOf Tryz.f564)) 20 (tu (nth undef [v0]) [(2, (.slice none 0 0)), (3, (.slice none 0 0)), (6, v0), (7, x0), (8, x2), (9, (.int .i64 0))]) G1 fun e3 t4 G5 =>
  bV q (t4 3) fun t4x3_ =>
  ifE e3 (.exit 0) (
  some (t4x3_, G5)) (none)
theorem m564 {e : Ex} {E : Ev} (h : ExLe Q e E) (v0 : Value) (G : GS) : Ref (s564 true e v0 G) (s564 false (Ex.of E) v0 G) := by
  unfold s564
  exact Ref.go
theorem f564 {orc : FuncId → Bool} {e : Ex} (h : ExLe Q e (E orc)) (v0 : Value) (G : GS) : Ref (s564 true e v0 G) ((E orc).cl 564 [v0] G) :=
  fun r hr => cl_sxE_some Q orc (vs := [v0]) G Tryz.func564 (by kernel_rfl) (by kernel_rfl) (by kernel_rfl) (by kernel_rfl) (by kernel_rfl) (by kernel_rfl) (m564 h v0 G r hr)
/-- (*coxswain/find.Find).Err -/
noncomputable def s565 (q : Bool) (e : Ex) (v0 : Value) (G : GS) : Option (Value × GS) :=
  bP (ep Q q false 37 (.tmp 4) (.const (.pointer none)) v0 (.pointer none)) fun x0 =>
  bS (gd x0 false (some (v0, G)) G) fun x1 G2 =>
  bS (gd x0 false (bP (pNil x1) fun y => some (y, G2)) G2) fun x3 G4 =>
  bS (gd x0 false (bP (fa Q q 283 7 22 x3) fun y => some (y, G4)) G4) fun x5 G6 =>
  bS (gd x0 false (bP (ld Q q 4 x5 G6) fun y => some (y, G6)) G6) fun x7 G8 =>
  bS (gd x0 false (bP (un Q q .not x7) fun y => some (y, G8)) G8) fun x9 G10 =>
  bP (pickV x0 (.bool true) x9) fun x11 =>
  ifV x11 (
  some ((.int .i64 1), G10)) (
  bP (pNil v0) fun x12 =>
  bP (fa Q q 283 2 14 x12) fun x13 =>
  bP (ld Q q 3 x13 G10) fun x14 =>
  bP (bn Q q .neq 3 (.tmp 17) (.const (.int .i64 9)) x14 (.int .i64 9)) fun x15 =>
  ifV x15 (
  some ((.int .i64 14), G10)) (
  bP (pNil v0) fun x16 =>
  bP (fa Q q 283 8 23 x16) fun x17 =>
  bP (ld Q q 33 x17 G10) fun x18 =>
  some (x18, G10)))
theorem m565 {e : Ex} {E : Ev} (h : ExLe Q e E) (v0 : Value) (G : GS) : Ref (s565 true e v0 G) (s565 false (Ex.of E) v0 G) := by
  unfold s565
  exact Ref.go
theorem f565 {orc : FuncId → Bool} {e : Ex} (h : ExLe Q e (E orc)) (v0 : Value) (G : GS) : Ref (s565 true e v0 G) ((E orc).cl 565 [v0] G) :=
  fun r hr => cl_sxE_some Q orc (vs := [v0]) G Tryz.func565 (by kernel_rfl) (by kernel_rfl) (by kernel_rfl) (by kernel_rfl) (by kernel_rfl) (by kernel_rfl) (m565 h v0 G r hr)
noncomputable def clT (orc : FuncId → Bool) (e : Ex) (f : FuncId) (vs : List Value) (G : GS) : Option (Value × GS) :=
  fork f 289 (
fork f 193 (
fork f 97 (
fork f 69 (
fork f 26 (
fork f 23 (
fork f 9 (
leaf f 9 (app1 (s9 true e) vs G)) (
leaf f 23 (app4 (s23 true e) vs G))) (
fork f 24 (
leaf f 24 (app3 (s24 true e) vs G)) (
fork f 25 (
leaf f 25 (app2 (s25 true e) vs G)) (
leaf f 26 (app2 (s26 true e) vs G))))) (
fork f 45 (
fork f 27 (
leaf f 27 (app0 (orc 27) (hasTab Q G) (s27 true e) vs G)) (
fork f 28 (
leaf f 28 (app2 (s28 true e) vs G)) (
leaf f 45 (app3 (s45 true e) vs G)))) (
fork f 53 (
leaf f 53 (app1 (s53 true e) vs G)) (
fork f 68 (
leaf f 68 (app4 (s68 true e) vs G)) (
leaf f 69 (app3 (s69 true e) vs G)))))) (
fork f 91 (
fork f 88 (
fork f 72 (
leaf f 72 (app2 (s72 true e) vs G)) (
fork f 87 (
leaf f 87 (app2 (s87 true e) vs G)) (
leaf f 88 (app3 (s88 true e) vs G)))) (
fork f 89 (
leaf f 89 (app1 (s89 true e) vs G)) (
fork f 90 (
leaf f 90 (app1 (s90 true e) vs G)) (
leaf f 91 (app2 (s91 true e) vs G))))) (
fork f 94 (
fork f 92 (
leaf f 92 (app1 (s92 true e) vs G)) (
fork f 93 (
leaf f 93 (app1 (s93 true e) vs G)) (
leaf f 94 (app1 (s94 true e) vs G)))) (
fork f 95 (
leaf f 95 (app1 (s95 true e) vs G)) (
fork f 96 (
leaf f 96 (app1 (s96 true e) vs G)) (
leaf f 97 (app1 (s97 true e) vs G))))))) (
fork f 156 (
fork f 103 (
fork f 100 (
fork f 98 (
leaf f 98 (app0 (orc 98) (hasTab Q G) (s98 true e) vs G)) (
fork f 99 (
leaf f 99 (app0 (orc 99) (hasTab Q G) (s99 true e) vs G)) (
leaf f 100 (app3 (s100 true e) vs G)))) (
fork f 101 (
leaf f 101 (app2 (s101 true e) vs G)) (
fork f 102 (
leaf f 102 (app1 (s102 true e) vs G)) (
leaf f 103 (app1 (s103 true e) vs G))))) (
fork f 106 (
fork f 104 (
leaf f 104 (app2 (s104 true e) vs G)) (
fork f 105 (
leaf f 105 (app1 (s105 true e) vs G)) (
leaf f 106 (app2 (s106 true e) vs G)))) (
fork f 107 (
leaf f 107 (app5 (s107 true e) vs G)) (
fork f 115 (
leaf f 115 (app1 (s115 true e) vs G)) (
leaf f 156 (app2 (s156 true e) vs G)))))) (
fork f 174 (
fork f 160 (
fork f 158 (
leaf f 158 (app2 (s158 true e) vs G)) (
fork f 159 (
leaf f 159 (app5 (s159 true e) vs G)) (
leaf f 160 (app1 (s160 true e) vs G)))) (
fork f 171 (
leaf f 171 (app2 (s171 true e) vs G)) (
fork f 173 (
leaf f 173 (app1 (s173 true e) vs G)) (
leaf f 174 (app1 (s174 true e) vs G))))) (
fork f 189 (
fork f 177 (
leaf f 177 (app2 (s177 true e) vs G)) (
fork f 179 (
leaf f 179 (app2 (s179 true e) vs G)) (
leaf f 189 (app1 (s189 true e) vs G)))) (
fork f 191 (
leaf f 191 (app3 (s191 true e) vs G)) (
fork f 192 (
leaf f 192 (app1 (s192 true e) vs G)) (
leaf f 193 (app1 (s193 true e) vs G)))))))) (
fork f 246 (
fork f 207 (
fork f 201 (
fork f 196 (
fork f 194 (
leaf f 194 (app2 (s194 true e) vs G)) (
fork f 195 (
leaf f 195 (app1 (s195 true e) vs G)) (
leaf f 196 (app2 (s196 true e) vs G)))) (
fork f 197 (
leaf f 197 (app1 (s197 true e) vs G)) (
fork f 198 (
leaf f 198 (app3 (s198 true e) vs G)) (
leaf f 201 (app3 (s201 true e) vs G))))) (
fork f 204 (
fork f 202 (
leaf f 202 (app2 (s202 true e) vs G)) (
fork f 203 (
leaf f 203 (app1 (s203 true e) vs G)) (
leaf f 204 (app3 (s204 true e) vs G)))) (
fork f 205 (
leaf f 205 (app2 (s205 true e) vs G)) (
fork f 206 (
leaf f 206 (app3 (s206 true e) vs G)) (
leaf f 207 (app3 (s207 true e) vs G)))))) (
fork f 213 (
fork f 210 (
fork f 208 (
leaf f 208 (app2 (s208 true e) vs G)) (
fork f 209 (
leaf f 209 (app3 (s209 true e) vs G)) (
leaf f 210 (app4 (s210 true e) vs G)))) (
fork f 211 (
leaf f 211 (app2 (s211 true e) vs G)) (
fork f 212 (
leaf f 212 (app3 (s212 true e) vs G)) (
leaf f 213 (app2 (s213 true e) vs G))))) (
fork f 220 (
fork f 214 (
leaf f 214 (app1 (s214 true e) vs G)) (
fork f 215 (
leaf f 215 (app1 (s215 true e) vs G)) (
leaf f 220 (app1 (s220 true e) vs G)))) (
fork f 223 (
leaf f 223 (app2 (s223 true e) vs G)) (
fork f 226 (
leaf f 226 (app1 (s226 true e) vs G)) (
leaf f 246 (app2 (s246 true e) vs G))))))) (
fork f 275 (
fork f 259 (
fork f 256 (
fork f 248 (
leaf f 248 (app1 (s248 true e) vs G)) (
fork f 254 (
leaf f 254 (app1 (s254 true e) vs G)) (
leaf f 256 (app1 (s256 true e) vs G)))) (
fork f 257 (
leaf f 257 (app2 (s257 true e) vs G)) (
fork f 258 (
leaf f 258 (app1 (s258 true e) vs G)) (
leaf f 259 (app2 (s259 true e) vs G))))) (
fork f 272 (
fork f 260 (
leaf f 260 (app1 (s260 true e) vs G)) (
fork f 271 (
leaf f 271 (app0 (orc 271) (hasTab Q G) (s271 true e) vs G)) (
leaf f 272 (app2 (s272 true e) vs G)))) (
fork f 273 (
leaf f 273 (app3 (s273 true e) vs G)) (
fork f 274 (
leaf f 274 (app3 (s274 true e) vs G)) (
leaf f 275 (app2 (s275 true e) vs G)))))) (
fork f 283 (
fork f 278 (
fork f 276 (
leaf f 276 (app2 (s276 true e) vs G)) (
fork f 277 (
leaf f 277 (app1 (s277 true e) vs G)) (
leaf f 278 (app1 (s278 true e) vs G)))) (
fork f 279 (
leaf f 279 (app1 (s279 true e) vs G)) (
fork f 282 (
leaf f 282 (app3 (s282 true e) vs G)) (
leaf f 283 (app2 (s283 true e) vs G))))) (
fork f 286 (
fork f 284 (
leaf f 284 (app0 (orc 284) (hasTab Q G) (s284 true e) vs G)) (
fork f 285 (
leaf f 285 (app1 (s285 true e) vs G)) (
leaf f 286 (app1 (s286 true e) vs G)))) (
fork f 287 (
leaf f 287 (app1 (s287 true e) vs G)) (
fork f 288 (
leaf f 288 (app2 (s288 true e) vs G)) (
leaf f 289 (app2 (s289 true e) vs G))))))))) (
fork f 401 (
fork f 354 (
fork f 334 (
fork f 295 (
fork f 292 (
fork f 290 (
leaf f 290 (app1 (s290 true e) vs G)) (
fork f 291 (
leaf f 291 (app2 (s291 true e) vs G)) (
leaf f 292 (app2 (s292 true e) vs G)))) (
fork f 293 (
leaf f 293 (app1 (s293 true e) vs G)) (
fork f 294 (
leaf f 294 (app1 (s294 true e) vs G)) (
leaf f 295 (app2 (s295 true e) vs G))))) (
fork f 302 (
fork f 297 (
leaf f 297 (app1 (s297 true e) vs G)) (
fork f 298 (
leaf f 298 (app2 (s298 true e) vs G)) (
leaf f 302 (app2 (s302 true e) vs G)))) (
fork f 320 (
leaf f 320 (app2 (s320 true e) vs G)) (
fork f 321 (
leaf f 321 (app2 (s321 true e) vs G)) (
leaf f 334 (app1 (s334 true e) vs G)))))) (
fork f 345 (
fork f 337 (
fork f 335 (
leaf f 335 (app2 (s335 true e) vs G)) (
fork f 336 (
leaf f 336 (app2 (s336 true e) vs G)) (
leaf f 337 (app1 (s337 true e) vs G)))) (
fork f 338 (
leaf f 338 (app2 (s338 true e) vs G)) (
fork f 339 (
leaf f 339 (app2 (s339 true e) vs G)) (
leaf f 345 (app2 (s345 true e) vs G))))) (
fork f 351 (
fork f 347 (
leaf f 347 (app1 (s347 true e) vs G)) (
fork f 349 (
leaf f 349 (app2 (s349 true e) vs G)) (
leaf f 351 (app4 (s351 true e) vs G)))) (
fork f 352 (
leaf f 352 (app2 (s352 true e) vs G)) (
fork f 353 (
leaf f 353 (app2 (s353 true e) vs G)) (
leaf f 354 (app2 (s354 true e) vs G))))))) (
fork f 366 (
fork f 360 (
fork f 357 (
fork f 355 (
leaf f 355 (app3 (s355 true e) vs G)) (
fork f 356 (
leaf f 356 (app2 (s356 true e) vs G)) (
leaf f 357 (app1 (s357 true e) vs G)))) (
fork f 358 (
leaf f 358 (app2 (s358 true e) vs G)) (
fork f 359 (
leaf f 359 (app2 (s359 true e) vs G)) (
leaf f 360 (app2 (s360 true e) vs G))))) (
fork f 363 (
fork f 361 (
leaf f 361 (app2 (s361 true e) vs G)) (
fork f 362 (
leaf f 362 (app2 (s362 true e) vs G)) (
leaf f 363 (app2 (s363 true e) vs G)))) (
fork f 364 (
leaf f 364 (app2 (s364 true e) vs G)) (
fork f 365 (
leaf f 365 (app1 (s365 true e) vs G)) (
leaf f 366 (app1 (s366 true e) vs G)))))) (
fork f 392 (
fork f 370 (
fork f 367 (
leaf f 367 (app1 (s367 true e) vs G)) (
fork f 368 (
leaf f 368 (app1 (s368 true e) vs G)) (
leaf f 370 (app2 (s370 true e) vs G)))) (
fork f 390 (
leaf f 390 (app1 (s390 true e) vs G)) (
fork f 391 (
leaf f 391 (app2 (s391 true e) vs G)) (
leaf f 392 (app2 (s392 true e) vs G))))) (
fork f 397 (
fork f 393 (
leaf f 393 (app1 (s393 true e) vs G)) (
fork f 394 (
leaf f 394 (app1 (s394 true e) vs G)) (
leaf f 397 (app3 (s397 true e) vs G)))) (
fork f 399 (
leaf f 399 (app3 (s399 true e) vs G)) (
fork f 400 (
leaf f 400 (app1 (s400 true e) vs G)) (
leaf f 401 (app5 (s401 true e) vs G)))))))) (
fork f 541 (
fork f 429 (
fork f 420 (
fork f 404 (
fork f 402 (
leaf f 402 (app1 (s402 true e) vs G)) (
fork f 403 (
leaf f 403 (app1 (s403 true e) vs G)) (
leaf f 404 (app4 (s404 true e) vs G)))) (
fork f 405 (
leaf f 405 (app1 (s405 true e) vs G)) (
fork f 419 (
leaf f 419 (app2 (s419 true e) vs G)) (
leaf f 420 (app1 (s420 true e) vs G))))) (
fork f 424 (
fork f 422 (
leaf f 422 (app4 (s422 true e) vs G)) (
fork f 423 (
leaf f 423 (app4 (s423 true e) vs G)) (
leaf f 424 (app5 (s424 true e) vs G)))) (
fork f 425 (
leaf f 425 (app3 (s425 true e) vs G)) (
fork f 426 (
leaf f 426 (app2 (s426 true e) vs G)) (
leaf f 429 (app2 (s429 true e) vs G)))))) (
fork f 531 (
fork f 521 (
fork f 435 (
leaf f 435 (app3 (s435 true e) vs G)) (
fork f 520 (
leaf f 520 (app1 (s520 true e) vs G)) (
leaf f 521 (app1 (s521 true e) vs G)))) (
fork f 529 (
leaf f 529 (app2 (s529 true e) vs G)) (
fork f 530 (
leaf f 530 (app2 (s530 true e) vs G)) (
leaf f 531 (app2 (s531 true e) vs G))))) (
fork f 538 (
fork f 532 (
leaf f 532 (app2 (s532 true e) vs G)) (
fork f 534 (
leaf f 534 (app2 (s534 true e) vs G)) (
leaf f 538 (app2 (s538 true e) vs G)))) (
fork f 539 (
leaf f 539 (app2 (s539 true e) vs G)) (
fork f 540 (
leaf f 540 (app1 (s540 true e) vs G)) (
leaf f 541 (app2 (s541 true e) vs G))))))) (
fork f 553 (
fork f 547 (
fork f 544 (
fork f 542 (
leaf f 542 (app2 (s542 true e) vs G)) (
fork f 543 (
leaf f 543 (app0 (orc 543) (hasTab Q G) (s543 true e) vs G)) (
leaf f 544 (app2 (s544 true e) vs G)))) (
fork f 545 (
leaf f 545 (app2 (s545 true e) vs G)) (
fork f 546 (
leaf f 546 (app2 (s546 true e) vs G)) (
leaf f 547 (app2 (s547 true e) vs G))))) (
fork f 550 (
fork f 548 (
leaf f 548 (app2 (s548 true e) vs G)) (
fork f 549 (
leaf f 549 (app2 (s549 true e) vs G)) (
leaf f 550 (app2 (s550 true e) vs G)))) (
fork f 551 (
leaf f 551 (app2 (s551 true e) vs G)) (
fork f 552 (
leaf f 552 (app2 (s552 true e) vs G)) (
leaf f 553 (app2 (s553 true e) vs G)))))) (
fork f 559 (
fork f 556 (
fork f 554 (
leaf f 554 (app2 (s554 true e) vs G)) (
fork f 555 (
leaf f 555 (app2 (s555 true e) vs G)) (
leaf f 556 (app2 (s556 true e) vs G)))) (
fork f 557 (
leaf f 557 (app1 (s557 true e) vs G)) (
fork f 558 (
leaf f 558 (app2 (s558 true e) vs G)) (
leaf f 559 (app1 (s559 true e) vs G))))) (
fork f 562 (
fork f 560 (
leaf f 560 (app3 (s560 true e) vs G)) (
fork f 561 (
leaf f 561 (app5 (s561 true e) vs G)) (
leaf f 562 (app1 (s562 true e) vs G)))) (
fork f 563 (
leaf f 563 (app1 (s563 true e) vs G)) (
fork f 564 (
leaf f 564 (app1 (s564 true e) vs G)) (
leaf f 565 (app1 (s565 true e) vs G)))))))))
theorem clT_ok {orc : FuncId → Bool} {e : Ex} (h : ExLe Q e (E orc)) (f : FuncId) (vs : List Value) (G : GS) : Ref (clT orc e f vs G) ((E orc).cl f vs G) :=
  Ref.fork (
Ref.fork (
Ref.fork (
Ref.fork (
Ref.fork (
Ref.fork (
Ref.fork (
Ref.leaf (y := fun f => (E orc).cl f vs G) (Ref.app1 (fun u0 G => f9 h u0 G) vs G)) (
Ref.leaf (y := fun f => (E orc).cl f vs G) (Ref.app4 (fun u0 u1 u2 u3 G => f23 h u0 u1 u2 u3 G) vs G))) (
Ref.fork (
Ref.leaf (y := fun f => (E orc).cl f vs G) (Ref.app3 (fun u0 u1 u2 G => f24 h u0 u1 u2 G) vs G)) (
Ref.fork (
Ref.leaf (y := fun f => (E orc).cl f vs G) (Ref.app2 (fun u0 u1 G => f25 h u0 u1 G) vs G)) (
Ref.leaf (y := fun f => (E orc).cl f vs G) (Ref.app2 (fun u0 u1 G => f26 h u0 u1 G) vs G))))) (
Ref.fork (
Ref.fork (
Ref.leaf (y := fun f => (E orc).cl f vs G) (Ref.app0 (fun ho G => f27 h ho G) vs G)) (
Ref.fork (
Ref.leaf (y := fun f => (E orc).cl f vs G) (Ref.app2 (fun u0 u1 G => f28 h u0 u1 G) vs G)) (
Ref.leaf (y := fun f => (E orc).cl f vs G) (Ref.app3 (fun u0 u1 u2 G => f45 h u0 u1 u2 G) vs G)))) (
Ref.fork (
Ref.leaf (y := fun f => (E orc).cl f vs G) (Ref.app1 (fun u0 G => f53 h u0 G) vs G)) (
Ref.fork (
Ref.leaf (y := fun f => (E orc).cl f vs G) (Ref.app4 (fun u0 u1 u2 u3 G => f68 h u0 u1 u2 u3 G) vs G)) (
Ref.leaf (y := fun f => (E orc).cl f vs G) (Ref.app3 (fun u0 u1 u2 G => f69 h u0 u1 u2 G) vs G)))))) (
Ref.fork (
Ref.fork (
Ref.fork (
Ref.leaf (y := fun f => (E orc).cl f vs G) (Ref.app2 (fun u0 u1 G => f72 h u0 u1 G) vs G)) (
Ref.fork (
Ref.leaf (y := fun f => (E orc).cl f vs G) (Ref.app2 (fun u0 u1 G => f87 h u0 u1 G) vs G)) (
Ref.leaf (y := fun f => (E orc).cl f vs G) (Ref.app3 (fun u0 u1 u2 G => f88 h u0 u1 u2 G) vs G)))) (
Ref.fork (
Ref.leaf (y := fun f => (E orc).cl f vs G) (Ref.app1 (fun u0 G => f89 h u0 G) vs G)) (
Ref.fork (
Ref.leaf (y := fun f => (E orc).cl f vs G) (Ref.app1 (fun u0 G => f90 h u0 G) vs G)) (
Ref.leaf (y := fun f => (E orc).cl f vs G) (Ref.app2 (fun u0 u1 G => f91 h u0 u1 G) vs G))))) (
Ref.fork (
Ref.fork (
Ref.leaf (y := fun f => (E orc).cl f vs G) (Ref.app1 (fun u0 G => f92 h u0 G) vs G)) (
Ref.fork (
Ref.leaf (y := fun f => (E orc).cl f vs G) (Ref.app1 (fun u0 G => f93 h u0 G) vs G)) (
Ref.leaf (y := fun f => (E orc).cl f vs G) (Ref.app1 (fun u0 G => f94 h u0 G) vs G)))) (
Ref.fork (
Ref.leaf (y := fun f => (E orc).cl f vs G) (Ref.app1 (fun u0 G => f95 h u0 G) vs G)) (
Ref.fork (
Ref.leaf (y := fun f => (E orc).cl f vs G) (Ref.app1 (fun u0 G => f96 h u0 G) vs G)) (
Ref.leaf (y := fun f => (E orc).cl f vs G) (Ref.app1 (fun u0 G => f97 h u0 G) vs G))))))) (
Ref.fork (
Ref.fork (
Ref.fork (
Ref.fork (
Ref.leaf (y := fun f => (E orc).cl f vs G) (Ref.app0 (fun ho G => f98 h ho G) vs G)) (
Ref.fork (
Ref.leaf (y := fun f => (E orc).cl f vs G) (Ref.app0 (fun ho G => f99 h ho G) vs G)) (
Ref.leaf (y := fun f => (E orc).cl f vs G) (Ref.app3 (fun u0 u1 u2 G => f100 h u0 u1 u2 G) vs G)))) (
Ref.fork (
Ref.leaf (y := fun f => (E orc).cl f vs G) (Ref.app2 (fun u0 u1 G => f101 h u0 u1 G) vs G)) (
Ref.fork (
Ref.leaf (y := fun f => (E orc).cl f vs G) (Ref.app1 (fun u0 G => f102 h u0 G) vs G)) (
Ref.leaf (y := fun f => (E orc).cl f vs G) (Ref.app1 (fun u0 G => f103 h u0 G) vs G))))) (
Ref.fork (
Ref.fork (
Ref.leaf (y := fun f => (E orc).cl f vs G) (Ref.app2 (fun u0 u1 G => f104 h u0 u1 G) vs G)) (
Ref.fork (
Ref.leaf (y := fun f => (E orc).cl f vs G) (Ref.app1 (fun u0 G => f105 h u0 G) vs G)) (
Ref.leaf (y := fun f => (E orc).cl f vs G) (Ref.app2 (fun u0 u1 G => f106 h u0 u1 G) vs G)))) (
Ref.fork (
Ref.leaf (y := fun f => (E orc).cl f vs G) (Ref.app5 (fun u0 u1 u2 u3 u4 G => f107 h u0 u1 u2 u3 u4 G) vs G)) (
Ref.fork (
Ref.leaf (y := fun f => (E orc).cl f vs G) (Ref.app1 (fun u0 G => f115 h u0 G) vs G)) (
Ref.leaf (y := fun f => (E orc).cl f vs G) (Ref.app2 (fun u0 u1 G => f156 h u0 u1 G) vs G)))))) (
Ref.fork (
Ref.fork (
Ref.fork (
Ref.leaf (y := fun f => (E orc).cl f vs G) (Ref.app2 (fun u0 u1 G => f158 h u0 u1 G) vs G)) (
Ref.fork (
Ref.leaf (y := fun f => (E orc).cl f vs G) (Ref.app5 (fun u0 u1 u2 u3 u4 G => f159 h u0 u1 u2 u3 u4 G) vs G)) (
Ref.leaf (y := fun f => (E orc).cl f vs G) (Ref.app1 (fun u0 G => f160 h u0 G) vs G)))) (
Ref.fork (
Ref.leaf (y := fun f => (E orc).cl f vs G) (Ref.app2 (fun u0 u1 G => f171 h u0 u1 G) vs G)) (
Ref.fork (
Ref.leaf (y := fun f => (E orc).cl f vs G) (Ref.app1 (fun u0 G => f173 h u0 G) vs G)) (
Ref.leaf (y := fun f => (E orc).cl f vs G) (Ref.app1 (fun u0 G => f174 h u0 G) vs G))))) (
Ref.fork (
Ref.fork (
Ref.leaf (y := fun f => (E orc).cl f vs G) (Ref.app2 (fun u0 u1 G => f177 h u0 u1 G) vs G)) (
Ref.fork (
Ref.leaf (y := fun f => (E orc).cl f vs G) (Ref.app2 (fun u0 u1 G => f179 h u0 u1 G) vs G)) (
Ref.leaf (y := fun f => (E orc).cl f vs G) (Ref.app1 (fun u0 G => f189 h u0 G) vs G)))) (
Ref.fork (
Ref.leaf (y := fun f => (E orc).cl f vs G) (Ref.app3 (fun u0 u1 u2 G => f191 h u0 u1 u2 G) vs G)) (
Ref.fork (
Ref.leaf (y := fun f => (E orc).cl f vs G) (Ref.app1 (fun u0 G => f192 h u0 G) vs G)) (
Ref.leaf (y := fun f => (E orc).cl f vs G) (Ref.app1 (fun u0 G => f193 h u0 G) vs G)))))))) (
Ref.fork (
Ref.fork (
Ref.fork (
Ref.fork (
Ref.fork (
Ref.leaf (y := fun f => (E orc).cl f vs G) (Ref.app2 (fun u0 u1 G => f194 h u0 u1 G) vs G)) (
Ref.fork (
Ref.leaf (y := fun f => (E orc).cl f vs G) (Ref.app1 (fun u0 G => f195 h u0 G) vs G)) (
Ref.leaf (y := fun f => (E orc).cl f vs G) (Ref.app2 (fun u0 u1 G => f196 h u0 u1 G) vs G)))) (
Ref.fork (
Ref.leaf (y := fun f => (E orc).cl f vs G) (Ref.app1 (fun u0 G => f197 h u0 G) vs G)) (
Ref.fork (
Ref.leaf (y := fun f => (E orc).cl f vs G) (Ref.app3 (fun u0 u1 u2 G => f198 h u0 u1 u2 G) vs G)) (
Ref.leaf (y := fun f => (E orc).cl f vs G) (Ref.app3 (fun u0 u1 u2 G => f201 h u0 u1 u2 G) vs G))))) (
Ref.fork (
Ref.fork (
Ref.leaf (y := fun f => (E orc).cl f vs G) (Ref.app2 (fun u0 u1 G => f202 h u0 u1 G) vs G)) (
Ref.fork (
Ref.leaf (y := fun f => (E orc).cl f vs G) (Ref.app1 (fun u0 G => f203 h u0 G) vs G)) (
Ref.leaf (y := fun f => (E orc).cl f vs G) (Ref.app3 (fun u0 u1 u2 G => f204 h u0 u1 u2 G) vs G)))) (
Ref.fork (
Ref.leaf (y := fun f => (E orc).cl f vs G) (Ref.app2 (fun u0 u1 G => f205 h u0 u1 G) vs G)) (
Ref.fork (
Ref.leaf (y := fun f => (E orc).cl f vs G) (Ref.app3 (fun u0 u1 u2 G => f206 h u0 u1 u2 G) vs G)) (
Ref.leaf (y := fun f => (E orc).cl f vs G) (Ref.app3 (fun u0 u1 u2 G => f207 h u0 u1 u2 G) vs G)))))) (
Ref.fork (
Ref.fork (
Ref.fork (
Ref.leaf (y := fun f => (E orc).cl f vs G) (Ref.app2 (fun u0 u1 G => f208 h u0 u1 G) vs G)) (
Ref.fork (
Ref.leaf (y := fun f => (E orc).cl f vs G) (Ref.app3 (fun u0 u1 u2 G => f209 h u0 u1 u2 G) vs G)) (
Ref.leaf (y := fun f => (E orc).cl f vs G) (Ref.app4 (fun u0 u1 u2 u3 G => f210 h u0 u1 u2 u3 G) vs G)))) (
Ref.fork (
Ref.leaf (y := fun f => (E orc).cl f vs G) (Ref.app2 (fun u0 u1 G => f211 h u0 u1 G) vs G)) (
Ref.fork (
Ref.leaf (y := fun f => (E orc).cl f vs G) (Ref.app3 (fun u0 u1 u2 G => f212 h u0 u1 u2 G) vs G)) (
Ref.leaf (y := fun f => (E orc).cl f vs G) (Ref.app2 (fun u0 u1 G => f213 h u0 u1 G) vs G))))) (
Ref.fork (
Ref.fork (
Ref.leaf (y := fun f => (E orc).cl f vs G) (Ref.app1 (fun u0 G => f214 h u0 G) vs G)) (
Ref.fork (
Ref.leaf (y := fun f => (E orc).cl f vs G) (Ref.app1 (fun u0 G => f215 h u0 G) vs G)) (
Ref.leaf (y := fun f => (E orc).cl f vs G) (Ref.app1 (fun u0 G => f220 h u0 G) vs G)))) (
Ref.fork (
Ref.leaf (y := fun f => (E orc).cl f vs G) (Ref.app2 (fun u0 u1 G => f223 h u0 u1 G) vs G)) (
Ref.fork (
Ref.leaf (y := fun f => (E orc).cl f vs G) (Ref.app1 (fun u0 G => f226 h u0 G) vs G)) (
Ref.leaf (y := fun f => (E orc).cl f vs G) (Ref.app2 (fun u0 u1 G => f246 h u0 u1 G) vs G))))))) (
Ref.fork (
Ref.fork (
Ref.fork (
Ref.fork (
Ref.leaf (y := fun f => (E orc).cl f vs G) (Ref.app1 (fun u0 G => f248 h u0 G) vs G)) (
Ref.fork (
Ref.leaf (y := fun f => (E orc).cl f vs G) (Ref.app1 (fun u0 G => f254 h u0 G) vs G)) (
Ref.leaf (y := fun f => (E orc).cl f vs G) (Ref.app1 (fun u0 G => f256 h u0 G) vs G)))) (
Ref.fork (
Ref.leaf (y := fun f => (E orc).cl f vs G) (Ref.app2 (fun u0 u1 G => f257 h u0 u1 G) vs G)) (
Ref.fork (
Ref.leaf (y := fun f => (E orc).cl f vs G) (Ref.app1 (fun u0 G => f258 h u0 G) vs G)) (
Ref.leaf (y := fun f => (E orc).cl f vs G) (Ref.app2 (fun u0 u1 G => f259 h u0 u1 G) vs G))))) (
Ref.fork (
Ref.fork (
Ref.leaf (y := fun f => (E orc).cl f vs G) (Ref.app1 (fun u0 G => f260 h u0 G) vs G)) (
Ref.fork (
Ref.leaf (y := fun f => (E orc).cl f vs G) (Ref.app0 (fun ho G => f271 h ho G) vs G)) (
Ref.leaf (y := fun f => (E orc).cl f vs G) (Ref.app2 (fun u0 u1 G => f272 h u0 u1 G) vs G)))) (
Ref.fork (
Ref.leaf (y := fun f => (E orc).cl f vs G) (Ref.app3 (fun u0 u1 u2 G => f273 h u0 u1 u2 G) vs G)) (
Ref.fork (
Ref.leaf (y := fun f => (E orc).cl f vs G) (Ref.app3 (fun u0 u1 u2 G => f274 h u0 u1 u2 G) vs G)) (
Ref.leaf (y := fun f => (E orc).cl f vs G) (Ref.app2 (fun u0 u1 G => f275 h u0 u1 G) vs G)))))) (
Ref.fork (
Ref.fork (
Ref.fork (
Ref.leaf (y := fun f => (E orc).cl f vs G) (Ref.app2 (fun u0 u1 G => f276 h u0 u1 G) vs G)) (
Ref.fork (
Ref.leaf (y := fun f => (E orc).cl f vs G) (Ref.app1 (fun u0 G => f277 h u0 G) vs G)) (
Ref.leaf (y := fun f => (E orc).cl f vs G) (Ref.app1 (fun u0 G => f278 h u0 G) vs G)))) (
Ref.fork (
Ref.leaf (y := fun f => (E orc).cl f vs G) (Ref.app1 (fun u0 G => f279 h u0 G) vs G)) (
Ref.fork (
Ref.leaf (y := fun f => (E orc).cl f vs G) (Ref.app3 (fun u0 u1 u2 G => f282 h u0 u1 u2 G) vs G)) (
Ref.leaf (y := fun f => (E orc).cl f vs G) (Ref.app2 (fun u0 u1 G => f283 h u0 u1 G) vs G))))) (
Ref.fork (
Ref.fork (
Ref.leaf (y := fun f => (E orc).cl f vs G) (Ref.app0 (fun ho G => f284 h ho G) vs G)) (
Ref.fork (
Ref.leaf (y := fun f => (E orc).cl f vs G) (Ref.app1 (fun u0 G => f285 h u0 G) vs G)) (
Ref.leaf (y := fun f => (E orc).cl f vs G) (Ref.app1 (fun u0 G => f286 h u0 G) vs G)))) (
Ref.fork (
Ref.leaf (y := fun f => (E orc).cl f vs G) (Ref.app1 (fun u0 G => f287 h u0 G) vs G)) (
Ref.fork (
Ref.leaf (y := fun f => (E orc).cl f vs G) (Ref.app2 (fun u0 u1 G => f288 h u0 u1 G) vs G)) (
Ref.leaf (y := fun f => (E orc).cl f vs G) (Ref.app2 (fun u0 u1 G => f289 h u0 u1 G) vs G))))))))) (
Ref.fork (
Ref.fork (
Ref.fork (
Ref.fork (
Ref.fork (
Ref.fork (
Ref.leaf (y := fun f => (E orc).cl f vs G) (Ref.app1 (fun u0 G => f290 h u0 G) vs G)) (
Ref.fork (
Ref.leaf (y := fun f => (E orc).cl f vs G) (Ref.app2 (fun u0 u1 G => f291 h u0 u1 G) vs G)) (
Ref.leaf (y := fun f => (E orc).cl f vs G) (Ref.app2 (fun u0 u1 G => f292 h u0 u1 G) vs G)))) (
Ref.fork (
Ref.leaf (y := fun f => (E orc).cl f vs G) (Ref.app1 (fun u0 G => f293 h u0 G) vs G)) (
Ref.fork (
Ref.leaf (y := fun f => (E orc).cl f vs G) (Ref.app1 (fun u0 G => f294 h u0 G) vs G)) (
Ref.leaf (y := fun f => (E orc).cl f vs G) (Ref.app2 (fun u0 u1 G => f295 h u0 u1 G) vs G))))) (
Ref.fork (
Ref.fork (
Ref.leaf (y := fun f => (E orc).cl f vs G) (Ref.app1 (fun u0 G => f297 h u0 G) vs G)) (
Ref.fork (
Ref.leaf (y := fun f => (E orc).cl f vs G) (Ref.app2 (fun u0 u1 G => f298 h u0 u1 G) vs G)) (
Ref.leaf (y := fun f => (E orc).cl f vs G) (Ref.app2 (fun u0 u1 G => f302 h u0 u1 G) vs G)))) (
Ref.fork (
Ref.leaf (y := fun f => (E orc).cl f vs G) (Ref.app2 (fun u0 u1 G => f320 h u0 u1 G) vs G)) (
Ref.fork (
Ref.leaf (y := fun f => (E orc).cl f vs G) (Ref.app2 (fun u0 u1 G => f321 h u0 u1 G) vs G)) (
Ref.leaf (y := fun f => (E orc).cl f vs G) (Ref.app1 (fun u0 G => f334 h u0 G) vs G)))))) (
Ref.fork (
Ref.fork (
Ref.fork (
Ref.leaf (y := fun f => (E orc).cl f vs G) (Ref.app2 (fun u0 u1 G => f335 h u0 u1 G) vs G)) (
Ref.fork (
Ref.leaf (y := fun f => (E orc).cl f vs G) (Ref.app2 (fun u0 u1 G => f336 h u0 u1 G) vs G)) (
Ref.leaf (y := fun f => (E orc).cl f vs G) (Ref.app1 (fun u0 G => f337 h u0 G) vs G)))) (
Ref.fork (
Ref.leaf (y := fun f => (E orc).cl f vs G) (Ref.app2 (fun u0 u1 G => f338 h u0 u1 G) vs G)) (
Ref.fork (
Ref.leaf (y := fun f => (E orc).cl f vs G) (Ref.app2 (fun u0 u1 G => f339 h u0 u1 G) vs G)) (
Ref.leaf (y := fun f => (E orc).cl f vs G) (Ref.app2 (fun u0 u1 G => f345 h u0 u1 G) vs G))))) (
Ref.fork (
Ref.fork (
Ref.leaf (y := fun f => (E orc).cl f vs G) (Ref.app1 (fun u0 G => f347 h u0 G) vs G)) (
Ref.fork (
Ref.leaf (y := fun f => (E orc).cl f vs G) (Ref.app2 (fun u0 u1 G => f349 h u0 u1 G) vs G)) (
Ref.leaf (y := fun f => (E orc).cl f vs G) (Ref.app4 (fun u0 u1 u2 u3 G => f351 h u0 u1 u2 u3 G) vs G)))) (
Ref.fork (
Ref.leaf (y := fun f => (E orc).cl f vs G) (Ref.app2 (fun u0 u1 G => f352 h u0 u1 G) vs G)) (
Ref.fork (
Ref.leaf (y := fun f => (E orc).cl f vs G) (Ref.app2 (fun u0 u1 G => f353 h u0 u1 G) vs G)) (
Ref.leaf (y := fun f => (E orc).cl f vs G) (Ref.app2 (fun u0 u1 G => f354 h u0 u1 G) vs G))))))) (
Ref.fork (
Ref.fork (
Ref.fork (
Ref.fork (
Ref.leaf (y := fun f => (E orc).cl f vs G) (Ref.app3 (fun u0 u1 u2 G => f355 h u0 u1 u2 G) vs G)) (
Ref.fork (
Ref.leaf (y := fun f => (E orc).cl f vs G) (Ref.app2 (fun u0 u1 G => f356 h u0 u1 G) vs G)) (
Ref.leaf (y := fun f => (E orc).cl f vs G) (Ref.app1 (fun u0 G => f357 h u0 G) vs G)))) (
Ref.fork (
Ref.leaf (y := fun f => (E orc).cl f vs G) (Ref.app2 (fun u0 u1 G => f358 h u0 u1 G) vs G)) (
Ref.fork (
Ref.leaf (y := fun f => (E orc).cl f vs G) (Ref.app2 (fun u0 u1 G => f359 h u0 u1 G) vs G)) (
Ref.leaf (y := fun f => (E orc).cl f vs G) (Ref.app2 (fun u0 u1 G => f360 h u0 u1 G) vs G))))) (
Ref.fork (
Ref.fork (
Ref.leaf (y := fun f => (E orc).cl f vs G) (Ref.app2 (fun u0 u1 G => f361 h u0 u1 G) vs G)) (
Ref.fork (
Ref.leaf (y := fun f => (E orc).cl f vs G) (Ref.app2 (fun u0 u1 G => f362 h u0 u1 G) vs G)) (
Ref.leaf (y := fun f => (E orc).cl f vs G) (Ref.app2 (fun u0 u1 G => f363 h u0 u1 G) vs G)))) (
Ref.fork (
Ref.leaf (y := fun f => (E orc).cl f vs G) (Ref.app2 (fun u0 u1 G => f364 h u0 u1 G) vs G)) (
Ref.fork (
Ref.leaf (y := fun f => (E orc).cl f vs G) (Ref.app1 (fun u0 G => f365 h u0 G) vs G)) (
Ref.leaf (y := fun f => (E orc).cl f vs G) (Ref.app1 (fun u0 G => f366 h u0 G) vs G)))))) (
Ref.fork (
Ref.fork (
Ref.fork (
Ref.leaf (y := fun f => (E orc).cl f vs G) (Ref.app1 (fun u0 G => f367 h u0 G) vs G)) (
Ref.fork (
Ref.leaf (y := fun f => (E orc).cl f vs G) (Ref.app1 (fun u0 G => f368 h u0 G) vs G)) (
Ref.leaf (y := fun f => (E orc).cl f vs G) (Ref.app2 (fun u0 u1 G => f370 h u0 u1 G) vs G)))) (
Ref.fork (
Ref.leaf (y := fun f => (E orc).cl f vs G) (Ref.app1 (fun u0 G => f390 h u0 G) vs G)) (
Ref.fork (
Ref.leaf (y := fun f => (E orc).cl f vs G) (Ref.app2 (fun u0 u1 G => f391 h u0 u1 G) vs G)) (
Ref.leaf (y := fun f => (E orc).cl f vs G) (Ref.app2 (fun u0 u1 G => f392 h u0 u1 G) vs G))))) (
Ref.fork (
Ref.fork (
Ref.leaf (y := fun f => (E orc).cl f vs G) (Ref.app1 (fun u0 G => f393 h u0 G) vs G)) (
Ref.fork (
Ref.leaf (y := fun f => (E orc).cl f vs G) (Ref.app1 (fun u0 G => f394 h u0 G) vs G)) (
Ref.leaf (y := fun f => (E orc).cl f vs G) (Ref.app3 (fun u0 u1 u2 G => f397 h u0 u1 u2 G) vs G)))) (
Ref.fork (
Ref.leaf (y := fun f => (E orc).cl f vs G) (Ref.app3 (fun u0 u1 u2 G => f399 h u0 u1 u2 G) vs G)) (
Ref.fork (
Ref.leaf (y := fun f => (E orc).cl f vs G) (Ref.app1 (fun u0 G => f400 h u0 G) vs G)) (
Ref.leaf (y := fun f => (E orc).cl f vs G) (Ref.app5 (fun u0 u1 u2 u3 u4 G => f401 h u0 u1 u2 u3 u4 G) vs G)))))))) (
Ref.fork (
Ref.fork (
Ref.fork (
Ref.fork (
Ref.fork (
Ref.leaf (y := fun f => (E orc).cl f vs G) (Ref.app1 (fun u0 G => f402 h u0 G) vs G)) (
Ref.fork (
Ref.leaf (y := fun f => (E orc).cl f vs G) (Ref.app1 (fun u0 G => f403 h u0 G) vs G)) (
Ref.leaf (y := fun f => (E orc).cl f vs G) (Ref.app4 (fun u0 u1 u2 u3 G => f404 h u0 u1 u2 u3 G) vs G)))) (
Ref.fork (
Ref.leaf (y := fun f => (E orc).cl f vs G) (Ref.app1 (fun u0 G => f405 h u0 G) vs G)) (
Ref.fork (
Ref.leaf (y := fun f => (E orc).cl f vs G) (Ref.app2 (fun u0 u1 G => f419 h u0 u1 G) vs G)) (
Ref.leaf (y := fun f => (E orc).cl f vs G) (Ref.app1 (fun u0 G => f420 h u0 G) vs G))))) (
Ref.fork (
Ref.fork (
Ref.leaf (y := fun f => (E orc).cl f vs G) (Ref.app4 (fun u0 u1 u2 u3 G => f422 h u0 u1 u2 u3 G) vs G)) (
Ref.fork (
Ref.leaf (y := fun f => (E orc).cl f vs G) (Ref.app4 (fun u0 u1 u2 u3 G => f423 h u0 u1 u2 u3 G) vs G)) (
Ref.leaf (y := fun f => (E orc).cl f vs G) (Ref.app5 (fun u0 u1 u2 u3 u4 G => f424 h u0 u1 u2 u3 u4 G) vs G)))) (
Ref.fork (
Ref.leaf (y := fun f => (E orc).cl f vs G) (Ref.app3 (fun u0 u1 u2 G => f425 h u0 u1 u2 G) vs G)) (
Ref.fork (
Ref.leaf (y := fun f => (E orc).cl f vs G) (Ref.app2 (fun u0 u1 G => f426 h u0 u1 G) vs G)) (
Ref.leaf (y := fun f => (E orc).cl f vs G) (Ref.app2 (fun u0 u1 G => f429 h u0 u1 G) vs G)))))) (
Ref.fork (
Ref.fork (
Ref.fork (
Ref.leaf (y := fun f => (E orc).cl f vs G) (Ref.app3 (fun u0 u1 u2 G => f435 h u0 u1 u2 G) vs G)) (
Ref.fork (
Ref.leaf (y := fun f => (E orc).cl f vs G) (Ref.app1 (fun u0 G => f520 h u0 G) vs G)) (
Ref.leaf (y := fun f => (E orc).cl f vs G) (Ref.app1 (fun u0 G => f521 h u0 G) vs G)))) (
Ref.fork (
Ref.leaf (y := fun f => (E orc).cl f vs G) (Ref.app2 (fun u0 u1 G => f529 h u0 u1 G) vs G)) (
Ref.fork (
Ref.leaf (y := fun f => (E orc).cl f vs G) (Ref.app2 (fun u0 u1 G => f530 h u0 u1 G) vs G)) (
Ref.leaf (y := fun f => (E orc).cl f vs G) (Ref.app2 (fun u0 u1 G => f531 h u0 u1 G) vs G))))) (
Ref.fork (
Ref.fork (
Ref.leaf (y := fun f => (E orc).cl f vs G) (Ref.app2 (fun u0 u1 G => f532 h u0 u1 G) vs G)) (
Ref.fork (
Ref.leaf (y := fun f => (E orc).cl f vs G) (Ref.app2 (fun u0 u1 G => f534 h u0 u1 G) vs G)) (
Ref.leaf (y := fun f => (E orc).cl f vs G) (Ref.app2 (fun u0 u1 G => f538 h u0 u1 G) vs G)))) (
Ref.fork (
Ref.leaf (y := fun f => (E orc).cl f vs G) (Ref.app2 (fun u0 u1 G => f539 h u0 u1 G) vs G)) (
Ref.fork (
Ref.leaf (y := fun f => (E orc).cl f vs G) (Ref.app1 (fun u0 G => f540 h u0 G) vs G)) (
Ref.leaf (y := fun f => (E orc).cl f vs G) (Ref.app2 (fun u0 u1 G => f541 h u0 u1 G) vs G))))))) (
Ref.fork (
Ref.fork (
Ref.fork (
Ref.fork (
Ref.leaf (y := fun f => (E orc).cl f vs G) (Ref.app2 (fun u0 u1 G => f542 h u0 u1 G) vs G)) (
Ref.fork (
Ref.leaf (y := fun f => (E orc).cl f vs G) (Ref.app0 (fun ho G => f543 h ho G) vs G)) (
Ref.leaf (y := fun f => (E orc).cl f vs G) (Ref.app2 (fun u0 u1 G => f544 h u0 u1 G) vs G)))) (
Ref.fork (
Ref.leaf (y := fun f => (E orc).cl f vs G) (Ref.app2 (fun u0 u1 G => f545 h u0 u1 G) vs G)) (
Ref.fork (
Ref.leaf (y := fun f => (E orc).cl f vs G) (Ref.app2 (fun u0 u1 G => f546 h u0 u1 G) vs G)) (
Ref.leaf (y := fun f => (E orc).cl f vs G) (Ref.app2 (fun u0 u1 G => f547 h u0 u1 G) vs G))))) (
Ref.fork (
Ref.fork (
Ref.leaf (y := fun f => (E orc).cl f vs G) (Ref.app2 (fun u0 u1 G => f548 h u0 u1 G) vs G)) (
Ref.fork (
Ref.leaf (y := fun f => (E orc).cl f vs G) (Ref.app2 (fun u0 u1 G => f549 h u0 u1 G) vs G)) (
Ref.leaf (y := fun f => (E orc).cl f vs G) (Ref.app2 (fun u0 u1 G => f550 h u0 u1 G) vs G)))) (
Ref.fork (
Ref.leaf (y := fun f => (E orc).cl f vs G) (Ref.app2 (fun u0 u1 G => f551 h u0 u1 G) vs G)) (
Ref.fork (
Ref.leaf (y := fun f => (E orc).cl f vs G) (Ref.app2 (fun u0 u1 G => f552 h u0 u1 G) vs G)) (
Ref.leaf (y := fun f => (E orc).cl f vs G) (Ref.app2 (fun u0 u1 G => f553 h u0 u1 G) vs G)))))) (
Ref.fork (
Ref.fork (
Ref.fork (
Ref.leaf (y := fun f => (E orc).cl f vs G) (Ref.app2 (fun u0 u1 G => f554 h u0 u1 G) vs G)) (
Ref.fork (
Ref.leaf (y := fun f => (E orc).cl f vs G) (Ref.app2 (fun u0 u1 G => f555 h u0 u1 G) vs G)) (
Ref.leaf (y := fun f => (E orc).cl f vs G) (Ref.app2 (fun u0 u1 G => f556 h u0 u1 G) vs G)))) (
Ref.fork (
Ref.leaf (y := fun f => (E orc).cl f vs G) (Ref.app1 (fun u0 G => f557 h u0 G) vs G)) (
Ref.fork (
Ref.leaf (y := fun f => (E orc).cl f vs G) (Ref.app2 (fun u0 u1 G => f558 h u0 u1 G) vs G)) (
Ref.leaf (y := fun f => (E orc).cl f vs G) (Ref.app1 (fun u0 G => f559 h u0 G) vs G))))) (
Ref.fork (
Ref.fork (
Ref.leaf (y := fun f => (E orc).cl f vs G) (Ref.app3 (fun u0 u1 u2 G => f560 h u0 u1 u2 G) vs G)) (
Ref.fork (
Ref.leaf (y := fun f => (E orc).cl f vs G) (Ref.app5 (fun u0 u1 u2 u3 u4 G => f561 h u0 u1 u2 u3 u4 G) vs G)) (
Ref.leaf (y := fun f => (E orc).cl f vs G) (Ref.app1 (fun u0 G => f562 h u0 G) vs G)))) (
Ref.fork (
Ref.leaf (y := fun f => (E orc).cl f vs G) (Ref.app1 (fun u0 G => f563 h u0 G) vs G)) (
Ref.fork (
Ref.leaf (y := fun f => (E orc).cl f vs G) (Ref.app1 (fun u0 G => f564 h u0 G) vs G)) (
Ref.leaf (y := fun f => (E orc).cl f vs G) (Ref.app1 (fun u0 G => f565 h u0 G) vs G)))))))))
noncomputable def lpT (FUEL : Nat) (e : Ex) (f k : Nat) (τ : Env) (G : GS) : Option (Exit × Env × GS) :=
  fork f 246 (
fork f 196 (
fork f 96 (
fork f 26 (
leaf f 26 (leaf k 0 (lpS 39 (b26_0 true e) FUEL τ G))) (
fork f 53 (
leaf f 53 (leaf k 0 (lpS 42 (b53_0 true e) FUEL τ G))) (
leaf f 96 (leaf k 0 (lpS 20 (b96_0 true e) FUEL τ G))))) (
fork f 156 (
leaf f 156 (leaf k 0 (lpS 24 (b156_0 true e) FUEL τ G))) (
fork f 171 (
leaf f 171 (leaf k 0 (lpS 29 (b171_0 true e) FUEL τ G))) (
leaf f 196 (leaf k 0 (lpS 195 (b196_0 true e) FUEL τ G)))))) (
fork f 207 (
fork f 205 (
leaf f 205 (fork k 1 (fork k 0 (leaf k 0 (lpS 74 (b205_0 true e) FUEL τ G)) (leaf k 1 (lpS 74 (b205_1 true e) FUEL τ G))) (fork k 2 (leaf k 2 (lpS 74 (b205_2 true e) FUEL τ G)) (leaf k 3 (lpS 74 (b205_3 true e) FUEL τ G))))) (
fork f 206 (
leaf f 206 (leaf k 0 (lpS 26 (b206_0 true e) FUEL τ G))) (
leaf f 207 (leaf k 0 (lpS 36 (b207_0 true e) FUEL τ G))))) (
fork f 210 (
fork f 209 (
leaf f 209 (leaf k 0 (lpS 27 (b209_0 true e) FUEL τ G))) (
leaf f 210 (leaf k 0 (lpS 40 (b210_0 true e) FUEL τ G)))) (
fork f 212 (
leaf f 212 (leaf k 0 (lpS 29 (b212_0 true e) FUEL τ G))) (
leaf f 246 (leaf k 0 (lpS 23 (b246_0 true e) FUEL τ G))))))) (
fork f 358 (
fork f 351 (
fork f 257 (
leaf f 257 (leaf k 0 (lpS 34 (b257_0 true e) FUEL τ G))) (
fork f 295 (
leaf f 295 (leaf k 0 (lpS 91 (b295_0 true e) FUEL τ G))) (
leaf f 351 (leaf k 0 (lpS 40 (b351_0 true e) FUEL τ G))))) (
fork f 355 (
leaf f 355 (leaf k 0 (lpS 35 (b355_0 true e) FUEL τ G))) (
fork f 357 (
leaf f 357 (leaf k 0 (lpS 24 (b357_0 true e) FUEL τ G))) (
leaf f 358 (leaf k 0 (lpS 24 (b358_0 true e) FUEL τ G)))))) (
fork f 539 (
fork f 359 (
leaf f 359 (leaf k 0 (lpS 18 (b359_0 true e) FUEL τ G))) (
fork f 397 (
leaf f 397 (leaf k 0 (lpS 25 (b397_0 true e) FUEL τ G))) (
leaf f 539 (leaf k 0 (lpS 36 (b539_0 true e) FUEL τ G))))) (
fork f 557 (
fork f 545 (
leaf f 545 (leaf k 0 (lpS 66 (b545_0 true e) FUEL τ G))) (
leaf f 557 (leaf k 0 (lpS 20 (b557_0 true e) FUEL τ G)))) (
fork f 563 (
leaf f 563 (leaf k 0 (lpS 20 (b563_0 true e) FUEL τ G))) (
leaf f 564 (leaf k 0 (lpS 20 (b564_0 true e) FUEL τ G)))))))
theorem lpT_ok {orc : FuncId → Bool} {e : Ex} (h : ExLe Q e (E orc)) (FUEL f k : Nat) (τ : Env) (G : GS) : Ref (lpT FUEL e f k τ G) (mapE ((E orc).lp (codeAt Q f k) (lst (nOf Q f) τ) G)) :=
  Ref.fork (
Ref.fork (
Ref.fork (
Ref.fork (
Ref.leaf (y := fun f => mapE ((E orc).lp (codeAt Q f k) (lst (nOf Q f) τ) G)) (Ref.leaf (y := fun k => mapE ((E orc).lp (codeAt Q 26 k) (lst (nOf Q 26) τ) G)) (lp_leaf (c := (subAt [1, 1, 1, 0, 1, 0, 0] (bodyOf Tryz.f26))) (l26_0 h) _ _ _))) (
Ref.fork (
Ref.leaf (y := fun f => mapE ((E orc).lp (codeAt Q f k) (lst (nOf Q f) τ) G)) (Ref.leaf (y := fun k => mapE ((E orc).lp (codeAt Q 53 k) (lst (nOf Q 53) τ) G)) (lp_leaf (c := (subAt [1, 1, 1, 0, 1, 0, 0] (bodyOf Tryz.f53))) (l53_0 h) _ _ _))) (
Ref.leaf (y := fun f => mapE ((E orc).lp (codeAt Q f k) (lst (nOf Q f) τ) G)) (Ref.leaf (y := fun k => mapE ((E orc).lp (codeAt Q 96 k) (lst (nOf Q 96) τ) G)) (lp_leaf (c := (subAt [1, 0, 1, 0, 0] (bodyOf Tryz.f96))) (l96_0 h) _ _ _))))) (
Ref.fork (
Ref.leaf (y := fun f => mapE ((E orc).lp (codeAt Q f k) (lst (nOf Q f) τ) G)) (Ref.leaf (y := fun k => mapE ((E orc).lp (codeAt Q 156 k) (lst (nOf Q 156) τ) G)) (lp_leaf (c := (subAt [1, 1, 1, 1, 0, 0] (bodyOf Tryz.f156))) (l156_0 h) _ _ _))) (
Ref.fork (
Ref.leaf (y := fun f => mapE ((E orc).lp (codeAt Q f k) (lst (nOf Q f) τ) G)) (Ref.leaf (y := fun k => mapE ((E orc).lp (codeAt Q 171 k) (lst (nOf Q 171) τ) G)) (lp_leaf (c := (subAt [1, 1, 1, 1, 1, 0, 0] (bodyOf Tryz.f171))) (l171_0 h) _ _ _))) (
Ref.leaf (y := fun f => mapE ((E orc).lp (codeAt Q f k) (lst (nOf Q f) τ) G)) (Ref.leaf (y := fun k => mapE ((E orc).lp (codeAt Q 196 k) (lst (nOf Q 196) τ) G)) (lp_leaf (c := (subAt [1, 0, 1, 1, 1, 1, 1, 0, 0, 0] (bodyOf Tryz.f196))) (l196_0 h) _ _ _)))))) (
Ref.fork (
Ref.fork (
Ref.leaf (y := fun f => mapE ((E orc).lp (codeAt Q f k) (lst (nOf Q f) τ) G)) (Ref.fork (Ref.fork (Ref.leaf (y := fun k => mapE ((E orc).lp (codeAt Q 205 k) (lst (nOf Q 205) τ) G)) (lp_leaf (c := (subAt [0, 1, 0, 0] (bodyOf Tryz.f205))) (l205_0 h) _ _ _)) (Ref.leaf (y := fun k => mapE ((E orc).lp (codeAt Q 205 k) (lst (nOf Q 205) τ) G)) (lp_leaf (c := (subAt [1, 0, 1, 0, 0] (bodyOf Tryz.f205))) (l205_1 h) _ _ _))) (Ref.fork (Ref.leaf (y := fun k => mapE ((E orc).lp (codeAt Q 205 k) (lst (nOf Q 205) τ) G)) (lp_leaf (c := (subAt [1, 1, 1, 0, 0] (bodyOf Tryz.f205))) (l205_2 h) _ _ _)) (Ref.leaf (y := fun k => mapE ((E orc).lp (codeAt Q 205 k) (lst (nOf Q 205) τ) G)) (lp_leaf (c := (subAt [1, 1, 1, 0, 0, 1, 1, 0, 0, 1, 1, 1, 1, 0, 0] (bodyOf Tryz.f205))) (l205_3 h) _ _ _))))) (
Ref.fork (
Ref.leaf (y := fun f => mapE ((E orc).lp (codeAt Q f k) (lst (nOf Q f) τ) G)) (Ref.leaf (y := fun k => mapE ((E orc).lp (codeAt Q 206 k) (lst (nOf Q 206) τ) G)) (lp_leaf (c := (subAt [1, 0, 1, 0, 0] (bodyOf Tryz.f206))) (l206_0 h) _ _ _))) (
Ref.leaf (y := fun f => mapE ((E orc).lp (codeAt Q f k) (lst (nOf Q f) τ) G)) (Ref.leaf (y := fun k => mapE ((E orc).lp (codeAt Q 207 k) (lst (nOf Q 207) τ) G)) (lp_leaf (c := (subAt [1, 1, 0, 1, 0, 0] (bodyOf Tryz.f207))) (l207_0 h) _ _ _))))) (
Ref.fork (
Ref.fork (
Ref.leaf (y := fun f => mapE ((E orc).lp (codeAt Q f k) (lst (nOf Q f) τ) G)) (Ref.leaf (y := fun k => mapE ((E orc).lp (codeAt Q 209 k) (lst (nOf Q 209) τ) G)) (lp_leaf (c := (subAt [1, 0, 1, 0, 0] (bodyOf Tryz.f209))) (l209_0 h) _ _ _))) (
Ref.leaf (y := fun f => mapE ((E orc).lp (codeAt Q f k) (lst (nOf Q f) τ) G)) (Ref.leaf (y := fun k => mapE ((E orc).lp (codeAt Q 210 k) (lst (nOf Q 210) τ) G)) (lp_leaf (c := (subAt [1, 0, 1, 0, 0] (bodyOf Tryz.f210))) (l210_0 h) _ _ _)))) (
Ref.fork (
Ref.leaf (y := fun f => mapE ((E orc).lp (codeAt Q f k) (lst (nOf Q f) τ) G)) (Ref.leaf (y := fun k => mapE ((E orc).lp (codeAt Q 212 k) (lst (nOf Q 212) τ) G)) (lp_leaf (c := (subAt [1, 1, 0, 1, 0, 0] (bodyOf Tryz.f212))) (l212_0 h) _ _ _))) (
Ref.leaf (y := fun f => mapE ((E orc).lp (codeAt Q f k) (lst (nOf Q f) τ) G)) (Ref.leaf (y := fun k => mapE ((E orc).lp (codeAt Q 246 k) (lst (nOf Q 246) τ) G)) (lp_leaf (c := (subAt [1, 1, 1, 1, 0, 0] (bodyOf Tryz.f246))) (l246_0 h) _ _ _))))))) (
Ref.fork (
Ref.fork (
Ref.fork (
Ref.leaf (y := fun f => mapE ((E orc).lp (codeAt Q f k) (lst (nOf Q f) τ) G)) (Ref.leaf (y := fun k => mapE ((E orc).lp (codeAt Q 257 k) (lst (nOf Q 257) τ) G)) (lp_leaf (c := (subAt [1, 1, 1, 1, 0, 0] (bodyOf Tryz.f257))) (l257_0 h) _ _ _))) (
Ref.fork (
Ref.leaf (y := fun f => mapE ((E orc).lp (codeAt Q f k) (lst (nOf Q f) τ) G)) (Ref.leaf (y := fun k => mapE ((E orc).lp (codeAt Q 295 k) (lst (nOf Q 295) τ) G)) (lp_leaf (c := (subAt [1, 0, 1, 1, 1, 1, 1, 0, 0] (bodyOf Tryz.f295))) (l295_0 h) _ _ _))) (
Ref.leaf (y := fun f => mapE ((E orc).lp (codeAt Q f k) (lst (nOf Q f) τ) G)) (Ref.leaf (y := fun k => mapE ((E orc).lp (codeAt Q 351 k) (lst (nOf Q 351) τ) G)) (lp_leaf (c := (subAt [1, 1, 0, 0] (bodyOf Tryz.f351))) (l351_0 h) _ _ _))))) (
Ref.fork (
Ref.leaf (y := fun f => mapE ((E orc).lp (codeAt Q f k) (lst (nOf Q f) τ) G)) (Ref.leaf (y := fun k => mapE ((E orc).lp (codeAt Q 355 k) (lst (nOf Q 355) τ) G)) (lp_leaf (c := (subAt [1, 1, 0, 0] (bodyOf Tryz.f355))) (l355_0 h) _ _ _))) (
Ref.fork (
Ref.leaf (y := fun f => mapE ((E orc).lp (codeAt Q f k) (lst (nOf Q f) τ) G)) (Ref.leaf (y := fun k => mapE ((E orc).lp (codeAt Q 357 k) (lst (nOf Q 357) τ) G)) (lp_leaf (c := (subAt [1, 0, 1, 0, 0] (bodyOf Tryz.f357))) (l357_0 h) _ _ _))) (
Ref.leaf (y := fun f => mapE ((E orc).lp (codeAt Q f k) (lst (nOf Q f) τ) G)) (Ref.leaf (y := fun k => mapE ((E orc).lp (codeAt Q 358 k) (lst (nOf Q 358) τ) G)) (lp_leaf (c := (subAt [1, 1, 0, 1, 0, 0] (bodyOf Tryz.f358))) (l358_0 h) _ _ _)))))) (
Ref.fork (
Ref.fork (
Ref.leaf (y := fun f => mapE ((E orc).lp (codeAt Q f k) (lst (nOf Q f) τ) G)) (Ref.leaf (y := fun k => mapE ((E orc).lp (codeAt Q 359 k) (lst (nOf Q 359) τ) G)) (lp_leaf (c := (subAt [1, 0, 0] (bodyOf Tryz.f359))) (l359_0 h) _ _ _))) (
Ref.fork (
Ref.leaf (y := fun f => mapE ((E orc).lp (codeAt Q f k) (lst (nOf Q f) τ) G)) (Ref.leaf (y := fun k => mapE ((E orc).lp (codeAt Q 397 k) (lst (nOf Q 397) τ) G)) (lp_leaf (c := (subAt [1, 1, 0, 0] (bodyOf Tryz.f397))) (l397_0 h) _ _ _))) (
Ref.leaf (y := fun f => mapE ((E orc).lp (codeAt Q f k) (lst (nOf Q f) τ) G)) (Ref.leaf (y := fun k => mapE ((E orc).lp (codeAt Q 539 k) (lst (nOf Q 539) τ) G)) (lp_leaf (c := (subAt [1, 1, 0, 1, 0, 0] (bodyOf Tryz.f539))) (l539_0 h) _ _ _))))) (
Ref.fork (
Ref.fork (
Ref.leaf (y := fun f => mapE ((E orc).lp (codeAt Q f k) (lst (nOf Q f) τ) G)) (Ref.leaf (y := fun k => mapE ((E orc).lp (codeAt Q 545 k) (lst (nOf Q 545) τ) G)) (lp_leaf (c := (subAt [1, 0, 1, 1, 0, 1, 0, 0] (bodyOf Tryz.f545))) (l545_0 h) _ _ _))) (
Ref.leaf (y := fun f => mapE ((E orc).lp (codeAt Q f k) (lst (nOf Q f) τ) G)) (Ref.leaf (y := fun k => mapE ((E orc).lp (codeAt Q 557 k) (lst (nOf Q 557) τ) G)) (lp_leaf (c := (subAt [1, 1, 0, 1, 0, 0] (bodyOf Tryz.f557))) (l557_0 h) _ _ _)))) (
Ref.fork (
Ref.leaf (y := fun f => mapE ((E orc).lp (codeAt Q f k) (lst (nOf Q f) τ) G)) (Ref.leaf (y := fun k => mapE ((E orc).lp (codeAt Q 563 k) (lst (nOf Q 563) τ) G)) (lp_leaf (c := (subAt [1, 1, 0, 1, 0, 0] (bodyOf Tryz.f563))) (l563_0 h) _ _ _))) (
Ref.leaf (y := fun f => mapE ((E orc).lp (codeAt Q f k) (lst (nOf Q f) τ) G)) (Ref.leaf (y := fun k => mapE ((E orc).lp (codeAt Q 564 k) (lst (nOf Q 564) τ) G)) (lp_leaf (c := (subAt [1, 1, 0, 1, 0, 0] (bodyOf Tryz.f564))) (l564_0 h) _ _ _)))))))
noncomputable def kE (orc : FuncId → Bool) (n : Nat) : Ex := Nat.rec (motive := fun _ => Ex) ⟨Ev.zero, fun _ _ _ _ => none⟩ (fun _ e => ⟨⟨(evO Q orc 0).ex, clT orc e, (evO Q orc 2000).rd, (evO Q orc 2000).sc, (evO Q orc 0).lp⟩, lpT 6000 e⟩) n
theorem kE_ok (orc : FuncId → Bool) : ∀ n, ExLe Q (kE orc n) (E orc)
  | 0 => ⟨zero_le _, fun _ _ _ _ => .nil _⟩
  | n + 1 => ⟨⟨(le_evL Q orc 0).ex, fun f vs G r hr => clT_ok (kE_ok orc n) f vs G r hr, (le_evL Q orc 2000).rd, (le_evL Q orc 2000).sc, (le_evL Q orc 0).lp⟩, lpT_ok (kE_ok orc n) 6000⟩
/-- what the tables find true is true -/
theorem at_kE {orc : FuncId → Bool} {n f : Nat} {vs : List Value} (h : isTrue ((kE orc n).ev.cl f vs GS.empty) = true) : ∃ G', (E orc).cl f vs GS.empty = some (.bool true, G') := isTrue_of ((kE_ok orc n).ev.cl f vs GS.empty) h
theorem closed_kE {orc : FuncId → Bool} (ho : OrcOk Q orc) (hmix : Q.follows .mixedOrders = true) {n f : Nat} (h : isTrue ((kE orc n).ev.cl f [] GS.empty) = true) (w : World) : Calls Q f #[] w fun e w' => e = .returned (.bool true) ∧ Go.RowKit.Below w.heap.size w w' :=
  let ⟨_, hG⟩ := at_kE h
  law_plain hmix ho hG fun _ => trivial
end Go.Proofs.YtdohlgkmaeipjaaGreat.LiftK
