/- the program's code, spelled out by a program of ours (lift2.lean) -/
import Derived.Test.YtfakjapkhjfmiaaGreatKReadyKnownb
namespace Go.Proofs.YtfakjapkhjfmiaaGreat.Lift
open Go Go.Proofs.YtfakjapkhjfmiaaGreat.Gh Go.Proofs
set_option linter.unusedVariables false
set_option maxRecDepth 100000
/-- (*coxswain/insert.Insert).up -/
noncomputable def s348 (q : Bool) (e : Ex) (v0 : Value) (G : GS) : Option (Value × GS) :=
  bP (pNil v0) fun x0 =>
  bP (fa Q q 353 8 20 x0) fun x1 =>
  bP (ld Q q 3 x1 (G.room 9)) fun x2 =>
  bP (pNil v0) fun x3 =>
  bP (fa Q q 353 6 18 x3) fun x4 =>
  bP (ld Q q 3 x4 (G.room 9)) fun x5 =>
  bP (bn Q q .geq 3 (.tmp 6) (.tmp 10) x2 x5) fun x6 =>
  ifV x6 (
  some ((.int .i64 9), (G.room 9))) (
  some ((.int .i64 4), (G.room 9)))
theorem m348 {e : Ex} {E : Ev} (h : ExLe Q e E) (v0 : Value) (G : GS) : Ref (s348 true e v0 G) (s348 false (Ex.of E) v0 G) := by
  unfold s348
  exact Ref.go
theorem f348 {orc : FuncId → Bool} {e : Ex} (h : ExLe Q e (E orc)) (v0 : Value) (G : GS) : Ref (s348 true e v0 G) ((E orc).cl 348 [v0] G) :=
  fun r hr => cl_sxE_some Q orc (vs := [v0]) G Tryz.func348 (by kernel_rfl) (by kernel_rfl) (by kernel_rfl) (by kernel_rfl) (by kernel_rfl) (by kernel_rfl) (m348 h v0 G r hr)
/-- (*coxswain/insert.Insert).read -/
noncomputable def s349 (q : Bool) (e : Ex) (v0 v1 v2 : Value) (G : GS) : Option (Value × GS) :=
  bP (pNil v0) fun x0 =>
  bP (fa Q q 353 3 15 x0) fun x1 =>
  bP (ld Q q 36 x1 G) fun x2 =>
  bP (pNil v0) fun x3 =>
  bP (fa Q q 353 12 24 x3) fun x4 =>
  bP (st Q q 36 1 x4 x2 G) fun G5 =>
  bP (pNil v0) fun x6 =>
  bP (fa Q q 353 0 0 x6) fun x7 =>
  bP (lda Q q 31 13 x7 (G5.room 13)) fun x8 =>
  bP (pNil v0) fun x9 =>
  bP (fa Q q 353 5 17 x9) fun x10 =>
  bP (ld Q q 3 x10 (G5.room 13)) fun x11 =>
  bS (e.ev.cl 103 [x8, x11, v2] (G5.room 13)) fun x13 G12 =>
  bS (e.ev.cl 124 [v1, x13] G12) fun x15 G14 =>
  some (x15, G14)
theorem m349 {e : Ex} {E : Ev} (h : ExLe Q e E) (v0 v1 v2 : Value) (G : GS) : Ref (s349 true e v0 v1 v2 G) (s349 false (Ex.of E) v0 v1 v2 G) := by
  unfold s349
  exact Ref.go
theorem f349 {orc : FuncId → Bool} {e : Ex} (h : ExLe Q e (E orc)) (v0 v1 v2 : Value) (G : GS) : Ref (s349 true e v0 v1 v2 G) ((E orc).cl 349 [v0, v1, v2] G) :=
  fun r hr => cl_sxE_some Q orc (vs := [v0, v1, v2]) G Tryz.func349 (by kernel_rfl) (by kernel_rfl) (by kernel_rfl) (by kernel_rfl) (by kernel_rfl) (by kernel_rfl) (m349 h v0 v1 v2 G r hr)
/-- (*coxswain/insert.Insert).swap -/
noncomputable def s350 (q : Bool) (e : Ex) (v0 v1 v2 v3 v4 : Value) (G : GS) : Option (Value × GS) :=
  bP (pNil v0) fun x0 =>
  bP (fa Q q 353 3 15 x0) fun x1 =>
  bP (ld Q q 36 x1 G) fun x2 =>
  bP (pNil v0) fun x3 =>
  bP (fa Q q 353 12 24 x3) fun x4 =>
  bP (st Q q 36 1 x4 x2 G) fun G5 =>
  bS (e.ev.cl 248 [v1, v2, v3, v4] G5) fun x6 G7 =>
  some (x6, G7)
theorem m350 {e : Ex} {E : Ev} (h : ExLe Q e E) (v0 v1 v2 v3 v4 : Value) (G : GS) : Ref (s350 true e v0 v1 v2 v3 v4 G) (s350 false (Ex.of E) v0 v1 v2 v3 v4 G) := by
  unfold s350
  exact Ref.go
theorem f350 {orc : FuncId → Bool} {e : Ex} (h : ExLe Q e (E orc)) (v0 v1 v2 v3 v4 : Value) (G : GS) : Ref (s350 true e v0 v1 v2 v3 v4 G) ((E orc).cl 350 [v0, v1, v2, v3, v4] G) :=
  fun r hr => cl_sxE_some Q orc (vs := [v0, v1, v2, v3, v4]) G Tryz.func350 (by kernel_rfl) (by kernel_rfl) (by kernel_rfl) (by kernel_rfl) (by kernel_rfl) (by kernel_rfl) (m350 h v0 v1 v2 v3 v4 G r hr)
/-- (*coxswain/find.Find).all -/
noncomputable def s351 (q : Bool) (e : Ex) (v0 : Value) (G : GS) : Option (Value × GS) :=
  bS (e.ev.cl 354 [v0] G) fun x0 G1 =>
  bP (bn Q q .neq 39 (.tmp 4) (.const (.int .i64 0)) x0 (.int .i64 0)) fun x2 =>
  ifV x2 (
  some ((.slice none 0 0), G1)) (
  bP (pNil v0) fun x3 =>
  bP (fa Q q 383 5 20 x3) fun x4 =>
  bP (ld Q q 381 x4 G1) fun x5 =>
  some (x5, G1))
theorem m351 {e : Ex} {E : Ev} (h : ExLe Q e E) (v0 : Value) (G : GS) : Ref (s351 true e v0 G) (s351 false (Ex.of E) v0 G) := by
  unfold s351
  exact Ref.go
theorem f351 {orc : FuncId → Bool} {e : Ex} (h : ExLe Q e (E orc)) (v0 : Value) (G : GS) : Ref (s351 true e v0 G) ((E orc).cl 351 [v0] G) :=
  fun r hr => cl_sxE_some Q orc (vs := [v0]) G Tryz.func351 (by kernel_rfl) (by kernel_rfl) (by kernel_rfl) (by kernel_rfl) (by kernel_rfl) (by kernel_rfl) (m351 h v0 G r hr)
noncomputable def b352_0 (q : Bool) (e : Ex) (lp : Env → GS → Option (Exit × Env × GS)) (τ : Env) (G : GS) : Option (Exit × Env × GS) :=
  bV q (τ 3) fun a3_ =>
  bV q (τ 7) fun a7_ =>
  bV q (τ 8) fun a8_ =>
  bV q (τ 9) fun a9_ =>
  bP (bn Q q .lss 3 (.tmp 9) (.tmp 8) a9_ a8_) fun x0 =>
  ifV x0 (
  bP (ias Q q 381 4 a7_ a9_) fun x1 =>
  bP (lda Q q 380 4 x1 G) fun x2 =>
  bS (al Q q 380 z380 G) fun x3 G4 =>
  bP (st Q q 380 4 x3 x2 G4) fun G5 =>
  bP (fa Q q 380 2 2 x3) fun x6 =>
  bP (ld Q q 36 x6 G5) fun x7 =>
  bS (bs Q q 67 1 (rep z36 1) 1 [(0, 0, 1)] [x7] G5) fun x8 G9 =>
  bS (ap Q q 67 67 1 8 a3_ x8 G9) fun x10 G11 =>
  bP (bn Q q .add 3 (.tmp 9) (.const (.int .i64 1)) a9_ (.int .i64 1)) fun x12 =>
  lp (tu τ [(3, x10), (7, a7_), (8, a8_), (9, x12), (5, x3), (10, x0), (11, x1), (12, x2), (13, a3_), (14, x6), (15, x7), (16, x8), (17, x10), (18, x12)]) G11) (
  some ((.exit 0), clq q 20 (tu τ [(3, a3_), (7, a7_), (8, a8_), (9, a9_), (10, x0)]), G))
theorem mb352_0 {e : Ex} {E : Ev} (h : ExLe Q e E) {lp lp' : Env → GS → Option (Exit × Env × GS)} (hlp : LpLe lp lp') (τ : Env) (G : GS) : Ref (b352_0 true e lp τ G) (b352_0 false (Ex.of E) lp' τ G) := by
  unfold b352_0
  exact Ref.go
theorem l352_0 {orc : FuncId → Bool} {e : Ex} (h : ExLe Q e (E orc)) (lp : Env → GS → Option (Exit × Env × GS)) (hlp : ∀ τ G, Ref (lp τ G) (mapE ((E orc).lp (subAt [1, 1, 0, 1, 0, 0] (bodyOf Tryz.f352)) (lst 20 τ) G))) (T : List Value) (G : GS) (hT : T.length = 20) : Ref (b352_0 true e lp (nth undef T) G) (mapE ((E orc).lp (subAt [1, 1, 0, 1, 0, 0] (bodyOf Tryz.f352)) T G)) :=
  fun r hr => lp_sxM Q orc G hT (by kernel_rfl) (mb352_0 h ⟨hlp⟩ _ _ r hr)
/-- (*coxswain/find.Find).Known -/
noncomputable def s352 (q : Bool) (e : Ex) (v0 : Value) (G : GS) : Option (Value × GS) :=
  bS (e.ev.cl 351 [v0] G) fun x0 G1 =>
  bP (ln Q q 381 x0) fun x2 =>
  bL q e 352 0 (subAt [1, 1, 0, 1, 0, 0] (bodyOf Tryz.f352)) 20 (tu (nth undef [v0]) [(2, (.slice none 0 0)), (3, (.slice none 0 0)), (6, v0), (7, x0), (8, x2), (9, (.int .i64 0))]) G1 fun e3 t4 G5 =>
  bV q (t4 3) fun t4x3_ =>
  ifE e3 (.exit 0) (
  some (t4x3_, G5)) (none)
theorem m352 {e : Ex} {E : Ev} (h : ExLe Q e E) (v0 : Value) (G : GS) : Ref (s352 true e v0 G) (s352 false (Ex.of E) v0 G) := by
  unfold s352
  exact Ref.go
theorem f352 {orc : FuncId → Bool} {e : Ex} (h : ExLe Q e (E orc)) (v0 : Value) (G : GS) : Ref (s352 true e v0 G) ((E orc).cl 352 [v0] G) :=
  fun r hr => cl_sxE_some Q orc (vs := [v0]) G Tryz.func352 (by kernel_rfl) (by kernel_rfl) (by kernel_rfl) (by kernel_rfl) (by kernel_rfl) (by kernel_rfl) (m352 h v0 G r hr)
noncomputable def b353_0 (q : Bool) (e : Ex) (lp : Env → GS → Option (Exit × Env × GS)) (τ : Env) (G : GS) : Option (Exit × Env × GS) :=
  bV q (τ 3) fun a3_ =>
  bV q (τ 7) fun a7_ =>
  bV q (τ 8) fun a8_ =>
  bV q (τ 9) fun a9_ =>
  bP (bn Q q .lss 3 (.tmp 9) (.tmp 8) a9_ a8_) fun x0 =>
  ifV x0 (
  bP (ias Q q 381 4 a7_ a9_) fun x1 =>
  bP (lda Q q 380 4 x1 G) fun x2 =>
  bS (al Q q 380 z380 G) fun x3 G4 =>
  bP (st Q q 380 4 x3 x2 G4) fun G5 =>
  bP (fa Q q 380 1 1 x3) fun x6 =>
  bP (ld Q q 3 x6 G5) fun x7 =>
  bS (bs Q q 100 1 (rep z3 1) 1 [(0, 0, 1)] [x7] G5) fun x8 G9 =>
  bS (ap Q q 100 100 1 8 a3_ x8 G9) fun x10 G11 =>
  bP (bn Q q .add 3 (.tmp 9) (.const (.int .i64 1)) a9_ (.int .i64 1)) fun x12 =>
  lp (tu τ [(3, x10), (7, a7_), (8, a8_), (9, x12), (5, x3), (10, x0), (11, x1), (12, x2), (13, a3_), (14, x6), (15, x7), (16, x8), (17, x10), (18, x12)]) G11) (
  some ((.exit 0), clq q 20 (tu τ [(3, a3_), (7, a7_), (8, a8_), (9, a9_), (10, x0)]), G))
theorem mb353_0 {e : Ex} {E : Ev} (h : ExLe Q e E) {lp lp' : Env → GS → Option (Exit × Env × GS)} (hlp : LpLe lp lp') (τ : Env) (G : GS) : Ref (b353_0 true e lp τ G) (b353_0 false (Ex.of E) lp' τ G) := by
  unfold b353_0
  exact Ref.go
theorem l353_0 {orc : FuncId → Bool} {e : Ex} (h : ExLe Q e (E orc)) (lp : Env → GS → Option (Exit × Env × GS)) (hlp : ∀ τ G, Ref (lp τ G) (mapE ((E orc).lp (subAt [1, 1, 0, 1, 0, 0] (bodyOf Tryz.f353)) (lst 20 τ) G))) (T : List Value) (G : GS) (hT : T.length = 20) : Ref (b353_0 true e lp (nth undef T) G) (mapE ((E orc).lp (subAt [1, 1, 0, 1, 0, 0] (bodyOf Tryz.f353)) T G)) :=
  fun r hr => lp_sxM Q orc G hT (by kernel_rfl) (mb353_0 h ⟨hlp⟩ _ _ r hr)
/-- (*coxswain/find.Find).Preds -/
noncomputable def s353 (q : Bool) (e : Ex) (v0 : Value) (G : GS) : Option (Value × GS) :=
  bS (e.ev.cl 351 [v0] G) fun x0 G1 =>
  bP (ln Q q 381 x0) fun x2 =>
  bL q e 353 0 (subAt [1, 1, 0, 1, 0, 0] (bodyOf Tryz.f353)) 20 (tu (nth undef [v0]) [(2, (.slice none 0 0)), (3, (.slice none 0 0)), (6, v0), (7, x0), (8, x2), (9, (.int .i64 0))]) G1 fun e3 t4 G5 =>
  bV q (t4 3) fun t4x3_ =>
  ifE e3 (.exit 0) (
  some (t4x3_, G5)) (none)
theorem m353 {e : Ex} {E : Ev} (h : ExLe Q e E) (v0 : Value) (G : GS) : Ref (s353 true e v0 G) (s353 false (Ex.of E) v0 G) := by
  unfold s353
  exact Ref.go
theorem f353 {orc : FuncId → Bool} {e : Ex} (h : ExLe Q e (E orc)) (v0 : Value) (G : GS) : Ref (s353 true e v0 G) ((E orc).cl 353 [v0] G) :=
  fun r hr => cl_sxE_some Q orc (vs := [v0]) G Tryz.func353 (by kernel_rfl) (by kernel_rfl) (by kernel_rfl) (by kernel_rfl) (by kernel_rfl) (by kernel_rfl) (m353 h v0 G r hr)
/-- (*coxswain/find.Find).Err -/
noncomputable def s354 (q : Bool) (e : Ex) (v0 : Value) (G : GS) : Option (Value × GS) :=
  bP (ep Q q false 163 (.tmp 4) (.const (.pointer none)) v0 (.pointer none)) fun x0 =>
  bS (gd x0 false (some (v0, G)) G) fun x1 G2 =>
  bS (gd x0 false (bP (pNil x1) fun y => some (y, G2)) G2) fun x3 G4 =>
  bS (gd x0 false (bP (fa Q q 383 7 22 x3) fun y => some (y, G4)) G4) fun x5 G6 =>
  bS (gd x0 false (bP (ld Q q 4 x5 G6) fun y => some (y, G6)) G6) fun x7 G8 =>
  bS (gd x0 false (bP (un Q q .not x7) fun y => some (y, G8)) G8) fun x9 G10 =>
  bP (pickV x0 (.bool true) x9) fun x11 =>
  ifV x11 (
  some ((.int .i64 1), G10)) (
  bP (pNil v0) fun x12 =>
  bP (fa Q q 383 2 14 x12) fun x13 =>
  bP (ld Q q 3 x13 G10) fun x14 =>
  bP (bn Q q .neq 3 (.tmp 17) (.const (.int .i64 9)) x14 (.int .i64 9)) fun x15 =>
  ifV x15 (
  some ((.int .i64 14), G10)) (
  bP (pNil v0) fun x16 =>
  bP (fa Q q 383 8 23 x16) fun x17 =>
  bP (ld Q q 39 x17 G10) fun x18 =>
  some (x18, G10)))
theorem m354 {e : Ex} {E : Ev} (h : ExLe Q e E) (v0 : Value) (G : GS) : Ref (s354 true e v0 G) (s354 false (Ex.of E) v0 G) := by
  unfold s354
  exact Ref.go
theorem f354 {orc : FuncId → Bool} {e : Ex} (h : ExLe Q e (E orc)) (v0 : Value) (G : GS) : Ref (s354 true e v0 G) ((E orc).cl 354 [v0] G) :=
  fun r hr => cl_sxE_some Q orc (vs := [v0]) G Tryz.func354 (by kernel_rfl) (by kernel_rfl) (by kernel_rfl) (by kernel_rfl) (by kernel_rfl) (by kernel_rfl) (m354 h v0 G r hr)
/-- (*coxswain/ready.part[*coxswain/limbo.Collect]).run -/
noncomputable def s355 (q : Bool) (e : Ex) (v0 v1 : Value) (G : GS) : Option (Value × GS) :=
  bP (pNil v0) fun x0 =>
  bP (fa Q q 312 4 4 x0) fun x1 =>
  bP (ld Q q 4 x1 G) fun x2 =>
  bP (un Q q .not x2) fun x3 =>
  ifV x3 (
  bP (pNil v0) fun x4 =>
  bP (fa Q q 312 0 0 x4) fun x5 =>
  bP (ld Q q 309 x5 G) fun x6 =>
  bS (cValue e.ev x6 [] G) fun x7 G8 =>
  bP (pNil v0) fun x9 =>
  bP (fa Q q 312 3 3 x9) fun x10 =>
  bP (st Q q 253 1 x10 x7 G8) fun G11 =>
  bP (pNil v0) fun x12 =>
  bP (fa Q q 312 4 4 x12) fun x13 =>
  bP (st Q q 4 1 x13 (.bool true) G11) fun G14 =>
  bP (pNil v0) fun x15 =>
  bP (fa Q q 312 3 3 x15) fun x16 =>
  bP (ld Q q 253 x16 G14) fun x17 =>
  bP (ifc Q q 253 x17) fun x18 =>
  bS (cInvoke Q e.ev x18 "Step" [v1] G14) fun x19 G20 =>
  bP (pNil v0) fun x21 =>
  bP (fa Q q 312 1 1 x21) fun x22 =>
  bP (ld Q q 310 x22 G20) fun x23 =>
  bP (ef Q q true 310 (.tmp 34) (.const .nilFunc) x23 .nilFunc) fun x24 =>
  ifV x24 (
  bP (pNil v0) fun x25 =>
  bP (fa Q q 312 1 1 x25) fun x26 =>
  bP (ld Q q 310 x26 (G20.room 10)) fun x27 =>
  bP (pNil v0) fun x28 =>
  bP (fa Q q 312 3 3 x28) fun x29 =>
  bP (ld Q q 253 x29 (G20.room 10)) fun x30 =>
  bS (cValue e.ev x27 [x30] (G20.room 10)) fun x32 G31 =>
  bS (gd x19 true (some (v0, G31)) G31) fun x33 G34 =>
  bS (gd x19 true (bP (pNil x33) fun y => some (y, G34)) G34) fun x35 G36 =>
  bS (gd x19 true (bP (fa Q q 312 2 2 x35) fun y => some (y, G36)) G36) fun x37 G38 =>
  bS (gd x19 true (bP (ld Q q 254 x37 G38) fun y => some (y, G38)) G38) fun x39 G40 =>
  bS (gd x19 true (bP (ef Q q true 254 (.tmp 50) (.const .nilFunc) x39 .nilFunc) fun y => some (y, G40)) G40) fun x41 G42 =>
  bP (pickV x19 x41 (.bool false)) fun x43 =>
  ifV x43 (
  bP (pNil v0) fun x44 =>
  bP (fa Q q 312 2 2 x44) fun x45 =>
  bP (ld Q q 254 x45 (G42.room 9)) fun x46 =>
  bP (pNil v0) fun x47 =>
  bP (fa Q q 312 3 3 x47) fun x48 =>
  bP (ld Q q 253 x48 (G42.room 9)) fun x49 =>
  bS (cValue e.ev x46 [x49] (G42.room 9)) fun x51 G50 =>
  some (.tuple #[x19, x32], G50)) (
  some (.tuple #[x19, x32], G42))) (
  bS (gd x19 true (some (v0, G20)) G20) fun x52 G53 =>
  bS (gd x19 true (bP (pNil x52) fun y => some (y, G53)) G53) fun x54 G55 =>
  bS (gd x19 true (bP (fa Q q 312 2 2 x54) fun y => some (y, G55)) G55) fun x56 G57 =>
  bS (gd x19 true (bP (ld Q q 254 x56 G57) fun y => some (y, G57)) G57) fun x58 G59 =>
  bS (gd x19 true (bP (ef Q q true 254 (.tmp 50) (.const .nilFunc) x58 .nilFunc) fun y => some (y, G59)) G59) fun x60 G61 =>
  bP (pickV x19 x60 (.bool false)) fun x62 =>
  ifV x62 (
  bP (pNil v0) fun x63 =>
  bP (fa Q q 312 2 2 x63) fun x64 =>
  bP (ld Q q 254 x64 (G61.room 9)) fun x65 =>
  bP (pNil v0) fun x66 =>
  bP (fa Q q 312 3 3 x66) fun x67 =>
  bP (ld Q q 253 x67 (G61.room 9)) fun x68 =>
  bS (cValue e.ev x65 [x68] (G61.room 9)) fun x70 G69 =>
  some (.tuple #[x19, (.int .u64 0)], G69)) (
  some (.tuple #[x19, (.int .u64 0)], G61)))) (
  bP (pNil v0) fun x71 =>
  bP (fa Q q 312 3 3 x71) fun x72 =>
  bP (ld Q q 253 x72 G) fun x73 =>
  bP (ifc Q q 253 x73) fun x74 =>
  bS (cInvoke Q e.ev x74 "Step" [v1] G) fun x75 G76 =>
  bP (pNil v0) fun x77 =>
  bP (fa Q q 312 1 1 x77) fun x78 =>
  bP (ld Q q 310 x78 G76) fun x79 =>
  bP (ef Q q true 310 (.tmp 34) (.const .nilFunc) x79 .nilFunc) fun x80 =>
  ifV x80 (
  bP (pNil v0) fun x81 =>
  bP (fa Q q 312 1 1 x81) fun x82 =>
  bP (ld Q q 310 x82 (G76.room 10)) fun x83 =>
  bP (pNil v0) fun x84 =>
  bP (fa Q q 312 3 3 x84) fun x85 =>
  bP (ld Q q 253 x85 (G76.room 10)) fun x86 =>
  bS (cValue e.ev x83 [x86] (G76.room 10)) fun x88 G87 =>
  bS (gd x75 true (some (v0, G87)) G87) fun x89 G90 =>
  bS (gd x75 true (bP (pNil x89) fun y => some (y, G90)) G90) fun x91 G92 =>
  bS (gd x75 true (bP (fa Q q 312 2 2 x91) fun y => some (y, G92)) G92) fun x93 G94 =>
  bS (gd x75 true (bP (ld Q q 254 x93 G94) fun y => some (y, G94)) G94) fun x95 G96 =>
  bS (gd x75 true (bP (ef Q q true 254 (.tmp 50) (.const .nilFunc) x95 .nilFunc) fun y => some (y, G96)) G96) fun x97 G98 =>
  bP (pickV x75 x97 (.bool false)) fun x99 =>
  ifV x99 (
  bP (pNil v0) fun x100 =>
  bP (fa Q q 312 2 2 x100) fun x101 =>
  bP (ld Q q 254 x101 (G98.room 9)) fun x102 =>
  bP (pNil v0) fun x103 =>
  bP (fa Q q 312 3 3 x103) fun x104 =>
  bP (ld Q q 253 x104 (G98.room 9)) fun x105 =>
  bS (cValue e.ev x102 [x105] (G98.room 9)) fun x107 G106 =>
  some (.tuple #[x75, x88], G106)) (
  some (.tuple #[x75, x88], G98))) (
  bS (gd x75 true (some (v0, G76)) G76) fun x108 G109 =>
  bS (gd x75 true (bP (pNil x108) fun y => some (y, G109)) G109) fun x110 G111 =>
  bS (gd x75 true (bP (fa Q q 312 2 2 x110) fun y => some (y, G111)) G111) fun x112 G113 =>
  bS (gd x75 true (bP (ld Q q 254 x112 G113) fun y => some (y, G113)) G113) fun x114 G115 =>
  bS (gd x75 true (bP (ef Q q true 254 (.tmp 50) (.const .nilFunc) x114 .nilFunc) fun y => some (y, G115)) G115) fun x116 G117 =>
  bP (pickV x75 x116 (.bool false)) fun x118 =>
  ifV x118 (
  bP (pNil v0) fun x119 =>
  bP (fa Q q 312 2 2 x119) fun x120 =>
  bP (ld Q q 254 x120 (G117.room 9)) fun x121 =>
  bP (pNil v0) fun x122 =>
  bP (fa Q q 312 3 3 x122) fun x123 =>
  bP (ld Q q 253 x123 (G117.room 9)) fun x124 =>
  bS (cValue e.ev x121 [x124] (G117.room 9)) fun x126 G125 =>
  some (.tuple #[x75, (.int .u64 0)], G125)) (
  some (.tuple #[x75, (.int .u64 0)], G117))))
theorem m355 {e : Ex} {E : Ev} (h : ExLe Q e E) (v0 v1 : Value) (G : GS) : Ref (s355 true e v0 v1 G) (s355 false (Ex.of E) v0 v1 G) := by
  unfold s355
  exact Ref.go
theorem f355 {orc : FuncId → Bool} {e : Ex} (h : ExLe Q e (E orc)) (v0 v1 : Value) (G : GS) : Ref (s355 true e v0 v1 G) ((E orc).cl 355 [v0, v1] G) :=
  fun r hr => cl_sxE_some Q orc (vs := [v0, v1]) G Tryz.func355 (by kernel_rfl) (by kernel_rfl) (by kernel_rfl) (by kernel_rfl) (by kernel_rfl) (by kernel_rfl) (m355 h v0 v1 G r hr)
noncomputable def clT (orc : FuncId → Bool) (e : Ex) (f : FuncId) (vs : List Value) (G : GS) : Option (Value × GS) :=
  fork f 202 (
fork f 108 (
fork f 57 (
fork f 41 (
fork f 12 (
fork f 8 (
fork f 6 (
fork f 3 (
leaf f 3 (app0 (orc 3) (hasTab Q G) (s3 true e) vs G)) (
leaf f 6 (app0 (orc 6) (hasTab Q G) (s6 true e) vs G))) (
fork f 7 (
leaf f 7 (app0 (orc 7) (hasTab Q G) (s7 true e) vs G)) (
leaf f 8 (app4 (s8 true e) vs G)))) (
fork f 10 (
fork f 9 (
leaf f 9 (app3 (s9 true e) vs G)) (
leaf f 10 (app5 (s10 true e) vs G))) (
fork f 11 (
leaf f 11 (app2 (s11 true e) vs G)) (
leaf f 12 (app1 (s12 true e) vs G))))) (
fork f 16 (
fork f 14 (
fork f 13 (
leaf f 13 (app0 (orc 13) (hasTab Q G) (s13 true e) vs G)) (
leaf f 14 (app1 (s14 true e) vs G))) (
fork f 15 (
leaf f 15 (app0 (orc 15) (hasTab Q G) (s15 true e) vs G)) (
leaf f 16 (app0 (orc 16) (hasTab Q G) (s16 true e) vs G)))) (
fork f 26 (
fork f 22 (
leaf f 22 (app2 (s22 true e) vs G)) (
leaf f 26 (app3 (s26 true e) vs G))) (
fork f 34 (
leaf f 34 (app2 (s34 true e) vs G)) (
leaf f 41 (app2 (s41 true e) vs G)))))) (
fork f 49 (
fork f 45 (
fork f 43 (
fork f 42 (
leaf f 42 (app6 (s42 true e) vs G)) (
leaf f 43 (app1 (s43 true e) vs G))) (
fork f 44 (
leaf f 44 (app2 (s44 true e) vs G)) (
leaf f 45 (app1 (s45 true e) vs G)))) (
fork f 47 (
fork f 46 (
leaf f 46 (app1 (s46 true e) vs G)) (
leaf f 47 (app1 (s47 true e) vs G))) (
fork f 48 (
leaf f 48 (app1 (s48 true e) vs G)) (
leaf f 49 (app1 (s49 true e) vs G))))) (
fork f 53 (
fork f 51 (
fork f 50 (
leaf f 50 (app2 (s50 true e) vs G)) (
leaf f 51 (app1 (s51 true e) vs G))) (
fork f 52 (
leaf f 52 (app1 (s52 true e) vs G)) (
leaf f 53 (app2 (s53 true e) vs G)))) (
fork f 55 (
fork f 54 (
leaf f 54 (app3 (s54 true e) vs G)) (
leaf f 55 (app1 (s55 true e) vs G))) (
fork f 56 (
leaf f 56 (app3 (s56 true e) vs G)) (
leaf f 57 (app3 (s57 true e) vs G))))))) (
fork f 92 (
fork f 78 (
fork f 73 (
fork f 59 (
fork f 58 (
leaf f 58 (app1 (s58 true e) vs G)) (
leaf f 59 (app2 (s59 true e) vs G))) (
fork f 65 (
leaf f 65 (app2 (s65 true e) vs G)) (
leaf f 73 (app2 (s73 true e) vs G)))) (
fork f 75 (
fork f 74 (
leaf f 74 (app5 (s74 true e) vs G)) (
leaf f 75 (app1 (s75 true e) vs G))) (
fork f 77 (
leaf f 77 (app2 (s77 true e) vs G)) (
leaf f 78 (app2 (s78 true e) vs G))))) (
fork f 86 (
fork f 83 (
fork f 82 (
leaf f 82 (app2 (s82 true e) vs G)) (
leaf f 83 (app2 (s83 true e) vs G))) (
fork f 85 (
leaf f 85 (app2 (s85 true e) vs G)) (
leaf f 86 (app1 (s86 true e) vs G)))) (
fork f 90 (
fork f 87 (
leaf f 87 (app2 (s87 true e) vs G)) (
leaf f 90 (app3 (s90 true e) vs G))) (
fork f 91 (
leaf f 91 (app1 (s91 true e) vs G)) (
leaf f 92 (app2 (s92 true e) vs G)))))) (
fork f 100 (
fork f 96 (
fork f 94 (
fork f 93 (
leaf f 93 (app2 (s93 true e) vs G)) (
leaf f 94 (app1 (s94 true e) vs G))) (
fork f 95 (
leaf f 95 (app1 (s95 true e) vs G)) (
leaf f 96 (app1 (s96 true e) vs G)))) (
fork f 98 (
fork f 97 (
leaf f 97 (app2 (s97 true e) vs G)) (
leaf f 98 (app1 (s98 true e) vs G))) (
fork f 99 (
leaf f 99 (app1 (s99 true e) vs G)) (
leaf f 100 (app1 (s100 true e) vs G))))) (
fork f 104 (
fork f 102 (
fork f 101 (
leaf f 101 (app2 (s101 true e) vs G)) (
leaf f 102 (app2 (s102 true e) vs G))) (
fork f 103 (
leaf f 103 (app3 (s103 true e) vs G)) (
leaf f 104 (app1 (s104 true e) vs G)))) (
fork f 106 (
fork f 105 (
leaf f 105 (app3 (s105 true e) vs G)) (
leaf f 106 (app2 (s106 true e) vs G))) (
fork f 107 (
leaf f 107 (app2 (s107 true e) vs G)) (
leaf f 108 (app1 (s108 true e) vs G)))))))) (
fork f 153 (
fork f 137 (
fork f 129 (
fork f 122 (
fork f 110 (
fork f 109 (
leaf f 109 (app1 (s109 true e) vs G)) (
leaf f 110 (app2 (s110 true e) vs G))) (
fork f 121 (
leaf f 121 (app1 (s121 true e) vs G)) (
leaf f 122 (app2 (s122 true e) vs G)))) (
fork f 124 (
fork f 123 (
leaf f 123 (app1 (s123 true e) vs G)) (
leaf f 124 (app2 (s124 true e) vs G))) (
fork f 126 (
leaf f 126 (app1 (s126 true e) vs G)) (
leaf f 129 (app1 (s129 true e) vs G))))) (
fork f 133 (
fork f 131 (
fork f 130 (
leaf f 130 (app1 (s130 true e) vs G)) (
leaf f 131 (app1 (s131 true e) vs G))) (
fork f 132 (
leaf f 132 (app2 (s132 true e) vs G)) (
leaf f 133 (app1 (s133 true e) vs G)))) (
fork f 135 (
fork f 134 (
leaf f 134 (app1 (s134 true e) vs G)) (
leaf f 135 (app3 (s135 true e) vs G))) (
fork f 136 (
leaf f 136 (app1 (s136 true e) vs G)) (
leaf f 137 (app3 (s137 true e) vs G)))))) (
fork f 145 (
fork f 141 (
fork f 139 (
fork f 138 (
leaf f 138 (app2 (s138 true e) vs G)) (
leaf f 139 (app2 (s139 true e) vs G))) (
fork f 140 (
leaf f 140 (app2 (s140 true e) vs G)) (
leaf f 141 (app2 (s141 true e) vs G)))) (
fork f 143 (
fork f 142 (
leaf f 142 (app2 (s142 true e) vs G)) (
leaf f 143 (app1 (s143 true e) vs G))) (
fork f 144 (
leaf f 144 (app1 (s144 true e) vs G)) (
leaf f 145 (app2 (s145 true e) vs G))))) (
fork f 149 (
fork f 147 (
fork f 146 (
leaf f 146 (app1 (s146 true e) vs G)) (
leaf f 147 (app1 (s147 true e) vs G))) (
fork f 148 (
leaf f 148 (app1 (s148 true e) vs G)) (
leaf f 149 (app1 (s149 true e) vs G)))) (
fork f 151 (
fork f 150 (
leaf f 150 (app2 (s150 true e) vs G)) (
leaf f 151 (app2 (s151 true e) vs G))) (
fork f 152 (
leaf f 152 (app4 (s152 true e) vs G)) (
leaf f 153 (app2 (s153 true e) vs G))))))) (
fork f 184 (
fork f 165 (
fork f 157 (
fork f 155 (
fork f 154 (
leaf f 154 (app2 (s154 true e) vs G)) (
leaf f 155 (app2 (s155 true e) vs G))) (
fork f 156 (
leaf f 156 (app1 (s156 true e) vs G)) (
leaf f 157 (app2 (s157 true e) vs G)))) (
fork f 159 (
fork f 158 (
leaf f 158 (app2 (s158 true e) vs G)) (
leaf f 159 (app2 (s159 true e) vs G))) (
fork f 163 (
leaf f 163 (app1 (s163 true e) vs G)) (
leaf f 165 (app1 (s165 true e) vs G))))) (
fork f 180 (
fork f 168 (
fork f 166 (
leaf f 166 (app1 (s166 true e) vs G)) (
leaf f 168 (app1 (s168 true e) vs G))) (
fork f 169 (
leaf f 169 (app1 (s169 true e) vs G)) (
leaf f 180 (app1 (s180 true e) vs G)))) (
fork f 182 (
fork f 181 (
leaf f 181 (app1 (s181 true e) vs G)) (
leaf f 182 (app2 (s182 true e) vs G))) (
fork f 183 (
leaf f 183 (app2 (s183 true e) vs G)) (
leaf f 184 (app1 (s184 true e) vs G)))))) (
fork f 192 (
fork f 188 (
fork f 186 (
fork f 185 (
leaf f 185 (app2 (s185 true e) vs G)) (
leaf f 186 (app2 (s186 true e) vs G))) (
fork f 187 (
leaf f 187 (app1 (s187 true e) vs G)) (
leaf f 188 (app5 (s188 true e) vs G)))) (
fork f 190 (
fork f 189 (
leaf f 189 (app1 (s189 true e) vs G)) (
leaf f 190 (app1 (s190 true e) vs G))) (
fork f 191 (
leaf f 191 (app4 (s191 true e) vs G)) (
leaf f 192 (app1 (s192 true e) vs G))))) (
fork f 196 (
fork f 194 (
fork f 193 (
leaf f 193 (app1 (s193 true e) vs G)) (
leaf f 194 (app3 (s194 true e) vs G))) (
fork f 195 (
leaf f 195 (app1 (s195 true e) vs G)) (
leaf f 196 (app1 (s196 true e) vs G)))) (
fork f 198 (
fork f 197 (
leaf f 197 (app1 (s197 true e) vs G)) (
leaf f 198 (app2 (s198 true e) vs G))) (
fork f 201 (
leaf f 201 (app2 (s201 true e) vs G)) (
leaf f 202 (app0 (orc 202) (hasTab Q G) (s202 true e) vs G))))))))) (
fork f 289 (
fork f 240 (
fork f 223 (
fork f 215 (
fork f 206 (
fork f 204 (
fork f 203 (
leaf f 203 (app2 (s203 true e) vs G)) (
leaf f 204 (app1 (s204 true e) vs G))) (
fork f 205 (
leaf f 205 (app1 (s205 true e) vs G)) (
leaf f 206 (app2 (s206 true e) vs G)))) (
fork f 213 (
fork f 212 (
leaf f 212 (app2 (s212 true e) vs G)) (
leaf f 213 (app2 (s213 true e) vs G))) (
fork f 214 (
leaf f 214 (app2 (s214 true e) vs G)) (
leaf f 215 (app1 (s215 true e) vs G))))) (
fork f 219 (
fork f 217 (
fork f 216 (
leaf f 216 (app1 (s216 true e) vs G)) (
leaf f 217 (app1 (s217 true e) vs G))) (
fork f 218 (
leaf f 218 (app4 (s218 true e) vs G)) (
leaf f 219 (app4 (s219 true e) vs G)))) (
fork f 221 (
fork f 220 (
leaf f 220 (app5 (s220 true e) vs G)) (
leaf f 221 (app3 (s221 true e) vs G))) (
fork f 222 (
leaf f 222 (app2 (s222 true e) vs G)) (
leaf f 223 (app3 (s223 true e) vs G)))))) (
fork f 231 (
fork f 227 (
fork f 225 (
fork f 224 (
leaf f 224 (app1 (s224 true e) vs G)) (
leaf f 225 (app2 (s225 true e) vs G))) (
fork f 226 (
leaf f 226 (app0 (orc 226) (hasTab Q G) (s226 true e) vs G)) (
leaf f 227 (app1 (s227 true e) vs G)))) (
fork f 229 (
fork f 228 (
leaf f 228 (app1 (s228 true e) vs G)) (
leaf f 229 (app1 (s229 true e) vs G))) (
fork f 230 (
leaf f 230 (app2 (s230 true e) vs G)) (
leaf f 231 (app2 (s231 true e) vs G))))) (
fork f 236 (
fork f 234 (
fork f 233 (
leaf f 233 (app2 (s233 true e) vs G)) (
leaf f 234 (app1 (s234 true e) vs G))) (
fork f 235 (
leaf f 235 (app2 (s235 true e) vs G)) (
leaf f 236 (app2 (s236 true e) vs G)))) (
fork f 238 (
fork f 237 (
leaf f 237 (app2 (s237 true e) vs G)) (
leaf f 238 (app2 (s238 true e) vs G))) (
fork f 239 (
leaf f 239 (app2 (s239 true e) vs G)) (
leaf f 240 (app2 (s240 true e) vs G))))))) (
fork f 256 (
fork f 248 (
fork f 244 (
fork f 242 (
fork f 241 (
leaf f 241 (app1 (s241 true e) vs G)) (
leaf f 242 (app2 (s242 true e) vs G))) (
fork f 243 (
leaf f 243 (app1 (s243 true e) vs G)) (
leaf f 244 (app3 (s244 true e) vs G)))) (
fork f 246 (
fork f 245 (
leaf f 245 (app3 (s245 true e) vs G)) (
leaf f 246 (app1 (s246 true e) vs G))) (
fork f 247 (
leaf f 247 (app2 (s247 true e) vs G)) (
leaf f 248 (app4 (s248 true e) vs G))))) (
fork f 252 (
fork f 250 (
fork f 249 (
leaf f 249 (app2 (s249 true e) vs G)) (
leaf f 250 (app2 (s250 true e) vs G))) (
fork f 251 (
leaf f 251 (app2 (s251 true e) vs G)) (
leaf f 252 (app1 (s252 true e) vs G)))) (
fork f 254 (
fork f 253 (
leaf f 253 (app2 (s253 true e) vs G)) (
leaf f 254 (app2 (s254 true e) vs G))) (
fork f 255 (
leaf f 255 (app1 (s255 true e) vs G)) (
leaf f 256 (app2 (s256 true e) vs G)))))) (
fork f 264 (
fork f 260 (
fork f 258 (
fork f 257 (
leaf f 257 (app2 (s257 true e) vs G)) (
leaf f 258 (app2 (s258 true e) vs G))) (
fork f 259 (
leaf f 259 (app2 (s259 true e) vs G)) (
leaf f 260 (app2 (s260 true e) vs G)))) (
fork f 262 (
fork f 261 (
leaf f 261 (app2 (s261 true e) vs G)) (
leaf f 262 (app3 (s262 true e) vs G))) (
fork f 263 (
leaf f 263 (app2 (s263 true e) vs G)) (
leaf f 264 (app2 (s264 true e) vs G))))) (
fork f 268 (
fork f 266 (
fork f 265 (
leaf f 265 (app2 (s265 true e) vs G)) (
leaf f 266 (app2 (s266 true e) vs G))) (
fork f 267 (
leaf f 267 (app2 (s267 true e) vs G)) (
leaf f 268 (app3 (s268 true e) vs G)))) (
fork f 270 (
fork f 269 (
leaf f 269 (app2 (s269 true e) vs G)) (
leaf f 270 (app2 (s270 true e) vs G))) (
fork f 271 (
leaf f 271 (app1 (s271 true e) vs G)) (
leaf f 289 (app2 (s289 true e) vs G)))))))) (
fork f 323 (
fork f 305 (
fork f 297 (
fork f 293 (
fork f 291 (
fork f 290 (
leaf f 290 (app2 (s290 true e) vs G)) (
leaf f 291 (app1 (s291 true e) vs G))) (
fork f 292 (
leaf f 292 (app1 (s292 true e) vs G)) (
leaf f 293 (app2 (s293 true e) vs G)))) (
fork f 295 (
fork f 294 (
leaf f 294 (app2 (s294 true e) vs G)) (
leaf f 295 (app3 (s295 true e) vs G))) (
fork f 296 (
leaf f 296 (app1 (s296 true e) vs G)) (
leaf f 297 (app2 (s297 true e) vs G))))) (
fork f 301 (
fork f 299 (
fork f 298 (
leaf f 298 (app2 (s298 true e) vs G)) (
leaf f 299 (app2 (s299 true e) vs G))) (
fork f 300 (
leaf f 300 (app2 (s300 true e) vs G)) (
leaf f 301 (app1 (s301 true e) vs G)))) (
fork f 303 (
fork f 302 (
leaf f 302 (app2 (s302 true e) vs G)) (
leaf f 303 (app2 (s303 true e) vs G))) (
fork f 304 (
leaf f 304 (app2 (s304 true e) vs G)) (
leaf f 305 (app1 (s305 true e) vs G)))))) (
fork f 313 (
fork f 309 (
fork f 307 (
fork f 306 (
leaf f 306 (app1 (s306 true e) vs G)) (
leaf f 307 (app2 (s307 true e) vs G))) (
fork f 308 (
leaf f 308 (app2 (s308 true e) vs G)) (
leaf f 309 (app2 (s309 true e) vs G)))) (
fork f 311 (
fork f 310 (
leaf f 310 (app2 (s310 true e) vs G)) (
leaf f 311 (app2 (s311 true e) vs G))) (
fork f 312 (
leaf f 312 (app2 (s312 true e) vs G)) (
leaf f 313 (app2 (s313 true e) vs G))))) (
fork f 319 (
fork f 317 (
fork f 315 (
leaf f 315 (app2 (s315 true e) vs G)) (
leaf f 317 (app2 (s317 true e) vs G))) (
fork f 318 (
leaf f 318 (app2 (s318 true e) vs G)) (
leaf f 319 (app2 (s319 true e) vs G)))) (
fork f 321 (
fork f 320 (
leaf f 320 (app1 (s320 true e) vs G)) (
leaf f 321 (app2 (s321 true e) vs G))) (
fork f 322 (
leaf f 322 (app2 (s322 true e) vs G)) (
leaf f 323 (app3 (s323 true e) vs G))))))) (
fork f 339 (
fork f 331 (
fork f 327 (
fork f 325 (
fork f 324 (
leaf f 324 (app1 (s324 true e) vs G)) (
leaf f 325 (app1 (s325 true e) vs G))) (
fork f 326 (
leaf f 326 (app2 (s326 true e) vs G)) (
leaf f 327 (app2 (s327 true e) vs G)))) (
fork f 329 (
fork f 328 (
leaf f 328 (app2 (s328 true e) vs G)) (
leaf f 329 (app1 (s329 true e) vs G))) (
fork f 330 (
leaf f 330 (app2 (s330 true e) vs G)) (
leaf f 331 (app2 (s331 true e) vs G))))) (
fork f 335 (
fork f 333 (
fork f 332 (
leaf f 332 (app0 (orc 332) (hasTab Q G) (s332 true e) vs G)) (
leaf f 333 (app2 (s333 true e) vs G))) (
fork f 334 (
leaf f 334 (app2 (s334 true e) vs G)) (
leaf f 335 (app2 (s335 true e) vs G)))) (
fork f 337 (
fork f 336 (
leaf f 336 (app2 (s336 true e) vs G)) (
leaf f 337 (app2 (s337 true e) vs G))) (
fork f 338 (
leaf f 338 (app2 (s338 true e) vs G)) (
leaf f 339 (app2 (s339 true e) vs G)))))) (
fork f 347 (
fork f 343 (
fork f 341 (
fork f 340 (
leaf f 340 (app2 (s340 true e) vs G)) (
leaf f 341 (app2 (s341 true e) vs G))) (
fork f 342 (
leaf f 342 (app2 (s342 true e) vs G)) (
leaf f 343 (app2 (s343 true e) vs G)))) (
fork f 345 (
fork f 344 (
leaf f 344 (app2 (s344 true e) vs G)) (
leaf f 345 (app2 (s345 true e) vs G))) (
fork f 346 (
leaf f 346 (app1 (s346 true e) vs G)) (
leaf f 347 (app2 (s347 true e) vs G))))) (
fork f 351 (
fork f 349 (
fork f 348 (
leaf f 348 (app1 (s348 true e) vs G)) (
leaf f 349 (app3 (s349 true e) vs G))) (
fork f 350 (
leaf f 350 (app5 (s350 true e) vs G)) (
leaf f 351 (app1 (s351 true e) vs G)))) (
fork f 353 (
fork f 352 (
leaf f 352 (app1 (s352 true e) vs G)) (
leaf f 353 (app1 (s353 true e) vs G))) (
fork f 354 (
leaf f 354 (app1 (s354 true e) vs G)) (
leaf f 355 (app2 (s355 true e) vs G)))))))))
theorem clT_ok {orc : FuncId → Bool} {e : Ex} (h : ExLe Q e (E orc)) (f : FuncId) (vs : List Value) (G : GS) : Ref (clT orc e f vs G) ((E orc).cl f vs G) :=
  Ref.fork (
Ref.fork (
Ref.fork (
Ref.fork (
Ref.fork (
Ref.fork (
Ref.fork (
Ref.fork (
Ref.leaf (y := fun f => (E orc).cl f vs G) (Ref.app0 (fun ho G => f3 h ho G) vs G)) (
Ref.leaf (y := fun f => (E orc).cl f vs G) (Ref.app0 (fun ho G => f6 h ho G) vs G))) (
Ref.fork (
Ref.leaf (y := fun f => (E orc).cl f vs G) (Ref.app0 (fun ho G => f7 h ho G) vs G)) (
Ref.leaf (y := fun f => (E orc).cl f vs G) (Ref.app4 (fun u0 u1 u2 u3 G => f8 h u0 u1 u2 u3 G) vs G)))) (
Ref.fork (
Ref.fork (
Ref.leaf (y := fun f => (E orc).cl f vs G) (Ref.app3 (fun u0 u1 u2 G => f9 h u0 u1 u2 G) vs G)) (
Ref.leaf (y := fun f => (E orc).cl f vs G) (Ref.app5 (fun u0 u1 u2 u3 u4 G => f10 h u0 u1 u2 u3 u4 G) vs G))) (
Ref.fork (
Ref.leaf (y := fun f => (E orc).cl f vs G) (Ref.app2 (fun u0 u1 G => f11 h u0 u1 G) vs G)) (
Ref.leaf (y := fun f => (E orc).cl f vs G) (Ref.app1 (fun u0 G => f12 h u0 G) vs G))))) (
Ref.fork (
Ref.fork (
Ref.fork (
Ref.leaf (y := fun f => (E orc).cl f vs G) (Ref.app0 (fun ho G => f13 h ho G) vs G)) (
Ref.leaf (y := fun f => (E orc).cl f vs G) (Ref.app1 (fun u0 G => f14 h u0 G) vs G))) (
Ref.fork (
Ref.leaf (y := fun f => (E orc).cl f vs G) (Ref.app0 (fun ho G => f15 h ho G) vs G)) (
Ref.leaf (y := fun f => (E orc).cl f vs G) (Ref.app0 (fun ho G => f16 h ho G) vs G)))) (
Ref.fork (
Ref.fork (
Ref.leaf (y := fun f => (E orc).cl f vs G) (Ref.app2 (fun u0 u1 G => f22 h u0 u1 G) vs G)) (
Ref.leaf (y := fun f => (E orc).cl f vs G) (Ref.app3 (fun u0 u1 u2 G => f26 h u0 u1 u2 G) vs G))) (
Ref.fork (
Ref.leaf (y := fun f => (E orc).cl f vs G) (Ref.app2 (fun u0 u1 G => f34 h u0 u1 G) vs G)) (
Ref.leaf (y := fun f => (E orc).cl f vs G) (Ref.app2 (fun u0 u1 G => f41 h u0 u1 G) vs G)))))) (
Ref.fork (
Ref.fork (
Ref.fork (
Ref.fork (
Ref.leaf (y := fun f => (E orc).cl f vs G) (Ref.app6 (fun u0 u1 u2 u3 u4 u5 G => f42 h u0 u1 u2 u3 u4 u5 G) vs G)) (
Ref.leaf (y := fun f => (E orc).cl f vs G) (Ref.app1 (fun u0 G => f43 h u0 G) vs G))) (
Ref.fork (
Ref.leaf (y := fun f => (E orc).cl f vs G) (Ref.app2 (fun u0 u1 G => f44 h u0 u1 G) vs G)) (
Ref.leaf (y := fun f => (E orc).cl f vs G) (Ref.app1 (fun u0 G => f45 h u0 G) vs G)))) (
Ref.fork (
Ref.fork (
Ref.leaf (y := fun f => (E orc).cl f vs G) (Ref.app1 (fun u0 G => f46 h u0 G) vs G)) (
Ref.leaf (y := fun f => (E orc).cl f vs G) (Ref.app1 (fun u0 G => f47 h u0 G) vs G))) (
Ref.fork (
Ref.leaf (y := fun f => (E orc).cl f vs G) (Ref.app1 (fun u0 G => f48 h u0 G) vs G)) (
Ref.leaf (y := fun f => (E orc).cl f vs G) (Ref.app1 (fun u0 G => f49 h u0 G) vs G))))) (
Ref.fork (
Ref.fork (
Ref.fork (
Ref.leaf (y := fun f => (E orc).cl f vs G) (Ref.app2 (fun u0 u1 G => f50 h u0 u1 G) vs G)) (
Ref.leaf (y := fun f => (E orc).cl f vs G) (Ref.app1 (fun u0 G => f51 h u0 G) vs G))) (
Ref.fork (
Ref.leaf (y := fun f => (E orc).cl f vs G) (Ref.app1 (fun u0 G => f52 h u0 G) vs G)) (
Ref.leaf (y := fun f => (E orc).cl f vs G) (Ref.app2 (fun u0 u1 G => f53 h u0 u1 G) vs G)))) (
Ref.fork (
Ref.fork (
Ref.leaf (y := fun f => (E orc).cl f vs G) (Ref.app3 (fun u0 u1 u2 G => f54 h u0 u1 u2 G) vs G)) (
Ref.leaf (y := fun f => (E orc).cl f vs G) (Ref.app1 (fun u0 G => f55 h u0 G) vs G))) (
Ref.fork (
Ref.leaf (y := fun f => (E orc).cl f vs G) (Ref.app3 (fun u0 u1 u2 G => f56 h u0 u1 u2 G) vs G)) (
Ref.leaf (y := fun f => (E orc).cl f vs G) (Ref.app3 (fun u0 u1 u2 G => f57 h u0 u1 u2 G) vs G))))))) (
Ref.fork (
Ref.fork (
Ref.fork (
Ref.fork (
Ref.fork (
Ref.leaf (y := fun f => (E orc).cl f vs G) (Ref.app1 (fun u0 G => f58 h u0 G) vs G)) (
Ref.leaf (y := fun f => (E orc).cl f vs G) (Ref.app2 (fun u0 u1 G => f59 h u0 u1 G) vs G))) (
Ref.fork (
Ref.leaf (y := fun f => (E orc).cl f vs G) (Ref.app2 (fun u0 u1 G => f65 h u0 u1 G) vs G)) (
Ref.leaf (y := fun f => (E orc).cl f vs G) (Ref.app2 (fun u0 u1 G => f73 h u0 u1 G) vs G)))) (
Ref.fork (
Ref.fork (
Ref.leaf (y := fun f => (E orc).cl f vs G) (Ref.app5 (fun u0 u1 u2 u3 u4 G => f74 h u0 u1 u2 u3 u4 G) vs G)) (
Ref.leaf (y := fun f => (E orc).cl f vs G) (Ref.app1 (fun u0 G => f75 h u0 G) vs G))) (
Ref.fork (
Ref.leaf (y := fun f => (E orc).cl f vs G) (Ref.app2 (fun u0 u1 G => f77 h u0 u1 G) vs G)) (
Ref.leaf (y := fun f => (E orc).cl f vs G) (Ref.app2 (fun u0 u1 G => f78 h u0 u1 G) vs G))))) (
Ref.fork (
Ref.fork (
Ref.fork (
Ref.leaf (y := fun f => (E orc).cl f vs G) (Ref.app2 (fun u0 u1 G => f82 h u0 u1 G) vs G)) (
Ref.leaf (y := fun f => (E orc).cl f vs G) (Ref.app2 (fun u0 u1 G => f83 h u0 u1 G) vs G))) (
Ref.fork (
Ref.leaf (y := fun f => (E orc).cl f vs G) (Ref.app2 (fun u0 u1 G => f85 h u0 u1 G) vs G)) (
Ref.leaf (y := fun f => (E orc).cl f vs G) (Ref.app1 (fun u0 G => f86 h u0 G) vs G)))) (
Ref.fork (
Ref.fork (
Ref.leaf (y := fun f => (E orc).cl f vs G) (Ref.app2 (fun u0 u1 G => f87 h u0 u1 G) vs G)) (
Ref.leaf (y := fun f => (E orc).cl f vs G) (Ref.app3 (fun u0 u1 u2 G => f90 h u0 u1 u2 G) vs G))) (
Ref.fork (
Ref.leaf (y := fun f => (E orc).cl f vs G) (Ref.app1 (fun u0 G => f91 h u0 G) vs G)) (
Ref.leaf (y := fun f => (E orc).cl f vs G) (Ref.app2 (fun u0 u1 G => f92 h u0 u1 G) vs G)))))) (
Ref.fork (
Ref.fork (
Ref.fork (
Ref.fork (
Ref.leaf (y := fun f => (E orc).cl f vs G) (Ref.app2 (fun u0 u1 G => f93 h u0 u1 G) vs G)) (
Ref.leaf (y := fun f => (E orc).cl f vs G) (Ref.app1 (fun u0 G => f94 h u0 G) vs G))) (
Ref.fork (
Ref.leaf (y := fun f => (E orc).cl f vs G) (Ref.app1 (fun u0 G => f95 h u0 G) vs G)) (
Ref.leaf (y := fun f => (E orc).cl f vs G) (Ref.app1 (fun u0 G => f96 h u0 G) vs G)))) (
Ref.fork (
Ref.fork (
Ref.leaf (y := fun f => (E orc).cl f vs G) (Ref.app2 (fun u0 u1 G => f97 h u0 u1 G) vs G)) (
Ref.leaf (y := fun f => (E orc).cl f vs G) (Ref.app1 (fun u0 G => f98 h u0 G) vs G))) (
Ref.fork (
Ref.leaf (y := fun f => (E orc).cl f vs G) (Ref.app1 (fun u0 G => f99 h u0 G) vs G)) (
Ref.leaf (y := fun f => (E orc).cl f vs G) (Ref.app1 (fun u0 G => f100 h u0 G) vs G))))) (
Ref.fork (
Ref.fork (
Ref.fork (
Ref.leaf (y := fun f => (E orc).cl f vs G) (Ref.app2 (fun u0 u1 G => f101 h u0 u1 G) vs G)) (
Ref.leaf (y := fun f => (E orc).cl f vs G) (Ref.app2 (fun u0 u1 G => f102 h u0 u1 G) vs G))) (
Ref.fork (
Ref.leaf (y := fun f => (E orc).cl f vs G) (Ref.app3 (fun u0 u1 u2 G => f103 h u0 u1 u2 G) vs G)) (
Ref.leaf (y := fun f => (E orc).cl f vs G) (Ref.app1 (fun u0 G => f104 h u0 G) vs G)))) (
Ref.fork (
Ref.fork (
Ref.leaf (y := fun f => (E orc).cl f vs G) (Ref.app3 (fun u0 u1 u2 G => f105 h u0 u1 u2 G) vs G)) (
Ref.leaf (y := fun f => (E orc).cl f vs G) (Ref.app2 (fun u0 u1 G => f106 h u0 u1 G) vs G))) (
Ref.fork (
Ref.leaf (y := fun f => (E orc).cl f vs G) (Ref.app2 (fun u0 u1 G => f107 h u0 u1 G) vs G)) (
Ref.leaf (y := fun f => (E orc).cl f vs G) (Ref.app1 (fun u0 G => f108 h u0 G) vs G)))))))) (
Ref.fork (
Ref.fork (
Ref.fork (
Ref.fork (
Ref.fork (
Ref.fork (
Ref.leaf (y := fun f => (E orc).cl f vs G) (Ref.app1 (fun u0 G => f109 h u0 G) vs G)) (
Ref.leaf (y := fun f => (E orc).cl f vs G) (Ref.app2 (fun u0 u1 G => f110 h u0 u1 G) vs G))) (
Ref.fork (
Ref.leaf (y := fun f => (E orc).cl f vs G) (Ref.app1 (fun u0 G => f121 h u0 G) vs G)) (
Ref.leaf (y := fun f => (E orc).cl f vs G) (Ref.app2 (fun u0 u1 G => f122 h u0 u1 G) vs G)))) (
Ref.fork (
Ref.fork (
Ref.leaf (y := fun f => (E orc).cl f vs G) (Ref.app1 (fun u0 G => f123 h u0 G) vs G)) (
Ref.leaf (y := fun f => (E orc).cl f vs G) (Ref.app2 (fun u0 u1 G => f124 h u0 u1 G) vs G))) (
Ref.fork (
Ref.leaf (y := fun f => (E orc).cl f vs G) (Ref.app1 (fun u0 G => f126 h u0 G) vs G)) (
Ref.leaf (y := fun f => (E orc).cl f vs G) (Ref.app1 (fun u0 G => f129 h u0 G) vs G))))) (
Ref.fork (
Ref.fork (
Ref.fork (
Ref.leaf (y := fun f => (E orc).cl f vs G) (Ref.app1 (fun u0 G => f130 h u0 G) vs G)) (
Ref.leaf (y := fun f => (E orc).cl f vs G) (Ref.app1 (fun u0 G => f131 h u0 G) vs G))) (
Ref.fork (
Ref.leaf (y := fun f => (E orc).cl f vs G) (Ref.app2 (fun u0 u1 G => f132 h u0 u1 G) vs G)) (
Ref.leaf (y := fun f => (E orc).cl f vs G) (Ref.app1 (fun u0 G => f133 h u0 G) vs G)))) (
Ref.fork (
Ref.fork (
Ref.leaf (y := fun f => (E orc).cl f vs G) (Ref.app1 (fun u0 G => f134 h u0 G) vs G)) (
Ref.leaf (y := fun f => (E orc).cl f vs G) (Ref.app3 (fun u0 u1 u2 G => f135 h u0 u1 u2 G) vs G))) (
Ref.fork (
Ref.leaf (y := fun f => (E orc).cl f vs G) (Ref.app1 (fun u0 G => f136 h u0 G) vs G)) (
Ref.leaf (y := fun f => (E orc).cl f vs G) (Ref.app3 (fun u0 u1 u2 G => f137 h u0 u1 u2 G) vs G)))))) (
Ref.fork (
Ref.fork (
Ref.fork (
Ref.fork (
Ref.leaf (y := fun f => (E orc).cl f vs G) (Ref.app2 (fun u0 u1 G => f138 h u0 u1 G) vs G)) (
Ref.leaf (y := fun f => (E orc).cl f vs G) (Ref.app2 (fun u0 u1 G => f139 h u0 u1 G) vs G))) (
Ref.fork (
Ref.leaf (y := fun f => (E orc).cl f vs G) (Ref.app2 (fun u0 u1 G => f140 h u0 u1 G) vs G)) (
Ref.leaf (y := fun f => (E orc).cl f vs G) (Ref.app2 (fun u0 u1 G => f141 h u0 u1 G) vs G)))) (
Ref.fork (
Ref.fork (
Ref.leaf (y := fun f => (E orc).cl f vs G) (Ref.app2 (fun u0 u1 G => f142 h u0 u1 G) vs G)) (
Ref.leaf (y := fun f => (E orc).cl f vs G) (Ref.app1 (fun u0 G => f143 h u0 G) vs G))) (
Ref.fork (
Ref.leaf (y := fun f => (E orc).cl f vs G) (Ref.app1 (fun u0 G => f144 h u0 G) vs G)) (
Ref.leaf (y := fun f => (E orc).cl f vs G) (Ref.app2 (fun u0 u1 G => f145 h u0 u1 G) vs G))))) (
Ref.fork (
Ref.fork (
Ref.fork (
Ref.leaf (y := fun f => (E orc).cl f vs G) (Ref.app1 (fun u0 G => f146 h u0 G) vs G)) (
Ref.leaf (y := fun f => (E orc).cl f vs G) (Ref.app1 (fun u0 G => f147 h u0 G) vs G))) (
Ref.fork (
Ref.leaf (y := fun f => (E orc).cl f vs G) (Ref.app1 (fun u0 G => f148 h u0 G) vs G)) (
Ref.leaf (y := fun f => (E orc).cl f vs G) (Ref.app1 (fun u0 G => f149 h u0 G) vs G)))) (
Ref.fork (
Ref.fork (
Ref.leaf (y := fun f => (E orc).cl f vs G) (Ref.app2 (fun u0 u1 G => f150 h u0 u1 G) vs G)) (
Ref.leaf (y := fun f => (E orc).cl f vs G) (Ref.app2 (fun u0 u1 G => f151 h u0 u1 G) vs G))) (
Ref.fork (
Ref.leaf (y := fun f => (E orc).cl f vs G) (Ref.app4 (fun u0 u1 u2 u3 G => f152 h u0 u1 u2 u3 G) vs G)) (
Ref.leaf (y := fun f => (E orc).cl f vs G) (Ref.app2 (fun u0 u1 G => f153 h u0 u1 G) vs G))))))) (
Ref.fork (
Ref.fork (
Ref.fork (
Ref.fork (
Ref.fork (
Ref.leaf (y := fun f => (E orc).cl f vs G) (Ref.app2 (fun u0 u1 G => f154 h u0 u1 G) vs G)) (
Ref.leaf (y := fun f => (E orc).cl f vs G) (Ref.app2 (fun u0 u1 G => f155 h u0 u1 G) vs G))) (
Ref.fork (
Ref.leaf (y := fun f => (E orc).cl f vs G) (Ref.app1 (fun u0 G => f156 h u0 G) vs G)) (
Ref.leaf (y := fun f => (E orc).cl f vs G) (Ref.app2 (fun u0 u1 G => f157 h u0 u1 G) vs G)))) (
Ref.fork (
Ref.fork (
Ref.leaf (y := fun f => (E orc).cl f vs G) (Ref.app2 (fun u0 u1 G => f158 h u0 u1 G) vs G)) (
Ref.leaf (y := fun f => (E orc).cl f vs G) (Ref.app2 (fun u0 u1 G => f159 h u0 u1 G) vs G))) (
Ref.fork (
Ref.leaf (y := fun f => (E orc).cl f vs G) (Ref.app1 (fun u0 G => f163 h u0 G) vs G)) (
Ref.leaf (y := fun f => (E orc).cl f vs G) (Ref.app1 (fun u0 G => f165 h u0 G) vs G))))) (
Ref.fork (
Ref.fork (
Ref.fork (
Ref.leaf (y := fun f => (E orc).cl f vs G) (Ref.app1 (fun u0 G => f166 h u0 G) vs G)) (
Ref.leaf (y := fun f => (E orc).cl f vs G) (Ref.app1 (fun u0 G => f168 h u0 G) vs G))) (
Ref.fork (
Ref.leaf (y := fun f => (E orc).cl f vs G) (Ref.app1 (fun u0 G => f169 h u0 G) vs G)) (
Ref.leaf (y := fun f => (E orc).cl f vs G) (Ref.app1 (fun u0 G => f180 h u0 G) vs G)))) (
Ref.fork (
Ref.fork (
Ref.leaf (y := fun f => (E orc).cl f vs G) (Ref.app1 (fun u0 G => f181 h u0 G) vs G)) (
Ref.leaf (y := fun f => (E orc).cl f vs G) (Ref.app2 (fun u0 u1 G => f182 h u0 u1 G) vs G))) (
Ref.fork (
Ref.leaf (y := fun f => (E orc).cl f vs G) (Ref.app2 (fun u0 u1 G => f183 h u0 u1 G) vs G)) (
Ref.leaf (y := fun f => (E orc).cl f vs G) (Ref.app1 (fun u0 G => f184 h u0 G) vs G)))))) (
Ref.fork (
Ref.fork (
Ref.fork (
Ref.fork (
Ref.leaf (y := fun f => (E orc).cl f vs G) (Ref.app2 (fun u0 u1 G => f185 h u0 u1 G) vs G)) (
Ref.leaf (y := fun f => (E orc).cl f vs G) (Ref.app2 (fun u0 u1 G => f186 h u0 u1 G) vs G))) (
Ref.fork (
Ref.leaf (y := fun f => (E orc).cl f vs G) (Ref.app1 (fun u0 G => f187 h u0 G) vs G)) (
Ref.leaf (y := fun f => (E orc).cl f vs G) (Ref.app5 (fun u0 u1 u2 u3 u4 G => f188 h u0 u1 u2 u3 u4 G) vs G)))) (
Ref.fork (
Ref.fork (
Ref.leaf (y := fun f => (E orc).cl f vs G) (Ref.app1 (fun u0 G => f189 h u0 G) vs G)) (
Ref.leaf (y := fun f => (E orc).cl f vs G) (Ref.app1 (fun u0 G => f190 h u0 G) vs G))) (
Ref.fork (
Ref.leaf (y := fun f => (E orc).cl f vs G) (Ref.app4 (fun u0 u1 u2 u3 G => f191 h u0 u1 u2 u3 G) vs G)) (
Ref.leaf (y := fun f => (E orc).cl f vs G) (Ref.app1 (fun u0 G => f192 h u0 G) vs G))))) (
Ref.fork (
Ref.fork (
Ref.fork (
Ref.leaf (y := fun f => (E orc).cl f vs G) (Ref.app1 (fun u0 G => f193 h u0 G) vs G)) (
Ref.leaf (y := fun f => (E orc).cl f vs G) (Ref.app3 (fun u0 u1 u2 G => f194 h u0 u1 u2 G) vs G))) (
Ref.fork (
Ref.leaf (y := fun f => (E orc).cl f vs G) (Ref.app1 (fun u0 G => f195 h u0 G) vs G)) (
Ref.leaf (y := fun f => (E orc).cl f vs G) (Ref.app1 (fun u0 G => f196 h u0 G) vs G)))) (
Ref.fork (
Ref.fork (
Ref.leaf (y := fun f => (E orc).cl f vs G) (Ref.app1 (fun u0 G => f197 h u0 G) vs G)) (
Ref.leaf (y := fun f => (E orc).cl f vs G) (Ref.app2 (fun u0 u1 G => f198 h u0 u1 G) vs G))) (
Ref.fork (
Ref.leaf (y := fun f => (E orc).cl f vs G) (Ref.app2 (fun u0 u1 G => f201 h u0 u1 G) vs G)) (
Ref.leaf (y := fun f => (E orc).cl f vs G) (Ref.app0 (fun ho G => f202 h ho G) vs G))))))))) (
Ref.fork (
Ref.fork (
Ref.fork (
Ref.fork (
Ref.fork (
Ref.fork (
Ref.fork (
Ref.leaf (y := fun f => (E orc).cl f vs G) (Ref.app2 (fun u0 u1 G => f203 h u0 u1 G) vs G)) (
Ref.leaf (y := fun f => (E orc).cl f vs G) (Ref.app1 (fun u0 G => f204 h u0 G) vs G))) (
Ref.fork (
Ref.leaf (y := fun f => (E orc).cl f vs G) (Ref.app1 (fun u0 G => f205 h u0 G) vs G)) (
Ref.leaf (y := fun f => (E orc).cl f vs G) (Ref.app2 (fun u0 u1 G => f206 h u0 u1 G) vs G)))) (
Ref.fork (
Ref.fork (
Ref.leaf (y := fun f => (E orc).cl f vs G) (Ref.app2 (fun u0 u1 G => f212 h u0 u1 G) vs G)) (
Ref.leaf (y := fun f => (E orc).cl f vs G) (Ref.app2 (fun u0 u1 G => f213 h u0 u1 G) vs G))) (
Ref.fork (
Ref.leaf (y := fun f => (E orc).cl f vs G) (Ref.app2 (fun u0 u1 G => f214 h u0 u1 G) vs G)) (
Ref.leaf (y := fun f => (E orc).cl f vs G) (Ref.app1 (fun u0 G => f215 h u0 G) vs G))))) (
Ref.fork (
Ref.fork (
Ref.fork (
Ref.leaf (y := fun f => (E orc).cl f vs G) (Ref.app1 (fun u0 G => f216 h u0 G) vs G)) (
Ref.leaf (y := fun f => (E orc).cl f vs G) (Ref.app1 (fun u0 G => f217 h u0 G) vs G))) (
Ref.fork (
Ref.leaf (y := fun f => (E orc).cl f vs G) (Ref.app4 (fun u0 u1 u2 u3 G => f218 h u0 u1 u2 u3 G) vs G)) (
Ref.leaf (y := fun f => (E orc).cl f vs G) (Ref.app4 (fun u0 u1 u2 u3 G => f219 h u0 u1 u2 u3 G) vs G)))) (
Ref.fork (
Ref.fork (
Ref.leaf (y := fun f => (E orc).cl f vs G) (Ref.app5 (fun u0 u1 u2 u3 u4 G => f220 h u0 u1 u2 u3 u4 G) vs G)) (
Ref.leaf (y := fun f => (E orc).cl f vs G) (Ref.app3 (fun u0 u1 u2 G => f221 h u0 u1 u2 G) vs G))) (
Ref.fork (
Ref.leaf (y := fun f => (E orc).cl f vs G) (Ref.app2 (fun u0 u1 G => f222 h u0 u1 G) vs G)) (
Ref.leaf (y := fun f => (E orc).cl f vs G) (Ref.app3 (fun u0 u1 u2 G => f223 h u0 u1 u2 G) vs G)))))) (
Ref.fork (
Ref.fork (
Ref.fork (
Ref.fork (
Ref.leaf (y := fun f => (E orc).cl f vs G) (Ref.app1 (fun u0 G => f224 h u0 G) vs G)) (
Ref.leaf (y := fun f => (E orc).cl f vs G) (Ref.app2 (fun u0 u1 G => f225 h u0 u1 G) vs G))) (
Ref.fork (
Ref.leaf (y := fun f => (E orc).cl f vs G) (Ref.app0 (fun ho G => f226 h ho G) vs G)) (
Ref.leaf (y := fun f => (E orc).cl f vs G) (Ref.app1 (fun u0 G => f227 h u0 G) vs G)))) (
Ref.fork (
Ref.fork (
Ref.leaf (y := fun f => (E orc).cl f vs G) (Ref.app1 (fun u0 G => f228 h u0 G) vs G)) (
Ref.leaf (y := fun f => (E orc).cl f vs G) (Ref.app1 (fun u0 G => f229 h u0 G) vs G))) (
Ref.fork (
Ref.leaf (y := fun f => (E orc).cl f vs G) (Ref.app2 (fun u0 u1 G => f230 h u0 u1 G) vs G)) (
Ref.leaf (y := fun f => (E orc).cl f vs G) (Ref.app2 (fun u0 u1 G => f231 h u0 u1 G) vs G))))) (
Ref.fork (
Ref.fork (
Ref.fork (
Ref.leaf (y := fun f => (E orc).cl f vs G) (Ref.app2 (fun u0 u1 G => f233 h u0 u1 G) vs G)) (
Ref.leaf (y := fun f => (E orc).cl f vs G) (Ref.app1 (fun u0 G => f234 h u0 G) vs G))) (
Ref.fork (
Ref.leaf (y := fun f => (E orc).cl f vs G) (Ref.app2 (fun u0 u1 G => f235 h u0 u1 G) vs G)) (
Ref.leaf (y := fun f => (E orc).cl f vs G) (Ref.app2 (fun u0 u1 G => f236 h u0 u1 G) vs G)))) (
Ref.fork (
Ref.fork (
Ref.leaf (y := fun f => (E orc).cl f vs G) (Ref.app2 (fun u0 u1 G => f237 h u0 u1 G) vs G)) (
Ref.leaf (y := fun f => (E orc).cl f vs G) (Ref.app2 (fun u0 u1 G => f238 h u0 u1 G) vs G))) (
Ref.fork (
Ref.leaf (y := fun f => (E orc).cl f vs G) (Ref.app2 (fun u0 u1 G => f239 h u0 u1 G) vs G)) (
Ref.leaf (y := fun f => (E orc).cl f vs G) (Ref.app2 (fun u0 u1 G => f240 h u0 u1 G) vs G))))))) (
Ref.fork (
Ref.fork (
Ref.fork (
Ref.fork (
Ref.fork (
Ref.leaf (y := fun f => (E orc).cl f vs G) (Ref.app1 (fun u0 G => f241 h u0 G) vs G)) (
Ref.leaf (y := fun f => (E orc).cl f vs G) (Ref.app2 (fun u0 u1 G => f242 h u0 u1 G) vs G))) (
Ref.fork (
Ref.leaf (y := fun f => (E orc).cl f vs G) (Ref.app1 (fun u0 G => f243 h u0 G) vs G)) (
Ref.leaf (y := fun f => (E orc).cl f vs G) (Ref.app3 (fun u0 u1 u2 G => f244 h u0 u1 u2 G) vs G)))) (
Ref.fork (
Ref.fork (
Ref.leaf (y := fun f => (E orc).cl f vs G) (Ref.app3 (fun u0 u1 u2 G => f245 h u0 u1 u2 G) vs G)) (
Ref.leaf (y := fun f => (E orc).cl f vs G) (Ref.app1 (fun u0 G => f246 h u0 G) vs G))) (
Ref.fork (
Ref.leaf (y := fun f => (E orc).cl f vs G) (Ref.app2 (fun u0 u1 G => f247 h u0 u1 G) vs G)) (
Ref.leaf (y := fun f => (E orc).cl f vs G) (Ref.app4 (fun u0 u1 u2 u3 G => f248 h u0 u1 u2 u3 G) vs G))))) (
Ref.fork (
Ref.fork (
Ref.fork (
Ref.leaf (y := fun f => (E orc).cl f vs G) (Ref.app2 (fun u0 u1 G => f249 h u0 u1 G) vs G)) (
Ref.leaf (y := fun f => (E orc).cl f vs G) (Ref.app2 (fun u0 u1 G => f250 h u0 u1 G) vs G))) (
Ref.fork (
Ref.leaf (y := fun f => (E orc).cl f vs G) (Ref.app2 (fun u0 u1 G => f251 h u0 u1 G) vs G)) (
Ref.leaf (y := fun f => (E orc).cl f vs G) (Ref.app1 (fun u0 G => f252 h u0 G) vs G)))) (
Ref.fork (
Ref.fork (
Ref.leaf (y := fun f => (E orc).cl f vs G) (Ref.app2 (fun u0 u1 G => f253 h u0 u1 G) vs G)) (
Ref.leaf (y := fun f => (E orc).cl f vs G) (Ref.app2 (fun u0 u1 G => f254 h u0 u1 G) vs G))) (
Ref.fork (
Ref.leaf (y := fun f => (E orc).cl f vs G) (Ref.app1 (fun u0 G => f255 h u0 G) vs G)) (
Ref.leaf (y := fun f => (E orc).cl f vs G) (Ref.app2 (fun u0 u1 G => f256 h u0 u1 G) vs G)))))) (
Ref.fork (
Ref.fork (
Ref.fork (
Ref.fork (
Ref.leaf (y := fun f => (E orc).cl f vs G) (Ref.app2 (fun u0 u1 G => f257 h u0 u1 G) vs G)) (
Ref.leaf (y := fun f => (E orc).cl f vs G) (Ref.app2 (fun u0 u1 G => f258 h u0 u1 G) vs G))) (
Ref.fork (
Ref.leaf (y := fun f => (E orc).cl f vs G) (Ref.app2 (fun u0 u1 G => f259 h u0 u1 G) vs G)) (
Ref.leaf (y := fun f => (E orc).cl f vs G) (Ref.app2 (fun u0 u1 G => f260 h u0 u1 G) vs G)))) (
Ref.fork (
Ref.fork (
Ref.leaf (y := fun f => (E orc).cl f vs G) (Ref.app2 (fun u0 u1 G => f261 h u0 u1 G) vs G)) (
Ref.leaf (y := fun f => (E orc).cl f vs G) (Ref.app3 (fun u0 u1 u2 G => f262 h u0 u1 u2 G) vs G))) (
Ref.fork (
Ref.leaf (y := fun f => (E orc).cl f vs G) (Ref.app2 (fun u0 u1 G => f263 h u0 u1 G) vs G)) (
Ref.leaf (y := fun f => (E orc).cl f vs G) (Ref.app2 (fun u0 u1 G => f264 h u0 u1 G) vs G))))) (
Ref.fork (
Ref.fork (
Ref.fork (
Ref.leaf (y := fun f => (E orc).cl f vs G) (Ref.app2 (fun u0 u1 G => f265 h u0 u1 G) vs G)) (
Ref.leaf (y := fun f => (E orc).cl f vs G) (Ref.app2 (fun u0 u1 G => f266 h u0 u1 G) vs G))) (
Ref.fork (
Ref.leaf (y := fun f => (E orc).cl f vs G) (Ref.app2 (fun u0 u1 G => f267 h u0 u1 G) vs G)) (
Ref.leaf (y := fun f => (E orc).cl f vs G) (Ref.app3 (fun u0 u1 u2 G => f268 h u0 u1 u2 G) vs G)))) (
Ref.fork (
Ref.fork (
Ref.leaf (y := fun f => (E orc).cl f vs G) (Ref.app2 (fun u0 u1 G => f269 h u0 u1 G) vs G)) (
Ref.leaf (y := fun f => (E orc).cl f vs G) (Ref.app2 (fun u0 u1 G => f270 h u0 u1 G) vs G))) (
Ref.fork (
Ref.leaf (y := fun f => (E orc).cl f vs G) (Ref.app1 (fun u0 G => f271 h u0 G) vs G)) (
Ref.leaf (y := fun f => (E orc).cl f vs G) (Ref.app2 (fun u0 u1 G => f289 h u0 u1 G) vs G)))))))) (
Ref.fork (
Ref.fork (
Ref.fork (
Ref.fork (
Ref.fork (
Ref.fork (
Ref.leaf (y := fun f => (E orc).cl f vs G) (Ref.app2 (fun u0 u1 G => f290 h u0 u1 G) vs G)) (
Ref.leaf (y := fun f => (E orc).cl f vs G) (Ref.app1 (fun u0 G => f291 h u0 G) vs G))) (
Ref.fork (
Ref.leaf (y := fun f => (E orc).cl f vs G) (Ref.app1 (fun u0 G => f292 h u0 G) vs G)) (
Ref.leaf (y := fun f => (E orc).cl f vs G) (Ref.app2 (fun u0 u1 G => f293 h u0 u1 G) vs G)))) (
Ref.fork (
Ref.fork (
Ref.leaf (y := fun f => (E orc).cl f vs G) (Ref.app2 (fun u0 u1 G => f294 h u0 u1 G) vs G)) (
Ref.leaf (y := fun f => (E orc).cl f vs G) (Ref.app3 (fun u0 u1 u2 G => f295 h u0 u1 u2 G) vs G))) (
Ref.fork (
Ref.leaf (y := fun f => (E orc).cl f vs G) (Ref.app1 (fun u0 G => f296 h u0 G) vs G)) (
Ref.leaf (y := fun f => (E orc).cl f vs G) (Ref.app2 (fun u0 u1 G => f297 h u0 u1 G) vs G))))) (
Ref.fork (
Ref.fork (
Ref.fork (
Ref.leaf (y := fun f => (E orc).cl f vs G) (Ref.app2 (fun u0 u1 G => f298 h u0 u1 G) vs G)) (
Ref.leaf (y := fun f => (E orc).cl f vs G) (Ref.app2 (fun u0 u1 G => f299 h u0 u1 G) vs G))) (
Ref.fork (
Ref.leaf (y := fun f => (E orc).cl f vs G) (Ref.app2 (fun u0 u1 G => f300 h u0 u1 G) vs G)) (
Ref.leaf (y := fun f => (E orc).cl f vs G) (Ref.app1 (fun u0 G => f301 h u0 G) vs G)))) (
Ref.fork (
Ref.fork (
Ref.leaf (y := fun f => (E orc).cl f vs G) (Ref.app2 (fun u0 u1 G => f302 h u0 u1 G) vs G)) (
Ref.leaf (y := fun f => (E orc).cl f vs G) (Ref.app2 (fun u0 u1 G => f303 h u0 u1 G) vs G))) (
Ref.fork (
Ref.leaf (y := fun f => (E orc).cl f vs G) (Ref.app2 (fun u0 u1 G => f304 h u0 u1 G) vs G)) (
Ref.leaf (y := fun f => (E orc).cl f vs G) (Ref.app1 (fun u0 G => f305 h u0 G) vs G)))))) (
Ref.fork (
Ref.fork (
Ref.fork (
Ref.fork (
Ref.leaf (y := fun f => (E orc).cl f vs G) (Ref.app1 (fun u0 G => f306 h u0 G) vs G)) (
Ref.leaf (y := fun f => (E orc).cl f vs G) (Ref.app2 (fun u0 u1 G => f307 h u0 u1 G) vs G))) (
Ref.fork (
Ref.leaf (y := fun f => (E orc).cl f vs G) (Ref.app2 (fun u0 u1 G => f308 h u0 u1 G) vs G)) (
Ref.leaf (y := fun f => (E orc).cl f vs G) (Ref.app2 (fun u0 u1 G => f309 h u0 u1 G) vs G)))) (
Ref.fork (
Ref.fork (
Ref.leaf (y := fun f => (E orc).cl f vs G) (Ref.app2 (fun u0 u1 G => f310 h u0 u1 G) vs G)) (
Ref.leaf (y := fun f => (E orc).cl f vs G) (Ref.app2 (fun u0 u1 G => f311 h u0 u1 G) vs G))) (
Ref.fork (
Ref.leaf (y := fun f => (E orc).cl f vs G) (Ref.app2 (fun u0 u1 G => f312 h u0 u1 G) vs G)) (
Ref.leaf (y := fun f => (E orc).cl f vs G) (Ref.app2 (fun u0 u1 G => f313 h u0 u1 G) vs G))))) (
Ref.fork (
Ref.fork (
Ref.fork (
Ref.leaf (y := fun f => (E orc).cl f vs G) (Ref.app2 (fun u0 u1 G => f315 h u0 u1 G) vs G)) (
Ref.leaf (y := fun f => (E orc).cl f vs G) (Ref.app2 (fun u0 u1 G => f317 h u0 u1 G) vs G))) (
Ref.fork (
Ref.leaf (y := fun f => (E orc).cl f vs G) (Ref.app2 (fun u0 u1 G => f318 h u0 u1 G) vs G)) (
Ref.leaf (y := fun f => (E orc).cl f vs G) (Ref.app2 (fun u0 u1 G => f319 h u0 u1 G) vs G)))) (
Ref.fork (
Ref.fork (
Ref.leaf (y := fun f => (E orc).cl f vs G) (Ref.app1 (fun u0 G => f320 h u0 G) vs G)) (
Ref.leaf (y := fun f => (E orc).cl f vs G) (Ref.app2 (fun u0 u1 G => f321 h u0 u1 G) vs G))) (
Ref.fork (
Ref.leaf (y := fun f => (E orc).cl f vs G) (Ref.app2 (fun u0 u1 G => f322 h u0 u1 G) vs G)) (
Ref.leaf (y := fun f => (E orc).cl f vs G) (Ref.app3 (fun u0 u1 u2 G => f323 h u0 u1 u2 G) vs G))))))) (
Ref.fork (
Ref.fork (
Ref.fork (
Ref.fork (
Ref.fork (
Ref.leaf (y := fun f => (E orc).cl f vs G) (Ref.app1 (fun u0 G => f324 h u0 G) vs G)) (
Ref.leaf (y := fun f => (E orc).cl f vs G) (Ref.app1 (fun u0 G => f325 h u0 G) vs G))) (
Ref.fork (
Ref.leaf (y := fun f => (E orc).cl f vs G) (Ref.app2 (fun u0 u1 G => f326 h u0 u1 G) vs G)) (
Ref.leaf (y := fun f => (E orc).cl f vs G) (Ref.app2 (fun u0 u1 G => f327 h u0 u1 G) vs G)))) (
Ref.fork (
Ref.fork (
Ref.leaf (y := fun f => (E orc).cl f vs G) (Ref.app2 (fun u0 u1 G => f328 h u0 u1 G) vs G)) (
Ref.leaf (y := fun f => (E orc).cl f vs G) (Ref.app1 (fun u0 G => f329 h u0 G) vs G))) (
Ref.fork (
Ref.leaf (y := fun f => (E orc).cl f vs G) (Ref.app2 (fun u0 u1 G => f330 h u0 u1 G) vs G)) (
Ref.leaf (y := fun f => (E orc).cl f vs G) (Ref.app2 (fun u0 u1 G => f331 h u0 u1 G) vs G))))) (
Ref.fork (
Ref.fork (
Ref.fork (
Ref.leaf (y := fun f => (E orc).cl f vs G) (Ref.app0 (fun ho G => f332 h ho G) vs G)) (
Ref.leaf (y := fun f => (E orc).cl f vs G) (Ref.app2 (fun u0 u1 G => f333 h u0 u1 G) vs G))) (
Ref.fork (
Ref.leaf (y := fun f => (E orc).cl f vs G) (Ref.app2 (fun u0 u1 G => f334 h u0 u1 G) vs G)) (
Ref.leaf (y := fun f => (E orc).cl f vs G) (Ref.app2 (fun u0 u1 G => f335 h u0 u1 G) vs G)))) (
Ref.fork (
Ref.fork (
Ref.leaf (y := fun f => (E orc).cl f vs G) (Ref.app2 (fun u0 u1 G => f336 h u0 u1 G) vs G)) (
Ref.leaf (y := fun f => (E orc).cl f vs G) (Ref.app2 (fun u0 u1 G => f337 h u0 u1 G) vs G))) (
Ref.fork (
Ref.leaf (y := fun f => (E orc).cl f vs G) (Ref.app2 (fun u0 u1 G => f338 h u0 u1 G) vs G)) (
Ref.leaf (y := fun f => (E orc).cl f vs G) (Ref.app2 (fun u0 u1 G => f339 h u0 u1 G) vs G)))))) (
Ref.fork (
Ref.fork (
Ref.fork (
Ref.fork (
Ref.leaf (y := fun f => (E orc).cl f vs G) (Ref.app2 (fun u0 u1 G => f340 h u0 u1 G) vs G)) (
Ref.leaf (y := fun f => (E orc).cl f vs G) (Ref.app2 (fun u0 u1 G => f341 h u0 u1 G) vs G))) (
Ref.fork (
Ref.leaf (y := fun f => (E orc).cl f vs G) (Ref.app2 (fun u0 u1 G => f342 h u0 u1 G) vs G)) (
Ref.leaf (y := fun f => (E orc).cl f vs G) (Ref.app2 (fun u0 u1 G => f343 h u0 u1 G) vs G)))) (
Ref.fork (
Ref.fork (
Ref.leaf (y := fun f => (E orc).cl f vs G) (Ref.app2 (fun u0 u1 G => f344 h u0 u1 G) vs G)) (
Ref.leaf (y := fun f => (E orc).cl f vs G) (Ref.app2 (fun u0 u1 G => f345 h u0 u1 G) vs G))) (
Ref.fork (
Ref.leaf (y := fun f => (E orc).cl f vs G) (Ref.app1 (fun u0 G => f346 h u0 G) vs G)) (
Ref.leaf (y := fun f => (E orc).cl f vs G) (Ref.app2 (fun u0 u1 G => f347 h u0 u1 G) vs G))))) (
Ref.fork (
Ref.fork (
Ref.fork (
Ref.leaf (y := fun f => (E orc).cl f vs G) (Ref.app1 (fun u0 G => f348 h u0 G) vs G)) (
Ref.leaf (y := fun f => (E orc).cl f vs G) (Ref.app3 (fun u0 u1 u2 G => f349 h u0 u1 u2 G) vs G))) (
Ref.fork (
Ref.leaf (y := fun f => (E orc).cl f vs G) (Ref.app5 (fun u0 u1 u2 u3 u4 G => f350 h u0 u1 u2 u3 u4 G) vs G)) (
Ref.leaf (y := fun f => (E orc).cl f vs G) (Ref.app1 (fun u0 G => f351 h u0 G) vs G)))) (
Ref.fork (
Ref.fork (
Ref.leaf (y := fun f => (E orc).cl f vs G) (Ref.app1 (fun u0 G => f352 h u0 G) vs G)) (
Ref.leaf (y := fun f => (E orc).cl f vs G) (Ref.app1 (fun u0 G => f353 h u0 G) vs G))) (
Ref.fork (
Ref.leaf (y := fun f => (E orc).cl f vs G) (Ref.app1 (fun u0 G => f354 h u0 G) vs G)) (
Ref.leaf (y := fun f => (E orc).cl f vs G) (Ref.app2 (fun u0 u1 G => f355 h u0 u1 G) vs G)))))))))
noncomputable def lpT (FUEL : Nat) (e : Ex) (f k : Nat) (τ : Env) (G : GS) : Option (Exit × Env × GS) :=
  fork f 157 (
fork f 59 (
fork f 42 (
fork f 9 (
leaf f 9 (leaf k 0 (lpS 29 (b9_0 true e) FUEL τ G))) (
fork f 15 (
leaf f 15 (leaf k 0 (lpS 59 (b15_0 true e) FUEL τ G))) (
leaf f 42 (leaf k 0 (lpS 35 (b42_0 true e) FUEL τ G))))) (
fork f 54 (
leaf f 54 (leaf k 0 (lpS 29 (b54_0 true e) FUEL τ G))) (
fork f 57 (
leaf f 57 (leaf k 0 (lpS 29 (b57_0 true e) FUEL τ G))) (
leaf f 59 (leaf k 0 (lpS 24 (b59_0 true e) FUEL τ G)))))) (
fork f 104 (
fork f 82 (
leaf f 82 (leaf k 0 (lpS 30 (b82_0 true e) FUEL τ G))) (
fork f 97 (
leaf f 97 (leaf k 0 (lpS 91 (b97_0 true e) FUEL τ G))) (
leaf f 104 (leaf k 0 (lpS 42 (b104_0 true e) FUEL τ G))))) (
fork f 110 (
leaf f 110 (leaf k 0 (lpS 23 (b110_0 true e) FUEL τ G))) (
fork f 152 (
leaf f 152 (leaf k 0 (lpS 40 (b152_0 true e) FUEL τ G))) (
leaf f 157 (leaf k 0 (lpS 29 (b157_0 true e) FUEL τ G))))))) (
fork f 290 (
fork f 229 (
fork f 198 (
leaf f 198 (leaf k 0 (lpS 34 (b198_0 true e) FUEL τ G))) (
fork f 206 (
leaf f 206 (leaf k 0 (lpS 18 (b206_0 true e) FUEL τ G))) (
leaf f 229 (leaf k 0 (lpS 24 (b229_0 true e) FUEL τ G))))) (
fork f 231 (
leaf f 231 (leaf k 0 (lpS 24 (b231_0 true e) FUEL τ G))) (
fork f 262 (
leaf f 262 (leaf k 0 (lpS 25 (b262_0 true e) FUEL τ G))) (
leaf f 290 (leaf k 0 (lpS 162 (b290_0 true e) FUEL τ G)))))) (
fork f 334 (
fork f 300 (
leaf f 300 (leaf k 0 (lpS 195 (b300_0 true e) FUEL τ G))) (
fork f 328 (
leaf f 328 (leaf k 0 (lpS 36 (b328_0 true e) FUEL τ G))) (
leaf f 334 (leaf k 0 (lpS 66 (b334_0 true e) FUEL τ G))))) (
fork f 346 (
leaf f 346 (leaf k 0 (lpS 20 (b346_0 true e) FUEL τ G))) (
fork f 352 (
leaf f 352 (leaf k 0 (lpS 20 (b352_0 true e) FUEL τ G))) (
leaf f 353 (leaf k 0 (lpS 20 (b353_0 true e) FUEL τ G)))))))
theorem lpT_ok {orc : FuncId → Bool} {e : Ex} (h : ExLe Q e (E orc)) (FUEL f k : Nat) (τ : Env) (G : GS) : Ref (lpT FUEL e f k τ G) (mapE ((E orc).lp (codeAt Q f k) (lst (nOf Q f) τ) G)) :=
  Ref.fork (
Ref.fork (
Ref.fork (
Ref.fork (
Ref.leaf (y := fun f => mapE ((E orc).lp (codeAt Q f k) (lst (nOf Q f) τ) G)) (Ref.leaf (y := fun k => mapE ((E orc).lp (codeAt Q 9 k) (lst (nOf Q 9) τ) G)) (lp_leaf (c := (subAt [1, 1, 0, 1, 0, 0] (bodyOf Tryz.f9))) (l9_0 h) _ _ _))) (
Ref.fork (
Ref.leaf (y := fun f => mapE ((E orc).lp (codeAt Q f k) (lst (nOf Q f) τ) G)) (Ref.leaf (y := fun k => mapE ((E orc).lp (codeAt Q 15 k) (lst (nOf Q 15) τ) G)) (lp_leaf (c := (subAt [1, 1, 1, 1, 0, 1, 0, 0] (bodyOf Tryz.f15))) (l15_0 h) _ _ _))) (
Ref.leaf (y := fun f => mapE ((E orc).lp (codeAt Q f k) (lst (nOf Q f) τ) G)) (Ref.leaf (y := fun k => mapE ((E orc).lp (codeAt Q 42 k) (lst (nOf Q 42) τ) G)) (lp_leaf (c := (subAt [1, 1, 1, 0, 0, 0] (bodyOf Tryz.f42))) (l42_0 h) _ _ _))))) (
Ref.fork (
Ref.leaf (y := fun f => mapE ((E orc).lp (codeAt Q f k) (lst (nOf Q f) τ) G)) (Ref.leaf (y := fun k => mapE ((E orc).lp (codeAt Q 54 k) (lst (nOf Q 54) τ) G)) (lp_leaf (c := (subAt [1, 1, 0, 1, 0, 0] (bodyOf Tryz.f54))) (l54_0 h) _ _ _))) (
Ref.fork (
Ref.leaf (y := fun f => mapE ((E orc).lp (codeAt Q f k) (lst (nOf Q f) τ) G)) (Ref.leaf (y := fun k => mapE ((E orc).lp (codeAt Q 57 k) (lst (nOf Q 57) τ) G)) (lp_leaf (c := (subAt [1, 1, 0, 1, 0, 0] (bodyOf Tryz.f57))) (l57_0 h) _ _ _))) (
Ref.leaf (y := fun f => mapE ((E orc).lp (codeAt Q f k) (lst (nOf Q f) τ) G)) (Ref.leaf (y := fun k => mapE ((E orc).lp (codeAt Q 59 k) (lst (nOf Q 59) τ) G)) (lp_leaf (c := (subAt [1, 1, 1, 1, 0, 0] (bodyOf Tryz.f59))) (l59_0 h) _ _ _)))))) (
Ref.fork (
Ref.fork (
Ref.leaf (y := fun f => mapE ((E orc).lp (codeAt Q f k) (lst (nOf Q f) τ) G)) (Ref.leaf (y := fun k => mapE ((E orc).lp (codeAt Q 82 k) (lst (nOf Q 82) τ) G)) (lp_leaf (c := (subAt [1, 1, 0, 1, 0, 0] (bodyOf Tryz.f82))) (l82_0 h) _ _ _))) (
Ref.fork (
Ref.leaf (y := fun f => mapE ((E orc).lp (codeAt Q f k) (lst (nOf Q f) τ) G)) (Ref.leaf (y := fun k => mapE ((E orc).lp (codeAt Q 97 k) (lst (nOf Q 97) τ) G)) (lp_leaf (c := (subAt [1, 0, 1, 1, 1, 1, 1, 0, 0] (bodyOf Tryz.f97))) (l97_0 h) _ _ _))) (
Ref.leaf (y := fun f => mapE ((E orc).lp (codeAt Q f k) (lst (nOf Q f) τ) G)) (Ref.leaf (y := fun k => mapE ((E orc).lp (codeAt Q 104 k) (lst (nOf Q 104) τ) G)) (lp_leaf (c := (subAt [1, 1, 1, 0, 1, 0, 0] (bodyOf Tryz.f104))) (l104_0 h) _ _ _))))) (
Ref.fork (
Ref.leaf (y := fun f => mapE ((E orc).lp (codeAt Q f k) (lst (nOf Q f) τ) G)) (Ref.leaf (y := fun k => mapE ((E orc).lp (codeAt Q 110 k) (lst (nOf Q 110) τ) G)) (lp_leaf (c := (subAt [1, 1, 1, 1, 0, 0] (bodyOf Tryz.f110))) (l110_0 h) _ _ _))) (
Ref.fork (
Ref.leaf (y := fun f => mapE ((E orc).lp (codeAt Q f k) (lst (nOf Q f) τ) G)) (Ref.leaf (y := fun k => mapE ((E orc).lp (codeAt Q 152 k) (lst (nOf Q 152) τ) G)) (lp_leaf (c := (subAt [1, 1, 0, 0] (bodyOf Tryz.f152))) (l152_0 h) _ _ _))) (
Ref.leaf (y := fun f => mapE ((E orc).lp (codeAt Q f k) (lst (nOf Q f) τ) G)) (Ref.leaf (y := fun k => mapE ((E orc).lp (codeAt Q 157 k) (lst (nOf Q 157) τ) G)) (lp_leaf (c := (subAt [1, 1, 1, 1, 1, 0, 0] (bodyOf Tryz.f157))) (l157_0 h) _ _ _))))))) (
Ref.fork (
Ref.fork (
Ref.fork (
Ref.leaf (y := fun f => mapE ((E orc).lp (codeAt Q f k) (lst (nOf Q f) τ) G)) (Ref.leaf (y := fun k => mapE ((E orc).lp (codeAt Q 198 k) (lst (nOf Q 198) τ) G)) (lp_leaf (c := (subAt [1, 1, 1, 1, 0, 0] (bodyOf Tryz.f198))) (l198_0 h) _ _ _))) (
Ref.fork (
Ref.leaf (y := fun f => mapE ((E orc).lp (codeAt Q f k) (lst (nOf Q f) τ) G)) (Ref.leaf (y := fun k => mapE ((E orc).lp (codeAt Q 206 k) (lst (nOf Q 206) τ) G)) (lp_leaf (c := (subAt [1, 0, 0] (bodyOf Tryz.f206))) (l206_0 h) _ _ _))) (
Ref.leaf (y := fun f => mapE ((E orc).lp (codeAt Q f k) (lst (nOf Q f) τ) G)) (Ref.leaf (y := fun k => mapE ((E orc).lp (codeAt Q 229 k) (lst (nOf Q 229) τ) G)) (lp_leaf (c := (subAt [1, 0, 1, 0, 0] (bodyOf Tryz.f229))) (l229_0 h) _ _ _))))) (
Ref.fork (
Ref.leaf (y := fun f => mapE ((E orc).lp (codeAt Q f k) (lst (nOf Q f) τ) G)) (Ref.leaf (y := fun k => mapE ((E orc).lp (codeAt Q 231 k) (lst (nOf Q 231) τ) G)) (lp_leaf (c := (subAt [1, 1, 0, 1, 0, 0] (bodyOf Tryz.f231))) (l231_0 h) _ _ _))) (
Ref.fork (
Ref.leaf (y := fun f => mapE ((E orc).lp (codeAt Q f k) (lst (nOf Q f) τ) G)) (Ref.leaf (y := fun k => mapE ((E orc).lp (codeAt Q 262 k) (lst (nOf Q 262) τ) G)) (lp_leaf (c := (subAt [1, 1, 0, 0] (bodyOf Tryz.f262))) (l262_0 h) _ _ _))) (
Ref.leaf (y := fun f => mapE ((E orc).lp (codeAt Q f k) (lst (nOf Q f) τ) G)) (Ref.leaf (y := fun k => mapE ((E orc).lp (codeAt Q 290 k) (lst (nOf Q 290) τ) G)) (lp_leaf (c := (subAt [1, 0, 1, 1, 0, 0, 0] (bodyOf Tryz.f290))) (l290_0 h) _ _ _)))))) (
Ref.fork (
Ref.fork (
Ref.leaf (y := fun f => mapE ((E orc).lp (codeAt Q f k) (lst (nOf Q f) τ) G)) (Ref.leaf (y := fun k => mapE ((E orc).lp (codeAt Q 300 k) (lst (nOf Q 300) τ) G)) (lp_leaf (c := (subAt [1, 0, 1, 1, 1, 1, 1, 0, 0, 0] (bodyOf Tryz.f300))) (l300_0 h) _ _ _))) (
Ref.fork (
Ref.leaf (y := fun f => mapE ((E orc).lp (codeAt Q f k) (lst (nOf Q f) τ) G)) (Ref.leaf (y := fun k => mapE ((E orc).lp (codeAt Q 328 k) (lst (nOf Q 328) τ) G)) (lp_leaf (c := (subAt [1, 1, 0, 1, 0, 0] (bodyOf Tryz.f328))) (l328_0 h) _ _ _))) (
Ref.leaf (y := fun f => mapE ((E orc).lp (codeAt Q f k) (lst (nOf Q f) τ) G)) (Ref.leaf (y := fun k => mapE ((E orc).lp (codeAt Q 334 k) (lst (nOf Q 334) τ) G)) (lp_leaf (c := (subAt [1, 0, 1, 1, 0, 1, 0, 0] (bodyOf Tryz.f334))) (l334_0 h) _ _ _))))) (
Ref.fork (
Ref.leaf (y := fun f => mapE ((E orc).lp (codeAt Q f k) (lst (nOf Q f) τ) G)) (Ref.leaf (y := fun k => mapE ((E orc).lp (codeAt Q 346 k) (lst (nOf Q 346) τ) G)) (lp_leaf (c := (subAt [1, 1, 0, 1, 0, 0] (bodyOf Tryz.f346))) (l346_0 h) _ _ _))) (
Ref.fork (
Ref.leaf (y := fun f => mapE ((E orc).lp (codeAt Q f k) (lst (nOf Q f) τ) G)) (Ref.leaf (y := fun k => mapE ((E orc).lp (codeAt Q 352 k) (lst (nOf Q 352) τ) G)) (lp_leaf (c := (subAt [1, 1, 0, 1, 0, 0] (bodyOf Tryz.f352))) (l352_0 h) _ _ _))) (
Ref.leaf (y := fun f => mapE ((E orc).lp (codeAt Q f k) (lst (nOf Q f) τ) G)) (Ref.leaf (y := fun k => mapE ((E orc).lp (codeAt Q 353 k) (lst (nOf Q 353) τ) G)) (lp_leaf (c := (subAt [1, 1, 0, 1, 0, 0] (bodyOf Tryz.f353))) (l353_0 h) _ _ _)))))))
noncomputable def kE (orc : FuncId → Bool) (n : Nat) : Ex := Nat.rec (motive := fun _ => Ex) ⟨Ev.zero, fun _ _ _ _ => none⟩ (fun _ e => ⟨⟨(evO Q orc 0).ex, clT orc e, (evO Q orc 2000).rd, (evO Q orc 2000).sc, (evO Q orc 0).lp⟩, lpT 6000 e⟩) n
theorem kE_ok (orc : FuncId → Bool) : ∀ n, ExLe Q (kE orc n) (E orc)
  | 0 => ⟨zero_le _, fun _ _ _ _ => .nil _⟩
  | n + 1 => ⟨⟨(le_evL Q orc 0).ex, fun f vs G r hr => clT_ok (kE_ok orc n) f vs G r hr, (le_evL Q orc 2000).rd, (le_evL Q orc 2000).sc, (le_evL Q orc 0).lp⟩, lpT_ok (kE_ok orc n) 6000⟩
/-- what the tables find true is true -/
theorem at_kE {orc : FuncId → Bool} {n f : Nat} {vs : List Value} (h : isTrue ((kE orc n).ev.cl f vs GS.empty) = true) : ∃ G', (E orc).cl f vs GS.empty = some (.bool true, G') := isTrue_of ((kE_ok orc n).ev.cl f vs GS.empty) h
theorem closed_kE {orc : FuncId → Bool} (ho : OrcOk Q orc) (hmix : Q.follows .mixedOrders = true) {n f : Nat} (h : isTrue ((kE orc n).ev.cl f [] GS.empty) = true) (w : World) : Calls Q f #[] w fun e w' => e = .returned (.bool true) ∧ Go.RowKit.Below w.heap.size w w' :=
  let ⟨_, hG⟩ := at_kE h
  law_plain hmix ho hG fun _ => trivial
end Go.Proofs.YtfakjapkhjfmiaaGreat.Lift
