/- the program's code, spelled out by a program of ours (lift3.lean) -/
import Derived.Test.YtaanpcoglijohaaGreatRa
namespace Go.Proofs.YtaanpcoglijohaaGreat.Lift
open Go Go.Proofs.YtaanpcoglijohaaGreat.Gh Go.Proofs
set_option linter.unusedVariables false
set_option maxRecDepth 100000
/-- coxswain/coxswainref14.told -/
noncomputable def s169 (q : Bool) (e : Ex) (v0 v1 : Value) (G : GS) : Option (Value × GS) :=
  bP (bn Q q .neq 3 (.tmp 5) (.const (.int .i64 9)) v0 (.int .i64 9)) fun x0 =>
  ifV x0 (
  some ((.int .i64 14), G)) (
  some (v1, G))
theorem m169 {e : Ex} {E : Ev} (h : ExLe Q e E) (v0 v1 : Value) (G : GS) : Ref (s169 true e v0 v1 G) (s169 false (Ex.of E) v0 v1 G) := by
  unfold s169
  exact Ref.gq
theorem f169 {orc : FuncId → Bool} {e : Ex} (h : ExLe Q e (E orc)) (v0 v1 : Value) (G : GS) : Ref (s169 true e v0 v1 G) ((E orc).cl 169 [v0, v1] G) :=
  fun r hr => cl_sxE_some Q orc (vs := [v0, v1]) G Tryz.func169 (by kernel_rfl) (by kernel_rfl) (by kernel_rfl) (by kernel_rfl) (by kernel_rfl) (by kernel_rfl) (m169 h v0 v1 G r hr)
/-- coxswain/ring.begun -/
noncomputable def s170 (q : Bool) (e : Ex) (v0 : Value) (G : GS) : Option (Value × GS) :=
  bS (bx q v0 G) fun x0 G1 =>
  bS (al Q q 230 z230 G1) fun x2 G3 =>
  bP (lda Q q 119 4 x0 G3) fun x4 =>
  bS (e.ev.cl 102 [x4] G3) fun x5 G6 =>
  bP (un Q q .not x5) fun x7 =>
  ifV x7 (
  bP (bd Q q 230 z230 [(2, 5, 1), (3, 6, 1)] [(.bool true), (.int .i64 2)]) fun x8 =>
  bP (st Q q 230 7 x2 x8 G6) fun G9 =>
  bP (lda Q q 230 7 x2 G9) fun x10 =>
  some (x10, G9)) (
  bP (lda Q q 119 4 x0 G6) fun x11 =>
  bP (bd Q q 230 z230 [(0, 0, 4), (2, 5, 1)] [x11, (.bool true)]) fun x12 =>
  bP (st Q q 230 7 x2 x12 G6) fun G13 =>
  bP (lda Q q 230 7 x2 G13) fun x14 =>
  some (x14, G13))
theorem m170 {e : Ex} {E : Ev} (h : ExLe Q e E) (v0 : Value) (G : GS) : Ref (s170 true e v0 G) (s170 false (Ex.of E) v0 G) := by
  unfold s170
  exact Ref.gq
theorem f170 {orc : FuncId → Bool} {e : Ex} (h : ExLe Q e (E orc)) (v0 : Value) (G : GS) : Ref (s170 true e v0 G) ((E orc).cl 170 [v0] G) :=
  fun r hr => cl_sxE_some Q orc (vs := [v0]) G Tryz.func170 (by kernel_rfl) (by kernel_rfl) (by kernel_rfl) (by kernel_rfl) (by kernel_rfl) (by kernel_rfl) (m170 h v0 G r hr)
/-- (*coxswain/ring.Drop).clear -/
noncomputable def s171 (q : Bool) (e : Ex) (v0 v1 : Value) (G : GS) : Option (Value × GS) :=
  bP (pNil v0) fun x0 =>
  bP (fa Q q 241 0 0 x0) fun x1 =>
  bP (fa Q q 230 0 0 x1) fun x2 =>
  bP (lda Q q 119 4 x2 (G.room 24)) fun x3 =>
  bP (pNil v0) fun x4 =>
  bP (fa Q q 241 1 7 x4) fun x5 =>
  bP (ld Q q 39 x5 (G.room 24)) fun x6 =>
  bS (e.ev.cl 125 [x3, x6] (G.room 24)) fun x8 G7 =>
  bP (pNil v0) fun x9 =>
  bP (fa Q q 241 0 0 x9) fun x10 =>
  bP (fa Q q 230 0 0 x10) fun x11 =>
  bP (lda Q q 119 4 x11 G7) fun x12 =>
  chk ((sameO (lda Q q 119 4 x11 (G.room 24)) x12 && true)) <|
  bP (pNil v0) fun x13 =>
  bP (fa Q q 241 1 7 x13) fun x14 =>
  bP (ld Q q 39 x14 G7) fun x15 =>
  chk ((sameO (ld Q q 39 x14 (G.room 24)) x15 && true)) <|
  bS (e.ev.cl 177 [x12, x15] G7) fun x17 G16 =>
  bP (bn Q q .add 249 (.tmp 24) (.const (.int .u32 1)) x17 (.int .u32 1)) fun x18 =>
  bS (e.ev.cl 212 [x18] G16) fun x20 G19 =>
  bS (e.ev.cl 14 [v1, x8, x20] G19) fun x22 G21 =>
  bP (pNil v0) fun x23 =>
  bP (fa Q q 241 0 0 x23) fun x24 =>
  bP (fa Q q 230 1 4 x24) fun x25 =>
  bP (st Q q 224 1 x25 (.func (.func 213) #[v0] #[]) G21) fun G26 =>
  some (.tuple #[], G26)
theorem m171 {e : Ex} {E : Ev} (h : ExLe Q e E) (v0 v1 : Value) (G : GS) : Ref (s171 true e v0 v1 G) (s171 false (Ex.of E) v0 v1 G) := by
  unfold s171
  exact Ref.gq
theorem f171 {orc : FuncId → Bool} {e : Ex} (h : ExLe Q e (E orc)) (v0 v1 : Value) (G : GS) : Ref (s171 true e v0 v1 G) ((E orc).cl 171 [v0, v1] G) :=
  fun r hr => cl_sxE_some Q orc (vs := [v0, v1]) G Tryz.func171 (by kernel_rfl) (by kernel_rfl) (by kernel_rfl) (by kernel_rfl) (by kernel_rfl) (by kernel_rfl) (m171 h v0 v1 G r hr)
/-- (*coxswain/ring.Front).head -/
noncomputable def s172 (q : Bool) (e : Ex) (v0 v1 : Value) (G : GS) : Option (Value × GS) :=
  bP (pNil v0) fun x0 =>
  bP (fa Q q 238 0 0 x0) fun x1 =>
  bP (fa Q q 230 0 0 x1) fun x2 =>
  bP (fa Q q 119 0 0 x2) fun x3 =>
  bP (ld Q q 3 x3 G) fun x4 =>
  bS (e.ev.cl 199 [v1, x4] G) fun x5 G6 =>
  bP (pNil v0) fun x7 =>
  bP (fa Q q 238 1 7 x7) fun x8 =>
  bP (st Q q 39 1 x8 x5 G6) fun G9 =>
  bP (pNil v0) fun x10 =>
  bP (fa Q q 238 0 0 x10) fun x11 =>
  bP (fa Q q 230 1 4 x11) fun x12 =>
  bP (st Q q 224 1 x12 (.func (.func 214) #[v0] #[]) G9) fun G13 =>
  some (.tuple #[], G13)
theorem m172 {e : Ex} {E : Ev} (h : ExLe Q e E) (v0 v1 : Value) (G : GS) : Ref (s172 true e v0 v1 G) (s172 false (Ex.of E) v0 v1 G) := by
  unfold s172
  exact Ref.gq
theorem f172 {orc : FuncId → Bool} {e : Ex} (h : ExLe Q e (E orc)) (v0 v1 : Value) (G : GS) : Ref (s172 true e v0 v1 G) ((E orc).cl 172 [v0, v1] G) :=
  fun r hr => cl_sxE_some Q orc (vs := [v0, v1]) G Tryz.func172 (by kernel_rfl) (by kernel_rfl) (by kernel_rfl) (by kernel_rfl) (by kernel_rfl) (by kernel_rfl) (m172 h v0 v1 G r hr)
/-- (*coxswain/ring.work).ends -/
noncomputable def s173 (q : Bool) (e : Ex) (v0 v1 : Value) (G : GS) : Option (Value × GS) :=
  bP (pNil v0) fun x0 =>
  bP (fa Q q 230 1 4 x0) fun x1 =>
  bP (st Q q 224 1 x1 .nilFunc G) fun G2 =>
  bP (pNil v0) fun x3 =>
  bP (fa Q q 230 3 6 x3) fun x4 =>
  bP (st Q q 26 1 x4 v1 G2) fun G5 =>
  some (.tuple #[], G5)
theorem m173 {e : Ex} {E : Ev} (h : ExLe Q e E) (v0 v1 : Value) (G : GS) : Ref (s173 true e v0 v1 G) (s173 false (Ex.of E) v0 v1 G) := by
  unfold s173
  exact Ref.gq
theorem f173 {orc : FuncId → Bool} {e : Ex} (h : ExLe Q e (E orc)) (v0 v1 : Value) (G : GS) : Ref (s173 true e v0 v1 G) ((E orc).cl 173 [v0, v1] G) :=
  fun r hr => cl_sxE_some Q orc (vs := [v0, v1]) G Tryz.func173 (by kernel_rfl) (by kernel_rfl) (by kernel_rfl) (by kernel_rfl) (by kernel_rfl) (by kernel_rfl) (m173 h v0 v1 G r hr)
/-- (*coxswain/ring.Push).tail -/
noncomputable def s174 (q : Bool) (e : Ex) (v0 v1 : Value) (G : GS) : Option (Value × GS) :=
  bP (pNil v0) fun x0 =>
  bP (fa Q q 232 0 0 x0) fun x1 =>
  bP (fa Q q 230 0 0 x1) fun x2 =>
  bP (fa Q q 119 1 1 x2) fun x3 =>
  bP (ld Q q 3 x3 G) fun x4 =>
  bS (e.ev.cl 199 [v1, x4] G) fun x5 G6 =>
  bP (pNil v0) fun x7 =>
  bP (fa Q q 232 2 8 x7) fun x8 =>
  bP (st Q q 39 1 x8 x5 G6) fun G9 =>
  bP (pNil v0) fun x10 =>
  bP (fa Q q 232 0 0 x10) fun x11 =>
  bP (fa Q q 230 1 4 x11) fun x12 =>
  bP (st Q q 224 1 x12 (.func (.func 215) #[v0] #[]) G9) fun G13 =>
  some (.tuple #[], G13)
theorem m174 {e : Ex} {E : Ev} (h : ExLe Q e E) (v0 v1 : Value) (G : GS) : Ref (s174 true e v0 v1 G) (s174 false (Ex.of E) v0 v1 G) := by
  unfold s174
  exact Ref.gq
theorem f174 {orc : FuncId → Bool} {e : Ex} (h : ExLe Q e (E orc)) (v0 v1 : Value) (G : GS) : Ref (s174 true e v0 v1 G) ((E orc).cl 174 [v0, v1] G) :=
  fun r hr => cl_sxE_some Q orc (vs := [v0, v1]) G Tryz.func174 (by kernel_rfl) (by kernel_rfl) (by kernel_rfl) (by kernel_rfl) (by kernel_rfl) (by kernel_rfl) (m174 h v0 v1 G r hr)
noncomputable def b175_0 (q : Bool) (e : Ex) (lp : Env → GS → Option (Exit × Env × GS)) (τ : Env) (G : GS) : Option (Exit × Env × GS) :=
  bV q (τ 0) fun a0_ =>
  bV q (τ 1) fun a1_ =>
  bV q (τ 2) fun a2_ =>
  bV q (τ 4) fun a4_ =>
  bV q (τ 10) fun a10_ =>
  bV q (τ 11) fun a11_ =>
  bP (bn Q q .lss 3 (.tmp 11) (.tmp 10) a11_ a10_) fun x0 =>
  ifV x0 (
  bP (ld Q q 206 a1_ (G.room 16)) fun x1 =>
  bP (lda Q q 119 4 a2_ (G.room 16)) fun x2 =>
  bS (e.ev.cl 125 [x2, a4_] (G.room 16)) fun x4 G3 =>
  chk ((sameO (ld Q q 206 a1_ G3) x1 && true)) <|
  bS (cValue e.ev x1 [x4] G3) fun x6 G5 =>
  bP (lda Q q 119 4 a2_ G5) fun x7 =>
  chk ((sameO (lda Q q 119 4 a2_ G3) x7 && (sameO (lda Q q 119 4 a2_ (G.room 16)) x7 && true))) <|
  bS (e.ev.cl 177 [x7, a4_] G5) fun x9 G8 =>
  bS (e.ev.cl 176 [x6, x9] G8) fun x11 G10 =>
  bP (un Q q .not x11) fun x12 =>
  bS (gd x12 false (some (a0_, G10)) G10) fun x13 _ =>
  bS (gd x12 false (some (a4_, G10)) G10) fun x14 _ =>
  bS (gd x12 false (bS (cValue e.ev x13 [x14] G10) fun y G => some (y, G)) G10) fun x16 G15 =>
  bS (gd x12 false (bP (un Q q .not x16) fun y => some (y, G15)) G15) fun x17 _ =>
  bP (pickV x12 (.bool true) x17) fun x18 =>
  ifV x18 (
  some (.ret, xq q 32 τ [(28, x18), (27, x17), (26, x16), (25, x14), (24, x13), (23, x12), (22, x12), (21, x11), (20, x9), (19, a4_), (18, x7), (17, x6), (16, x4), (15, a4_), (14, x2), (13, x1), (12, x0)] [(0, a0_), (1, a1_), (2, a2_), (4, a4_), (10, a10_), (11, a11_)], G15)) (
  bP (bn Q q .add 39 (.tmp 29) (.const (.int .u64 1)) a4_ (.int .u64 1)) fun x19 =>
  bP (bn Q q .add 3 (.tmp 11) (.const (.int .i64 1)) a11_ (.int .i64 1)) fun x20 =>
  lp (xq q 32 τ [(11, x20), (31, x20), (4, x19), (30, x19), (29, a4_), (28, x18), (27, x17), (26, x16), (25, x14), (24, x13), (23, x12), (22, x12), (21, x11), (20, x9), (19, a4_), (18, x7), (17, x6), (16, x4), (15, a4_), (14, x2), (13, x1), (12, x0)] [(0, a0_), (1, a1_), (2, a2_), (10, a10_)]) G15)) (
  some ((.exit 0), xq q 32 τ [(12, x0)] [(0, a0_), (1, a1_), (2, a2_), (4, a4_), (10, a10_), (11, a11_)], G))
theorem mb175_0 {e : Ex} {E : Ev} (h : ExLe Q e E) {lp lp' : Env → GS → Option (Exit × Env × GS)} (hlp : LpLe lp lp') (τ : Env) (G : GS) : Ref (b175_0 true e lp τ G) (b175_0 false (Ex.of E) lp' τ G) := by
  unfold b175_0
  exact Ref.gq
theorem l175_0 {orc : FuncId → Bool} {e : Ex} (h : ExLe Q e (E orc)) (lp : Env → GS → Option (Exit × Env × GS)) (hlp : ∀ τ G, Ref (lp τ G) (mapE ((E orc).lp (subAt [1, 1, 0, 0] (bodyOf Tryz.f175)) (lst 32 τ) G))) (T : List Value) (G : GS) (hT : T.length = 32) : Ref (b175_0 true e lp (nth undef T) G) (mapE ((E orc).lp (subAt [1, 1, 0, 0] (bodyOf Tryz.f175)) T G)) :=
  fun r hr => lp_sxN Q orc G hT (by kernel_rfl) (mb175_0 h ⟨hlp⟩ _ _ r hr)
/-- coxswain/ring.numbers$1 -/
noncomputable def s175 (q : Bool) (e : Ex) (v0 v1 v2 : Value) (G : GS) : Option (Value × GS) :=
  bP (ld Q q 206 v1 G) fun x0 =>
  bP (fa Q q 119 0 0 v2) fun x1 =>
  bP (ld Q q 3 x1 G) fun x2 =>
  bS (cValue e.ev x0 [x2] G) fun x3 G4 =>
  bP (fa Q q 119 3 3 v2) fun x5 =>
  bP (ld Q q 3 x5 G4) fun x6 =>
  bLq q e 175 0 (subAt [1, 1, 0, 0] (bodyOf Tryz.f175)) 32 (nth undef [v0, v1, v2]) [(11, (.int .i64 0)), (10, x6), (9, x5), (4, x3), (8, x3), (7, x2), (6, x1), (5, x0)] [] G4 fun e7 t8 G9 =>
  ifE e7 (.exit 0) (
  some (.tuple #[], G9)) (ifE e7 .ret (
  some (.tuple #[], G9)) (none))
theorem m175 {e : Ex} {E : Ev} (h : ExLe Q e E) (v0 v1 v2 : Value) (G : GS) : Ref (s175 true e v0 v1 v2 G) (s175 false (Ex.of E) v0 v1 v2 G) := by
  unfold s175
  exact Ref.gq
theorem f175 {orc : FuncId → Bool} {e : Ex} (h : ExLe Q e (E orc)) (v0 v1 v2 : Value) (G : GS) : Ref (s175 true e v0 v1 v2 G) ((E orc).cl 175 [v0, v1, v2] G) :=
  fun r hr => cl_sxE_some Q orc (vs := [v0, v1, v2]) G Tryz.func175 (by kernel_rfl) (by kernel_rfl) (by kernel_rfl) (by kernel_rfl) (by kernel_rfl) (by kernel_rfl) (m175 h v0 v1 v2 G r hr)
/-- (coxswain/ring.slot).full -/
noncomputable def s176 (q : Bool) (e : Ex) (v0 v1 : Value) (G : GS) : Option (Value × GS) :=
  bP (bn Q q .shr 210 (.tmp 5) (.const (.int .u64 32)) v0 (.int .u64 32)) fun x0 =>
  bP (cv Q q 210 249 .u64 .u32 x0) fun x1 =>
  bP (bn Q q .eql 249 (.tmp 7) (.tmp 8) x1 v1) fun x2 =>
  bS (gd x2 true (some (v0, G)) G) fun x3 G4 =>
  bS (gd x2 true (bP (bn Q q .and 210 (.tmp 11) (.const (.int .u64 65536)) x3 (.int .u64 65536)) fun y => some (y, G4)) G4) fun x5 G6 =>
  bS (gd x2 true (bP (bn Q q .neq 210 (.tmp 12) (.const (.int .u64 0)) x5 (.int .u64 0)) fun y => some (y, G6)) G6) fun x7 G8 =>
  bP (pickV x2 x7 (.bool false)) fun x9 =>
  some (x9, G8)
theorem m176 {e : Ex} {E : Ev} (h : ExLe Q e E) (v0 v1 : Value) (G : GS) : Ref (s176 true e v0 v1 G) (s176 false (Ex.of E) v0 v1 G) := by
  unfold s176
  exact Ref.gq
theorem f176 {orc : FuncId → Bool} {e : Ex} (h : ExLe Q e (E orc)) (v0 v1 : Value) (G : GS) : Ref (s176 true e v0 v1 G) ((E orc).cl 176 [v0, v1] G) :=
  fun r hr => cl_sxE_some Q orc (vs := [v0, v1]) G Tryz.func176 (by kernel_rfl) (by kernel_rfl) (by kernel_rfl) (by kernel_rfl) (by kernel_rfl) (by kernel_rfl) (m176 h v0 v1 G r hr)
/-- coxswain/ring.lap -/
noncomputable def s177 (q : Bool) (e : Ex) (v0 v1 : Value) (G : GS) : Option (Value × GS) :=
  bS (bx q v0 G) fun x0 G1 =>
  bP (fa Q q 119 3 3 x0) fun x2 =>
  bP (ld Q q 3 x2 G1) fun x3 =>
  bP (cv Q q 3 39 .i64 .u64 x3) fun x4 =>
  bP (bn Q q .quo 39 (.tmp 5) (.tmp 8) v1 x4) fun x5 =>
  bP (cv Q q 39 249 .u64 .u32 x5) fun x6 =>
  some (x6, G1)
theorem m177 {e : Ex} {E : Ev} (h : ExLe Q e E) (v0 v1 : Value) (G : GS) : Ref (s177 true e v0 v1 G) (s177 false (Ex.of E) v0 v1 G) := by
  unfold s177
  exact Ref.gq
theorem f177 {orc : FuncId → Bool} {e : Ex} (h : ExLe Q e (E orc)) (v0 v1 : Value) (G : GS) : Ref (s177 true e v0 v1 G) ((E orc).cl 177 [v0, v1] G) :=
  fun r hr => cl_sxE_some Q orc (vs := [v0, v1]) G Tryz.func177 (by kernel_rfl) (by kernel_rfl) (by kernel_rfl) (by kernel_rfl) (by kernel_rfl) (by kernel_rfl) (m177 h v0 v1 G r hr)
/-- (*coxswain/coxswainref02.Mem).Add -/
noncomputable def s195 (q : Bool) (e : Ex) (v0 v1 v2 : Value) (G : GS) : Option (Value × GS) :=
  bS (e.ev.cl 129 [v0, v1] G) fun x0 G1 =>
  bP (bn Q q .add 39 (.tmp 11) (.tmp 12) x0 v2) fun x2 =>
  bS (e.ev.cl 55 [v0, (.int .i64 4), v1, (.bool true), x2] G1) fun x3 G4 =>
  bP (pNil v0) fun x5 =>
  bP (fa Q q 114 1 1 x5) fun x6 =>
  bP (fa Q q 59 3 3 x6) fun x7 =>
  bP (ld Q q 39 x7 G4) fun x8 =>
  some (x8, G4)
theorem m195 {e : Ex} {E : Ev} (h : ExLe Q e E) (v0 v1 v2 : Value) (G : GS) : Ref (s195 true e v0 v1 v2 G) (s195 false (Ex.of E) v0 v1 v2 G) := by
  unfold s195
  exact Ref.gq
theorem f195 {orc : FuncId → Bool} {e : Ex} (h : ExLe Q e (E orc)) (v0 v1 v2 : Value) (G : GS) : Ref (s195 true e v0 v1 v2 G) ((E orc).cl 195 [v0, v1, v2] G) :=
  fun r hr => cl_sxE_some Q orc (vs := [v0, v1, v2]) G Tryz.func195 (by kernel_rfl) (by kernel_rfl) (by kernel_rfl) (by kernel_rfl) (by kernel_rfl) (by kernel_rfl) (m195 h v0 v1 v2 G r hr)
/-- (*coxswain/cells.Mem).Load -/
noncomputable def s199 (q : Bool) (e : Ex) (v0 v1 : Value) (G : GS) : Option (Value × GS) :=
  bS (e.ev.cl 52 [v0, v1] G) fun x0 G1 =>
  bP (bd Q q 126 z126 [(0, 0, 1)] [x0]) fun x2 =>
  bS (al Q q 126 z126 G1) fun x3 G4 =>
  bP (st Q q 126 3 x3 x2 G4) fun G5 =>
  bP (fa Q q 126 0 0 x3) fun x6 =>
  bP (ld Q q 123 x6 G5) fun x7 =>
  bP (lda Q q 126 3 x3 G5) fun x8 =>
  bS (e.ev.cl 53 [v0, (.int .i64 1), v1, x7, (.func (.func 240) #[x8] #[])] G5) fun x9 G10 =>
  bP (fd Q q 59 3 3 x9) fun x11 =>
  some (x11, G10)
theorem m199 {e : Ex} {E : Ev} (h : ExLe Q e E) (v0 v1 : Value) (G : GS) : Ref (s199 true e v0 v1 G) (s199 false (Ex.of E) v0 v1 G) := by
  unfold s199
  exact Ref.gq
theorem f199 {orc : FuncId → Bool} {e : Ex} (h : ExLe Q e (E orc)) (v0 v1 : Value) (G : GS) : Ref (s199 true e v0 v1 G) ((E orc).cl 199 [v0, v1] G) :=
  fun r hr => cl_sxE_some Q orc (vs := [v0, v1]) G Tryz.func199 (by kernel_rfl) (by kernel_rfl) (by kernel_rfl) (by kernel_rfl) (by kernel_rfl) (by kernel_rfl) (m199 h v0 v1 G r hr)
/-- (coxswain/cells.deed).swap -/
noncomputable def s203 (q : Bool) (e : Ex) (v0 : Value) (G : GS) : Option (Value × GS) :=
  bS (bx q v0 G) fun x0 G1 =>
  bP (fa Q q 126 0 0 x0) fun x2 =>
  bP (ld Q q 123 x2 (G1.room 7)) fun x3 =>
  bP (pNil x3) fun x4 =>
  bP (ld Q q 108 x4 (G1.room 7)) fun x5 =>
  bP (fa Q q 126 1 1 x0) fun x6 =>
  bP (ld Q q 39 x6 (G1.room 7)) fun x7 =>
  bP (bn Q q .neq 39 (.tmp 7) (.tmp 9) x5 x7) fun x8 =>
  ifV x8 (
  bP (fa Q q 126 0 0 x0) fun x9 =>
  bP (ld Q q 123 x9 (G1.room 7)) fun x10 =>
  bP (pNil x10) fun x11 =>
  bP (ld Q q 108 x11 (G1.room 7)) fun x12 =>
  some (.tuple #[x12, (.bool false)], (G1.room 7))) (
  bP (fa Q q 126 2 2 x0) fun x13 =>
  bP (ld Q q 39 x13 (G1.room 7)) fun x14 =>
  some (.tuple #[x14, (.bool true)], (G1.room 7)))
theorem m203 {e : Ex} {E : Ev} (h : ExLe Q e E) (v0 : Value) (G : GS) : Ref (s203 true e v0 G) (s203 false (Ex.of E) v0 G) := by
  unfold s203
  exact Ref.gq
theorem f203 {orc : FuncId → Bool} {e : Ex} (h : ExLe Q e (E orc)) (v0 : Value) (G : GS) : Ref (s203 true e v0 G) ((E orc).cl 203 [v0] G) :=
  fun r hr => cl_sxE_some Q orc (vs := [v0]) G Tryz.func203 (by kernel_rfl) (by kernel_rfl) (by kernel_rfl) (by kernel_rfl) (by kernel_rfl) (by kernel_rfl) (m203 h v0 G r hr)
/-- (*coxswain/cells.Mem).Add -/
noncomputable def s208 (q : Bool) (e : Ex) (v0 v1 v2 : Value) (G : GS) : Option (Value × GS) :=
  bS (e.ev.cl 52 [v0, v1] G) fun x0 G1 =>
  bP (bd Q q 126 z126 [(0, 0, 1), (1, 1, 1)] [x0, v2]) fun x2 =>
  bS (al Q q 126 z126 G1) fun x3 G4 =>
  bP (st Q q 126 3 x3 x2 G4) fun G5 =>
  bP (fa Q q 126 0 0 x3) fun x6 =>
  bP (ld Q q 123 x6 G5) fun x7 =>
  bP (lda Q q 126 3 x3 G5) fun x8 =>
  bS (e.ev.cl 53 [v0, (.int .i64 4), v1, x7, (.func (.func 247) #[x8] #[])] G5) fun x9 G10 =>
  bP (fd Q q 59 3 3 x9) fun x11 =>
  some (x11, G10)
theorem m208 {e : Ex} {E : Ev} (h : ExLe Q e E) (v0 v1 v2 : Value) (G : GS) : Ref (s208 true e v0 v1 v2 G) (s208 false (Ex.of E) v0 v1 v2 G) := by
  unfold s208
  exact Ref.gq
theorem f208 {orc : FuncId → Bool} {e : Ex} (h : ExLe Q e (E orc)) (v0 v1 v2 : Value) (G : GS) : Ref (s208 true e v0 v1 v2 G) ((E orc).cl 208 [v0, v1, v2] G) :=
  fun r hr => cl_sxE_some Q orc (vs := [v0, v1, v2]) G Tryz.func208 (by kernel_rfl) (by kernel_rfl) (by kernel_rfl) (by kernel_rfl) (by kernel_rfl) (by kernel_rfl) (m208 h v0 v1 v2 G r hr)
/-- coxswain/coxswainref14.empty -/
noncomputable def s211 (q : Bool) (e : Ex) (v0 v1 : Value) (G : GS) : Option (Value × GS) :=
  bP (bn Q q .shr 39 (.tmp 5) (.const (.int .u64 32)) v0 (.int .u64 32)) fun x0 =>
  bP (bn Q q .eql 39 (.tmp 6) (.tmp 7) x0 v1) fun x1 =>
  bS (gd x1 true (some (v0, G)) G) fun x2 G3 =>
  bS (gd x1 true (bP (bn Q q .shr 39 (.tmp 10) (.const (.int .u64 16)) x2 (.int .u64 16)) fun y => some (y, G3)) G3) fun x4 G5 =>
  bS (gd x1 true (bP (bn Q q .rem 39 (.tmp 11) (.const (.int .u64 2)) x4 (.int .u64 2)) fun y => some (y, G5)) G5) fun x6 G7 =>
  bS (gd x1 true (bP (bn Q q .eql 39 (.tmp 12) (.const (.int .u64 0)) x6 (.int .u64 0)) fun y => some (y, G7)) G7) fun x8 G9 =>
  bP (pickV x1 x8 (.bool false)) fun x10 =>
  some (x10, G9)
theorem m211 {e : Ex} {E : Ev} (h : ExLe Q e E) (v0 v1 : Value) (G : GS) : Ref (s211 true e v0 v1 G) (s211 false (Ex.of E) v0 v1 G) := by
  unfold s211
  exact Ref.gq
theorem f211 {orc : FuncId → Bool} {e : Ex} (h : ExLe Q e (E orc)) (v0 v1 : Value) (G : GS) : Ref (s211 true e v0 v1 G) ((E orc).cl 211 [v0, v1] G) :=
  fun r hr => cl_sxE_some Q orc (vs := [v0, v1]) G Tryz.func211 (by kernel_rfl) (by kernel_rfl) (by kernel_rfl) (by kernel_rfl) (by kernel_rfl) (by kernel_rfl) (m211 h v0 v1 G r hr)
/-- coxswain/ring.of -/
noncomputable def s212 (q : Bool) (e : Ex) (v0 : Value) (G : GS) : Option (Value × GS) :=
  bP (cv Q q 249 210 .u32 .u64 v0) fun x0 =>
  bP (bn Q q .shl 210 (.tmp 4) (.const (.int .u64 32)) x0 (.int .u64 32)) fun x1 =>
  some (x1, G)
theorem m212 {e : Ex} {E : Ev} (h : ExLe Q e E) (v0 : Value) (G : GS) : Ref (s212 true e v0 G) (s212 false (Ex.of E) v0 G) := by
  unfold s212
  exact Ref.gq
theorem f212 {orc : FuncId → Bool} {e : Ex} (h : ExLe Q e (E orc)) (v0 : Value) (G : GS) : Ref (s212 true e v0 G) ((E orc).cl 212 [v0] G) :=
  fun r hr => cl_sxE_some Q orc (vs := [v0]) G Tryz.func212 (by kernel_rfl) (by kernel_rfl) (by kernel_rfl) (by kernel_rfl) (by kernel_rfl) (by kernel_rfl) (m212 h v0 G r hr)
/-- (*coxswain/ring.Drop).head -/
noncomputable def s213 (q : Bool) (e : Ex) (v0 v1 : Value) (G : GS) : Option (Value × GS) :=
  bP (pNil v0) fun x0 =>
  bP (fa Q q 241 0 0 x0) fun x1 =>
  bP (fa Q q 230 0 0 x1) fun x2 =>
  bP (fa Q q 119 0 0 x2) fun x3 =>
  bP (ld Q q 3 x3 (G.room 13)) fun x4 =>
  bP (pNil v0) fun x5 =>
  bP (fa Q q 241 1 7 x5) fun x6 =>
  bP (ld Q q 39 x6 (G.room 13)) fun x7 =>
  bP (bn Q q .add 39 (.tmp 14) (.const (.int .u64 1)) x7 (.int .u64 1)) fun x8 =>
  bS (e.ev.cl 14 [v1, x4, x8] (G.room 13)) fun x10 G9 =>
  bP (pNil v0) fun x11 =>
  bP (fa Q q 241 0 0 x11) fun x12 =>
  bS (e.ev.cl 173 [x12, (.int .i64 0)] G9) fun x13 G14 =>
  some (.tuple #[], G14)
theorem m213 {e : Ex} {E : Ev} (h : ExLe Q e E) (v0 v1 : Value) (G : GS) : Ref (s213 true e v0 v1 G) (s213 false (Ex.of E) v0 v1 G) := by
  unfold s213
  exact Ref.gq
theorem f213 {orc : FuncId → Bool} {e : Ex} (h : ExLe Q e (E orc)) (v0 v1 : Value) (G : GS) : Ref (s213 true e v0 v1 G) ((E orc).cl 213 [v0, v1] G) :=
  fun r hr => cl_sxE_some Q orc (vs := [v0, v1]) G Tryz.func213 (by kernel_rfl) (by kernel_rfl) (by kernel_rfl) (by kernel_rfl) (by kernel_rfl) (by kernel_rfl) (m213 h v0 v1 G r hr)
/-- (*coxswain/ring.Front).look -/
noncomputable def s214 (q : Bool) (e : Ex) (v0 v1 : Value) (G : GS) : Option (Value × GS) :=
  bP (pNil v0) fun x0 =>
  bP (fa Q q 238 0 0 x0) fun x1 =>
  bP (fa Q q 230 0 0 x1) fun x2 =>
  bP (lda Q q 119 4 x2 (G.room 13)) fun x3 =>
  bP (pNil v0) fun x4 =>
  bP (fa Q q 238 1 7 x4) fun x5 =>
  bP (ld Q q 39 x5 (G.room 13)) fun x6 =>
  bS (e.ev.cl 125 [x3, x6] (G.room 13)) fun x8 G7 =>
  bS (e.ev.cl 199 [v1, x8] G7) fun x10 G9 =>
  bP (pNil v0) fun x11 =>
  bP (fa Q q 238 0 0 x11) fun x12 =>
  bS (e.ev.cl 173 [x12, (.int .i64 15)] G9) fun x13 G14 =>
  bP (pNil v0) fun x15 =>
  bP (fa Q q 238 0 0 x15) fun x16 =>
  bP (fa Q q 230 0 0 x16) fun x17 =>
  bP (lda Q q 119 4 x17 (G14.room 12)) fun x18 =>
  bP (pNil v0) fun x19 =>
  bP (fa Q q 238 1 7 x19) fun x20 =>
  bP (ld Q q 39 x20 (G14.room 12)) fun x21 =>
  bS (e.ev.cl 177 [x18, x21] (G14.room 12)) fun x23 G22 =>
  bS (e.ev.cl 176 [x10, x23] G22) fun x25 G24 =>
  ifV x25 (
  bS (e.ev.cl 126 [x10] G24) fun x26 G27 =>
  bP (pNil v0) fun x28 =>
  bP (fa Q q 238 2 8 x28) fun x29 =>
  bP (st Q q 3 1 x29 x26 G27) fun G30 =>
  bP (pNil v0) fun x31 =>
  bP (fa Q q 238 0 0 x31) fun x32 =>
  bS (e.ev.cl 173 [x32, (.int .i64 0)] G30) fun x33 G34 =>
  some (.tuple #[], G34)) (
  some (.tuple #[], G24))
theorem m214 {e : Ex} {E : Ev} (h : ExLe Q e E) (v0 v1 : Value) (G : GS) : Ref (s214 true e v0 v1 G) (s214 false (Ex.of E) v0 v1 G) := by
  unfold s214
  exact Ref.gq
theorem f214 {orc : FuncId → Bool} {e : Ex} (h : ExLe Q e (E orc)) (v0 v1 : Value) (G : GS) : Ref (s214 true e v0 v1 G) ((E orc).cl 214 [v0, v1] G) :=
  fun r hr => cl_sxE_some Q orc (vs := [v0, v1]) G Tryz.func214 (by kernel_rfl) (by kernel_rfl) (by kernel_rfl) (by kernel_rfl) (by kernel_rfl) (by kernel_rfl) (m214 h v0 v1 G r hr)
/-- (*coxswain/ring.Push).look -/
noncomputable def s215 (q : Bool) (e : Ex) (v0 v1 : Value) (G : GS) : Option (Value × GS) :=
  bP (pNil v0) fun x0 =>
  bP (fa Q q 232 0 0 x0) fun x1 =>
  bP (fa Q q 230 0 0 x1) fun x2 =>
  bP (lda Q q 119 4 x2 (G.room 16)) fun x3 =>
  bP (pNil v0) fun x4 =>
  bP (fa Q q 232 2 8 x4) fun x5 =>
  bP (ld Q q 39 x5 (G.room 16)) fun x6 =>
  bS (e.ev.cl 125 [x3, x6] (G.room 16)) fun x8 G7 =>
  bS (e.ev.cl 199 [v1, x8] G7) fun x10 G9 =>
  bP (pNil v0) fun x11 =>
  bP (fa Q q 232 3 9 x11) fun x12 =>
  bP (st Q q 210 1 x12 x10 G9) fun G13 =>
  bP (pNil v0) fun x14 =>
  bP (fa Q q 232 0 0 x14) fun x15 =>
  bP (fa Q q 230 0 0 x15) fun x16 =>
  bP (lda Q q 119 4 x16 (G13.room 11)) fun x17 =>
  bP (pNil v0) fun x18 =>
  bP (fa Q q 232 2 8 x18) fun x19 =>
  bP (ld Q q 39 x19 (G13.room 11)) fun x20 =>
  bS (e.ev.cl 177 [x17, x20] (G13.room 11)) fun x22 G21 =>
  bP (pNil v0) fun x23 =>
  bP (fa Q q 232 3 9 x23) fun x24 =>
  bP (ld Q q 210 x24 G21) fun x25 =>
  bS (e.ev.cl 250 [x25, x22] G21) fun x26 G27 =>
  ifV x26 (
  bP (pNil v0) fun x28 =>
  bP (fa Q q 232 0 0 x28) fun x29 =>
  bP (fa Q q 230 1 4 x29) fun x30 =>
  bP (st Q q 224 1 x30 (.func (.func 251) #[v0] #[]) G27) fun G31 =>
  some (.tuple #[], G31)) (
  bP (pNil v0) fun x32 =>
  bP (fa Q q 232 3 9 x32) fun x33 =>
  bP (ld Q q 210 x33 G27) fun x34 =>
  bP (bn Q q .sub 249 (.tmp 54) (.const (.int .u32 1)) x22 (.int .u32 1)) fun x35 =>
  bS (e.ev.cl 176 [x34, x35] G27) fun x36 G37 =>
  ifV x36 (
  bP (pNil v0) fun x38 =>
  bP (fa Q q 232 0 0 x38) fun x39 =>
  bS (e.ev.cl 173 [x39, (.int .i64 7)] G37) fun x40 G41 =>
  some (.tuple #[], G41)) (
  bP (pNil v0) fun x42 =>
  bP (fa Q q 232 0 0 x42) fun x43 =>
  bP (fa Q q 230 1 4 x43) fun x44 =>
  bP (st Q q 224 1 x44 (.func (.func 252) #[v0] #[]) G37) fun G45 =>
  some (.tuple #[], G45)))
theorem m215 {e : Ex} {E : Ev} (h : ExLe Q e E) (v0 v1 : Value) (G : GS) : Ref (s215 true e v0 v1 G) (s215 false (Ex.of E) v0 v1 G) := by
  unfold s215
  exact Ref.gq
theorem f215 {orc : FuncId → Bool} {e : Ex} (h : ExLe Q e (E orc)) (v0 v1 : Value) (G : GS) : Ref (s215 true e v0 v1 G) ((E orc).cl 215 [v0, v1] G) :=
  fun r hr => cl_sxE_some Q orc (vs := [v0, v1]) G Tryz.func215 (by kernel_rfl) (by kernel_rfl) (by kernel_rfl) (by kernel_rfl) (by kernel_rfl) (by kernel_rfl) (m215 h v0 v1 G r hr)
/-- (coxswain/cells.deed).load -/
noncomputable def s240 (q : Bool) (e : Ex) (v0 : Value) (G : GS) : Option (Value × GS) :=
  bS (bx q v0 G) fun x0 G1 =>
  bP (fa Q q 126 0 0 x0) fun x2 =>
  bP (ld Q q 123 x2 G1) fun x3 =>
  bP (pNil x3) fun x4 =>
  bP (ld Q q 108 x4 G1) fun x5 =>
  some (.tuple #[x5, (.bool false)], G1)
theorem m240 {e : Ex} {E : Ev} (h : ExLe Q e E) (v0 : Value) (G : GS) : Ref (s240 true e v0 G) (s240 false (Ex.of E) v0 G) := by
  unfold s240
  exact Ref.gq
theorem f240 {orc : FuncId → Bool} {e : Ex} (h : ExLe Q e (E orc)) (v0 : Value) (G : GS) : Ref (s240 true e v0 G) ((E orc).cl 240 [v0] G) :=
  fun r hr => cl_sxE_some Q orc (vs := [v0]) G Tryz.func240 (by kernel_rfl) (by kernel_rfl) (by kernel_rfl) (by kernel_rfl) (by kernel_rfl) (by kernel_rfl) (m240 h v0 G r hr)
/-- (coxswain/cells.deed).add -/
noncomputable def s247 (q : Bool) (e : Ex) (v0 : Value) (G : GS) : Option (Value × GS) :=
  bS (bx q v0 G) fun x0 G1 =>
  bP (fa Q q 126 0 0 x0) fun x2 =>
  bP (ld Q q 123 x2 (G1.room 9)) fun x3 =>
  bP (pNil x3) fun x4 =>
  bP (ld Q q 108 x4 (G1.room 9)) fun x5 =>
  bP (fa Q q 126 1 1 x0) fun x6 =>
  bP (ld Q q 39 x6 (G1.room 9)) fun x7 =>
  bP (bn Q q .add 39 (.tmp 7) (.tmp 9) x5 x7) fun x8 =>
  some (.tuple #[x8, (.bool true)], (G1.room 9))
theorem m247 {e : Ex} {E : Ev} (h : ExLe Q e E) (v0 : Value) (G : GS) : Ref (s247 true e v0 G) (s247 false (Ex.of E) v0 G) := by
  unfold s247
  exact Ref.gq
theorem f247 {orc : FuncId → Bool} {e : Ex} (h : ExLe Q e (E orc)) (v0 : Value) (G : GS) : Ref (s247 true e v0 G) ((E orc).cl 247 [v0] G) :=
  fun r hr => cl_sxE_some Q orc (vs := [v0]) G Tryz.func247 (by kernel_rfl) (by kernel_rfl) (by kernel_rfl) (by kernel_rfl) (by kernel_rfl) (by kernel_rfl) (m247 h v0 G r hr)
/-- (coxswain/ring.slot).empty -/
noncomputable def s250 (q : Bool) (e : Ex) (v0 v1 : Value) (G : GS) : Option (Value × GS) :=
  bP (bn Q q .shr 210 (.tmp 5) (.const (.int .u64 32)) v0 (.int .u64 32)) fun x0 =>
  bP (cv Q q 210 249 .u64 .u32 x0) fun x1 =>
  bP (bn Q q .eql 249 (.tmp 7) (.tmp 8) x1 v1) fun x2 =>
  bS (gd x2 true (some (v0, G)) G) fun x3 G4 =>
  bS (gd x2 true (bP (bn Q q .and 210 (.tmp 11) (.const (.int .u64 65536)) x3 (.int .u64 65536)) fun y => some (y, G4)) G4) fun x5 G6 =>
  bS (gd x2 true (bP (bn Q q .eql 210 (.tmp 12) (.const (.int .u64 0)) x5 (.int .u64 0)) fun y => some (y, G6)) G6) fun x7 G8 =>
  bP (pickV x2 x7 (.bool false)) fun x9 =>
  some (x9, G8)
theorem m250 {e : Ex} {E : Ev} (h : ExLe Q e E) (v0 v1 : Value) (G : GS) : Ref (s250 true e v0 v1 G) (s250 false (Ex.of E) v0 v1 G) := by
  unfold s250
  exact Ref.gq
theorem f250 {orc : FuncId → Bool} {e : Ex} (h : ExLe Q e (E orc)) (v0 v1 : Value) (G : GS) : Ref (s250 true e v0 v1 G) ((E orc).cl 250 [v0, v1] G) :=
  fun r hr => cl_sxE_some Q orc (vs := [v0, v1]) G Tryz.func250 (by kernel_rfl) (by kernel_rfl) (by kernel_rfl) (by kernel_rfl) (by kernel_rfl) (by kernel_rfl) (m250 h v0 v1 G r hr)
/-- (*coxswain/ring.Push).lay -/
noncomputable def s251 (q : Bool) (e : Ex) (v0 v1 : Value) (G : GS) : Option (Value × GS) :=
  bP (pNil v0) fun x0 =>
  bP (fa Q q 232 0 0 x0) fun x1 =>
  bP (fa Q q 230 1 4 x1) fun x2 =>
  bP (st Q q 224 1 x2 (.func (.func 252) #[v0] #[]) G) fun G3 =>
  bP (pNil v0) fun x4 =>
  bP (fa Q q 232 0 0 x4) fun x5 =>
  bP (fa Q q 230 0 0 x5) fun x6 =>
  bP (lda Q q 119 4 x6 (G3.room 32)) fun x7 =>
  bP (pNil v0) fun x8 =>
  bP (fa Q q 232 2 8 x8) fun x9 =>
  bP (ld Q q 39 x9 (G3.room 32)) fun x10 =>
  bS (e.ev.cl 125 [x7, x10] (G3.room 32)) fun x12 G11 =>
  bP (pNil v0) fun x13 =>
  bP (fa Q q 232 3 9 x13) fun x14 =>
  bP (ld Q q 210 x14 G11) fun x15 =>
  chk ((sameO (ld Q q 210 x14 (G3.room 32)) x15 && true)) <|
  bP (pNil v0) fun x16 =>
  bP (fa Q q 232 0 0 x16) fun x17 =>
  bP (fa Q q 230 0 0 x17) fun x18 =>
  bP (lda Q q 119 4 x18 G11) fun x19 =>
  chk ((sameO (lda Q q 119 4 x18 (G3.room 32)) x19 && true)) <|
  bP (pNil v0) fun x20 =>
  bP (fa Q q 232 2 8 x20) fun x21 =>
  bP (ld Q q 39 x21 G11) fun x22 =>
  chk ((sameO (ld Q q 39 x21 (G3.room 32)) x22 && true)) <|
  bS (e.ev.cl 177 [x19, x22] G11) fun x24 G23 =>
  chk ((sameO (ld Q q 210 x14 G23) x15 && true)) <|
  bS (e.ev.cl 212 [x24] G23) fun x26 G25 =>
  chk ((sameO (ld Q q 210 x14 G25) x15 && true)) <|
  bP (pNil v0) fun x27 =>
  bP (fa Q q 232 1 7 x27) fun x28 =>
  bP (ld Q q 3 x28 G25) fun x29 =>
  chk ((sameO (ld Q q 3 x28 G23) x29 && (sameO (ld Q q 3 x28 G11) x29 && (sameO (ld Q q 3 x28 (G3.room 32)) x29 && true)))) <|
  bS (e.ev.cl 260 [x26, x29] G25) fun x31 G30 =>
  chk ((sameO (ld Q q 210 x14 G30) x15 && true)) <|
  bS (e.ev.cl 157 [v1, x12, x15, x31] G30) fun x33 G32 =>
  ifV x33 (
  bP (pNil v0) fun x34 =>
  bP (fa Q q 232 0 0 x34) fun x35 =>
  bP (fa Q q 230 1 4 x35) fun x36 =>
  bP (st Q q 224 1 x36 (.func (.func 261) #[v0] #[]) G32) fun G37 =>
  some (.tuple #[], G37)) (
  some (.tuple #[], G32))
theorem m251 {e : Ex} {E : Ev} (h : ExLe Q e E) (v0 v1 : Value) (G : GS) : Ref (s251 true e v0 v1 G) (s251 false (Ex.of E) v0 v1 G) := by
  unfold s251
  exact Ref.gq
theorem f251 {orc : FuncId → Bool} {e : Ex} (h : ExLe Q e (E orc)) (v0 v1 : Value) (G : GS) : Ref (s251 true e v0 v1 G) ((E orc).cl 251 [v0, v1] G) :=
  fun r hr => cl_sxE_some Q orc (vs := [v0, v1]) G Tryz.func251 (by kernel_rfl) (by kernel_rfl) (by kernel_rfl) (by kernel_rfl) (by kernel_rfl) (by kernel_rfl) (m251 h v0 v1 G r hr)
/-- (*coxswain/ring.Push).help -/
noncomputable def s252 (q : Bool) (e : Ex) (v0 v1 : Value) (G : GS) : Option (Value × GS) :=
  bP (pNil v0) fun x0 =>
  bP (fa Q q 232 0 0 x0) fun x1 =>
  bP (fa Q q 230 0 0 x1) fun x2 =>
  bP (fa Q q 119 1 1 x2) fun x3 =>
  bP (ld Q q 3 x3 (G.room 17)) fun x4 =>
  bP (pNil v0) fun x5 =>
  bP (fa Q q 232 2 8 x5) fun x6 =>
  bP (ld Q q 39 x6 (G.room 17)) fun x7 =>
  bP (pNil v0) fun x8 =>
  bP (fa Q q 232 2 8 x8) fun x9 =>
  bP (ld Q q 39 x9 (G.room 17)) fun x10 =>
  bP (bn Q q .add 39 (.tmp 18) (.const (.int .u64 1)) x10 (.int .u64 1)) fun x11 =>
  bS (e.ev.cl 157 [v1, x4, x7, x11] (G.room 17)) fun x13 G12 =>
  bP (pNil v0) fun x14 =>
  bP (fa Q q 232 0 0 x14) fun x15 =>
  bP (fa Q q 230 1 4 x15) fun x16 =>
  bP (st Q q 224 1 x16 (.func (.func 174) #[v0] #[]) G12) fun G17 =>
  some (.tuple #[], G17)
theorem m252 {e : Ex} {E : Ev} (h : ExLe Q e E) (v0 v1 : Value) (G : GS) : Ref (s252 true e v0 v1 G) (s252 false (Ex.of E) v0 v1 G) := by
  unfold s252
  exact Ref.gq
theorem f252 {orc : FuncId → Bool} {e : Ex} (h : ExLe Q e (E orc)) (v0 v1 : Value) (G : GS) : Ref (s252 true e v0 v1 G) ((E orc).cl 252 [v0, v1] G) :=
  fun r hr => cl_sxE_some Q orc (vs := [v0, v1]) G Tryz.func252 (by kernel_rfl) (by kernel_rfl) (by kernel_rfl) (by kernel_rfl) (by kernel_rfl) (by kernel_rfl) (m252 h v0 v1 G r hr)
/-- (coxswain/ring.slot).with -/
noncomputable def s260 (q : Bool) (e : Ex) (v0 v1 : Value) (G : GS) : Option (Value × GS) :=
  bP (bn Q q .andNot 210 (.tmp 5) (.const (.int .u64 65535)) v0 (.int .u64 65535)) fun x0 =>
  bP (bn Q q .or 210 (.tmp 6) (.const (.int .u64 65536)) x0 (.int .u64 65536)) fun x1 =>
  bP (cv Q q 3 210 .i64 .u64 v1) fun x2 =>
  bP (bn Q q .or 210 (.tmp 7) (.tmp 9) x1 x2) fun x3 =>
  some (x3, G)
theorem m260 {e : Ex} {E : Ev} (h : ExLe Q e E) (v0 v1 : Value) (G : GS) : Ref (s260 true e v0 v1 G) (s260 false (Ex.of E) v0 v1 G) := by
  unfold s260
  exact Ref.gq
theorem f260 {orc : FuncId → Bool} {e : Ex} (h : ExLe Q e (E orc)) (v0 v1 : Value) (G : GS) : Ref (s260 true e v0 v1 G) ((E orc).cl 260 [v0, v1] G) :=
  fun r hr => cl_sxE_some Q orc (vs := [v0, v1]) G Tryz.func260 (by kernel_rfl) (by kernel_rfl) (by kernel_rfl) (by kernel_rfl) (by kernel_rfl) (by kernel_rfl) (m260 h v0 v1 G r hr)
/-- (*coxswain/ring.Push).last -/
noncomputable def s261 (q : Bool) (e : Ex) (v0 v1 : Value) (G : GS) : Option (Value × GS) :=
  bP (pNil v0) fun x0 =>
  bP (fa Q q 232 0 0 x0) fun x1 =>
  bP (fa Q q 230 0 0 x1) fun x2 =>
  bP (fa Q q 119 1 1 x2) fun x3 =>
  bP (ld Q q 3 x3 (G.room 17)) fun x4 =>
  bP (pNil v0) fun x5 =>
  bP (fa Q q 232 2 8 x5) fun x6 =>
  bP (ld Q q 39 x6 (G.room 17)) fun x7 =>
  bP (pNil v0) fun x8 =>
  bP (fa Q q 232 2 8 x8) fun x9 =>
  bP (ld Q q 39 x9 (G.room 17)) fun x10 =>
  bP (bn Q q .add 39 (.tmp 18) (.const (.int .u64 1)) x10 (.int .u64 1)) fun x11 =>
  bS (e.ev.cl 157 [v1, x4, x7, x11] (G.room 17)) fun x13 G12 =>
  bP (pNil v0) fun x14 =>
  bP (fa Q q 232 0 0 x14) fun x15 =>
  bS (e.ev.cl 173 [x15, (.int .i64 0)] G12) fun x16 G17 =>
  some (.tuple #[], G17)
theorem m261 {e : Ex} {E : Ev} (h : ExLe Q e E) (v0 v1 : Value) (G : GS) : Ref (s261 true e v0 v1 G) (s261 false (Ex.of E) v0 v1 G) := by
  unfold s261
  exact Ref.gq
theorem f261 {orc : FuncId → Bool} {e : Ex} (h : ExLe Q e (E orc)) (v0 v1 : Value) (G : GS) : Ref (s261 true e v0 v1 G) ((E orc).cl 261 [v0, v1] G) :=
  fun r hr => cl_sxE_some Q orc (vs := [v0, v1]) G Tryz.func261 (by kernel_rfl) (by kernel_rfl) (by kernel_rfl) (by kernel_rfl) (by kernel_rfl) (by kernel_rfl) (m261 h v0 v1 G r hr)
/-- (*coxswain/ring.Front).Step -/
noncomputable def s292 (q : Bool) (e : Ex) (v0 v1 : Value) (G : GS) : Option (Value × GS) :=
  bP (ep Q q false 192 (.tmp 5) (.const (.pointer none)) v0 (.pointer none)) fun x0 =>
  bS (gd x0 false (some (v0, G)) G) fun x1 G2 =>
  bS (gd x0 false (bP (pNil x1) fun y => some (y, G2)) G2) fun x3 G4 =>
  bS (gd x0 false (bP (fa Q q 238 0 0 x3) fun y => some (y, G4)) G4) fun x5 G6 =>
  bS (gd x0 false (some (v1, G6)) G6) fun x7 G8 =>
  bS (gd x0 false (bS (e.ev.cl 164 [x5, x7] G8) fun y G => some (y, G)) G8) fun x9 G10 =>
  bP (pickV x0 (.bool true) x9) fun x11 =>
  some (x11, G10)
theorem m292 {e : Ex} {E : Ev} (h : ExLe Q e E) (v0 v1 : Value) (G : GS) : Ref (s292 true e v0 v1 G) (s292 false (Ex.of E) v0 v1 G) := by
  unfold s292
  exact Ref.gq
theorem f292 {orc : FuncId → Bool} {e : Ex} (h : ExLe Q e (E orc)) (v0 v1 : Value) (G : GS) : Ref (s292 true e v0 v1 G) ((E orc).cl 292 [v0, v1] G) :=
  fun r hr => cl_sxE_some Q orc (vs := [v0, v1]) G Tryz.func292 (by kernel_rfl) (by kernel_rfl) (by kernel_rfl) (by kernel_rfl) (by kernel_rfl) (by kernel_rfl) (m292 h v0 v1 G r hr)
/-- (*coxswain/ring.Drop).Step -/
noncomputable def s294 (q : Bool) (e : Ex) (v0 v1 : Value) (G : GS) : Option (Value × GS) :=
  bP (ep Q q false 195 (.tmp 5) (.const (.pointer none)) v0 (.pointer none)) fun x0 =>
  bS (gd x0 false (some (v0, G)) G) fun x1 G2 =>
  bS (gd x0 false (bP (pNil x1) fun y => some (y, G2)) G2) fun x3 G4 =>
  bS (gd x0 false (bP (fa Q q 241 0 0 x3) fun y => some (y, G4)) G4) fun x5 G6 =>
  bS (gd x0 false (some (v1, G6)) G6) fun x7 G8 =>
  bS (gd x0 false (bS (e.ev.cl 164 [x5, x7] G8) fun y G => some (y, G)) G8) fun x9 G10 =>
  bP (pickV x0 (.bool true) x9) fun x11 =>
  some (x11, G10)
theorem m294 {e : Ex} {E : Ev} (h : ExLe Q e E) (v0 v1 : Value) (G : GS) : Ref (s294 true e v0 v1 G) (s294 false (Ex.of E) v0 v1 G) := by
  unfold s294
  exact Ref.gq
theorem f294 {orc : FuncId → Bool} {e : Ex} (h : ExLe Q e (E orc)) (v0 v1 : Value) (G : GS) : Ref (s294 true e v0 v1 G) ((E orc).cl 294 [v0, v1] G) :=
  fun r hr => cl_sxE_some Q orc (vs := [v0, v1]) G Tryz.func294 (by kernel_rfl) (by kernel_rfl) (by kernel_rfl) (by kernel_rfl) (by kernel_rfl) (by kernel_rfl) (m294 h v0 v1 G r hr)
noncomputable def clT (orc : FuncId → Bool) (e : Ex) (f : FuncId) (vs : List Value) (G : GS) : Option (Value × GS) :=
  fork f 104 (
fork f 42 (
fork f 18 (
fork f 10 (
fork f 6 (
fork f 3 (
leaf f 3 (app5 (s3 true e) vs G)) (
fork f 5 (
leaf f 5 (app2 (s5 true e) vs G)) (
leaf f 6 (app2 (s6 true e) vs G)))) (
fork f 8 (
fork f 7 (
leaf f 7 (app1 (s7 true e) vs G)) (
leaf f 8 (app1 (s8 true e) vs G))) (
fork f 9 (
leaf f 9 (app0 (orc 9) (hasTab Q G) (s9 true e) vs G)) (
leaf f 10 (app1 (s10 true e) vs G))))) (
fork f 14 (
fork f 12 (
fork f 11 (
leaf f 11 (app1 (s11 true e) vs G)) (
leaf f 12 (app2 (s12 true e) vs G))) (
fork f 13 (
leaf f 13 (app2 (s13 true e) vs G)) (
leaf f 14 (app3 (s14 true e) vs G)))) (
fork f 16 (
fork f 15 (
leaf f 15 (app3 (s15 true e) vs G)) (
leaf f 16 (app2 (s16 true e) vs G))) (
fork f 17 (
leaf f 17 (app3 (s17 true e) vs G)) (
leaf f 18 (app2 (s18 true e) vs G)))))) (
fork f 25 (
fork f 21 (
fork f 19 (
leaf f 19 (app3 (s19 true e) vs G)) (
fork f 20 (
leaf f 20 (app1 (s20 true e) vs G)) (
leaf f 21 (app2 (s21 true e) vs G)))) (
fork f 23 (
fork f 22 (
leaf f 22 (app3 (s22 true e) vs G)) (
leaf f 23 (app2 (s23 true e) vs G))) (
fork f 24 (
leaf f 24 (app2 (s24 true e) vs G)) (
leaf f 25 (app1 (s25 true e) vs G))))) (
fork f 29 (
fork f 27 (
fork f 26 (
leaf f 26 (app1 (s26 true e) vs G)) (
leaf f 27 (app1 (s27 true e) vs G))) (
fork f 28 (
leaf f 28 (app1 (s28 true e) vs G)) (
leaf f 29 (app2 (s29 true e) vs G)))) (
fork f 31 (
fork f 30 (
leaf f 30 (app1 (s30 true e) vs G)) (
leaf f 31 (app1 (s31 true e) vs G))) (
fork f 32 (
leaf f 32 (app1 (s32 true e) vs G)) (
leaf f 42 (app1 (s42 true e) vs G))))))) (
fork f 60 (
fork f 52 (
fork f 48 (
fork f 43 (
leaf f 43 (app1 (s43 true e) vs G)) (
fork f 44 (
leaf f 44 (app1 (s44 true e) vs G)) (
leaf f 48 (app1 (s48 true e) vs G)))) (
fork f 50 (
fork f 49 (
leaf f 49 (app2 (s49 true e) vs G)) (
leaf f 50 (app2 (s50 true e) vs G))) (
fork f 51 (
leaf f 51 (app2 (s51 true e) vs G)) (
leaf f 52 (app2 (s52 true e) vs G))))) (
fork f 56 (
fork f 54 (
fork f 53 (
leaf f 53 (app5 (s53 true e) vs G)) (
leaf f 54 (app1 (s54 true e) vs G))) (
fork f 55 (
leaf f 55 (app5 (s55 true e) vs G)) (
leaf f 56 (app2 (s56 true e) vs G)))) (
fork f 58 (
fork f 57 (
leaf f 57 (app2 (s57 true e) vs G)) (
leaf f 58 (app2 (s58 true e) vs G))) (
fork f 59 (
leaf f 59 (app2 (s59 true e) vs G)) (
leaf f 60 (app3 (s60 true e) vs G)))))) (
fork f 68 (
fork f 64 (
fork f 62 (
fork f 61 (
leaf f 61 (app3 (s61 true e) vs G)) (
leaf f 62 (app3 (s62 true e) vs G))) (
fork f 63 (
leaf f 63 (app3 (s63 true e) vs G)) (
leaf f 64 (app2 (s64 true e) vs G)))) (
fork f 66 (
fork f 65 (
leaf f 65 (app2 (s65 true e) vs G)) (
leaf f 66 (app1 (s66 true e) vs G))) (
fork f 67 (
leaf f 67 (app1 (s67 true e) vs G)) (
leaf f 68 (app1 (s68 true e) vs G))))) (
fork f 72 (
fork f 70 (
fork f 69 (
leaf f 69 (app1 (s69 true e) vs G)) (
leaf f 70 (app2 (s70 true e) vs G))) (
fork f 71 (
leaf f 71 (app2 (s71 true e) vs G)) (
leaf f 72 (app1 (s72 true e) vs G)))) (
fork f 102 (
fork f 101 (
leaf f 101 (app2 (s101 true e) vs G)) (
leaf f 102 (app1 (s102 true e) vs G))) (
fork f 103 (
leaf f 103 (app1 (s103 true e) vs G)) (
leaf f 104 (app1 (s104 true e) vs G)))))))) (
fork f 164 (
fork f 119 (
fork f 111 (
fork f 107 (
fork f 105 (
leaf f 105 (app2 (s105 true e) vs G)) (
fork f 106 (
leaf f 106 (app1 (s106 true e) vs G)) (
leaf f 107 (app2 (s107 true e) vs G)))) (
fork f 109 (
fork f 108 (
leaf f 108 (app1 (s108 true e) vs G)) (
leaf f 109 (app1 (s109 true e) vs G))) (
fork f 110 (
leaf f 110 (app2 (s110 true e) vs G)) (
leaf f 111 (app1 (s111 true e) vs G))))) (
fork f 115 (
fork f 113 (
fork f 112 (
leaf f 112 (app1 (s112 true e) vs G)) (
leaf f 113 (app2 (s113 true e) vs G))) (
fork f 114 (
leaf f 114 (app1 (s114 true e) vs G)) (
leaf f 115 (app2 (s115 true e) vs G)))) (
fork f 117 (
fork f 116 (
leaf f 116 (app1 (s116 true e) vs G)) (
leaf f 117 (app2 (s117 true e) vs G))) (
fork f 118 (
leaf f 118 (app1 (s118 true e) vs G)) (
leaf f 119 (app2 (s119 true e) vs G)))))) (
fork f 126 (
fork f 122 (
fork f 120 (
leaf f 120 (app2 (s120 true e) vs G)) (
fork f 121 (
leaf f 121 (app2 (s121 true e) vs G)) (
leaf f 122 (app2 (s122 true e) vs G)))) (
fork f 124 (
fork f 123 (
leaf f 123 (app2 (s123 true e) vs G)) (
leaf f 124 (app2 (s124 true e) vs G))) (
fork f 125 (
leaf f 125 (app2 (s125 true e) vs G)) (
leaf f 126 (app1 (s126 true e) vs G))))) (
fork f 130 (
fork f 128 (
fork f 127 (
leaf f 127 (app1 (s127 true e) vs G)) (
leaf f 128 (app1 (s128 true e) vs G))) (
fork f 129 (
leaf f 129 (app2 (s129 true e) vs G)) (
leaf f 130 (app2 (s130 true e) vs G)))) (
fork f 132 (
fork f 131 (
leaf f 131 (app2 (s131 true e) vs G)) (
leaf f 132 (app2 (s132 true e) vs G))) (
fork f 157 (
leaf f 157 (app4 (s157 true e) vs G)) (
leaf f 164 (app2 (s164 true e) vs G))))))) (
fork f 199 (
fork f 171 (
fork f 167 (
fork f 165 (
leaf f 165 (app1 (s165 true e) vs G)) (
fork f 166 (
leaf f 166 (app2 (s166 true e) vs G)) (
leaf f 167 (app2 (s167 true e) vs G)))) (
fork f 169 (
fork f 168 (
leaf f 168 (app4 (s168 true e) vs G)) (
leaf f 169 (app2 (s169 true e) vs G))) (
fork f 170 (
leaf f 170 (app1 (s170 true e) vs G)) (
leaf f 171 (app2 (s171 true e) vs G))))) (
fork f 175 (
fork f 173 (
fork f 172 (
leaf f 172 (app2 (s172 true e) vs G)) (
leaf f 173 (app2 (s173 true e) vs G))) (
fork f 174 (
leaf f 174 (app2 (s174 true e) vs G)) (
leaf f 175 (app3 (s175 true e) vs G)))) (
fork f 177 (
fork f 176 (
leaf f 176 (app2 (s176 true e) vs G)) (
leaf f 177 (app2 (s177 true e) vs G))) (
fork f 195 (
leaf f 195 (app3 (s195 true e) vs G)) (
leaf f 199 (app2 (s199 true e) vs G)))))) (
fork f 240 (
fork f 212 (
fork f 208 (
fork f 203 (
leaf f 203 (app1 (s203 true e) vs G)) (
leaf f 208 (app3 (s208 true e) vs G))) (
fork f 211 (
leaf f 211 (app2 (s211 true e) vs G)) (
leaf f 212 (app1 (s212 true e) vs G)))) (
fork f 214 (
fork f 213 (
leaf f 213 (app2 (s213 true e) vs G)) (
leaf f 214 (app2 (s214 true e) vs G))) (
fork f 215 (
leaf f 215 (app2 (s215 true e) vs G)) (
leaf f 240 (app1 (s240 true e) vs G))))) (
fork f 252 (
fork f 250 (
fork f 247 (
leaf f 247 (app1 (s247 true e) vs G)) (
leaf f 250 (app2 (s250 true e) vs G))) (
fork f 251 (
leaf f 251 (app2 (s251 true e) vs G)) (
leaf f 252 (app2 (s252 true e) vs G)))) (
fork f 261 (
fork f 260 (
leaf f 260 (app2 (s260 true e) vs G)) (
leaf f 261 (app2 (s261 true e) vs G))) (
fork f 292 (
leaf f 292 (app2 (s292 true e) vs G)) (
leaf f 294 (app2 (s294 true e) vs G))))))))
theorem clT_ok {orc : FuncId → Bool} {e : Ex} (h : ExLe Q e (E orc)) (f : FuncId) (vs : List Value) (G : GS) : Ref (clT orc e f vs G) ((E orc).cl f vs G) :=
  Ref.fork (
Ref.fork (
Ref.fork (
Ref.fork (
Ref.fork (
Ref.fork (
Ref.leaf (y := fun f => (E orc).cl f vs G) (Ref.app5 (fun u0 u1 u2 u3 u4 G => f3 h u0 u1 u2 u3 u4 G) vs G)) (
Ref.fork (
Ref.leaf (y := fun f => (E orc).cl f vs G) (Ref.app2 (fun u0 u1 G => f5 h u0 u1 G) vs G)) (
Ref.leaf (y := fun f => (E orc).cl f vs G) (Ref.app2 (fun u0 u1 G => f6 h u0 u1 G) vs G)))) (
Ref.fork (
Ref.fork (
Ref.leaf (y := fun f => (E orc).cl f vs G) (Ref.app1 (fun u0 G => f7 h u0 G) vs G)) (
Ref.leaf (y := fun f => (E orc).cl f vs G) (Ref.app1 (fun u0 G => f8 h u0 G) vs G))) (
Ref.fork (
Ref.leaf (y := fun f => (E orc).cl f vs G) (Ref.app0 (fun ho G => f9 h ho G) vs G)) (
Ref.leaf (y := fun f => (E orc).cl f vs G) (Ref.app1 (fun u0 G => f10 h u0 G) vs G))))) (
Ref.fork (
Ref.fork (
Ref.fork (
Ref.leaf (y := fun f => (E orc).cl f vs G) (Ref.app1 (fun u0 G => f11 h u0 G) vs G)) (
Ref.leaf (y := fun f => (E orc).cl f vs G) (Ref.app2 (fun u0 u1 G => f12 h u0 u1 G) vs G))) (
Ref.fork (
Ref.leaf (y := fun f => (E orc).cl f vs G) (Ref.app2 (fun u0 u1 G => f13 h u0 u1 G) vs G)) (
Ref.leaf (y := fun f => (E orc).cl f vs G) (Ref.app3 (fun u0 u1 u2 G => f14 h u0 u1 u2 G) vs G)))) (
Ref.fork (
Ref.fork (
Ref.leaf (y := fun f => (E orc).cl f vs G) (Ref.app3 (fun u0 u1 u2 G => f15 h u0 u1 u2 G) vs G)) (
Ref.leaf (y := fun f => (E orc).cl f vs G) (Ref.app2 (fun u0 u1 G => f16 h u0 u1 G) vs G))) (
Ref.fork (
Ref.leaf (y := fun f => (E orc).cl f vs G) (Ref.app3 (fun u0 u1 u2 G => f17 h u0 u1 u2 G) vs G)) (
Ref.leaf (y := fun f => (E orc).cl f vs G) (Ref.app2 (fun u0 u1 G => f18 h u0 u1 G) vs G)))))) (
Ref.fork (
Ref.fork (
Ref.fork (
Ref.leaf (y := fun f => (E orc).cl f vs G) (Ref.app3 (fun u0 u1 u2 G => f19 h u0 u1 u2 G) vs G)) (
Ref.fork (
Ref.leaf (y := fun f => (E orc).cl f vs G) (Ref.app1 (fun u0 G => f20 h u0 G) vs G)) (
Ref.leaf (y := fun f => (E orc).cl f vs G) (Ref.app2 (fun u0 u1 G => f21 h u0 u1 G) vs G)))) (
Ref.fork (
Ref.fork (
Ref.leaf (y := fun f => (E orc).cl f vs G) (Ref.app3 (fun u0 u1 u2 G => f22 h u0 u1 u2 G) vs G)) (
Ref.leaf (y := fun f => (E orc).cl f vs G) (Ref.app2 (fun u0 u1 G => f23 h u0 u1 G) vs G))) (
Ref.fork (
Ref.leaf (y := fun f => (E orc).cl f vs G) (Ref.app2 (fun u0 u1 G => f24 h u0 u1 G) vs G)) (
Ref.leaf (y := fun f => (E orc).cl f vs G) (Ref.app1 (fun u0 G => f25 h u0 G) vs G))))) (
Ref.fork (
Ref.fork (
Ref.fork (
Ref.leaf (y := fun f => (E orc).cl f vs G) (Ref.app1 (fun u0 G => f26 h u0 G) vs G)) (
Ref.leaf (y := fun f => (E orc).cl f vs G) (Ref.app1 (fun u0 G => f27 h u0 G) vs G))) (
Ref.fork (
Ref.leaf (y := fun f => (E orc).cl f vs G) (Ref.app1 (fun u0 G => f28 h u0 G) vs G)) (
Ref.leaf (y := fun f => (E orc).cl f vs G) (Ref.app2 (fun u0 u1 G => f29 h u0 u1 G) vs G)))) (
Ref.fork (
Ref.fork (
Ref.leaf (y := fun f => (E orc).cl f vs G) (Ref.app1 (fun u0 G => f30 h u0 G) vs G)) (
Ref.leaf (y := fun f => (E orc).cl f vs G) (Ref.app1 (fun u0 G => f31 h u0 G) vs G))) (
Ref.fork (
Ref.leaf (y := fun f => (E orc).cl f vs G) (Ref.app1 (fun u0 G => f32 h u0 G) vs G)) (
Ref.leaf (y := fun f => (E orc).cl f vs G) (Ref.app1 (fun u0 G => f42 h u0 G) vs G))))))) (
Ref.fork (
Ref.fork (
Ref.fork (
Ref.fork (
Ref.leaf (y := fun f => (E orc).cl f vs G) (Ref.app1 (fun u0 G => f43 h u0 G) vs G)) (
Ref.fork (
Ref.leaf (y := fun f => (E orc).cl f vs G) (Ref.app1 (fun u0 G => f44 h u0 G) vs G)) (
Ref.leaf (y := fun f => (E orc).cl f vs G) (Ref.app1 (fun u0 G => f48 h u0 G) vs G)))) (
Ref.fork (
Ref.fork (
Ref.leaf (y := fun f => (E orc).cl f vs G) (Ref.app2 (fun u0 u1 G => f49 h u0 u1 G) vs G)) (
Ref.leaf (y := fun f => (E orc).cl f vs G) (Ref.app2 (fun u0 u1 G => f50 h u0 u1 G) vs G))) (
Ref.fork (
Ref.leaf (y := fun f => (E orc).cl f vs G) (Ref.app2 (fun u0 u1 G => f51 h u0 u1 G) vs G)) (
Ref.leaf (y := fun f => (E orc).cl f vs G) (Ref.app2 (fun u0 u1 G => f52 h u0 u1 G) vs G))))) (
Ref.fork (
Ref.fork (
Ref.fork (
Ref.leaf (y := fun f => (E orc).cl f vs G) (Ref.app5 (fun u0 u1 u2 u3 u4 G => f53 h u0 u1 u2 u3 u4 G) vs G)) (
Ref.leaf (y := fun f => (E orc).cl f vs G) (Ref.app1 (fun u0 G => f54 h u0 G) vs G))) (
Ref.fork (
Ref.leaf (y := fun f => (E orc).cl f vs G) (Ref.app5 (fun u0 u1 u2 u3 u4 G => f55 h u0 u1 u2 u3 u4 G) vs G)) (
Ref.leaf (y := fun f => (E orc).cl f vs G) (Ref.app2 (fun u0 u1 G => f56 h u0 u1 G) vs G)))) (
Ref.fork (
Ref.fork (
Ref.leaf (y := fun f => (E orc).cl f vs G) (Ref.app2 (fun u0 u1 G => f57 h u0 u1 G) vs G)) (
Ref.leaf (y := fun f => (E orc).cl f vs G) (Ref.app2 (fun u0 u1 G => f58 h u0 u1 G) vs G))) (
Ref.fork (
Ref.leaf (y := fun f => (E orc).cl f vs G) (Ref.app2 (fun u0 u1 G => f59 h u0 u1 G) vs G)) (
Ref.leaf (y := fun f => (E orc).cl f vs G) (Ref.app3 (fun u0 u1 u2 G => f60 h u0 u1 u2 G) vs G)))))) (
Ref.fork (
Ref.fork (
Ref.fork (
Ref.fork (
Ref.leaf (y := fun f => (E orc).cl f vs G) (Ref.app3 (fun u0 u1 u2 G => f61 h u0 u1 u2 G) vs G)) (
Ref.leaf (y := fun f => (E orc).cl f vs G) (Ref.app3 (fun u0 u1 u2 G => f62 h u0 u1 u2 G) vs G))) (
Ref.fork (
Ref.leaf (y := fun f => (E orc).cl f vs G) (Ref.app3 (fun u0 u1 u2 G => f63 h u0 u1 u2 G) vs G)) (
Ref.leaf (y := fun f => (E orc).cl f vs G) (Ref.app2 (fun u0 u1 G => f64 h u0 u1 G) vs G)))) (
Ref.fork (
Ref.fork (
Ref.leaf (y := fun f => (E orc).cl f vs G) (Ref.app2 (fun u0 u1 G => f65 h u0 u1 G) vs G)) (
Ref.leaf (y := fun f => (E orc).cl f vs G) (Ref.app1 (fun u0 G => f66 h u0 G) vs G))) (
Ref.fork (
Ref.leaf (y := fun f => (E orc).cl f vs G) (Ref.app1 (fun u0 G => f67 h u0 G) vs G)) (
Ref.leaf (y := fun f => (E orc).cl f vs G) (Ref.app1 (fun u0 G => f68 h u0 G) vs G))))) (
Ref.fork (
Ref.fork (
Ref.fork (
Ref.leaf (y := fun f => (E orc).cl f vs G) (Ref.app1 (fun u0 G => f69 h u0 G) vs G)) (
Ref.leaf (y := fun f => (E orc).cl f vs G) (Ref.app2 (fun u0 u1 G => f70 h u0 u1 G) vs G))) (
Ref.fork (
Ref.leaf (y := fun f => (E orc).cl f vs G) (Ref.app2 (fun u0 u1 G => f71 h u0 u1 G) vs G)) (
Ref.leaf (y := fun f => (E orc).cl f vs G) (Ref.app1 (fun u0 G => f72 h u0 G) vs G)))) (
Ref.fork (
Ref.fork (
Ref.leaf (y := fun f => (E orc).cl f vs G) (Ref.app2 (fun u0 u1 G => f101 h u0 u1 G) vs G)) (
Ref.leaf (y := fun f => (E orc).cl f vs G) (Ref.app1 (fun u0 G => f102 h u0 G) vs G))) (
Ref.fork (
Ref.leaf (y := fun f => (E orc).cl f vs G) (Ref.app1 (fun u0 G => f103 h u0 G) vs G)) (
Ref.leaf (y := fun f => (E orc).cl f vs G) (Ref.app1 (fun u0 G => f104 h u0 G) vs G)))))))) (
Ref.fork (
Ref.fork (
Ref.fork (
Ref.fork (
Ref.fork (
Ref.leaf (y := fun f => (E orc).cl f vs G) (Ref.app2 (fun u0 u1 G => f105 h u0 u1 G) vs G)) (
Ref.fork (
Ref.leaf (y := fun f => (E orc).cl f vs G) (Ref.app1 (fun u0 G => f106 h u0 G) vs G)) (
Ref.leaf (y := fun f => (E orc).cl f vs G) (Ref.app2 (fun u0 u1 G => f107 h u0 u1 G) vs G)))) (
Ref.fork (
Ref.fork (
Ref.leaf (y := fun f => (E orc).cl f vs G) (Ref.app1 (fun u0 G => f108 h u0 G) vs G)) (
Ref.leaf (y := fun f => (E orc).cl f vs G) (Ref.app1 (fun u0 G => f109 h u0 G) vs G))) (
Ref.fork (
Ref.leaf (y := fun f => (E orc).cl f vs G) (Ref.app2 (fun u0 u1 G => f110 h u0 u1 G) vs G)) (
Ref.leaf (y := fun f => (E orc).cl f vs G) (Ref.app1 (fun u0 G => f111 h u0 G) vs G))))) (
Ref.fork (
Ref.fork (
Ref.fork (
Ref.leaf (y := fun f => (E orc).cl f vs G) (Ref.app1 (fun u0 G => f112 h u0 G) vs G)) (
Ref.leaf (y := fun f => (E orc).cl f vs G) (Ref.app2 (fun u0 u1 G => f113 h u0 u1 G) vs G))) (
Ref.fork (
Ref.leaf (y := fun f => (E orc).cl f vs G) (Ref.app1 (fun u0 G => f114 h u0 G) vs G)) (
Ref.leaf (y := fun f => (E orc).cl f vs G) (Ref.app2 (fun u0 u1 G => f115 h u0 u1 G) vs G)))) (
Ref.fork (
Ref.fork (
Ref.leaf (y := fun f => (E orc).cl f vs G) (Ref.app1 (fun u0 G => f116 h u0 G) vs G)) (
Ref.leaf (y := fun f => (E orc).cl f vs G) (Ref.app2 (fun u0 u1 G => f117 h u0 u1 G) vs G))) (
Ref.fork (
Ref.leaf (y := fun f => (E orc).cl f vs G) (Ref.app1 (fun u0 G => f118 h u0 G) vs G)) (
Ref.leaf (y := fun f => (E orc).cl f vs G) (Ref.app2 (fun u0 u1 G => f119 h u0 u1 G) vs G)))))) (
Ref.fork (
Ref.fork (
Ref.fork (
Ref.leaf (y := fun f => (E orc).cl f vs G) (Ref.app2 (fun u0 u1 G => f120 h u0 u1 G) vs G)) (
Ref.fork (
Ref.leaf (y := fun f => (E orc).cl f vs G) (Ref.app2 (fun u0 u1 G => f121 h u0 u1 G) vs G)) (
Ref.leaf (y := fun f => (E orc).cl f vs G) (Ref.app2 (fun u0 u1 G => f122 h u0 u1 G) vs G)))) (
Ref.fork (
Ref.fork (
Ref.leaf (y := fun f => (E orc).cl f vs G) (Ref.app2 (fun u0 u1 G => f123 h u0 u1 G) vs G)) (
Ref.leaf (y := fun f => (E orc).cl f vs G) (Ref.app2 (fun u0 u1 G => f124 h u0 u1 G) vs G))) (
Ref.fork (
Ref.leaf (y := fun f => (E orc).cl f vs G) (Ref.app2 (fun u0 u1 G => f125 h u0 u1 G) vs G)) (
Ref.leaf (y := fun f => (E orc).cl f vs G) (Ref.app1 (fun u0 G => f126 h u0 G) vs G))))) (
Ref.fork (
Ref.fork (
Ref.fork (
Ref.leaf (y := fun f => (E orc).cl f vs G) (Ref.app1 (fun u0 G => f127 h u0 G) vs G)) (
Ref.leaf (y := fun f => (E orc).cl f vs G) (Ref.app1 (fun u0 G => f128 h u0 G) vs G))) (
Ref.fork (
Ref.leaf (y := fun f => (E orc).cl f vs G) (Ref.app2 (fun u0 u1 G => f129 h u0 u1 G) vs G)) (
Ref.leaf (y := fun f => (E orc).cl f vs G) (Ref.app2 (fun u0 u1 G => f130 h u0 u1 G) vs G)))) (
Ref.fork (
Ref.fork (
Ref.leaf (y := fun f => (E orc).cl f vs G) (Ref.app2 (fun u0 u1 G => f131 h u0 u1 G) vs G)) (
Ref.leaf (y := fun f => (E orc).cl f vs G) (Ref.app2 (fun u0 u1 G => f132 h u0 u1 G) vs G))) (
Ref.fork (
Ref.leaf (y := fun f => (E orc).cl f vs G) (Ref.app4 (fun u0 u1 u2 u3 G => f157 h u0 u1 u2 u3 G) vs G)) (
Ref.leaf (y := fun f => (E orc).cl f vs G) (Ref.app2 (fun u0 u1 G => f164 h u0 u1 G) vs G))))))) (
Ref.fork (
Ref.fork (
Ref.fork (
Ref.fork (
Ref.leaf (y := fun f => (E orc).cl f vs G) (Ref.app1 (fun u0 G => f165 h u0 G) vs G)) (
Ref.fork (
Ref.leaf (y := fun f => (E orc).cl f vs G) (Ref.app2 (fun u0 u1 G => f166 h u0 u1 G) vs G)) (
Ref.leaf (y := fun f => (E orc).cl f vs G) (Ref.app2 (fun u0 u1 G => f167 h u0 u1 G) vs G)))) (
Ref.fork (
Ref.fork (
Ref.leaf (y := fun f => (E orc).cl f vs G) (Ref.app4 (fun u0 u1 u2 u3 G => f168 h u0 u1 u2 u3 G) vs G)) (
Ref.leaf (y := fun f => (E orc).cl f vs G) (Ref.app2 (fun u0 u1 G => f169 h u0 u1 G) vs G))) (
Ref.fork (
Ref.leaf (y := fun f => (E orc).cl f vs G) (Ref.app1 (fun u0 G => f170 h u0 G) vs G)) (
Ref.leaf (y := fun f => (E orc).cl f vs G) (Ref.app2 (fun u0 u1 G => f171 h u0 u1 G) vs G))))) (
Ref.fork (
Ref.fork (
Ref.fork (
Ref.leaf (y := fun f => (E orc).cl f vs G) (Ref.app2 (fun u0 u1 G => f172 h u0 u1 G) vs G)) (
Ref.leaf (y := fun f => (E orc).cl f vs G) (Ref.app2 (fun u0 u1 G => f173 h u0 u1 G) vs G))) (
Ref.fork (
Ref.leaf (y := fun f => (E orc).cl f vs G) (Ref.app2 (fun u0 u1 G => f174 h u0 u1 G) vs G)) (
Ref.leaf (y := fun f => (E orc).cl f vs G) (Ref.app3 (fun u0 u1 u2 G => f175 h u0 u1 u2 G) vs G)))) (
Ref.fork (
Ref.fork (
Ref.leaf (y := fun f => (E orc).cl f vs G) (Ref.app2 (fun u0 u1 G => f176 h u0 u1 G) vs G)) (
Ref.leaf (y := fun f => (E orc).cl f vs G) (Ref.app2 (fun u0 u1 G => f177 h u0 u1 G) vs G))) (
Ref.fork (
Ref.leaf (y := fun f => (E orc).cl f vs G) (Ref.app3 (fun u0 u1 u2 G => f195 h u0 u1 u2 G) vs G)) (
Ref.leaf (y := fun f => (E orc).cl f vs G) (Ref.app2 (fun u0 u1 G => f199 h u0 u1 G) vs G)))))) (
Ref.fork (
Ref.fork (
Ref.fork (
Ref.fork (
Ref.leaf (y := fun f => (E orc).cl f vs G) (Ref.app1 (fun u0 G => f203 h u0 G) vs G)) (
Ref.leaf (y := fun f => (E orc).cl f vs G) (Ref.app3 (fun u0 u1 u2 G => f208 h u0 u1 u2 G) vs G))) (
Ref.fork (
Ref.leaf (y := fun f => (E orc).cl f vs G) (Ref.app2 (fun u0 u1 G => f211 h u0 u1 G) vs G)) (
Ref.leaf (y := fun f => (E orc).cl f vs G) (Ref.app1 (fun u0 G => f212 h u0 G) vs G)))) (
Ref.fork (
Ref.fork (
Ref.leaf (y := fun f => (E orc).cl f vs G) (Ref.app2 (fun u0 u1 G => f213 h u0 u1 G) vs G)) (
Ref.leaf (y := fun f => (E orc).cl f vs G) (Ref.app2 (fun u0 u1 G => f214 h u0 u1 G) vs G))) (
Ref.fork (
Ref.leaf (y := fun f => (E orc).cl f vs G) (Ref.app2 (fun u0 u1 G => f215 h u0 u1 G) vs G)) (
Ref.leaf (y := fun f => (E orc).cl f vs G) (Ref.app1 (fun u0 G => f240 h u0 G) vs G))))) (
Ref.fork (
Ref.fork (
Ref.fork (
Ref.leaf (y := fun f => (E orc).cl f vs G) (Ref.app1 (fun u0 G => f247 h u0 G) vs G)) (
Ref.leaf (y := fun f => (E orc).cl f vs G) (Ref.app2 (fun u0 u1 G => f250 h u0 u1 G) vs G))) (
Ref.fork (
Ref.leaf (y := fun f => (E orc).cl f vs G) (Ref.app2 (fun u0 u1 G => f251 h u0 u1 G) vs G)) (
Ref.leaf (y := fun f => (E orc).cl f vs G) (Ref.app2 (fun u0 u1 G => f252 h u0 u1 G) vs G)))) (
Ref.fork (
Ref.fork (
Ref.leaf (y := fun f => (E orc).cl f vs G) (Ref.app2 (fun u0 u1 G => f260 h u0 u1 G) vs G)) (
Ref.leaf (y := fun f => (E orc).cl f vs G) (Ref.app2 (fun u0 u1 G => f261 h u0 u1 G) vs G))) (
Ref.fork (
Ref.leaf (y := fun f => (E orc).cl f vs G) (Ref.app2 (fun u0 u1 G => f292 h u0 u1 G) vs G)) (
Ref.leaf (y := fun f => (E orc).cl f vs G) (Ref.app2 (fun u0 u1 G => f294 h u0 u1 G) vs G))))))))
noncomputable def lpT (FUEL : Nat) (e : Ex) (f k : Nat) (τ : Env) (G : GS) : Option (Exit × Env × GS) :=
  fork f 30 (
fork f 21 (
fork f 3 (
leaf f 3 (fork k 0 (leaf k 0 (lpS 192 (b3_0 true e) FUEL τ G)) (leaf k 1 (lpS 192 (b3_1 true e) FUEL τ G)))) (
fork f 13 (
leaf f 13 (leaf k 0 (lpS 19 (b13_0 true e) FUEL τ G))) (
leaf f 21 (leaf k 0 (lpS 31 (b21_0 true e) FUEL τ G))))) (
fork f 24 (
leaf f 24 (leaf k 0 (lpS 22 (b24_0 true e) FUEL τ G))) (
fork f 29 (
leaf f 29 (leaf k 0 (lpS 31 (b29_0 true e) FUEL τ G))) (
leaf f 30 (leaf k 0 (lpS 42 (b30_0 true e) FUEL τ G)))))) (
fork f 50 (
fork f 32 (
leaf f 32 (leaf k 0 (lpS 12 (b32_0 true e) FUEL τ G))) (
fork f 49 (
leaf f 49 (leaf k 0 (lpS 28 (b49_0 true e) FUEL τ G))) (
leaf f 50 (leaf k 0 (lpS 29 (b50_0 true e) FUEL τ G))))) (
fork f 71 (
leaf f 71 (leaf k 0 (lpS 44 (b71_0 true e) FUEL τ G))) (
fork f 101 (
leaf f 101 (leaf k 0 (lpS 31 (b101_0 true e) FUEL τ G))) (
leaf f 175 (leaf k 0 (lpS 32 (b175_0 true e) FUEL τ G))))))
theorem lpT_ok {orc : FuncId → Bool} {e : Ex} (h : ExLe Q e (E orc)) (FUEL f k : Nat) (τ : Env) (G : GS) : Ref (lpT FUEL e f k τ G) (mapE ((E orc).lp (codeAt Q f k) (lst (nOf Q f) τ) G)) :=
  Ref.fork (
Ref.fork (
Ref.fork (
Ref.leaf (y := fun f => mapE ((E orc).lp (codeAt Q f k) (lst (nOf Q f) τ) G)) (Ref.fork (Ref.leaf (y := fun k => mapE ((E orc).lp (codeAt Q 3 k) (lst (nOf Q 3) τ) G)) (lp_leaf (c := (subAt [1, 1, 1, 1, 1, 1, 1, 1, 0, 1, 0, 0] (bodyOf Tryz.f3))) (l3_0 h) _ _ _)) (Ref.leaf (y := fun k => mapE ((E orc).lp (codeAt Q 3 k) (lst (nOf Q 3) τ) G)) (lp_leaf (c := (subAt [1, 1, 1, 1, 1, 1, 1, 1, 1, 1, 0, 1, 0, 0] (bodyOf Tryz.f3))) (l3_1 h) _ _ _)))) (
Ref.fork (
Ref.leaf (y := fun f => mapE ((E orc).lp (codeAt Q f k) (lst (nOf Q f) τ) G)) (Ref.leaf (y := fun k => mapE ((E orc).lp (codeAt Q 13 k) (lst (nOf Q 13) τ) G)) (lp_leaf (c := (subAt [1, 1, 1, 0, 0] (bodyOf Tryz.f13))) (l13_0 h) _ _ _))) (
Ref.leaf (y := fun f => mapE ((E orc).lp (codeAt Q f k) (lst (nOf Q f) τ) G)) (Ref.leaf (y := fun k => mapE ((E orc).lp (codeAt Q 21 k) (lst (nOf Q 21) τ) G)) (lp_leaf (c := (subAt [1, 1, 0, 1, 0, 0] (bodyOf Tryz.f21))) (l21_0 h) _ _ _))))) (
Ref.fork (
Ref.leaf (y := fun f => mapE ((E orc).lp (codeAt Q f k) (lst (nOf Q f) τ) G)) (Ref.leaf (y := fun k => mapE ((E orc).lp (codeAt Q 24 k) (lst (nOf Q 24) τ) G)) (lp_leaf (c := (subAt [1, 0, 1, 0, 0] (bodyOf Tryz.f24))) (l24_0 h) _ _ _))) (
Ref.fork (
Ref.leaf (y := fun f => mapE ((E orc).lp (codeAt Q f k) (lst (nOf Q f) τ) G)) (Ref.leaf (y := fun k => mapE ((E orc).lp (codeAt Q 29 k) (lst (nOf Q 29) τ) G)) (lp_leaf (c := (subAt [1, 1, 0, 1, 0, 0] (bodyOf Tryz.f29))) (l29_0 h) _ _ _))) (
Ref.leaf (y := fun f => mapE ((E orc).lp (codeAt Q f k) (lst (nOf Q f) τ) G)) (Ref.leaf (y := fun k => mapE ((E orc).lp (codeAt Q 30 k) (lst (nOf Q 30) τ) G)) (lp_leaf (c := (subAt [1, 1, 1, 0, 1, 0, 0] (bodyOf Tryz.f30))) (l30_0 h) _ _ _)))))) (
Ref.fork (
Ref.fork (
Ref.leaf (y := fun f => mapE ((E orc).lp (codeAt Q f k) (lst (nOf Q f) τ) G)) (Ref.leaf (y := fun k => mapE ((E orc).lp (codeAt Q 32 k) (lst (nOf Q 32) τ) G)) (lp_leaf (c := (subAt [1, 0, 0] (bodyOf Tryz.f32))) (l32_0 h) _ _ _))) (
Ref.fork (
Ref.leaf (y := fun f => mapE ((E orc).lp (codeAt Q f k) (lst (nOf Q f) τ) G)) (Ref.leaf (y := fun k => mapE ((E orc).lp (codeAt Q 49 k) (lst (nOf Q 49) τ) G)) (lp_leaf (c := (subAt [1, 1, 1, 1, 1, 0, 0] (bodyOf Tryz.f49))) (l49_0 h) _ _ _))) (
Ref.leaf (y := fun f => mapE ((E orc).lp (codeAt Q f k) (lst (nOf Q f) τ) G)) (Ref.leaf (y := fun k => mapE ((E orc).lp (codeAt Q 50 k) (lst (nOf Q 50) τ) G)) (lp_leaf (c := (subAt [1, 1, 1, 1, 1, 0, 0] (bodyOf Tryz.f50))) (l50_0 h) _ _ _))))) (
Ref.fork (
Ref.leaf (y := fun f => mapE ((E orc).lp (codeAt Q f k) (lst (nOf Q f) τ) G)) (Ref.leaf (y := fun k => mapE ((E orc).lp (codeAt Q 71 k) (lst (nOf Q 71) τ) G)) (lp_leaf (c := (subAt [1, 1, 1, 1, 0, 0, 0] (bodyOf Tryz.f71))) (l71_0 h) _ _ _))) (
Ref.fork (
Ref.leaf (y := fun f => mapE ((E orc).lp (codeAt Q f k) (lst (nOf Q f) τ) G)) (Ref.leaf (y := fun k => mapE ((E orc).lp (codeAt Q 101 k) (lst (nOf Q 101) τ) G)) (lp_leaf (c := (subAt [1, 0, 0] (bodyOf Tryz.f101))) (l101_0 h) _ _ _))) (
Ref.leaf (y := fun f => mapE ((E orc).lp (codeAt Q f k) (lst (nOf Q f) τ) G)) (Ref.leaf (y := fun k => mapE ((E orc).lp (codeAt Q 175 k) (lst (nOf Q 175) τ) G)) (lp_leaf (c := (subAt [1, 1, 0, 0] (bodyOf Tryz.f175))) (l175_0 h) _ _ _))))))
noncomputable def kE (orc : FuncId → Bool) (n : Nat) : Ex := Nat.rec (motive := fun _ => Ex) ⟨Ev.zero, fun _ _ _ _ => none⟩ (fun _ e => ⟨⟨(evO Q orc 0).ex, clT orc e, (evO Q orc 2000).rd, (evO Q orc 2000).sc, (evO Q orc 0).lp⟩, lpT 6000 e⟩) n
theorem kE_ok (orc : FuncId → Bool) : ∀ n, ExLe Q (kE orc n) (E orc)
  | 0 => ⟨zero_le _, fun _ _ _ _ => .nil _⟩
  | n + 1 => ⟨⟨(le_evL Q orc 0).ex, fun f vs G r hr => clT_ok (kE_ok orc n) f vs G r hr, (le_evL Q orc 2000).rd, (le_evL Q orc 2000).sc, (le_evL Q orc 0).lp⟩, lpT_ok (kE_ok orc n) 6000⟩
/-- what the tables find true is true -/
theorem at_kE {orc : FuncId → Bool} {n f : Nat} {vs : List Value} (h : isTrue ((kE orc n).ev.cl f vs GS.empty) = true) : ∃ G', (E orc).cl f vs GS.empty = some (.bool true, G') := isTrue_of ((kE_ok orc n).ev.cl f vs GS.empty) h
theorem closed_kE {orc : FuncId → Bool} (ho : OrcOk Q orc) (hmix : Q.follows .mixedOrders = true) {n f : Nat} (h : isTrue ((kE orc n).ev.cl f [] GS.empty) = true) (w : World) : Calls Q f #[] w fun e w' => e = .returned (.bool true) ∧ Go.RowKit.Below w.heap.size w w' :=
  let ⟨_, hG⟩ := at_kE h
  law_plain hmix ho hG fun _ => trivial
end Go.Proofs.YtaanpcoglijohaaGreat.Lift
