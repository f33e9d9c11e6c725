/- the program's code, spelled out by a program of ours (lift2.lean) -/
import Derived.Test.YtdohlgkmaeipjaaGreatW19a
namespace Go.Proofs.YtdohlgkmaeipjaaGreat.LiftK
open Go Go.Proofs.YtdohlgkmaeipjaaGreat.Gh Go.Proofs
set_option linter.unusedVariables false
set_option maxRecDepth 100000
/-- (coxswain/cells.deed).add -/
noncomputable def s279 (q : Bool) (e : Ex) (v0 : Value) (G : GS) : Option (Value × GS) :=
  bS (bx q v0 G) fun x0 G1 =>
  bP (fa Q q 246 0 0 x0) fun x2 =>
  bP (ld Q q 243 x2 (G1.room 9)) fun x3 =>
  bP (pNil x3) fun x4 =>
  bP (ld Q q 154 x4 (G1.room 9)) fun x5 =>
  bP (fa Q q 246 1 1 x0) fun x6 =>
  bP (ld Q q 41 x6 (G1.room 9)) fun x7 =>
  bP (bn Q q .add 41 (.tmp 7) (.tmp 9) x5 x7) fun x8 =>
  some (.tuple #[x8, (.bool true)], (G1.room 9))
theorem m279 {e : Ex} {E : Ev} (h : ExLe Q e E) (v0 : Value) (G : GS) : Ref (s279 true e v0 G) (s279 false (Ex.of E) v0 G) := by
  unfold s279
  exact Ref.go
theorem f279 {orc : FuncId → Bool} {e : Ex} (h : ExLe Q e (E orc)) (v0 : Value) (G : GS) : Ref (s279 true e v0 G) ((E orc).cl 279 [v0] G) :=
  fun r hr => cl_sxE_some Q orc (vs := [v0]) G Tryz.func279 (by kernel_rfl) (by kernel_rfl) (by kernel_rfl) (by kernel_rfl) (by kernel_rfl) (by kernel_rfl) (m279 h v0 G r hr)
/-- (*coxswain/limbo.Retire).looks -/
noncomputable def s280 (q : Bool) (e : Ex) (v0 v1 : Value) (G : GS) : Option (Value × GS) :=
  bP (pNil v0) fun x0 =>
  bP (fa Q q 404 1 3 x0) fun x1 =>
  bP (fa Q q 29 1 6 x1) fun x2 =>
  bP (fa Q q 27 0 0 x2) fun x3 =>
  bP (ld Q q 3 x3 G) fun x4 =>
  bS (e.ev.cl 177 [v1, x4] G) fun x5 G6 =>
  bP (bn Q q .and 41 (.tmp 13) (.const (.int .u64 4294967295)) x5 (.int .u64 4294967295)) fun x7 =>
  bP (bn Q q .rem 41 (.tmp 16) (.const (.int .u64 3)) x7 (.int .u64 3)) fun x8 =>
  bP (cv Q q 41 478 .u64 .i64 x8) fun x9 =>
  bP (pNil v0) fun x10 =>
  bP (fa Q q 404 1 3 x10) fun x11 =>
  bP (lda Q q 29 10 x11 (G6.room 17)) fun x12 =>
  bS (e.ev.cl 321 [x9, x12] (G6.room 17)) fun x14 G13 =>
  bP (pNil v0) fun x15 =>
  bP (fa Q q 404 2 13 x15) fun x16 =>
  bP (ld Q q 3 x16 G13) fun x17 =>
  chk ((sameO (ld Q q 3 x16 (G6.room 17)) x17 && true)) <|
  bS (e.ev.cl 268 [x14, x17] G13) fun x19 G18 =>
  bP (pNil v0) fun x20 =>
  bP (fa Q q 404 3 14 x20) fun x21 =>
  bP (st Q q 381 1 x21 x19 G18) fun G22 =>
  some ((.func (.func 350) #[v0] #[]), G22)
theorem m280 {e : Ex} {E : Ev} (h : ExLe Q e E) (v0 v1 : Value) (G : GS) : Ref (s280 true e v0 v1 G) (s280 false (Ex.of E) v0 v1 G) := by
  unfold s280
  exact Ref.go
theorem f280 {orc : FuncId → Bool} {e : Ex} (h : ExLe Q e (E orc)) (v0 v1 : Value) (G : GS) : Ref (s280 true e v0 v1 G) ((E orc).cl 280 [v0, v1] G) :=
  fun r hr => cl_sxE_some Q orc (vs := [v0, v1]) G Tryz.func280 (by kernel_rfl) (by kernel_rfl) (by kernel_rfl) (by kernel_rfl) (by kernel_rfl) (by kernel_rfl) (m280 h v0 v1 G r hr)
/-- (*coxswain/limbo.machine).step -/
noncomputable def s281 (q : Bool) (e : Ex) (v0 v1 : Value) (G : GS) : Option (Value × GS) :=
  bP (pNil v0) fun x0 =>
  bP (fa Q q 402 0 0 x0) fun x1 =>
  bP (ld Q q 400 x1 G) fun x2 =>
  bP (ef Q q true 400 (.tmp 8) (.const .nilFunc) x2 .nilFunc) fun x3 =>
  ifV x3 (
  bP (pNil v0) fun x4 =>
  bP (fa Q q 402 0 0 x4) fun x5 =>
  bP (ld Q q 400 x5 G) fun x6 =>
  bS (cValue e.ev x6 [v1] G) fun x7 G8 =>
  bP (pNil v0) fun x9 =>
  bP (fa Q q 402 0 0 x9) fun x10 =>
  bP (st Q q 400 1 x10 x7 G8) fun G11 =>
  bP (pNil v0) fun x12 =>
  bP (fa Q q 402 0 0 x12) fun x13 =>
  bP (ld Q q 400 x13 G11) fun x14 =>
  bP (ef Q q false 400 (.tmp 22) (.const .nilFunc) x14 .nilFunc) fun x15 =>
  some (x15, G11)) (
  bP (pNil v0) fun x16 =>
  bP (fa Q q 402 0 0 x16) fun x17 =>
  bP (ld Q q 400 x17 G) fun x18 =>
  bP (ef Q q false 400 (.tmp 22) (.const .nilFunc) x18 .nilFunc) fun x19 =>
  some (x19, G))
theorem m281 {e : Ex} {E : Ev} (h : ExLe Q e E) (v0 v1 : Value) (G : GS) : Ref (s281 true e v0 v1 G) (s281 false (Ex.of E) v0 v1 G) := by
  unfold s281
  exact Ref.go
theorem f281 {orc : FuncId → Bool} {e : Ex} (h : ExLe Q e (E orc)) (v0 v1 : Value) (G : GS) : Ref (s281 true e v0 v1 G) ((E orc).cl 281 [v0, v1] G) :=
  fun r hr => cl_sxE_some Q orc (vs := [v0, v1]) G Tryz.func281 (by kernel_rfl) (by kernel_rfl) (by kernel_rfl) (by kernel_rfl) (by kernel_rfl) (by kernel_rfl) (m281 h v0 v1 G r hr)
/-- coxswain/word.refs -/
noncomputable def s284 (q : Bool) (e : Ex) (G : GS) : Option (Value × GS) :=
  bS (al Q q 393 z393 G) fun x0 G1 =>
  bP (bd Q q 392 z392 [(0, 0, 1), (1, 1, 1)] [(.int .i64 0), (.int .i64 16)]) fun x2 =>
  bP (bd Q q 392 z392 [(0, 0, 1), (1, 1, 1)] [(.int .i64 16), (.int .i64 32)]) fun x3 =>
  bP (bd Q q 393 z393 [(0, 0, 2), (1, 2, 2)] [x2, x3]) fun x4 =>
  bP (st Q q 393 4 x0 x4 G1) fun G5 =>
  bP (lda Q q 393 4 x0 G5) fun x6 =>
  some (x6, G5)
theorem m284 {e : Ex} {E : Ev} (h : ExLe Q e E) (G : GS) : Ref (s284 true e  G) (s284 false (Ex.of E)  G) := by
  unfold s284
  exact Ref.go
theorem f284 {orc : FuncId → Bool} {e : Ex} (h : ExLe Q e (E orc)) (ho : orc 284 = false) (G : GS) : Ref (s284 true e  G) ((E orc).cl 284 [] G) :=
  fun r hr => cl_sxE_some Q orc (vs := []) G Tryz.func284 (by kernel_rfl) (by kernel_rfl) ho (by kernel_rfl) (by kernel_rfl) (by kernel_rfl) (m284 h  G r hr)
/-- coxswain/word.PutRef -/
noncomputable def s285 (q : Bool) (e : Ex) (v0 : Value) (G : GS) : Option (Value × GS) :=
  bS (bx q v0 G) fun x0 G1 =>
  bP (fa Q q 289 0 0 x0) fun x2 =>
  bP (ld Q q 3 x2 G1) fun x3 =>
  bP (bd Q q 505 z505 [(0, 0, 1), (1, 1, 1), (2, 2, 1)] [x3, (.int .i64 (-1)), (.int .i64 65534)]) fun x4 =>
  bP (fa Q q 289 1 1 x0) fun x5 =>
  bP (ld Q q 3 x5 G1) fun x6 =>
  bP (bd Q q 505 z505 [(0, 0, 1), (1, 1, 1), (2, 2, 1)] [x6, (.int .i64 0), (.int .i64 4294967295)]) fun x7 =>
  bS (bs Q q 538 2 (rep z505 2) 3 [(0, 0, 3), (1, 3, 3)] [x4, x7] G1) fun x8 G9 =>
  bS (e.ev.cl 357 [x8] G9) fun x10 G11 =>
  bP (un Q q .not x10) fun x12 =>
  ifV x12 (
  some (.tuple #[(.int .u64 0), (.int .i64 3)], G11)) (
  bP (fa Q q 289 0 0 x0) fun x13 =>
  bP (ld Q q 3 x13 G11) fun x14 =>
  bP (bn Q q .eql 3 (.tmp 17) (.const (.int .i64 (-1))) x14 (.int .i64 (-1))) fun x15 =>
  bS (gd x15 true (bP (fa Q q 289 1 1 x0) fun y => some (y, G11)) G11) fun x16 G17 =>
  bS (gd x15 true (bP (ld Q q 3 x16 G17) fun y => some (y, G17)) G17) fun x18 G19 =>
  bS (gd x15 true (bP (bn Q q .neq 3 (.tmp 21) (.const (.int .i64 0)) x18 (.int .i64 0)) fun y => some (y, G19)) G19) fun x20 G21 =>
  bP (pickV x15 x20 (.bool false)) fun x22 =>
  ifV x22 (
  some (.tuple #[(.int .u64 0), (.int .i64 5)], G21)) (
  bS (e.ev.cl 284 [] G21) fun x23 G24 =>
  bS (al Q q 393 z393 G24) fun x25 G26 =>
  bP (st Q q 393 4 x25 x23 G26) fun G27 =>
  bP (sla Q q 393 2 2 x25 none none none (G27.room 13)) fun x28 =>
  bP (fa Q q 289 0 0 x0) fun x29 =>
  bP (ld Q q 3 x29 (G27.room 13)) fun x30 =>
  bP (bn Q q .add 3 (.tmp 27) (.const (.int .i64 1)) x30 (.int .i64 1)) fun x31 =>
  bP (fa Q q 289 1 1 x0) fun x32 =>
  bP (ld Q q 3 x32 (G27.room 13)) fun x33 =>
  bS (bs Q q 78 2 (rep z3 2) 1 [(0, 0, 1), (1, 1, 1)] [x31, x33] ((G27.room 13).at' (G27.nx + 6))) fun x34 G35 =>
  bS (e.ev.cl 358 [x28, x34] (G35.back (G27.room 13))) fun x37 G36 =>
  bP (fa Q q 289 2 2 x0) fun x38 =>
  bP (ld Q q 4 x38 G36) fun x39 =>
  chk ((sameO (ld Q q 4 x38 (G35.back (G27.room 13))) x39 && true)) <|
  bS (e.ev.cl 194 [x37, x39] G36) fun x41 G40 =>
  some (.tuple #[x41, (.int .i64 0)], G40)))
theorem m285 {e : Ex} {E : Ev} (h : ExLe Q e E) (v0 : Value) (G : GS) : Ref (s285 true e v0 G) (s285 false (Ex.of E) v0 G) := by
  unfold s285
  exact Ref.go
theorem f285 {orc : FuncId → Bool} {e : Ex} (h : ExLe Q e (E orc)) (v0 : Value) (G : GS) : Ref (s285 true e v0 G) ((E orc).cl 285 [v0] G) :=
  fun r hr => cl_sxE_some Q orc (vs := [v0]) G Tryz.func285 (by kernel_rfl) (by kernel_rfl) (by kernel_rfl) (by kernel_rfl) (by kernel_rfl) (by kernel_rfl) (m285 h v0 G r hr)
/-- coxswain/epoch.sized -/
noncomputable def s286 (q : Bool) (e : Ex) (v0 : Value) (G : GS) : Option (Value × GS) :=
  bS (bx q v0 G) fun x0 G1 =>
  bP (fa Q q 27 2 2 x0) fun x2 =>
  bP (ld Q q 3 x2 G1) fun x3 =>
  bP (bn Q q .geq 3 (.tmp 4) (.const (.int .i64 1)) x3 (.int .i64 1)) fun x4 =>
  bS (gd x4 true (bP (fa Q q 27 2 2 x0) fun y => some (y, G1)) G1) fun x5 G6 =>
  bS (gd x4 true (bP (ld Q q 3 x5 G6) fun y => some (y, G6)) G6) fun x7 G8 =>
  bS (gd x4 true (bP (bn Q q .leq 3 (.tmp 8) (.const (.int .i64 64)) x7 (.int .i64 64)) fun y => some (y, G8)) G8) fun x9 G10 =>
  bP (pickV x4 x9 (.bool false)) fun x11 =>
  some (x11, G10)
theorem m286 {e : Ex} {E : Ev} (h : ExLe Q e E) (v0 : Value) (G : GS) : Ref (s286 true e v0 G) (s286 false (Ex.of E) v0 G) := by
  unfold s286
  exact Ref.go
theorem f286 {orc : FuncId → Bool} {e : Ex} (h : ExLe Q e (E orc)) (v0 : Value) (G : GS) : Ref (s286 true e v0 G) ((E orc).cl 286 [v0] G) :=
  fun r hr => cl_sxE_some Q orc (vs := [v0]) G Tryz.func286 (by kernel_rfl) (by kernel_rfl) (by kernel_rfl) (by kernel_rfl) (by kernel_rfl) (by kernel_rfl) (m286 h v0 G r hr)
/-- coxswain/epoch.pins -/
noncomputable def s287 (q : Bool) (e : Ex) (v0 : Value) (G : GS) : Option (Value × GS) :=
  bS (bx q v0 G) fun x0 G1 =>
  some ((.func (.func 359) #[] #[x0]), G1)
theorem m287 {e : Ex} {E : Ev} (h : ExLe Q e E) (v0 : Value) (G : GS) : Ref (s287 true e v0 G) (s287 false (Ex.of E) v0 G) := by
  unfold s287
  exact Ref.go
theorem f287 {orc : FuncId → Bool} {e : Ex} (h : ExLe Q e (E orc)) (v0 : Value) (G : GS) : Ref (s287 true e v0 G) ((E orc).cl 287 [v0] G) :=
  fun r hr => cl_sxE_some Q orc (vs := [v0]) G Tryz.func287 (by kernel_rfl) (by kernel_rfl) (by kernel_rfl) (by kernel_rfl) (by kernel_rfl) (by kernel_rfl) (m287 h v0 G r hr)
/-- (*coxswain/ready.Put).Step -/
noncomputable def s289 (q : Bool) (e : Ex) (v0 v1 : Value) (G : GS) : Option (Value × GS) :=
  bP (ep Q q false 80 (.tmp 5) (.const (.pointer none)) v0 (.pointer none)) fun x0 =>
  bS (gd x0 false (some (v0, G)) G) fun x1 G2 =>
  bS (gd x0 false (bP (pNil x1) fun y => some (y, G2)) G2) fun x3 G4 =>
  bS (gd x0 false (bP (fa Q q 303 0 0 x3) fun y => some (y, G4)) G4) fun x5 G6 =>
  bS (gd x0 false (some (v1, G6)) G6) fun x7 G8 =>
  bS (gd x0 false (bS (e.ev.cl 302 [x5, x7] G8) fun y G => some (y, G)) G8) fun x9 G10 =>
  bP (pickV x0 (.bool true) x9) fun x11 =>
  some (x11, G10)
theorem m289 {e : Ex} {E : Ev} (h : ExLe Q e E) (v0 v1 : Value) (G : GS) : Ref (s289 true e v0 v1 G) (s289 false (Ex.of E) v0 v1 G) := by
  unfold s289
  exact Ref.go
theorem f289 {orc : FuncId → Bool} {e : Ex} (h : ExLe Q e (E orc)) (v0 v1 : Value) (G : GS) : Ref (s289 true e v0 v1 G) ((E orc).cl 289 [v0, v1] G) :=
  fun r hr => cl_sxE_some Q orc (vs := [v0, v1]) G Tryz.func289 (by kernel_rfl) (by kernel_rfl) (by kernel_rfl) (by kernel_rfl) (by kernel_rfl) (by kernel_rfl) (m289 h v0 v1 G r hr)
/-- (*coxswain/ready.work).pin$1 -/
noncomputable def s290 (q : Bool) (e : Ex) (v0 : Value) (G : GS) : Option (Value × GS) :=
  bP (ld Q q 334 v0 (G.room 12)) fun x0 =>
  bP (pNil x0) fun x1 =>
  bP (fa Q q 300 0 0 x1) fun x2 =>
  bP (fa Q q 31 3 3 x2) fun x3 =>
  bP (fa Q q 29 1 6 x3) fun x4 =>
  bP (lda Q q 27 3 x4 (G.room 12)) fun x5 =>
  bP (ld Q q 334 v0 (G.room 12)) fun x6 =>
  bP (pNil x6) fun x7 =>
  bP (fa Q q 300 1 13 x7) fun x8 =>
  bP (ld Q q 3 x8 (G.room 12)) fun x9 =>
  bS (e.ev.cl 291 [x5, x9] (G.room 12)) fun x11 G10 =>
  some (x11, G10)
theorem m290 {e : Ex} {E : Ev} (h : ExLe Q e E) (v0 : Value) (G : GS) : Ref (s290 true e v0 G) (s290 false (Ex.of E) v0 G) := by
  unfold s290
  exact Ref.go
theorem f290 {orc : FuncId → Bool} {e : Ex} (h : ExLe Q e (E orc)) (v0 : Value) (G : GS) : Ref (s290 true e v0 G) ((E orc).cl 290 [v0] G) :=
  fun r hr => cl_sxE_some Q orc (vs := [v0]) G Tryz.func290 (by kernel_rfl) (by kernel_rfl) (by kernel_rfl) (by kernel_rfl) (by kernel_rfl) (by kernel_rfl) (m290 h v0 G r hr)
/-- coxswain/epoch.NewPin -/
noncomputable def s291 (q : Bool) (e : Ex) (v0 v1 : Value) (G : GS) : Option (Value × GS) :=
  bS (bx q v0 G) fun x0 G1 =>
  bP (bd Q q 510 z510 [(2, 4, 1)] [(.bool true)]) fun x2 =>
  bP (lda Q q 27 3 x0 G1) fun x3 =>
  bP (bd Q q 512 z512 [(0, 0, 6), (1, 6, 3)] [x2, x3]) fun x4 =>
  bS (bx q x4 G1) fun x5 G6 =>
  bP (lda Q q 27 3 x0 G6) fun x7 =>
  bS (e.ev.cl 360 [x7, v1] G6) fun x8 G9 =>
  ifV x8 (
  bP (pNil x5) fun x10 =>
  bP (fa Q q 512 0 0 x10) fun x11 =>
  bS (e.ev.cl 361 [x11, (.int .i64 3)] G9) fun x12 G13 =>
  some (x5, G13)) (
  bP (fa Q q 27 1 1 x0) fun x14 =>
  bP (ld Q q 3 x14 G9) fun x15 =>
  bP (bn Q q .add 3 (.tmp 20) (.tmp 21) x15 v1) fun x16 =>
  bP (pNil x5) fun x17 =>
  bP (fa Q q 512 2 9 x17) fun x18 =>
  bP (st Q q 3 1 x18 x16 G9) fun G19 =>
  bP (bd Q q 508 z508 [(0, 0, 1), (1, 1, 1), (2, 2, 1)] [(.func (.func 362) #[x5] #[]), (.func (.func 363) #[x5] #[]), (.func (.func 364) #[x5] #[])]) fun x20 =>
  bP (pNil x5) fun x21 =>
  bP (fa Q q 512 0 0 x21) fun x22 =>
  bP (fa Q q 510 0 0 x22) fun x23 =>
  bP (st Q q 508 3 x23 x20 G19) fun G24 =>
  some (x5, G24))
theorem m291 {e : Ex} {E : Ev} (h : ExLe Q e E) (v0 v1 : Value) (G : GS) : Ref (s291 true e v0 v1 G) (s291 false (Ex.of E) v0 v1 G) := by
  unfold s291
  exact Ref.go
theorem f291 {orc : FuncId → Bool} {e : Ex} (h : ExLe Q e (E orc)) (v0 v1 : Value) (G : GS) : Ref (s291 true e v0 v1 G) ((E orc).cl 291 [v0, v1] G) :=
  fun r hr => cl_sxE_some Q orc (vs := [v0, v1]) G Tryz.func291 (by kernel_rfl) (by kernel_rfl) (by kernel_rfl) (by kernel_rfl) (by kernel_rfl) (by kernel_rfl) (m291 h v0 v1 G r hr)
/-- (*coxswain/ready.work).pin$2 -/
noncomputable def s292 (q : Bool) (e : Ex) (v0 v1 : Value) (G : GS) : Option (Value × GS) :=
  bP (ld Q q 334 v1 (G.room 9)) fun x0 =>
  bS (e.ev.cl 293 [v0] (G.room 9)) fun x2 G1 =>
  chk ((sameO (ld Q q 334 v1 G1) x0 && true)) <|
  bP (pExtract x2 0) fun x3 =>
  bP (pExtract x2 1) fun x4 =>
  bP (pNil x0) fun x5 =>
  bP (fa Q q 300 3 15 x5) fun x6 =>
  bP (st Q q 3 1 x6 x3 G1) fun G7 =>
  some (.tuple #[], G7)
theorem m292 {e : Ex} {E : Ev} (h : ExLe Q e E) (v0 v1 : Value) (G : GS) : Ref (s292 true e v0 v1 G) (s292 false (Ex.of E) v0 v1 G) := by
  unfold s292
  exact Ref.go
theorem f292 {orc : FuncId → Bool} {e : Ex} (h : ExLe Q e (E orc)) (v0 v1 : Value) (G : GS) : Ref (s292 true e v0 v1 G) ((E orc).cl 292 [v0, v1] G) :=
  fun r hr => cl_sxE_some Q orc (vs := [v0, v1]) G Tryz.func292 (by kernel_rfl) (by kernel_rfl) (by kernel_rfl) (by kernel_rfl) (by kernel_rfl) (by kernel_rfl) (m292 h v0 v1 G r hr)
/-- (*coxswain/epoch.Pin).At -/
noncomputable def s293 (q : Bool) (e : Ex) (v0 : Value) (G : GS) : Option (Value × GS) :=
  bP (ep Q q false 417 (.tmp 5) (.const (.pointer none)) v0 (.pointer none)) fun x0 =>
  ifV x0 (
  some (.tuple #[(.int .i64 0), (.int .i64 1)], G)) (
  bP (pNil v0) fun x1 =>
  bP (fa Q q 512 0 0 x1) fun x2 =>
  bS (e.ev.cl 365 [x2] G) fun x3 G4 =>
  bP (bn Q q .neq 33 (.tmp 11) (.const (.int .i64 0)) x3 (.int .i64 0)) fun x5 =>
  ifV x5 (
  some (.tuple #[(.int .i64 0), x3], G4)) (
  bP (pNil v0) fun x6 =>
  bP (fa Q q 512 3 10 x6) fun x7 =>
  bP (ld Q q 415 x7 G4) fun x8 =>
  bP (cv Q q 415 3 .u32 .i64 x8) fun x9 =>
  some (.tuple #[x9, (.int .i64 0)], G4)))
theorem m293 {e : Ex} {E : Ev} (h : ExLe Q e E) (v0 : Value) (G : GS) : Ref (s293 true e v0 G) (s293 false (Ex.of E) v0 G) := by
  unfold s293
  exact Ref.go
theorem f293 {orc : FuncId → Bool} {e : Ex} (h : ExLe Q e (E orc)) (v0 : Value) (G : GS) : Ref (s293 true e v0 G) ((E orc).cl 293 [v0] G) :=
  fun r hr => cl_sxE_some Q orc (vs := [v0]) G Tryz.func293 (by kernel_rfl) (by kernel_rfl) (by kernel_rfl) (by kernel_rfl) (by kernel_rfl) (by kernel_rfl) (m293 h v0 G r hr)
/-- (*coxswain/ready.Put).alloc$1 -/
noncomputable def s294 (q : Bool) (e : Ex) (v0 : Value) (G : GS) : Option (Value × GS) :=
  bP (ld Q q 80 v0 G) fun x0 =>
  bP (pNil x0) fun x1 =>
  bP (fa Q q 303 0 0 x1) fun x2 =>
  bP (fa Q q 300 0 0 x2) fun x3 =>
  bP (fa Q q 31 3 3 x3) fun x4 =>
  bP (fa Q q 29 0 0 x4) fun x5 =>
  bP (lda Q q 25 6 x5 G) fun x6 =>
  bS (e.ev.cl 173 [x6] G) fun x7 G8 =>
  some (x7, G8)
theorem m294 {e : Ex} {E : Ev} (h : ExLe Q e E) (v0 : Value) (G : GS) : Ref (s294 true e v0 G) (s294 false (Ex.of E) v0 G) := by
  unfold s294
  exact Ref.go
theorem f294 {orc : FuncId → Bool} {e : Ex} (h : ExLe Q e (E orc)) (v0 : Value) (G : GS) : Ref (s294 true e v0 G) ((E orc).cl 294 [v0] G) :=
  fun r hr => cl_sxE_some Q orc (vs := [v0]) G Tryz.func294 (by kernel_rfl) (by kernel_rfl) (by kernel_rfl) (by kernel_rfl) (by kernel_rfl) (by kernel_rfl) (m294 h v0 G r hr)
noncomputable def b295_0 (q : Bool) (e : Ex) (lp : Env → GS → Option (Exit × Env × GS)) (τ : Env) (G : GS) : Option (Exit × Env × GS) :=
  bV q (τ 2) fun a2_ =>
  bV q (τ 5) fun a5_ =>
  bV q (τ 27) fun a27_ =>
  bV q (τ 28) fun a28_ =>
  bV q (τ 29) fun a29_ =>
  bP (bn Q q .lss 3 (.tmp 29) (.tmp 28) a29_ a28_) fun x0 =>
  ifV x0 (
  bP (ias Q q 514 1 a27_ a29_) fun x1 =>
  bP (ld Q q 306 x1 G) fun x2 =>
  bP (bn Q q .eql 33 (.tmp 33) (.const (.int .i64 7)) a5_ (.int .i64 7)) fun x3 =>
  bS (gd x3 true (bP (ld Q q 80 a2_ G) fun y => some (y, G)) G) fun x4 G5 =>
  bS (gd x3 true (bP (pNil x4) fun y => some (y, G5)) G5) fun x6 G7 =>
  bS (gd x3 true (bP (fa Q q 303 4 22 x6) fun y => some (y, G7)) G7) fun x8 G9 =>
  bS (gd x3 true (bP (ld Q q 3 x8 G9) fun y => some (y, G9)) G9) fun x10 G11 =>
  bS (gd x3 true (bP (bn Q q .lss 3 (.tmp 39) (.const (.int .i64 3)) x10 (.int .i64 3)) fun y => some (y, G11)) G11) fun x12 G13 =>
  bP (pickV x3 x12 (.bool false)) fun x14 =>
  ifV x14 (
  bP (ld Q q 80 a2_ G13) fun x15 =>
  bP (pNil x15) fun x16 =>
  bP (fa Q q 303 4 22 x16) fun x17 =>
  bP (ld Q q 3 x17 G13) fun x18 =>
  bP (bn Q q .add 3 (.tmp 45) (.const (.int .i64 1)) x18 (.int .i64 1)) fun x19 =>
  bP (pNil x15) fun x20 =>
  bP (fa Q q 303 4 22 x20) fun x21 =>
  bP (st Q q 3 1 x21 x19 G13) fun G22 =>
  bP (ld Q q 80 a2_ (G22.room 13)) fun x23 =>
  bP (pNil x23) fun x24 =>
  bP (fa Q q 303 0 0 x24) fun x25 =>
  bP (ld Q q 80 a2_ (G22.room 13)) fun x26 =>
  bP (pNil x26) fun x27 =>
  bP (fa Q q 303 0 0 x27) fun x28 =>
  bP (ld Q q 80 a2_ (G22.room 13)) fun x29 =>
  bS (bs Q q 514 4 (rep z306 4) 1 [(0, 0, 1), (1, 1, 1), (2, 2, 1), (3, 3, 1)] [(.func (.func 368) #[] #[a2_]), (.func (.func 220) #[x25] #[]), (.func (.func 214) #[x28] #[]), (.func (.func 215) #[x29] #[])] ((G22.room 13).at' (G22.nx + 11))) fun x30 G31 =>
  some ((.goto 0), clq q 91 (tu τ [(2, a2_), (5, (.int .i64 0)), (27, a27_), (28, a28_), (29, a29_), (6, x30), (8, x2), (30, x0), (31, x1), (32, x2), (33, a5_), (34, x3), (35, x3), (36, x4), (37, x6), (38, x8), (39, x10), (40, x12), (41, x14), (42, x15), (43, x16), (44, x17), (45, x18), (46, x19), (47, x20), (48, x21), (49, (.func (.func 368) #[] #[a2_])), (50, x23), (51, x24), (52, x25), (53, (.func (.func 220) #[x25] #[])), (54, x26), (55, x27), (56, x28), (57, (.func (.func 214) #[x28] #[])), (58, x29), (59, (.func (.func 215) #[x29] #[])), (60, x30)]), (G31.back (G22.room 13)))) (
  bP (bn Q q .neq 33 (.tmp 61) (.const (.int .i64 0)) a5_ (.int .i64 0)) fun x32 =>
  ifV x32 (
  bP (ld Q q 80 a2_ G13) fun x33 =>
  bP (pNil x33) fun x34 =>
  bP (fa Q q 303 0 0 x34) fun x35 =>
  bP (fa Q q 300 6 18 x35) fun x36 =>
  bP (st Q q 33 1 x36 a5_ G13) fun G37 =>
  bP (ld Q q 80 a2_ (G37.room 10)) fun x38 =>
  bP (ld Q q 80 a2_ (G37.room 10)) fun x39 =>
  bP (pNil x39) fun x40 =>
  bP (fa Q q 303 0 0 x40) fun x41 =>
  bS (e.ev.cl 220 [x41] (G37.room 10)) fun x43 G42 =>
  chk ((sameO (ld Q q 80 a2_ G42) x38 && true)) <|
  bS (bs Q q 298 1 (rep z305 1) 1 [(0, 0, 1)] [x43] (G42.at' (G37.nx + 5))) fun x44 G45 =>
  bP (pNil x38) fun x46 =>
  bP (fa Q q 303 0 0 x46) fun x47 =>
  bP (fa Q q 300 4 16 x47) fun x48 =>
  bP (st Q q 298 1 x48 x44 (G45.back G42)) fun G49 =>
  some (.ret, clq q 91 (tu τ [(2, a2_), (5, a5_), (27, a27_), (28, a28_), (29, a29_), (8, x2), (30, x0), (31, x1), (32, x2), (33, a5_), (34, x3), (35, x3), (36, x4), (37, x6), (38, x8), (39, x10), (40, x12), (41, x14), (61, a5_), (62, x32), (63, x33), (64, a5_), (65, x34), (66, x35), (67, x36), (68, x38), (69, x39), (70, x40), (71, x41), (72, x43), (73, x44), (74, x46), (75, x47), (76, x48)]), G49)) (
  bP (ld Q q 80 a2_ (G13.room 14)) fun x50 =>
  bP (ld Q q 80 a2_ (G13.room 14)) fun x51 =>
  bP (pNil x51) fun x52 =>
  bP (fa Q q 303 0 0 x52) fun x53 =>
  bP (fa Q q 300 4 16 x53) fun x54 =>
  bP (ld Q q 298 x54 (G13.room 14)) fun x55 =>
  bS (cValue e.ev x2 [] (G13.room 14)) fun x57 G56 =>
  chk ((sameO (ld Q q 298 x54 G56) x55 && (sameO (ld Q q 80 a2_ G56) x51 && (sameO (ld Q q 80 a2_ G56) x50 && true)))) <|
  bS (bs Q q 298 1 (rep z305 1) 1 [(0, 0, 1)] [x57] (G56.at' (G13.nx + 8))) fun x58 G59 =>
  bS (ap Q q 298 298 1 16 x55 x58 (G59.back G56)) fun x61 G60 =>
  chk ((sameO (ld Q q 80 a2_ G60) x50 && true)) <|
  bP (pNil x50) fun x62 =>
  bP (fa Q q 303 0 0 x62) fun x63 =>
  bP (fa Q q 300 4 16 x63) fun x64 =>
  bP (st Q q 298 1 x64 x61 G60) fun G65 =>
  bP (bn Q q .add 3 (.tmp 29) (.const (.int .i64 1)) a29_ (.int .i64 1)) fun x66 =>
  lp (tu τ [(2, a2_), (5, a5_), (27, a27_), (28, a28_), (29, x66), (8, x2), (30, x0), (31, x1), (32, x2), (33, a5_), (34, x3), (35, x3), (36, x4), (37, x6), (38, x8), (39, x10), (40, x12), (41, x14), (61, a5_), (62, x32), (77, x50), (78, x51), (79, x52), (80, x53), (81, x54), (82, x55), (83, x2), (84, x57), (85, x58), (86, x61), (87, x62), (88, x63), (89, x64), (90, x66)]) G65))) (
  some ((.exit 0), clq q 91 (tu τ [(2, a2_), (5, a5_), (27, a27_), (28, a28_), (29, a29_), (30, x0)]), G))
theorem mb295_0 {e : Ex} {E : Ev} (h : ExLe Q e E) {lp lp' : Env → GS → Option (Exit × Env × GS)} (hlp : LpLe lp lp') (τ : Env) (G : GS) : Ref (b295_0 true e lp τ G) (b295_0 false (Ex.of E) lp' τ G) := by
  unfold b295_0
  exact Ref.go
set_option maxHeartbeats 8000000 in
theorem l295_0 {orc : FuncId → Bool} {e : Ex} (h : ExLe Q e (E orc)) (lp : Env → GS → Option (Exit × Env × GS)) (hlp : ∀ τ G, Ref (lp τ G) (mapE ((E orc).lp (subAt [1, 0, 1, 1, 1, 1, 1, 0, 0] (bodyOf Tryz.f295)) (lst 91 τ) G))) (T : List Value) (G : GS) (hT : T.length = 91) : Ref (b295_0 true e lp (nth undef T) G) (mapE ((E orc).lp (subAt [1, 0, 1, 1, 1, 1, 1, 0, 0] (bodyOf Tryz.f295)) T G)) :=
  fun r hr => lp_sxM Q orc G hT (by kernel_rfl) (mb295_0 h ⟨hlp⟩ _ _ r hr)
/-- (*coxswain/ready.Put).given -/
noncomputable def s295 (q : Bool) (e : Ex) (v0 v1 : Value) (G : GS) : Option (Value × GS) :=
  bS (bx q v0 G) fun x0 G1 =>
  bS (e.ev.cl 174 [v1] G1) fun x2 G3 =>
  bP (pExtract x2 0) fun x4 =>
  bP (pExtract x2 1) fun x5 =>
  bP (ld Q q 80 x0 G3) fun x6 =>
  bP (pNil x6) fun x7 =>
  bP (fa Q q 303 5 23 x7) fun x8 =>
  bP (st Q q 41 1 x8 x4 G3) fun G9 =>
  bP (ld Q q 80 x0 (G9.room 10)) fun x10 =>
  bP (ld Q q 80 x0 (G9.room 10)) fun x11 =>
  bP (ld Q q 80 x0 (G9.room 10)) fun x12 =>
  bP (pNil x12) fun x13 =>
  bP (fa Q q 303 0 0 x13) fun x14 =>
  bS (bs Q q 514 3 (rep z306 3) 1 [(0, 0, 1), (1, 1, 1), (2, 2, 1)] [(.func (.func 366) #[x10] #[]), (.func (.func 367) #[x11] #[]), (.func (.func 220) #[x14] #[])] ((G9.room 10).at' (G9.nx + 8))) fun x15 G16 =>
  bP (ln Q q 514 x15) fun x17 =>
  bL q e 295 0 (subAt [1, 0, 1, 1, 1, 1, 1, 0, 0] (bodyOf Tryz.f295)) 91 (tu (nth undef [v0, v1]) [(2, x0), (4, x4), (5, x5), (6, x15), (9, x2), (10, v1), (11, x2), (12, x4), (13, x5), (14, x6), (15, x4), (16, x7), (17, x8), (18, x10), (19, (.func (.func 366) #[x10] #[])), (20, x11), (21, (.func (.func 367) #[x11] #[])), (22, x12), (23, x13), (24, x14), (25, (.func (.func 220) #[x14] #[])), (26, x15), (27, x15), (28, x17), (29, (.int .i64 0))]) (G16.back (G9.room 10)) fun e18 t19 G20 =>
  ifE e18 (.exit 0) (
  some (.tuple #[], G20)) (ifE e18 (.goto 0) (
  bX (e.ev.sc (subAt [1, 0] (bodyOf Tryz.f295)) (labelAt 0 (subAt [1, 0] (bodyOf Tryz.f295))) (lst 91 t19) G20) fun e21 T22 G23 =>
  ifE e21 .normal (
  some (.tuple #[], G23)) (ifE e21 (.goto 0) (
  none) (ifE e21 .ret (
  some (.tuple #[], G23)) (none)))) (ifE e18 .ret (
  some (.tuple #[], G20)) (none)))
theorem m295 {e : Ex} {E : Ev} (h : ExLe Q e E) (v0 v1 : Value) (G : GS) : Ref (s295 true e v0 v1 G) (s295 false (Ex.of E) v0 v1 G) := by
  unfold s295
  exact Ref.go
set_option maxHeartbeats 8000000 in
theorem f295 {orc : FuncId → Bool} {e : Ex} (h : ExLe Q e (E orc)) (v0 v1 : Value) (G : GS) : Ref (s295 true e v0 v1 G) ((E orc).cl 295 [v0, v1] G) :=
  fun r hr => cl_sxE_some Q orc (vs := [v0, v1]) G Tryz.func295 (by kernel_rfl) (by kernel_rfl) (by kernel_rfl) (by kernel_rfl) (by kernel_rfl) (by kernel_rfl) (m295 h v0 v1 G r hr)
/-- (*coxswain/ready.work).unpin$1 -/
noncomputable def s297 (q : Bool) (e : Ex) (v0 : Value) (G : GS) : Option (Value × GS) :=
  bP (ld Q q 334 v0 (G.room 12)) fun x0 =>
  bP (pNil x0) fun x1 =>
  bP (fa Q q 300 0 0 x1) fun x2 =>
  bP (fa Q q 31 3 3 x2) fun x3 =>
  bP (fa Q q 29 1 6 x3) fun x4 =>
  bP (lda Q q 27 3 x4 (G.room 12)) fun x5 =>
  bP (ld Q q 334 v0 (G.room 12)) fun x6 =>
  bP (pNil x6) fun x7 =>
  bP (fa Q q 300 1 13 x7) fun x8 =>
  bP (ld Q q 3 x8 (G.room 12)) fun x9 =>
  bS (e.ev.cl 298 [x5, x9] (G.room 12)) fun x11 G10 =>
  some (x11, G10)
theorem m297 {e : Ex} {E : Ev} (h : ExLe Q e E) (v0 : Value) (G : GS) : Ref (s297 true e v0 G) (s297 false (Ex.of E) v0 G) := by
  unfold s297
  exact Ref.go
theorem f297 {orc : FuncId → Bool} {e : Ex} (h : ExLe Q e (E orc)) (v0 : Value) (G : GS) : Ref (s297 true e v0 G) ((E orc).cl 297 [v0] G) :=
  fun r hr => cl_sxE_some Q orc (vs := [v0]) G Tryz.func297 (by kernel_rfl) (by kernel_rfl) (by kernel_rfl) (by kernel_rfl) (by kernel_rfl) (by kernel_rfl) (m297 h v0 G r hr)
/-- coxswain/epoch.NewUnpin -/
noncomputable def s298 (q : Bool) (e : Ex) (v0 v1 : Value) (G : GS) : Option (Value × GS) :=
  bS (bx q v0 G) fun x0 G1 =>
  bP (bd Q q 510 z510 [(2, 4, 1)] [(.bool true)]) fun x2 =>
  bP (fa Q q 27 1 1 x0) fun x3 =>
  bP (ld Q q 3 x3 G1) fun x4 =>
  bP (bn Q q .add 3 (.tmp 8) (.tmp 9) x4 v1) fun x5 =>
  bP (bd Q q 518 z518 [(0, 0, 6), (1, 6, 1)] [x2, x5]) fun x6 =>
  bS (bx q x6 G1) fun x7 G8 =>
  bP (lda Q q 27 3 x0 G8) fun x9 =>
  bS (e.ev.cl 360 [x9, v1] G8) fun x10 G11 =>
  ifV x10 (
  bP (pNil x7) fun x12 =>
  bP (fa Q q 518 0 0 x12) fun x13 =>
  bS (e.ev.cl 361 [x13, (.int .i64 3)] G11) fun x14 G15 =>
  some (x7, G15)) (
  bP (pNil x7) fun x16 =>
  bP (fa Q q 518 0 0 x16) fun x17 =>
  bP (fa Q q 510 0 0 x17) fun x18 =>
  bP (iaa Q q 508 3 1 x18 (.int .i64 0)) fun x19 =>
  bP (st Q q 159 1 x19 (.func (.func 370) #[x7] #[]) G11) fun G20 =>
  some (x7, G20))
theorem m298 {e : Ex} {E : Ev} (h : ExLe Q e E) (v0 v1 : Value) (G : GS) : Ref (s298 true e v0 v1 G) (s298 false (Ex.of E) v0 v1 G) := by
  unfold s298
  exact Ref.go
theorem f298 {orc : FuncId → Bool} {e : Ex} (h : ExLe Q e (E orc)) (v0 v1 : Value) (G : GS) : Ref (s298 true e v0 v1 G) ((E orc).cl 298 [v0, v1] G) :=
  fun r hr => cl_sxE_some Q orc (vs := [v0, v1]) G Tryz.func298 (by kernel_rfl) (by kernel_rfl) (by kernel_rfl) (by kernel_rfl) (by kernel_rfl) (by kernel_rfl) (m298 h v0 v1 G r hr)
/-- (*coxswain/ready.work).collect$1 -/
noncomputable def s299 (q : Bool) (e : Ex) (v0 : Value) (G : GS) : Option (Value × GS) :=
  bP (ld Q q 334 v0 (G.room 15)) fun x0 =>
  bP (pNil x0) fun x1 =>
  bP (fa Q q 300 0 0 x1) fun x2 =>
  bP (fa Q q 31 3 3 x2) fun x3 =>
  bP (lda Q q 29 10 x3 (G.room 15)) fun x4 =>
  bP (ld Q q 334 v0 (G.room 15)) fun x5 =>
  bP (pNil x5) fun x6 =>
  bP (fa Q q 300 1 13 x6) fun x7 =>
  bP (ld Q q 3 x7 (G.room 15)) fun x8 =>
  bP (ld Q q 334 v0 (G.room 15)) fun x9 =>
  bP (pNil x9) fun x10 =>
  bP (fa Q q 300 3 15 x10) fun x11 =>
  bP (ld Q q 3 x11 (G.room 15)) fun x12 =>
  bS (e.ev.cl 300 [x4, x8, x12] (G.room 15)) fun x14 G13 =>
  some (x14, G13)
theorem m299 {e : Ex} {E : Ev} (h : ExLe Q e E) (v0 : Value) (G : GS) : Ref (s299 true e v0 G) (s299 false (Ex.of E) v0 G) := by
  unfold s299
  exact Ref.go
theorem f299 {orc : FuncId → Bool} {e : Ex} (h : ExLe Q e (E orc)) (v0 : Value) (G : GS) : Ref (s299 true e v0 G) ((E orc).cl 299 [v0] G) :=
  fun r hr => cl_sxE_some Q orc (vs := [v0]) G Tryz.func299 (by kernel_rfl) (by kernel_rfl) (by kernel_rfl) (by kernel_rfl) (by kernel_rfl) (by kernel_rfl) (m299 h v0 G r hr)
/-- coxswain/limbo.NewCollect -/
noncomputable def s300 (q : Bool) (e : Ex) (v0 v1 v2 : Value) (G : GS) : Option (Value × GS) :=
  bS (bx q v0 G) fun x0 G1 =>
  bP (bd Q q 402 z402 [(1, 1, 1)] [(.bool true)]) fun x2 =>
  bP (lda Q q 29 10 x0 G1) fun x3 =>
  bP (bd Q q 450 z450 [(0, 0, 3), (1, 3, 10)] [x2, x3]) fun x4 =>
  bS (bx q x4 G1) fun x5 G6 =>
  bP (bn Q q .lss 3 (.tmp 12) (.const (.int .i64 0)) v1 (.int .i64 0)) fun x7 =>
  bS (gd x7 false (some (v1, G6)) G6) fun x8 G9 =>
  bS (gd x7 false (bP (fa Q q 29 1 6 x0) fun y => some (y, G9)) G9) fun x10 G11 =>
  bS (gd x7 false (bP (fa Q q 27 2 2 x10) fun y => some (y, G11)) G11) fun x12 G13 =>
  bS (gd x7 false (bP (ld Q q 3 x12 G13) fun y => some (y, G13)) G13) fun x14 G15 =>
  bS (gd x7 false (bP (bn Q q .geq 3 (.tmp 15) (.tmp 18) x8 x14) fun y => some (y, G15)) G15) fun x16 G17 =>
  bP (pickV x7 (.bool true) x16) fun x18 =>
  bS (gd x18 false (some (v2, G17)) G17) fun x19 G20 =>
  bS (gd x18 false (bP (bn Q q .lss 3 (.tmp 22) (.const (.int .i64 0)) x19 (.int .i64 0)) fun y => some (y, G20)) G20) fun x21 G22 =>
  bP (pickV x18 (.bool true) x21) fun x23 =>
  ifV x23 (
  bP (pNil x5) fun x24 =>
  bP (fa Q q 450 0 0 x24) fun x25 =>
  bP (fa Q q 402 2 2 x25) fun x26 =>
  bP (st Q q 33 1 x26 (.int .i64 3) G22) fun G27 =>
  some (x5, G27)) (
  bP (fa Q q 29 1 6 x0) fun x28 =>
  bP (lda Q q 27 3 x28 (G22.room 20)) fun x29 =>
  bS (e.ev.cl 371 [x29, v1, v2] (G22.room 20)) fun x31 G30 =>
  bP (bn Q q .rem 3 (.tmp 37) (.const (.int .i64 3)) v2 (.int .i64 3)) fun x32 =>
  bP (bn Q q .add 3 (.tmp 38) (.const (.int .i64 2)) x32 (.int .i64 2)) fun x33 =>
  bP (bn Q q .rem 3 (.tmp 39) (.const (.int .i64 3)) x33 (.int .i64 3)) fun x34 =>
  bP (lda Q q 29 10 x0 G30) fun x35 =>
  chk ((sameO (lda Q q 29 10 x0 (G22.room 20)) x35 && true)) <|
  bS (e.ev.cl 321 [x34, x35] G30) fun x37 G36 =>
  bS (e.ev.cl 372 [x37] G36) fun x39 G38 =>
  bP (pNil x5) fun x40 =>
  bP (fa Q q 450 2 13 x40) fun x41 =>
  bP (st Q q 445 1 x41 x31 G38) fun G42 =>
  bP (pNil x5) fun x43 =>
  bP (fa Q q 450 3 14 x43) fun x44 =>
  bP (st Q q 446 1 x44 x39 G42) fun G45 =>
  bP (pNil x5) fun x46 =>
  bP (fa Q q 450 0 0 x46) fun x47 =>
  bP (fa Q q 402 0 0 x47) fun x48 =>
  bP (st Q q 400 1 x48 (.func (.func 373) #[x5] #[]) G45) fun G49 =>
  some (x5, G49))
theorem m300 {e : Ex} {E : Ev} (h : ExLe Q e E) (v0 v1 v2 : Value) (G : GS) : Ref (s300 true e v0 v1 v2 G) (s300 false (Ex.of E) v0 v1 v2 G) := by
  unfold s300
  exact Ref.go
theorem f300 {orc : FuncId → Bool} {e : Ex} (h : ExLe Q e (E orc)) (v0 v1 v2 : Value) (G : GS) : Ref (s300 true e v0 v1 v2 G) ((E orc).cl 300 [v0, v1, v2] G) :=
  fun r hr => cl_sxE_some Q orc (vs := [v0, v1, v2]) G Tryz.func300 (by kernel_rfl) (by kernel_rfl) (by kernel_rfl) (by kernel_rfl) (by kernel_rfl) (by kernel_rfl) (m300 h v0 v1 v2 G r hr)
/-- (*coxswain/ready.work).step -/
noncomputable def s302 (q : Bool) (e : Ex) (v0 v1 : Value) (G : GS) : Option (Value × GS) :=
  bP (pNil v0) fun x0 =>
  bP (fa Q q 300 4 16 x0) fun x1 =>
  bP (ld Q q 298 x1 G) fun x2 =>
  bP (ln Q q 298 x2) fun x3 =>
  bP (bn Q q .eql 3 (.tmp 12) (.const (.int .i64 0)) x3 (.int .i64 0)) fun x4 =>
  ifV x4 (
  some ((.bool true), G)) (
  bP (pNil v0) fun x5 =>
  bP (fa Q q 300 4 16 x5) fun x6 =>
  bP (ld Q q 298 x6 G) fun x7 =>
  bP (ias Q q 298 1 x7 (.int .i64 0)) fun x8 =>
  bP (ld Q q 305 x8 G) fun x9 =>
  bP (pNil v0) fun x10 =>
  bP (fa Q q 300 4 16 x10) fun x11 =>
  bP (ld Q q 298 x11 G) fun x12 =>
  bP (sl Q q 298 1 x12 (some (.int .i64 1)) none none G) fun x13 =>
  bP (pNil v0) fun x14 =>
  bP (fa Q q 300 4 16 x14) fun x15 =>
  bP (st Q q 298 1 x15 x13 G) fun G16 =>
  bS (cInvoke Q e.ev x9 "coxswain/ready.run" [v1] G16) fun x17 G18 =>
  bP (pExtract x17 0) fun x19 =>
  bP (pExtract x17 1) fun x20 =>
  bP (pNil v0) fun x21 =>
  bP (fa Q q 300 5 17 x21) fun x22 =>
  bP (st Q q 41 1 x22 x20 G18) fun G23 =>
  bP (un Q q .not x19) fun x24 =>
  ifV x24 (
  bS (bs Q q 298 1 (rep z305 1) 1 [(0, 0, 1)] [x9] G23) fun x25 G26 =>
  bP (pNil v0) fun x27 =>
  bP (fa Q q 300 4 16 x27) fun x28 =>
  bP (ld Q q 298 x28 G26) fun x29 =>
  bS (ap Q q 298 298 1 16 x25 x29 G26) fun x30 G31 =>
  bP (pNil v0) fun x32 =>
  bP (fa Q q 300 4 16 x32) fun x33 =>
  bP (st Q q 298 1 x33 x30 G31) fun G34 =>
  bP (pNil v0) fun x35 =>
  bP (fa Q q 300 4 16 x35) fun x36 =>
  bP (ld Q q 298 x36 G34) fun x37 =>
  bP (ln Q q 298 x37) fun x38 =>
  bP (bn Q q .eql 3 (.tmp 54) (.const (.int .i64 0)) x38 (.int .i64 0)) fun x39 =>
  some (x39, G34)) (
  bP (pNil v0) fun x40 =>
  bP (fa Q q 300 4 16 x40) fun x41 =>
  bP (ld Q q 298 x41 G23) fun x42 =>
  bP (ln Q q 298 x42) fun x43 =>
  bP (bn Q q .eql 3 (.tmp 54) (.const (.int .i64 0)) x43 (.int .i64 0)) fun x44 =>
  some (x44, G23)))
theorem m302 {e : Ex} {E : Ev} (h : ExLe Q e E) (v0 v1 : Value) (G : GS) : Ref (s302 true e v0 v1 G) (s302 false (Ex.of E) v0 v1 G) := by
  unfold s302
  exact Ref.go
theorem f302 {orc : FuncId → Bool} {e : Ex} (h : ExLe Q e (E orc)) (v0 v1 : Value) (G : GS) : Ref (s302 true e v0 v1 G) ((E orc).cl 302 [v0, v1] G) :=
  fun r hr => cl_sxE_some Q orc (vs := [v0, v1]) G Tryz.func302 (by kernel_rfl) (by kernel_rfl) (by kernel_rfl) (by kernel_rfl) (by kernel_rfl) (by kernel_rfl) (m302 h v0 v1 G r hr)
/-- (*coxswain/ready.Pick).Step -/
noncomputable def s303 (q : Bool) (e : Ex) (v0 v1 : Value) (G : GS) : Option (Value × GS) :=
  bP (ep Q q false 82 (.tmp 5) (.const (.pointer none)) v0 (.pointer none)) fun x0 =>
  bS (gd x0 false (some (v0, G)) G) fun x1 G2 =>
  bS (gd x0 false (bP (pNil x1) fun y => some (y, G2)) G2) fun x3 G4 =>
  bS (gd x0 false (bP (fa Q q 311 0 0 x3) fun y => some (y, G4)) G4) fun x5 G6 =>
  bS (gd x0 false (some (v1, G6)) G6) fun x7 G8 =>
  bS (gd x0 false (bS (e.ev.cl 302 [x5, x7] G8) fun y G => some (y, G)) G8) fun x9 G10 =>
  bP (pickV x0 (.bool true) x9) fun x11 =>
  some (x11, G10)
theorem m303 {e : Ex} {E : Ev} (h : ExLe Q e E) (v0 v1 : Value) (G : GS) : Ref (s303 true e v0 v1 G) (s303 false (Ex.of E) v0 v1 G) := by
  unfold s303
  exact Ref.go
theorem f303 {orc : FuncId → Bool} {e : Ex} (h : ExLe Q e (E orc)) (v0 v1 : Value) (G : GS) : Ref (s303 true e v0 v1 G) ((E orc).cl 303 [v0, v1] G) :=
  fun r hr => cl_sxE_some Q orc (vs := [v0, v1]) G Tryz.func303 (by kernel_rfl) (by kernel_rfl) (by kernel_rfl) (by kernel_rfl) (by kernel_rfl) (by kernel_rfl) (m303 h v0 v1 G r hr)
/-- coxswain/epoch.Fill -/
noncomputable def s320 (q : Bool) (e : Ex) (v0 v1 : Value) (G : GS) : Option (Value × GS) :=
  bS (bx q v0 G) fun x0 G1 =>
  bS (bx q v1 G1) fun x2 G3 =>
  bP (lda Q q 27 3 x0 G3) fun x4 =>
  bS (e.ev.cl 286 [x4] G3) fun x5 G6 =>
  bP (un Q q .not x5) fun x7 =>
  ifV x7 (
  some (.tuple #[], G6)) (
  bP (ld Q q 32 x2 G6) fun x8 =>
  bP (fa Q q 27 0 0 x0) fun x9 =>
  bP (ld Q q 3 x9 G6) fun x10 =>
  bS (e.ev.cl 45 [x8, x10, (.int .u64 0)] G6) fun x11 G12 =>
  bP (lda Q q 27 3 x0 G12) fun x13 =>
  bS (e.ev.cl 287 [x13] G12) fun x14 G15 =>
  bX (xRange e.ev x14 #[15, 16] (subAt [1, 1, 1, 1, 0, 0] (bodyOf Tryz.f320)) (subAt [1, 1, 1, 1, 0, 1] (bodyOf Tryz.f320)) (lst 20 (tu (nth undef [v0, v1]) [(2, x0), (3, x2), (6, x4), (7, x5), (8, x7), (9, x8), (10, x9), (11, x10), (12, x11), (13, x13), (14, x14)])) G15) fun e16 T17 G18 =>
  ifE e16 .normal (
  some (.tuple #[], G18)) (none))
theorem m320 {e : Ex} {E : Ev} (h : ExLe Q e E) (v0 v1 : Value) (G : GS) : Ref (s320 true e v0 v1 G) (s320 false (Ex.of E) v0 v1 G) := by
  unfold s320
  exact Ref.go
theorem f320 {orc : FuncId → Bool} {e : Ex} (h : ExLe Q e (E orc)) (v0 v1 : Value) (G : GS) : Ref (s320 true e v0 v1 G) ((E orc).cl 320 [v0, v1] G) :=
  fun r hr => cl_sxE_some Q orc (vs := [v0, v1]) G Tryz.func320 (by kernel_rfl) (by kernel_rfl) (by kernel_rfl) (by kernel_rfl) (by kernel_rfl) (by kernel_rfl) (m320 h v0 v1 G r hr)
/-- (coxswain/limbo.turn).stack -/
noncomputable def s321 (q : Bool) (e : Ex) (v0 v1 : Value) (G : GS) : Option (Value × GS) :=
  bS (bx q v1 G) fun x0 G1 =>
  bS (al Q q 23 z23 G1) fun x2 G3 =>
  bP (fa Q q 29 2 9 x0) fun x4 =>
  bP (ld Q q 3 x4 G3) fun x5 =>
  bP (bn Q q .add 3 (.tmp 6) (.tmp 7) x5 v0) fun x6 =>
  bP (fa Q q 29 0 0 x0) fun x7 =>
  bP (fa Q q 25 0 0 x7) fun x8 =>
  bP (fa Q q 23 1 1 x8) fun x9 =>
  bP (ld Q q 3 x9 G3) fun x10 =>
  bP (fa Q q 29 0 0 x0) fun x11 =>
  bP (fa Q q 25 0 0 x11) fun x12 =>
  bP (fa Q q 23 2 2 x12) fun x13 =>
  bP (ld Q q 3 x13 G3) fun x14 =>
  bP (bd Q q 23 z23 [(0, 0, 1), (1, 1, 1), (2, 2, 1)] [x6, x10, x14]) fun x15 =>
  bP (st Q q 23 3 x2 x15 G3) fun G16 =>
  bP (lda Q q 23 3 x2 G16) fun x17 =>
  some (x17, G16)
theorem m321 {e : Ex} {E : Ev} (h : ExLe Q e E) (v0 v1 : Value) (G : GS) : Ref (s321 true e v0 v1 G) (s321 false (Ex.of E) v0 v1 G) := by
  unfold s321
  exact Ref.go
theorem f321 {orc : FuncId → Bool} {e : Ex} (h : ExLe Q e (E orc)) (v0 v1 : Value) (G : GS) : Ref (s321 true e v0 v1 G) ((E orc).cl 321 [v0, v1] G) :=
  fun r hr => cl_sxE_some Q orc (vs := [v0, v1]) G Tryz.func321 (by kernel_rfl) (by kernel_rfl) (by kernel_rfl) (by kernel_rfl) (by kernel_rfl) (by kernel_rfl) (m321 h v0 v1 G r hr)
/-- coxswain/stack.link -/
noncomputable def s334 (q : Bool) (e : Ex) (v0 : Value) (G : GS) : Option (Value × GS) :=
  bP (bd Q q 274 z274 [(0, 0, 1)] [v0]) fun x0 =>
  bS (e.ev.cl 390 [x0] G) fun x1 G2 =>
  bP (pExtract x1 0) fun x3 =>
  bP (pExtract x1 1) fun x4 =>
  some (x3, G2)
theorem m334 {e : Ex} {E : Ev} (h : ExLe Q e E) (v0 : Value) (G : GS) : Ref (s334 true e v0 G) (s334 false (Ex.of E) v0 G) := by
  unfold s334
  exact Ref.go
theorem f334 {orc : FuncId → Bool} {e : Ex} (h : ExLe Q e (E orc)) (v0 : Value) (G : GS) : Ref (s334 true e v0 G) ((E orc).cl 334 [v0] G) :=
  fun r hr => cl_sxE_some Q orc (vs := [v0]) G Tryz.func334 (by kernel_rfl) (by kernel_rfl) (by kernel_rfl) (by kernel_rfl) (by kernel_rfl) (by kernel_rfl) (m334 h v0 G r hr)
/-- (*coxswain/stack.Pop).first -/
noncomputable def s335 (q : Bool) (e : Ex) (v0 v1 : Value) (G : GS) : Option (Value × GS) :=
  bP (pNil v0) fun x0 =>
  bP (fa Q q 489 1 9 x0) fun x1 =>
  bP (st Q q 487 1 x1 (.func (.func 391) #[] #[]) G) fun G2 =>
  bP (pNil v0) fun x3 =>
  bP (fa Q q 489 0 0 x3) fun x4 =>
  bS (e.ev.cl 392 [x4, v1] G2) fun x5 G6 =>
  bP (pNil v0) fun x7 =>
  bP (fa Q q 489 0 0 x7) fun x8 =>
  bP (fa Q q 486 2 4 x8) fun x9 =>
  bP (st Q q 3 1 x9 x5 G6) fun G10 =>
  bP (pNil v0) fun x11 =>
  bP (fa Q q 489 0 0 x11) fun x12 =>
  bP (fa Q q 486 2 4 x12) fun x13 =>
  bP (ld Q q 3 x13 G10) fun x14 =>
  bP (bn Q q .lss 3 (.tmp 20) (.const (.int .i64 0)) x14 (.int .i64 0)) fun x15 =>
  ifV x15 (
  bP (pNil v0) fun x16 =>
  bP (fa Q q 489 0 0 x16) fun x17 =>
  bS (e.ev.cl 345 [x17, (.int .i64 15)] G10) fun x18 G19 =>
  some (.tuple #[], G19)) (
  some (.tuple #[], G10))
theorem m335 {e : Ex} {E : Ev} (h : ExLe Q e E) (v0 v1 : Value) (G : GS) : Ref (s335 true e v0 v1 G) (s335 false (Ex.of E) v0 v1 G) := by
  unfold s335
  exact Ref.go
theorem f335 {orc : FuncId → Bool} {e : Ex} (h : ExLe Q e (E orc)) (v0 v1 : Value) (G : GS) : Ref (s335 true e v0 v1 G) ((E orc).cl 335 [v0, v1] G) :=
  fun r hr => cl_sxE_some Q orc (vs := [v0, v1]) G Tryz.func335 (by kernel_rfl) (by kernel_rfl) (by kernel_rfl) (by kernel_rfl) (by kernel_rfl) (by kernel_rfl) (m335 h v0 v1 G r hr)
/-- (*coxswain/stack.Pop).Step -/
noncomputable def s336 (q : Bool) (e : Ex) (v0 v1 : Value) (G : GS) : Option (Value × GS) :=
  bP (ep Q q false 371 (.tmp 5) (.const (.pointer none)) v0 (.pointer none)) fun x0 =>
  bS (gd x0 false (some (v0, G)) G) fun x1 G2 =>
  bS (gd x0 false (bP (pNil x1) fun y => some (y, G2)) G2) fun x3 G4 =>
  bS (gd x0 false (bP (fa Q q 489 0 0 x3) fun y => some (y, G4)) G4) fun x5 G6 =>
  bS (gd x0 false (bS (e.ev.cl 393 [x5] G6) fun y G => some (y, G)) G6) fun x7 G8 =>
  bP (pickV x0 (.bool true) x7) fun x9 =>
  ifV x9 (
  some ((.bool true), G8)) (
  bP (pNil v0) fun x10 =>
  bP (fa Q q 489 1 9 x10) fun x11 =>
  bP (ld Q q 487 x11 G8) fun x12 =>
  bS (cValue e.ev x12 [v0, v1] G8) fun x13 G14 =>
  bP (pNil v0) fun x15 =>
  bP (fa Q q 489 0 0 x15) fun x16 =>
  bP (fa Q q 486 5 7 x16) fun x17 =>
  bP (ld Q q 4 x17 G14) fun x18 =>
  some (x18, G14))
theorem m336 {e : Ex} {E : Ev} (h : ExLe Q e E) (v0 v1 : Value) (G : GS) : Ref (s336 true e v0 v1 G) (s336 false (Ex.of E) v0 v1 G) := by
  unfold s336
  exact Ref.go
theorem f336 {orc : FuncId → Bool} {e : Ex} (h : ExLe Q e (E orc)) (v0 v1 : Value) (G : GS) : Ref (s336 true e v0 v1 G) ((E orc).cl 336 [v0, v1] G) :=
  fun r hr => cl_sxE_some Q orc (vs := [v0, v1]) G Tryz.func336 (by kernel_rfl) (by kernel_rfl) (by kernel_rfl) (by kernel_rfl) (by kernel_rfl) (by kernel_rfl) (m336 h v0 v1 G r hr)
/-- (*coxswain/stack.Pop).Index -/
noncomputable def s337 (q : Bool) (e : Ex) (v0 : Value) (G : GS) : Option (Value × GS) :=
  bP (ep Q q false 371 (.tmp 4) (.const (.pointer none)) v0 (.pointer none)) fun x0 =>
  ifV x0 (
  some (.tuple #[(.int .i64 0), (.int .i64 1)], G)) (
  bP (pNil v0) fun x1 =>
  bP (fa Q q 489 0 0 x1) fun x2 =>
  bS (e.ev.cl 394 [x2] G) fun x3 G4 =>
  bP (pExtract x3 0) fun x5 =>
  bP (pExtract x3 1) fun x6 =>
  some (.tuple #[x5, x6], G4))
theorem m337 {e : Ex} {E : Ev} (h : ExLe Q e E) (v0 : Value) (G : GS) : Ref (s337 true e v0 G) (s337 false (Ex.of E) v0 G) := by
  unfold s337
  exact Ref.go
theorem f337 {orc : FuncId → Bool} {e : Ex} (h : ExLe Q e (E orc)) (v0 : Value) (G : GS) : Ref (s337 true e v0 G) ((E orc).cl 337 [v0] G) :=
  fun r hr => cl_sxE_some Q orc (vs := [v0]) G Tryz.func337 (by kernel_rfl) (by kernel_rfl) (by kernel_rfl) (by kernel_rfl) (by kernel_rfl) (by kernel_rfl) (m337 h v0 G r hr)
/-- (*coxswain/arena.Alloc).gives -/
noncomputable def s338 (q : Bool) (e : Ex) (v0 v1 : Value) (G : GS) : Option (Value × GS) :=
  bP (pNil v0) fun x0 =>
  bP (fa Q q 375 4 9 x0) fun x1 =>
  bP (ld Q q 3 x1 (G.room 26)) fun x2 =>
  bP (pNil v0) fun x3 =>
  bP (fa Q q 375 1 1 x3) fun x4 =>
  bP (fa Q q 25 1 3 x4) fun x5 =>
  bP (ld Q q 3 x5 (G.room 26)) fun x6 =>
  bP (pNil v0) fun x7 =>
  bP (fa Q q 375 4 9 x7) fun x8 =>
  bP (ld Q q 3 x8 (G.room 26)) fun x9 =>
  bP (bn Q q .add 3 (.tmp 15) (.tmp 19) x6 x9) fun x10 =>
  bS (e.ev.cl 177 [v1, x10] (G.room 26)) fun x12 G11 =>
  chk ((sameO (ld Q q 3 x1 G11) x2 && true)) <|
  bS (e.ev.cl 347 [x12] G11) fun x14 G13 =>
  chk ((sameO (ld Q q 3 x1 G13) x2 && true)) <|
  bP (bd Q q 289 z289 [(0, 0, 1), (1, 1, 1)] [x2, x14]) fun x15 =>
  bS (e.ev.cl 285 [x15] G13) fun x17 G16 =>
  bP (pExtract x17 0) fun x18 =>
  bP (pExtract x17 1) fun x19 =>
  bP (pNil v0) fun x20 =>
  bP (fa Q q 375 5 10 x20) fun x21 =>
  bP (st Q q 41 1 x21 x18 G16) fun G22 =>
  bP (pNil v0) fun x23 =>
  bP (fa Q q 375 3 8 x23) fun x24 =>
  bP (st Q q 373 1 x24 .nilFunc G22) fun G25 =>
  some (.tuple #[], G25)
theorem m338 {e : Ex} {E : Ev} (h : ExLe Q e E) (v0 v1 : Value) (G : GS) : Ref (s338 true e v0 v1 G) (s338 false (Ex.of E) v0 v1 G) := by
  unfold s338
  exact Ref.go
theorem f338 {orc : FuncId → Bool} {e : Ex} (h : ExLe Q e (E orc)) (v0 v1 : Value) (G : GS) : Ref (s338 true e v0 v1 G) ((E orc).cl 338 [v0, v1] G) :=
  fun r hr => cl_sxE_some Q orc (vs := [v0, v1]) G Tryz.func338 (by kernel_rfl) (by kernel_rfl) (by kernel_rfl) (by kernel_rfl) (by kernel_rfl) (by kernel_rfl) (m338 h v0 v1 G r hr)
/-- (*coxswain/arena.Alloc).lacks -/
noncomputable def s339 (q : Bool) (e : Ex) (v0 v1 : Value) (G : GS) : Option (Value × GS) :=
  bP (pNil v0) fun x0 =>
  bP (fa Q q 375 6 11 x0) fun x1 =>
  bP (st Q q 33 1 x1 (.int .i64 7) G) fun G2 =>
  bP (pNil v0) fun x3 =>
  bP (fa Q q 375 1 1 x3) fun x4 =>
  bP (fa Q q 25 2 4 x4) fun x5 =>
  bP (ld Q q 3 x5 (G2.room 15)) fun x6 =>
  bS (e.ev.cl 177 [v1, x6] (G2.room 15)) fun x8 G7 =>
  bP (pNil v0) fun x9 =>
  bP (fa Q q 375 1 1 x9) fun x10 =>
  bP (fa Q q 25 0 0 x10) fun x11 =>
  bP (fa Q q 23 2 2 x11) fun x12 =>
  bP (ld Q q 3 x12 G7) fun x13 =>
  chk ((sameO (ld Q q 3 x12 (G2.room 15)) x13 && true)) <|
  bP (cv Q q 3 41 .i64 .u64 x13) fun x14 =>
  bP (bn Q q .geq 41 (.tmp 13) (.tmp 20) x8 x14) fun x15 =>
  ifV x15 (
  bP (pNil v0) fun x16 =>
  bP (fa Q q 375 6 11 x16) fun x17 =>
  bP (st Q q 33 1 x17 (.int .i64 12) G7) fun G18 =>
  bP (pNil v0) fun x19 =>
  bP (fa Q q 375 3 8 x19) fun x20 =>
  bP (st Q q 373 1 x20 .nilFunc G18) fun G21 =>
  some (.tuple #[], G21)) (
  bP (pNil v0) fun x22 =>
  bP (fa Q q 375 3 8 x22) fun x23 =>
  bP (st Q q 373 1 x23 .nilFunc G7) fun G24 =>
  some (.tuple #[], G24))
theorem m339 {e : Ex} {E : Ev} (h : ExLe Q e E) (v0 v1 : Value) (G : GS) : Ref (s339 true e v0 v1 G) (s339 false (Ex.of E) v0 v1 G) := by
  unfold s339
  exact Ref.go
theorem f339 {orc : FuncId → Bool} {e : Ex} (h : ExLe Q e (E orc)) (v0 v1 : Value) (G : GS) : Ref (s339 true e v0 v1 G) ((E orc).cl 339 [v0, v1] G) :=
  fun r hr => cl_sxE_some Q orc (vs := [v0, v1]) G Tryz.func339 (by kernel_rfl) (by kernel_rfl) (by kernel_rfl) (by kernel_rfl) (by kernel_rfl) (by kernel_rfl) (m339 h v0 v1 G r hr)
/-- (*coxswain/stack.Push).first -/
noncomputable def s344 (q : Bool) (e : Ex) (v0 v1 : Value) (G : GS) : Option (Value × GS) :=
  bP (pNil v0) fun x0 =>
  bP (fa Q q 498 0 0 x0) fun x1 =>
  bS (e.ev.cl 392 [x1, v1] G) fun x2 G3 =>
  bP (pNil v0) fun x4 =>
  bP (fa Q q 498 0 0 x4) fun x5 =>
  bP (fa Q q 486 3 5 x5) fun x6 =>
  bP (st Q q 3 1 x6 x2 G3) fun G7 =>
  bP (pNil v0) fun x8 =>
  bP (fa Q q 498 1 9 x8) fun x9 =>
  bP (st Q q 496 1 x9 (.func (.func 395) #[] #[]) G7) fun G10 =>
  some (.tuple #[], G10)
theorem m344 {e : Ex} {E : Ev} (h : ExLe Q e E) (v0 v1 : Value) (G : GS) : Ref (s344 true e v0 v1 G) (s344 false (Ex.of E) v0 v1 G) := by
  unfold s344
  exact Ref.go
theorem f344 {orc : FuncId → Bool} {e : Ex} (h : ExLe Q e (E orc)) (v0 v1 : Value) (G : GS) : Ref (s344 true e v0 v1 G) ((E orc).cl 344 [v0, v1] G) :=
  fun r hr => cl_sxE_some Q orc (vs := [v0, v1]) G Tryz.func344 (by kernel_rfl) (by kernel_rfl) (by kernel_rfl) (by kernel_rfl) (by kernel_rfl) (by kernel_rfl) (m344 h v0 v1 G r hr)
/-- (*coxswain/stack.held).ends -/
noncomputable def s345 (q : Bool) (e : Ex) (v0 v1 : Value) (G : GS) : Option (Value × GS) :=
  bP (pNil v0) fun x0 =>
  bP (fa Q q 486 5 7 x0) fun x1 =>
  bP (st Q q 4 1 x1 (.bool true) G) fun G2 =>
  bP (pNil v0) fun x3 =>
  bP (fa Q q 486 6 8 x3) fun x4 =>
  bP (st Q q 33 1 x4 v1 G2) fun G5 =>
  some (.tuple #[], G5)
theorem m345 {e : Ex} {E : Ev} (h : ExLe Q e E) (v0 v1 : Value) (G : GS) : Ref (s345 true e v0 v1 G) (s345 false (Ex.of E) v0 v1 G) := by
  unfold s345
  exact Ref.go
theorem f345 {orc : FuncId → Bool} {e : Ex} (h : ExLe Q e (E orc)) (v0 v1 : Value) (G : GS) : Ref (s345 true e v0 v1 G) ((E orc).cl 345 [v0, v1] G) :=
  fun r hr => cl_sxE_some Q orc (vs := [v0, v1]) G Tryz.func345 (by kernel_rfl) (by kernel_rfl) (by kernel_rfl) (by kernel_rfl) (by kernel_rfl) (by kernel_rfl) (m345 h v0 v1 G r hr)
/-- (*coxswain/arena.Free).raises -/
noncomputable def s346 (q : Bool) (e : Ex) (v0 v1 : Value) (G : GS) : Option (Value × GS) :=
  bP (pNil v0) fun x0 =>
  bP (fa Q q 384 1 1 x0) fun x1 =>
  bP (fa Q q 25 1 3 x1) fun x2 =>
  bP (ld Q q 3 x2 (G.room 17)) fun x3 =>
  bP (pNil v0) fun x4 =>
  bP (fa Q q 384 4 9 x4) fun x5 =>
  bP (ld Q q 3 x5 (G.room 17)) fun x6 =>
  bP (bn Q q .add 3 (.tmp 9) (.tmp 13) x3 x6) fun x7 =>
  bP (pNil v0) fun x8 =>
  bP (fa Q q 384 5 10 x8) fun x9 =>
  bP (ld Q q 41 x9 (G.room 17)) fun x10 =>
  bP (bn Q q .add 41 (.tmp 18) (.const (.int .u64 1)) x10 (.int .u64 1)) fun x11 =>
  bS (e.ev.cl 45 [v1, x7, x11] (G.room 17)) fun x13 G12 =>
  bP (pNil v0) fun x14 =>
  bP (fa Q q 384 3 8 x14) fun x15 =>
  bP (st Q q 382 1 x15 (.func (.func 396) #[] #[]) G12) fun G16 =>
  some (.tuple #[], G16)
theorem m346 {e : Ex} {E : Ev} (h : ExLe Q e E) (v0 v1 : Value) (G : GS) : Ref (s346 true e v0 v1 G) (s346 false (Ex.of E) v0 v1 G) := by
  unfold s346
  exact Ref.go
theorem f346 {orc : FuncId → Bool} {e : Ex} (h : ExLe Q e (E orc)) (v0 v1 : Value) (G : GS) : Ref (s346 true e v0 v1 G) ((E orc).cl 346 [v0, v1] G) :=
  fun r hr => cl_sxE_some Q orc (vs := [v0, v1]) G Tryz.func346 (by kernel_rfl) (by kernel_rfl) (by kernel_rfl) (by kernel_rfl) (by kernel_rfl) (by kernel_rfl) (m346 h v0 v1 G r hr)
/-- coxswain/arena.gen -/
noncomputable def s347 (q : Bool) (e : Ex) (v0 : Value) (G : GS) : Option (Value × GS) :=
  bP (bn Q q .and 41 (.tmp 3) (.const (.int .u64 4294967295)) v0 (.int .u64 4294967295)) fun x0 =>
  bP (cv Q q 41 3 .u64 .i64 x0) fun x1 =>
  some (x1, G)
theorem m347 {e : Ex} {E : Ev} (h : ExLe Q e E) (v0 : Value) (G : GS) : Ref (s347 true e v0 G) (s347 false (Ex.of E) v0 G) := by
  unfold s347
  exact Ref.go
theorem f347 {orc : FuncId → Bool} {e : Ex} (h : ExLe Q e (E orc)) (v0 : Value) (G : GS) : Ref (s347 true e v0 G) ((E orc).cl 347 [v0] G) :=
  fun r hr => cl_sxE_some Q orc (vs := [v0]) G Tryz.func347 (by kernel_rfl) (by kernel_rfl) (by kernel_rfl) (by kernel_rfl) (by kernel_rfl) (by kernel_rfl) (m347 h v0 G r hr)
/-- (*coxswain/arena.Free).wears -/
noncomputable def s348 (q : Bool) (e : Ex) (v0 v1 : Value) (G : GS) : Option (Value × GS) :=
  bP (pNil v0) fun x0 =>
  bP (fa Q q 384 1 1 x0) fun x1 =>
  bP (fa Q q 25 2 4 x1) fun x2 =>
  bP (ld Q q 3 x2 G) fun x3 =>
  bS (e.ev.cl 198 [v1, x3, (.int .u64 1)] G) fun x4 G5 =>
  bP (pNil v0) fun x6 =>
  bP (fa Q q 384 3 8 x6) fun x7 =>
  bP (st Q q 382 1 x7 .nilFunc G5) fun G8 =>
  some (.tuple #[], G8)
theorem m348 {e : Ex} {E : Ev} (h : ExLe Q e E) (v0 v1 : Value) (G : GS) : Ref (s348 true e v0 v1 G) (s348 false (Ex.of E) v0 v1 G) := by
  unfold s348
  exact Ref.go
theorem f348 {orc : FuncId → Bool} {e : Ex} (h : ExLe Q e (E orc)) (v0 v1 : Value) (G : GS) : Ref (s348 true e v0 v1 G) ((E orc).cl 348 [v0, v1] G) :=
  fun r hr => cl_sxE_some Q orc (vs := [v0, v1]) G Tryz.func348 (by kernel_rfl) (by kernel_rfl) (by kernel_rfl) (by kernel_rfl) (by kernel_rfl) (by kernel_rfl) (m348 h v0 v1 G r hr)
/-- coxswain/find.down -/
noncomputable def s349 (q : Bool) (e : Ex) (v0 v1 : Value) (G : GS) : Option (Value × GS) :=
  bS (bx q v0 G) fun x0 G1 =>
  bS (bx q v1 G1) fun x2 G3 =>
  some ((.func (.func 397) #[] #[x0, x2]), G3)
theorem m349 {e : Ex} {E : Ev} (h : ExLe Q e E) (v0 v1 : Value) (G : GS) : Ref (s349 true e v0 v1 G) (s349 false (Ex.of E) v0 v1 G) := by
  unfold s349
  exact Ref.go
theorem f349 {orc : FuncId → Bool} {e : Ex} (h : ExLe Q e (E orc)) (v0 v1 : Value) (G : GS) : Ref (s349 true e v0 v1 G) ((E orc).cl 349 [v0, v1] G) :=
  fun r hr => cl_sxE_some Q orc (vs := [v0, v1]) G Tryz.func349 (by kernel_rfl) (by kernel_rfl) (by kernel_rfl) (by kernel_rfl) (by kernel_rfl) (by kernel_rfl) (m349 h v0 v1 G r hr)
/-- (*coxswain/limbo.Retire).pushes -/
noncomputable def s350 (q : Bool) (e : Ex) (v0 v1 : Value) (G : GS) : Option (Value × GS) :=
  bP (pNil v0) fun x0 =>
  bP (fa Q q 404 3 14 x0) fun x1 =>
  bP (ld Q q 381 x1 G) fun x2 =>
  bS (e.ev.cl 398 [x2, v1] G) fun x3 G4 =>
  ifV x3 (
  some (.nilFunc, G4)) (
  some ((.func (.func 350) #[v0] #[]), G4))
theorem m350 {e : Ex} {E : Ev} (h : ExLe Q e E) (v0 v1 : Value) (G : GS) : Ref (s350 true e v0 v1 G) (s350 false (Ex.of E) v0 v1 G) := by
  unfold s350
  exact Ref.go
theorem f350 {orc : FuncId → Bool} {e : Ex} (h : ExLe Q e (E orc)) (v0 v1 : Value) (G : GS) : Ref (s350 true e v0 v1 G) ((E orc).cl 350 [v0, v1] G) :=
  fun r hr => cl_sxE_some Q orc (vs := [v0, v1]) G Tryz.func350 (by kernel_rfl) (by kernel_rfl) (by kernel_rfl) (by kernel_rfl) (by kernel_rfl) (by kernel_rfl) (m350 h v0 v1 G r hr)
/-- coxswain/tower.index -/
noncomputable def s352 (q : Bool) (e : Ex) (v0 v1 : Value) (G : GS) : Option (Value × GS) :=
  bS (bx q v0 G) fun x0 G1 =>
  bS (e.ev.cl 189 [v1] G1) fun x2 G3 =>
  bP (pExtract x2 0) fun x4 =>
  bP (pExtract x2 1) fun x5 =>
  bS (al Q q 274 z274 G3) fun x6 G7 =>
  bP (st Q q 274 2 x6 x4 G7) fun G8 =>
  bP (fa Q q 274 0 0 x6) fun x9 =>
  bP (ld Q q 3 x9 G8) fun x10 =>
  bP (fa Q q 31 3 3 x0) fun x11 =>
  bP (fa Q q 29 0 0 x11) fun x12 =>
  bP (fa Q q 25 0 0 x12) fun x13 =>
  bP (fa Q q 23 2 2 x13) fun x14 =>
  bP (ld Q q 3 x14 G8) fun x15 =>
  bP (bn Q q .geq 3 (.tmp 13) (.tmp 18) x10 x15) fun x16 =>
  ifV x16 (
  some ((.int .i64 (-1)), G8)) (
  bP (fa Q q 274 0 0 x6) fun x17 =>
  bP (ld Q q 3 x17 G8) fun x18 =>
  some (x18, G8))
theorem m352 {e : Ex} {E : Ev} (h : ExLe Q e E) (v0 v1 : Value) (G : GS) : Ref (s352 true e v0 v1 G) (s352 false (Ex.of E) v0 v1 G) := by
  unfold s352
  exact Ref.go
theorem f352 {orc : FuncId → Bool} {e : Ex} (h : ExLe Q e (E orc)) (v0 v1 : Value) (G : GS) : Ref (s352 true e v0 v1 G) ((E orc).cl 352 [v0, v1] G) :=
  fun r hr => cl_sxE_some Q orc (vs := [v0, v1]) G Tryz.func352 (by kernel_rfl) (by kernel_rfl) (by kernel_rfl) (by kernel_rfl) (by kernel_rfl) (by kernel_rfl) (m352 h v0 v1 G r hr)
/-- coxswain/stack.read -/
noncomputable def s356 (q : Bool) (e : Ex) (v0 v1 : Value) (G : GS) : Option (Value × GS) :=
  bS (bx q v0 G) fun x0 G1 =>
  bS (e.ev.cl 189 [v1] G1) fun x2 G3 =>
  bP (pExtract x2 0) fun x4 =>
  bP (pExtract x2 1) fun x5 =>
  bS (al Q q 274 z274 G3) fun x6 G7 =>
  bP (st Q q 274 2 x6 x4 G7) fun G8 =>
  bP (fa Q q 274 0 0 x6) fun x9 =>
  bP (ld Q q 3 x9 G8) fun x10 =>
  bP (fa Q q 23 2 2 x0) fun x11 =>
  bP (ld Q q 3 x11 G8) fun x12 =>
  bP (bn Q q .geq 3 (.tmp 13) (.tmp 15) x10 x12) fun x13 =>
  ifV x13 (
  some ((.int .i64 (-1)), G8)) (
  bP (fa Q q 274 0 0 x6) fun x14 =>
  bP (ld Q q 3 x14 G8) fun x15 =>
  some (x15, G8))
theorem m356 {e : Ex} {E : Ev} (h : ExLe Q e E) (v0 v1 : Value) (G : GS) : Ref (s356 true e v0 v1 G) (s356 false (Ex.of E) v0 v1 G) := by
  unfold s356
  exact Ref.go
theorem f356 {orc : FuncId → Bool} {e : Ex} (h : ExLe Q e (E orc)) (v0 v1 : Value) (G : GS) : Ref (s356 true e v0 v1 G) ((E orc).cl 356 [v0, v1] G) :=
  fun r hr => cl_sxE_some Q orc (vs := [v0, v1]) G Tryz.func356 (by kernel_rfl) (by kernel_rfl) (by kernel_rfl) (by kernel_rfl) (by kernel_rfl) (by kernel_rfl) (m356 h v0 v1 G r hr)
noncomputable def b357_0 (q : Bool) (e : Ex) (lp : Env → GS → Option (Exit × Env × GS)) (τ : Env) (G : GS) : Option (Exit × Env × GS) :=
  bV q (τ 5) fun a5_ =>
  bV q (τ 6) fun a6_ =>
  bV q (τ 7) fun a7_ =>
  bP (bn Q q .lss 3 (.tmp 7) (.tmp 6) a7_ a6_) fun x0 =>
  ifV x0 (
  bP (ias Q q 538 3 a5_ a7_) fun x1 =>
  bP (lda Q q 505 3 x1 G) fun x2 =>
  bS (al Q q 505 z505 G) fun x3 G4 =>
  bP (st Q q 505 3 x3 x2 G4) fun G5 =>
  bP (fa Q q 505 0 0 x3) fun x6 =>
  bP (ld Q q 3 x6 G5) fun x7 =>
  bP (fa Q q 505 1 1 x3) fun x8 =>
  bP (ld Q q 3 x8 G5) fun x9 =>
  bP (bn Q q .lss 3 (.tmp 12) (.tmp 14) x7 x9) fun x10 =>
  bS (gd x10 false (bP (fa Q q 505 0 0 x3) fun y => some (y, G5)) G5) fun x11 G12 =>
  bS (gd x10 false (bP (ld Q q 3 x11 G12) fun y => some (y, G12)) G12) fun x13 G14 =>
  bS (gd x10 false (bP (fa Q q 505 2 2 x3) fun y => some (y, G14)) G14) fun x15 G16 =>
  bS (gd x10 false (bP (ld Q q 3 x15 G16) fun y => some (y, G16)) G16) fun x17 G18 =>
  bS (gd x10 false (bP (bn Q q .gtr 3 (.tmp 18) (.tmp 20) x13 x17) fun y => some (y, G18)) G18) fun x19 G20 =>
  bP (pickV x10 (.bool true) x19) fun x21 =>
  ifV x21 (
  some (.ret, clq q 24 (tu τ [(5, a5_), (6, a6_), (7, a7_), (2, (.bool false)), (4, x3), (8, x0), (9, x1), (10, x2), (11, x6), (12, x7), (13, x8), (14, x9), (15, x10), (16, x10), (17, x11), (18, x13), (19, x15), (20, x17), (21, x19), (22, x21)]), G20)) (
  bP (bn Q q .add 3 (.tmp 7) (.const (.int .i64 1)) a7_ (.int .i64 1)) fun x22 =>
  lp (tu τ [(5, a5_), (6, a6_), (7, x22), (4, x3), (8, x0), (9, x1), (10, x2), (11, x6), (12, x7), (13, x8), (14, x9), (15, x10), (16, x10), (17, x11), (18, x13), (19, x15), (20, x17), (21, x19), (22, x21), (23, x22)]) G20)) (
  some ((.exit 0), clq q 24 (tu τ [(5, a5_), (6, a6_), (7, a7_), (8, x0)]), G))
theorem mb357_0 {e : Ex} {E : Ev} (h : ExLe Q e E) {lp lp' : Env → GS → Option (Exit × Env × GS)} (hlp : LpLe lp lp') (τ : Env) (G : GS) : Ref (b357_0 true e lp τ G) (b357_0 false (Ex.of E) lp' τ G) := by
  unfold b357_0
  exact Ref.go
theorem l357_0 {orc : FuncId → Bool} {e : Ex} (h : ExLe Q e (E orc)) (lp : Env → GS → Option (Exit × Env × GS)) (hlp : ∀ τ G, Ref (lp τ G) (mapE ((E orc).lp (subAt [1, 0, 1, 0, 0] (bodyOf Tryz.f357)) (lst 24 τ) G))) (T : List Value) (G : GS) (hT : T.length = 24) : Ref (b357_0 true e lp (nth undef T) G) (mapE ((E orc).lp (subAt [1, 0, 1, 0, 0] (bodyOf Tryz.f357)) T G)) :=
  fun r hr => lp_sxM Q orc G hT (by kernel_rfl) (mb357_0 h ⟨hlp⟩ _ _ r hr)
/-- coxswain/word.within -/
noncomputable def s357 (q : Bool) (e : Ex) (v0 : Value) (G : GS) : Option (Value × GS) :=
  bP (ln Q q 538 v0) fun x0 =>
  bL q e 357 0 (subAt [1, 0, 1, 0, 0] (bodyOf Tryz.f357)) 24 (tu (nth undef [v0]) [(2, (.bool false)), (5, v0), (6, x0), (7, (.int .i64 0))]) G fun e1 t2 G3 =>
  bV q (t2 2) fun t2x2_ =>
  ifE e1 (.exit 0) (
  some ((.bool true), G3)) (ifE e1 .ret (
  some (t2x2_, G3)) (none))
theorem m357 {e : Ex} {E : Ev} (h : ExLe Q e E) (v0 : Value) (G : GS) : Ref (s357 true e v0 G) (s357 false (Ex.of E) v0 G) := by
  unfold s357
  exact Ref.go
theorem f357 {orc : FuncId → Bool} {e : Ex} (h : ExLe Q e (E orc)) (v0 : Value) (G : GS) : Ref (s357 true e v0 G) ((E orc).cl 357 [v0] G) :=
  fun r hr => cl_sxE_some Q orc (vs := [v0]) G Tryz.func357 (by kernel_rfl) (by kernel_rfl) (by kernel_rfl) (by kernel_rfl) (by kernel_rfl) (by kernel_rfl) (m357 h v0 G r hr)
noncomputable def b358_0 (q : Bool) (e : Ex) (lp : Env → GS → Option (Exit × Env × GS)) (τ : Env) (G : GS) : Option (Exit × Env × GS) :=
  bV q (τ 1) fun a1_ =>
  bV q (τ 5) fun a5_ =>
  bV q (τ 8) fun a8_ =>
  bV q (τ 9) fun a9_ =>
  bV q (τ 10) fun a10_ =>
  bP (bn Q q .lss 3 (.tmp 10) (.tmp 9) a10_ a9_) fun x0 =>
  ifV x0 (
  bP (ias Q q 507 2 a8_ a10_) fun x1 =>
  bP (lda Q q 392 2 x1 G) fun x2 =>
  bS (al Q q 392 z392 G) fun x3 G4 =>
  bP (st Q q 392 2 x3 x2 G4) fun G5 =>
  bP (lda Q q 392 2 x3 (G5.room 8)) fun x6 =>
  bP (ias Q q 78 1 a1_ a10_) fun x7 =>
  bP (ld Q q 3 x7 (G5.room 8)) fun x8 =>
  bS (e.ev.cl 399 [a5_, x6, x8] (G5.room 8)) fun x10 G9 =>
  bP (bn Q q .add 3 (.tmp 10) (.const (.int .i64 1)) a10_ (.int .i64 1)) fun x11 =>
  lp (tu τ [(1, a1_), (5, x10), (8, a8_), (9, a9_), (10, x11), (6, a10_), (7, x3), (11, x0), (12, a10_), (13, x1), (14, x2), (15, a5_), (16, x6), (17, a1_), (18, a10_), (19, x7), (20, x8), (21, x10), (22, x11)]) G9) (
  some ((.exit 0), clq q 24 (tu τ [(1, a1_), (5, a5_), (8, a8_), (9, a9_), (10, a10_), (11, x0)]), G))
theorem mb358_0 {e : Ex} {E : Ev} (h : ExLe Q e E) {lp lp' : Env → GS → Option (Exit × Env × GS)} (hlp : LpLe lp lp') (τ : Env) (G : GS) : Ref (b358_0 true e lp τ G) (b358_0 false (Ex.of E) lp' τ G) := by
  unfold b358_0
  exact Ref.go
theorem l358_0 {orc : FuncId → Bool} {e : Ex} (h : ExLe Q e (E orc)) (lp : Env → GS → Option (Exit × Env × GS)) (hlp : ∀ τ G, Ref (lp τ G) (mapE ((E orc).lp (subAt [1, 1, 0, 1, 0, 0] (bodyOf Tryz.f358)) (lst 24 τ) G))) (T : List Value) (G : GS) (hT : T.length = 24) : Ref (b358_0 true e lp (nth undef T) G) (mapE ((E orc).lp (subAt [1, 1, 0, 1, 0, 0] (bodyOf Tryz.f358)) T G)) :=
  fun r hr => lp_sxM Q orc G hT (by kernel_rfl) (mb358_0 h ⟨hlp⟩ _ _ r hr)
/-- coxswain/word.lay -/
noncomputable def s358 (q : Bool) (e : Ex) (v0 v1 : Value) (G : GS) : Option (Value × GS) :=
  bP (ln Q q 507 v0) fun x0 =>
  bL q e 358 0 (subAt [1, 1, 0, 1, 0, 0] (bodyOf Tryz.f358)) 24 (tu (nth undef [v0, v1]) [(4, (.int .u64 0)), (5, (.int .u64 0)), (8, v0), (9, x0), (10, (.int .i64 0))]) G fun e1 t2 G3 =>
  bV q (t2 5) fun t2x5_ =>
  ifE e1 (.exit 0) (
  some (t2x5_, G3)) (none)
theorem m358 {e : Ex} {E : Ev} (h : ExLe Q e E) (v0 v1 : Value) (G : GS) : Ref (s358 true e v0 v1 G) (s358 false (Ex.of E) v0 v1 G) := by
  unfold s358
  exact Ref.go
theorem f358 {orc : FuncId → Bool} {e : Ex} (h : ExLe Q e (E orc)) (v0 v1 : Value) (G : GS) : Ref (s358 true e v0 v1 G) ((E orc).cl 358 [v0, v1] G) :=
  fun r hr => cl_sxE_some Q orc (vs := [v0, v1]) G Tryz.func358 (by kernel_rfl) (by kernel_rfl) (by kernel_rfl) (by kernel_rfl) (by kernel_rfl) (by kernel_rfl) (m358 h v0 v1 G r hr)
noncomputable def b359_0 (q : Bool) (e : Ex) (lp : Env → GS → Option (Exit × Env × GS)) (τ : Env) (G : GS) : Option (Exit × Env × GS) :=
  bV q (τ 0) fun a0_ =>
  bV q (τ 1) fun a1_ =>
  bV q (τ 5) fun a5_ =>
  bV q (τ 6) fun a6_ =>
  bP (bn Q q .lss 3 (.tmp 6) (.tmp 5) a6_ a5_) fun x0 =>
  ifV x0 (
  bP (fa Q q 27 1 1 a1_) fun x1 =>
  bP (ld Q q 3 x1 G) fun x2 =>
  bP (bn Q q .add 3 (.tmp 12) (.tmp 13) x2 a6_) fun x3 =>
  bS (cValue e.ev a0_ [a6_, x3] G) fun x4 G5 =>
  bP (un Q q .not x4) fun x6 =>
  ifV x6 (
  some (.ret, clq q 18 (tu τ [(0, a0_), (1, a1_), (5, a5_), (6, a6_), (3, a6_), (7, x0), (8, a6_), (9, a0_), (10, a6_), (11, x1), (12, x2), (13, a6_), (14, x3), (15, x4), (16, x6)]), G5)) (
  bP (bn Q q .add 3 (.tmp 6) (.const (.int .i64 1)) a6_ (.int .i64 1)) fun x7 =>
  lp (tu τ [(0, a0_), (1, a1_), (5, a5_), (6, x7), (3, a6_), (7, x0), (8, a6_), (9, a0_), (10, a6_), (11, x1), (12, x2), (13, a6_), (14, x3), (15, x4), (16, x6), (17, x7)]) G5)) (
  some ((.exit 0), clq q 18 (tu τ [(0, a0_), (1, a1_), (5, a5_), (6, a6_), (7, x0)]), G))
theorem mb359_0 {e : Ex} {E : Ev} (h : ExLe Q e E) {lp lp' : Env → GS → Option (Exit × Env × GS)} (hlp : LpLe lp lp') (τ : Env) (G : GS) : Ref (b359_0 true e lp τ G) (b359_0 false (Ex.of E) lp' τ G) := by
  unfold b359_0
  exact Ref.go
theorem l359_0 {orc : FuncId → Bool} {e : Ex} (h : ExLe Q e (E orc)) (lp : Env → GS → Option (Exit × Env × GS)) (hlp : ∀ τ G, Ref (lp τ G) (mapE ((E orc).lp (subAt [1, 0, 0] (bodyOf Tryz.f359)) (lst 18 τ) G))) (T : List Value) (G : GS) (hT : T.length = 18) : Ref (b359_0 true e lp (nth undef T) G) (mapE ((E orc).lp (subAt [1, 0, 0] (bodyOf Tryz.f359)) T G)) :=
  fun r hr => lp_sxM Q orc G hT (by kernel_rfl) (mb359_0 h ⟨hlp⟩ _ _ r hr)
/-- coxswain/epoch.pins$1 -/
noncomputable def s359 (q : Bool) (e : Ex) (v0 v1 : Value) (G : GS) : Option (Value × GS) :=
  bP (fa Q q 27 2 2 v1) fun x0 =>
  bP (ld Q q 3 x0 G) fun x1 =>
  bL q e 359 0 (subAt [1, 0, 0] (bodyOf Tryz.f359)) 18 (tu (nth undef [v0, v1]) [(4, x0), (5, x1), (6, (.int .i64 0))]) G fun e2 t3 G4 =>
  ifE e2 (.exit 0) (
  some (.tuple #[], G4)) (ifE e2 .ret (
  some (.tuple #[], G4)) (none))
theorem m359 {e : Ex} {E : Ev} (h : ExLe Q e E) (v0 v1 : Value) (G : GS) : Ref (s359 true e v0 v1 G) (s359 false (Ex.of E) v0 v1 G) := by
  unfold s359
  exact Ref.go
theorem f359 {orc : FuncId → Bool} {e : Ex} (h : ExLe Q e (E orc)) (v0 v1 : Value) (G : GS) : Ref (s359 true e v0 v1 G) ((E orc).cl 359 [v0, v1] G) :=
  fun r hr => cl_sxE_some Q orc (vs := [v0, v1]) G Tryz.func359 (by kernel_rfl) (by kernel_rfl) (by kernel_rfl) (by kernel_rfl) (by kernel_rfl) (by kernel_rfl) (m359 h v0 v1 G r hr)
/-- coxswain/epoch.none -/
noncomputable def s360 (q : Bool) (e : Ex) (v0 v1 : Value) (G : GS) : Option (Value × GS) :=
  bS (bx q v0 G) fun x0 G1 =>
  bP (bn Q q .lss 3 (.tmp 5) (.const (.int .i64 0)) v1 (.int .i64 0)) fun x2 =>
  bS (gd x2 false (some (v1, G1)) G1) fun x3 G4 =>
  bS (gd x2 false (bP (fa Q q 27 2 2 x0) fun y => some (y, G4)) G4) fun x5 G6 =>
  bS (gd x2 false (bP (ld Q q 3 x5 G6) fun y => some (y, G6)) G6) fun x7 G8 =>
  bS (gd x2 false (bP (bn Q q .geq 3 (.tmp 8) (.tmp 10) x3 x7) fun y => some (y, G8)) G8) fun x9 G10 =>
  bP (pickV x2 (.bool true) x9) fun x11 =>
  some (x11, G10)
theorem m360 {e : Ex} {E : Ev} (h : ExLe Q e E) (v0 v1 : Value) (G : GS) : Ref (s360 true e v0 v1 G) (s360 false (Ex.of E) v0 v1 G) := by
  unfold s360
  exact Ref.go
theorem f360 {orc : FuncId → Bool} {e : Ex} (h : ExLe Q e (E orc)) (v0 v1 : Value) (G : GS) : Ref (s360 true e v0 v1 G) ((E orc).cl 360 [v0, v1] G) :=
  fun r hr => cl_sxE_some Q orc (vs := [v0, v1]) G Tryz.func360 (by kernel_rfl) (by kernel_rfl) (by kernel_rfl) (by kernel_rfl) (by kernel_rfl) (by kernel_rfl) (m360 h v0 v1 G r hr)
/-- (*coxswain/epoch.lines).ends -/
noncomputable def s361 (q : Bool) (e : Ex) (v0 v1 : Value) (G : GS) : Option (Value × GS) :=
  bP (pNil v0) fun x0 =>
  bP (fa Q q 510 1 3 x0) fun x1 =>
  bP (st Q q 3 1 x1 (.int .i64 (-1)) G) fun G2 =>
  bP (pNil v0) fun x3 =>
  bP (fa Q q 510 3 5 x3) fun x4 =>
  bP (st Q q 33 1 x4 v1 G2) fun G5 =>
  some (.tuple #[], G5)
theorem m361 {e : Ex} {E : Ev} (h : ExLe Q e E) (v0 v1 : Value) (G : GS) : Ref (s361 true e v0 v1 G) (s361 false (Ex.of E) v0 v1 G) := by
  unfold s361
  exact Ref.go
theorem f361 {orc : FuncId → Bool} {e : Ex} (h : ExLe Q e (E orc)) (v0 v1 : Value) (G : GS) : Ref (s361 true e v0 v1 G) ((E orc).cl 361 [v0, v1] G) :=
  fun r hr => cl_sxE_some Q orc (vs := [v0, v1]) G Tryz.func361 (by kernel_rfl) (by kernel_rfl) (by kernel_rfl) (by kernel_rfl) (by kernel_rfl) (by kernel_rfl) (m361 h v0 v1 G r hr)
/-- (*coxswain/epoch.Pin).load -/
noncomputable def s362 (q : Bool) (e : Ex) (v0 v1 : Value) (G : GS) : Option (Value × GS) :=
  bP (pNil v0) fun x0 =>
  bP (fa Q q 512 1 6 x0) fun x1 =>
  bP (fa Q q 27 0 0 x1) fun x2 =>
  bP (ld Q q 3 x2 G) fun x3 =>
  bS (e.ev.cl 177 [v1, x3] G) fun x4 G5 =>
  bP (cv Q q 41 415 .u64 .u32 x4) fun x6 =>
  bP (pNil v0) fun x7 =>
  bP (fa Q q 512 3 10 x7) fun x8 =>
  bP (st Q q 415 1 x8 x6 G5) fun G9 =>
  bP (pNil v0) fun x10 =>
  bP (fa Q q 512 0 0 x10) fun x11 =>
  bP (fa Q q 510 1 3 x11) fun x12 =>
  bP (st Q q 3 1 x12 (.int .i64 1) G9) fun G13 =>
  some (.tuple #[], G13)
theorem m362 {e : Ex} {E : Ev} (h : ExLe Q e E) (v0 v1 : Value) (G : GS) : Ref (s362 true e v0 v1 G) (s362 false (Ex.of E) v0 v1 G) := by
  unfold s362
  exact Ref.go
theorem f362 {orc : FuncId → Bool} {e : Ex} (h : ExLe Q e (E orc)) (v0 v1 : Value) (G : GS) : Ref (s362 true e v0 v1 G) ((E orc).cl 362 [v0, v1] G) :=
  fun r hr => cl_sxE_some Q orc (vs := [v0, v1]) G Tryz.func362 (by kernel_rfl) (by kernel_rfl) (by kernel_rfl) (by kernel_rfl) (by kernel_rfl) (by kernel_rfl) (m362 h v0 v1 G r hr)
/-- (*coxswain/epoch.Pin).store -/
noncomputable def s363 (q : Bool) (e : Ex) (v0 v1 : Value) (G : GS) : Option (Value × GS) :=
  bP (pNil v0) fun x0 =>
  bP (fa Q q 512 2 9 x0) fun x1 =>
  bP (ld Q q 3 x1 (G.room 12)) fun x2 =>
  bP (pNil v0) fun x3 =>
  bP (fa Q q 512 3 10 x3) fun x4 =>
  bP (ld Q q 415 x4 (G.room 12)) fun x5 =>
  bP (cv Q q 415 41 .u32 .u64 x5) fun x6 =>
  bP (bn Q q .add 41 (.tmp 13) (.const (.int .u64 1)) x6 (.int .u64 1)) fun x7 =>
  bS (e.ev.cl 45 [v1, x2, x7] (G.room 12)) fun x9 G8 =>
  bP (pNil v0) fun x10 =>
  bP (fa Q q 512 0 0 x10) fun x11 =>
  bP (fa Q q 510 1 3 x11) fun x12 =>
  bP (st Q q 3 1 x12 (.int .i64 2) G8) fun G13 =>
  some (.tuple #[], G13)
theorem m363 {e : Ex} {E : Ev} (h : ExLe Q e E) (v0 v1 : Value) (G : GS) : Ref (s363 true e v0 v1 G) (s363 false (Ex.of E) v0 v1 G) := by
  unfold s363
  exact Ref.go
theorem f363 {orc : FuncId → Bool} {e : Ex} (h : ExLe Q e (E orc)) (v0 v1 : Value) (G : GS) : Ref (s363 true e v0 v1 G) ((E orc).cl 363 [v0, v1] G) :=
  fun r hr => cl_sxE_some Q orc (vs := [v0, v1]) G Tryz.func363 (by kernel_rfl) (by kernel_rfl) (by kernel_rfl) (by kernel_rfl) (by kernel_rfl) (by kernel_rfl) (m363 h v0 v1 G r hr)
/-- (*coxswain/epoch.Pin).again -/
noncomputable def s364 (q : Bool) (e : Ex) (v0 v1 : Value) (G : GS) : Option (Value × GS) :=
  bP (pNil v0) fun x0 =>
  bP (fa Q q 512 1 6 x0) fun x1 =>
  bP (fa Q q 27 0 0 x1) fun x2 =>
  bP (ld Q q 3 x2 G) fun x3 =>
  bS (e.ev.cl 177 [v1, x3] G) fun x4 G5 =>
  bP (cv Q q 41 415 .u64 .u32 x4) fun x6 =>
  bP (pNil v0) fun x7 =>
  bP (fa Q q 512 3 10 x7) fun x8 =>
  bP (ld Q q 415 x8 G5) fun x9 =>
  bP (bn Q q .eql 415 (.tmp 13) (.tmp 17) x6 x9) fun x10 =>
  ifV x10 (
  bP (pNil v0) fun x11 =>
  bP (fa Q q 512 0 0 x11) fun x12 =>
  bS (e.ev.cl 361 [x12, (.int .i64 0)] G5) fun x13 G14 =>
  some (.tuple #[], G14)) (
  bP (pNil v0) fun x15 =>
  bP (fa Q q 512 3 10 x15) fun x16 =>
  bP (st Q q 415 1 x16 x6 G5) fun G17 =>
  bP (pNil v0) fun x18 =>
  bP (fa Q q 512 0 0 x18) fun x19 =>
  bP (fa Q q 510 1 3 x19) fun x20 =>
  bP (st Q q 3 1 x20 (.int .i64 1) G17) fun G21 =>
  some (.tuple #[], G21))
theorem m364 {e : Ex} {E : Ev} (h : ExLe Q e E) (v0 v1 : Value) (G : GS) : Ref (s364 true e v0 v1 G) (s364 false (Ex.of E) v0 v1 G) := by
  unfold s364
  exact Ref.go
theorem f364 {orc : FuncId → Bool} {e : Ex} (h : ExLe Q e (E orc)) (v0 v1 : Value) (G : GS) : Ref (s364 true e v0 v1 G) ((E orc).cl 364 [v0, v1] G) :=
  fun r hr => cl_sxE_some Q orc (vs := [v0, v1]) G Tryz.func364 (by kernel_rfl) (by kernel_rfl) (by kernel_rfl) (by kernel_rfl) (by kernel_rfl) (by kernel_rfl) (m364 h v0 v1 G r hr)
/-- (*coxswain/epoch.lines).told -/
noncomputable def s365 (q : Bool) (e : Ex) (v0 : Value) (G : GS) : Option (Value × GS) :=
  bP (pNil v0) fun x0 =>
  bP (fa Q q 510 2 4 x0) fun x1 =>
  bP (ld Q q 4 x1 G) fun x2 =>
  bP (un Q q .not x2) fun x3 =>
  ifV x3 (
  some ((.int .i64 1), G)) (
  bP (pNil v0) fun x4 =>
  bP (fa Q q 510 1 3 x4) fun x5 =>
  bP (ld Q q 3 x5 G) fun x6 =>
  bP (bn Q q .neq 3 (.tmp 13) (.const (.int .i64 (-1))) x6 (.int .i64 (-1))) fun x7 =>
  ifV x7 (
  some ((.int .i64 14), G)) (
  bP (pNil v0) fun x8 =>
  bP (fa Q q 510 3 5 x8) fun x9 =>
  bP (ld Q q 33 x9 G) fun x10 =>
  some (x10, G)))
theorem m365 {e : Ex} {E : Ev} (h : ExLe Q e E) (v0 : Value) (G : GS) : Ref (s365 true e v0 G) (s365 false (Ex.of E) v0 G) := by
  unfold s365
  exact Ref.go
theorem f365 {orc : FuncId → Bool} {e : Ex} (h : ExLe Q e (E orc)) (v0 : Value) (G : GS) : Ref (s365 true e v0 G) ((E orc).cl 365 [v0] G) :=
  fun r hr => cl_sxE_some Q orc (vs := [v0]) G Tryz.func365 (by kernel_rfl) (by kernel_rfl) (by kernel_rfl) (by kernel_rfl) (by kernel_rfl) (by kernel_rfl) (m365 h v0 G r hr)
/-- (*coxswain/ready.Put).lay -/
noncomputable def s366 (q : Bool) (e : Ex) (v0 : Value) (G : GS) : Option (Value × GS) :=
  bS (bx q v0 G) fun x0 G1 =>
  bP (bd Q q 548 z548 [(0, 0, 1), (1, 1, 1)] [(.func (.func 400) #[] #[x0]), (.func (.func 402) #[] #[])]) fun x2 =>
  bS (bx q x2 G1) fun x3 G4 =>
  bP (ifc Q q 541 x3) fun x5 =>
  some (x5, G4)
theorem m366 {e : Ex} {E : Ev} (h : ExLe Q e E) (v0 : Value) (G : GS) : Ref (s366 true e v0 G) (s366 false (Ex.of E) v0 G) := by
  unfold s366
  exact Ref.go
theorem f366 {orc : FuncId → Bool} {e : Ex} (h : ExLe Q e (E orc)) (v0 : Value) (G : GS) : Ref (s366 true e v0 G) ((E orc).cl 366 [v0] G) :=
  fun r hr => cl_sxE_some Q orc (vs := [v0]) G Tryz.func366 (by kernel_rfl) (by kernel_rfl) (by kernel_rfl) (by kernel_rfl) (by kernel_rfl) (by kernel_rfl) (m366 h v0 G r hr)
/-- (*coxswain/ready.Put).link -/
noncomputable def s367 (q : Bool) (e : Ex) (v0 : Value) (G : GS) : Option (Value × GS) :=
  bS (bx q v0 G) fun x0 G1 =>
  bP (bd Q q 556 z556 [(0, 0, 1), (1, 1, 1)] [(.func (.func 403) #[] #[x0]), (.func (.func 405) #[] #[])]) fun x2 =>
  bS (bx q x2 G1) fun x3 G4 =>
  bP (ifc Q q 549 x3) fun x5 =>
  some (x5, G4)
theorem m367 {e : Ex} {E : Ev} (h : ExLe Q e E) (v0 : Value) (G : GS) : Ref (s367 true e v0 G) (s367 false (Ex.of E) v0 G) := by
  unfold s367
  exact Ref.go
theorem f367 {orc : FuncId → Bool} {e : Ex} (h : ExLe Q e (E orc)) (v0 : Value) (G : GS) : Ref (s367 true e v0 G) ((E orc).cl 367 [v0] G) :=
  fun r hr => cl_sxE_some Q orc (vs := [v0]) G Tryz.func367 (by kernel_rfl) (by kernel_rfl) (by kernel_rfl) (by kernel_rfl) (by kernel_rfl) (by kernel_rfl) (m367 h v0 G r hr)
/-- (*coxswain/ready.Put).given$1 -/
noncomputable def s368 (q : Bool) (e : Ex) (v0 : Value) (G : GS) : Option (Value × GS) :=
  bP (ld Q q 80 v0 G) fun x0 =>
  bP (pNil x0) fun x1 =>
  bP (fa Q q 303 0 0 x1) fun x2 =>
  bS (e.ev.cl 223 [x2, .nilFunc] G) fun x3 G4 =>
  some (x3, G4)
theorem m368 {e : Ex} {E : Ev} (h : ExLe Q e E) (v0 : Value) (G : GS) : Ref (s368 true e v0 G) (s368 false (Ex.of E) v0 G) := by
  unfold s368
  exact Ref.go
theorem f368 {orc : FuncId → Bool} {e : Ex} (h : ExLe Q e (E orc)) (v0 : Value) (G : GS) : Ref (s368 true e v0 G) ((E orc).cl 368 [v0] G) :=
  fun r hr => cl_sxE_some Q orc (vs := [v0]) G Tryz.func368 (by kernel_rfl) (by kernel_rfl) (by kernel_rfl) (by kernel_rfl) (by kernel_rfl) (by kernel_rfl) (m368 h v0 G r hr)
/-- (*coxswain/epoch.Unpin).clear -/
noncomputable def s370 (q : Bool) (e : Ex) (v0 v1 : Value) (G : GS) : Option (Value × GS) :=
  bP (pNil v0) fun x0 =>
  bP (fa Q q 518 1 6 x0) fun x1 =>
  bP (ld Q q 3 x1 G) fun x2 =>
  bS (e.ev.cl 45 [v1, x2, (.int .u64 0)] G) fun x3 G4 =>
  bP (pNil v0) fun x5 =>
  bP (fa Q q 518 0 0 x5) fun x6 =>
  bS (e.ev.cl 361 [x6, (.int .i64 0)] G4) fun x7 G8 =>
  some (.tuple #[], G8)
theorem m370 {e : Ex} {E : Ev} (h : ExLe Q e E) (v0 v1 : Value) (G : GS) : Ref (s370 true e v0 v1 G) (s370 false (Ex.of E) v0 v1 G) := by
  unfold s370
  exact Ref.go
theorem f370 {orc : FuncId → Bool} {e : Ex} (h : ExLe Q e (E orc)) (v0 v1 : Value) (G : GS) : Ref (s370 true e v0 v1 G) ((E orc).cl 370 [v0, v1] G) :=
  fun r hr => cl_sxE_some Q orc (vs := [v0, v1]) G Tryz.func370 (by kernel_rfl) (by kernel_rfl) (by kernel_rfl) (by kernel_rfl) (by kernel_rfl) (by kernel_rfl) (m370 h v0 v1 G r hr)
/-- coxswain/epoch.NewAdvance -/
noncomputable def s371 (q : Bool) (e : Ex) (v0 v1 v2 : Value) (G : GS) : Option (Value × GS) :=
  bS (bx q v0 G) fun x0 G1 =>
  bP (bd Q q 510 z510 [(2, 4, 1)] [(.bool true)]) fun x2 =>
  bP (lda Q q 27 3 x0 G1) fun x3 =>
  bP (bd Q q 558 z558 [(0, 0, 6), (1, 6, 3), (2, 9, 1), (3, 10, 1)] [x2, x3, v1, v2]) fun x4 =>
  bS (bx q x4 G1) fun x5 G6 =>
  bP (lda Q q 27 3 x0 G6) fun x7 =>
  bS (e.ev.cl 360 [x7, v1] G6) fun x8 G9 =>
  ifV x8 (
  bP (pNil x5) fun x10 =>
  bP (fa Q q 558 0 0 x10) fun x11 =>
  bS (e.ev.cl 361 [x11, (.int .i64 3)] G9) fun x12 G13 =>
  some (x5, G13)) (
  bP (bd Q q 508 z508 [(0, 0, 1), (1, 1, 1), (2, 2, 1)] [(.func (.func 406) #[x5] #[]), (.func (.func 407) #[x5] #[]), (.func (.func 408) #[x5] #[])]) fun x14 =>
  bP (pNil x5) fun x15 =>
  bP (fa Q q 558 0 0 x15) fun x16 =>
  bP (fa Q q 510 0 0 x16) fun x17 =>
  bP (st Q q 508 3 x17 x14 G9) fun G18 =>
  some (x5, G18))
theorem m371 {e : Ex} {E : Ev} (h : ExLe Q e E) (v0 v1 v2 : Value) (G : GS) : Ref (s371 true e v0 v1 v2 G) (s371 false (Ex.of E) v0 v1 v2 G) := by
  unfold s371
  exact Ref.go
theorem f371 {orc : FuncId → Bool} {e : Ex} (h : ExLe Q e (E orc)) (v0 v1 v2 : Value) (G : GS) : Ref (s371 true e v0 v1 v2 G) ((E orc).cl 371 [v0, v1, v2] G) :=
  fun r hr => cl_sxE_some Q orc (vs := [v0, v1, v2]) G Tryz.func371 (by kernel_rfl) (by kernel_rfl) (by kernel_rfl) (by kernel_rfl) (by kernel_rfl) (by kernel_rfl) (m371 h v0 v1 v2 G r hr)
/-- coxswain/stack.NewAll -/
noncomputable def s372 (q : Bool) (e : Ex) (v0 : Value) (G : GS) : Option (Value × GS) :=
  bS (bx q v0 G) fun x0 G1 =>
  bP (lda Q q 23 3 x0 G1) fun x2 =>
  bP (bd Q q 486 z486 [(0, 0, 3), (4, 6, 1)] [x2, (.bool true)]) fun x3 =>
  bP (bd Q q 561 z561 [(0, 0, 9), (1, 9, 1)] [x3, (.func (.func 409) #[] #[])]) fun x4 =>
  bS (bx q x4 G1) fun x5 G6 =>
  some (x5, G6)
theorem m372 {e : Ex} {E : Ev} (h : ExLe Q e E) (v0 : Value) (G : GS) : Ref (s372 true e v0 G) (s372 false (Ex.of E) v0 G) := by
  unfold s372
  exact Ref.go
theorem f372 {orc : FuncId → Bool} {e : Ex} (h : ExLe Q e (E orc)) (v0 : Value) (G : GS) : Ref (s372 true e v0 G) ((E orc).cl 372 [v0] G) :=
  fun r hr => cl_sxE_some Q orc (vs := [v0]) G Tryz.func372 (by kernel_rfl) (by kernel_rfl) (by kernel_rfl) (by kernel_rfl) (by kernel_rfl) (by kernel_rfl) (m372 h v0 G r hr)
/-- (*coxswain/limbo.Collect).advances -/
noncomputable def s373 (q : Bool) (e : Ex) (v0 v1 : Value) (G : GS) : Option (Value × GS) :=
  bP (pNil v0) fun x0 =>
  bP (fa Q q 450 2 13 x0) fun x1 =>
  bP (ld Q q 445 x1 G) fun x2 =>
  bS (e.ev.cl 410 [x2, v1] G) fun x3 G4 =>
  bP (un Q q .not x3) fun x5 =>
  ifV x5 (
  some ((.func (.func 373) #[v0] #[]), G4)) (
  bP (pNil v0) fun x6 =>
  bP (fa Q q 450 2 13 x6) fun x7 =>
  bP (ld Q q 445 x7 G4) fun x8 =>
  bS (e.ev.cl 411 [x8] G4) fun x9 G10 =>
  bP (pNil v0) fun x11 =>
  bP (fa Q q 450 0 0 x11) fun x12 =>
  bP (fa Q q 402 2 2 x12) fun x13 =>
  bP (st Q q 33 1 x13 x9 G10) fun G14 =>
  bP (pNil v0) fun x15 =>
  bP (fa Q q 450 0 0 x15) fun x16 =>
  bP (fa Q q 402 2 2 x16) fun x17 =>
  bP (ld Q q 33 x17 G14) fun x18 =>
  bP (bn Q q .neq 33 (.tmp 27) (.const (.int .i64 0)) x18 (.int .i64 0)) fun x19 =>
  ifV x19 (
  some (.nilFunc, G14)) (
  some ((.func (.func 412) #[v0] #[]), G14)))
theorem m373 {e : Ex} {E : Ev} (h : ExLe Q e E) (v0 v1 : Value) (G : GS) : Ref (s373 true e v0 v1 G) (s373 false (Ex.of E) v0 v1 G) := by
  unfold s373
  exact Ref.go
theorem f373 {orc : FuncId → Bool} {e : Ex} (h : ExLe Q e (E orc)) (v0 v1 : Value) (G : GS) : Ref (s373 true e v0 v1 G) ((E orc).cl 373 [v0, v1] G) :=
  fun r hr => cl_sxE_some Q orc (vs := [v0, v1]) G Tryz.func373 (by kernel_rfl) (by kernel_rfl) (by kernel_rfl) (by kernel_rfl) (by kernel_rfl) (by kernel_rfl) (m373 h v0 v1 G r hr)
/-- coxswain/word.PutTop -/
noncomputable def s390 (q : Bool) (e : Ex) (v0 : Value) (G : GS) : Option (Value × GS) :=
  bS (bx q v0 G) fun x0 G1 =>
  bP (fa Q q 274 0 0 x0) fun x2 =>
  bP (ld Q q 3 x2 G1) fun x3 =>
  bP (bd Q q 505 z505 [(0, 0, 1), (1, 1, 1), (2, 2, 1)] [x3, (.int .i64 (-1)), (.int .i64 65534)]) fun x4 =>
  bP (fa Q q 274 1 1 x0) fun x5 =>
  bP (ld Q q 3 x5 G1) fun x6 =>
  bP (bd Q q 505 z505 [(0, 0, 1), (1, 1, 1), (2, 2, 1)] [x6, (.int .i64 0), (.int .i64 281474976710655)]) fun x7 =>
  bS (bs Q q 538 2 (rep z505 2) 3 [(0, 0, 3), (1, 3, 3)] [x4, x7] G1) fun x8 G9 =>
  bS (e.ev.cl 357 [x8] G9) fun x10 G11 =>
  bP (un Q q .not x10) fun x12 =>
  ifV x12 (
  some (.tuple #[(.int .u64 0), (.int .i64 3)], G11)) (
  bS (e.ev.cl 271 [] G11) fun x13 G14 =>
  bS (al Q q 393 z393 G14) fun x15 G16 =>
  bP (st Q q 393 4 x15 x13 G16) fun G17 =>
  bP (sla Q q 393 2 2 x15 none none none (G17.room 10)) fun x18 =>
  bP (fa Q q 274 0 0 x0) fun x19 =>
  bP (ld Q q 3 x19 (G17.room 10)) fun x20 =>
  bP (bn Q q .add 3 (.tmp 17) (.const (.int .i64 1)) x20 (.int .i64 1)) fun x21 =>
  bP (fa Q q 274 1 1 x0) fun x22 =>
  bP (ld Q q 3 x22 (G17.room 10)) fun x23 =>
  bS (bs Q q 78 2 (rep z3 2) 1 [(0, 0, 1), (1, 1, 1)] [x21, x23] ((G17.room 10).at' (G17.nx + 6))) fun x24 G25 =>
  bS (e.ev.cl 358 [x18, x24] (G25.back (G17.room 10))) fun x27 G26 =>
  some (.tuple #[x27, (.int .i64 0)], G26))
theorem m390 {e : Ex} {E : Ev} (h : ExLe Q e E) (v0 : Value) (G : GS) : Ref (s390 true e v0 G) (s390 false (Ex.of E) v0 G) := by
  unfold s390
  exact Ref.go
theorem f390 {orc : FuncId → Bool} {e : Ex} (h : ExLe Q e (E orc)) (v0 : Value) (G : GS) : Ref (s390 true e v0 G) ((E orc).cl 390 [v0] G) :=
  fun r hr => cl_sxE_some Q orc (vs := [v0]) G Tryz.func390 (by kernel_rfl) (by kernel_rfl) (by kernel_rfl) (by kernel_rfl) (by kernel_rfl) (by kernel_rfl) (m390 h v0 G r hr)
/-- (*coxswain/stack.Pop).second -/
noncomputable def s391 (q : Bool) (e : Ex) (v0 v1 : Value) (G : GS) : Option (Value × GS) :=
  bP (pNil v0) fun x0 =>
  bP (fa Q q 489 0 0 x0) fun x1 =>
  bP (fa Q q 486 0 0 x1) fun x2 =>
  bP (lda Q q 23 3 x2 (G.room 25)) fun x3 =>
  bP (pNil v0) fun x4 =>
  bP (fa Q q 489 0 0 x4) fun x5 =>
  bP (fa Q q 486 0 0 x5) fun x6 =>
  bP (fa Q q 23 1 1 x6) fun x7 =>
  bP (ld Q q 3 x7 (G.room 25)) fun x8 =>
  bP (pNil v0) fun x9 =>
  bP (fa Q q 489 0 0 x9) fun x10 =>
  bP (fa Q q 486 2 4 x10) fun x11 =>
  bP (ld Q q 3 x11 (G.room 25)) fun x12 =>
  bP (bn Q q .add 3 (.tmp 16) (.tmp 21) x8 x12) fun x13 =>
  bS (e.ev.cl 177 [v1, x13] (G.room 25)) fun x15 G14 =>
  chk ((sameO (lda Q q 23 3 x2 G14) x3 && true)) <|
  bS (e.ev.cl 356 [x3, x15] G14) fun x17 G16 =>
  bP (pNil v0) fun x18 =>
  bP (fa Q q 489 0 0 x18) fun x19 =>
  bP (fa Q q 486 3 5 x19) fun x20 =>
  bP (st Q q 3 1 x20 x17 G16) fun G21 =>
  bP (pNil v0) fun x22 =>
  bP (fa Q q 489 1 9 x22) fun x23 =>
  bP (st Q q 487 1 x23 (.func (.func 419) #[] #[]) G21) fun G24 =>
  some (.tuple #[], G24)
theorem m391 {e : Ex} {E : Ev} (h : ExLe Q e E) (v0 v1 : Value) (G : GS) : Ref (s391 true e v0 v1 G) (s391 false (Ex.of E) v0 v1 G) := by
  unfold s391
  exact Ref.go
theorem f391 {orc : FuncId → Bool} {e : Ex} (h : ExLe Q e (E orc)) (v0 v1 : Value) (G : GS) : Ref (s391 true e v0 v1 G) ((E orc).cl 391 [v0, v1] G) :=
  fun r hr => cl_sxE_some Q orc (vs := [v0, v1]) G Tryz.func391 (by kernel_rfl) (by kernel_rfl) (by kernel_rfl) (by kernel_rfl) (by kernel_rfl) (by kernel_rfl) (m391 h v0 v1 G r hr)
/-- (*coxswain/stack.held).load -/
noncomputable def s392 (q : Bool) (e : Ex) (v0 v1 : Value) (G : GS) : Option (Value × GS) :=
  bP (pNil v0) fun x0 =>
  bP (fa Q q 486 0 0 x0) fun x1 =>
  bP (fa Q q 23 0 0 x1) fun x2 =>
  bP (ld Q q 3 x2 G) fun x3 =>
  bS (e.ev.cl 177 [v1, x3] G) fun x4 G5 =>
  bP (pNil v0) fun x6 =>
  bP (fa Q q 486 1 3 x6) fun x7 =>
  bP (st Q q 41 1 x7 x4 G5) fun G8 =>
  bP (pNil v0) fun x9 =>
  bP (fa Q q 486 0 0 x9) fun x10 =>
  bP (lda Q q 23 3 x10 (G8.room 10)) fun x11 =>
  bP (pNil v0) fun x12 =>
  bP (fa Q q 486 1 3 x12) fun x13 =>
  bP (ld Q q 41 x13 (G8.room 10)) fun x14 =>
  bS (e.ev.cl 356 [x11, x14] (G8.room 10)) fun x16 G15 =>
  some (x16, G15)
theorem m392 {e : Ex} {E : Ev} (h : ExLe Q e E) (v0 v1 : Value) (G : GS) : Ref (s392 true e v0 v1 G) (s392 false (Ex.of E) v0 v1 G) := by
  unfold s392
  exact Ref.go
theorem f392 {orc : FuncId → Bool} {e : Ex} (h : ExLe Q e (E orc)) (v0 v1 : Value) (G : GS) : Ref (s392 true e v0 v1 G) ((E orc).cl 392 [v0, v1] G) :=
  fun r hr => cl_sxE_some Q orc (vs := [v0, v1]) G Tryz.func392 (by kernel_rfl) (by kernel_rfl) (by kernel_rfl) (by kernel_rfl) (by kernel_rfl) (by kernel_rfl) (m392 h v0 v1 G r hr)
/-- (*coxswain/stack.held).over -/
noncomputable def s393 (q : Bool) (e : Ex) (v0 : Value) (G : GS) : Option (Value × GS) :=
  bP (ep Q q false 536 (.tmp 3) (.const (.pointer none)) v0 (.pointer none)) fun x0 =>
  bS (gd x0 false (some (v0, G)) G) fun x1 G2 =>
  bS (gd x0 false (bP (pNil x1) fun y => some (y, G2)) G2) fun x3 G4 =>
  bS (gd x0 false (bP (fa Q q 486 4 6 x3) fun y => some (y, G4)) G4) fun x5 G6 =>
  bS (gd x0 false (bP (ld Q q 4 x5 G6) fun y => some (y, G6)) G6) fun x7 G8 =>
  bS (gd x0 false (bP (un Q q .not x7) fun y => some (y, G8)) G8) fun x9 G10 =>
  bP (pickV x0 (.bool true) x9) fun x11 =>
  bS (gd x11 false (some (v0, G10)) G10) fun x12 G13 =>
  bS (gd x11 false (bP (pNil x12) fun y => some (y, G13)) G13) fun x14 G15 =>
  bS (gd x11 false (bP (fa Q q 486 5 7 x14) fun y => some (y, G15)) G15) fun x16 G17 =>
  bS (gd x11 false (bP (ld Q q 4 x16 G17) fun y => some (y, G17)) G17) fun x18 G19 =>
  bP (pickV x11 (.bool true) x18) fun x20 =>
  some (x20, G19)
theorem m393 {e : Ex} {E : Ev} (h : ExLe Q e E) (v0 : Value) (G : GS) : Ref (s393 true e v0 G) (s393 false (Ex.of E) v0 G) := by
  unfold s393
  exact Ref.go
theorem f393 {orc : FuncId → Bool} {e : Ex} (h : ExLe Q e (E orc)) (v0 : Value) (G : GS) : Ref (s393 true e v0 G) ((E orc).cl 393 [v0] G) :=
  fun r hr => cl_sxE_some Q orc (vs := [v0]) G Tryz.func393 (by kernel_rfl) (by kernel_rfl) (by kernel_rfl) (by kernel_rfl) (by kernel_rfl) (by kernel_rfl) (m393 h v0 G r hr)
/-- (*coxswain/stack.held).index -/
noncomputable def s394 (q : Bool) (e : Ex) (v0 : Value) (G : GS) : Option (Value × GS) :=
  bS (e.ev.cl 420 [v0] G) fun x0 G1 =>
  bP (bn Q q .neq 33 (.tmp 7) (.const (.int .i64 0)) x0 (.int .i64 0)) fun x2 =>
  ifV x2 (
  some (.tuple #[(.int .i64 0), x0], G1)) (
  bP (pNil v0) fun x3 =>
  bP (fa Q q 486 2 4 x3) fun x4 =>
  bP (ld Q q 3 x4 G1) fun x5 =>
  some (.tuple #[x5, (.int .i64 0)], G1))
theorem m394 {e : Ex} {E : Ev} (h : ExLe Q e E) (v0 : Value) (G : GS) : Ref (s394 true e v0 G) (s394 false (Ex.of E) v0 G) := by
  unfold s394
  exact Ref.go
theorem f394 {orc : FuncId → Bool} {e : Ex} (h : ExLe Q e (E orc)) (v0 : Value) (G : GS) : Ref (s394 true e v0 G) ((E orc).cl 394 [v0] G) :=
  fun r hr => cl_sxE_some Q orc (vs := [v0]) G Tryz.func394 (by kernel_rfl) (by kernel_rfl) (by kernel_rfl) (by kernel_rfl) (by kernel_rfl) (by kernel_rfl) (m394 h v0 G r hr)
/-- (*coxswain/stack.Push).second -/
noncomputable def s395 (q : Bool) (e : Ex) (v0 v1 : Value) (G : GS) : Option (Value × GS) :=
  bP (pNil v0) fun x0 =>
  bP (fa Q q 498 0 0 x0) fun x1 =>
  bP (fa Q q 486 0 0 x1) fun x2 =>
  bP (fa Q q 23 1 1 x2) fun x3 =>
  bP (ld Q q 3 x3 (G.room 20)) fun x4 =>
  bP (pNil v0) fun x5 =>
  bP (fa Q q 498 0 0 x5) fun x6 =>
  bP (fa Q q 486 2 4 x6) fun x7 =>
  bP (ld Q q 3 x7 (G.room 20)) fun x8 =>
  bP (bn Q q .add 3 (.tmp 10) (.tmp 15) x4 x8) fun x9 =>
  bP (pNil v0) fun x10 =>
  bP (fa Q q 498 0 0 x10) fun x11 =>
  bP (fa Q q 486 3 5 x11) fun x12 =>
  bP (ld Q q 3 x12 (G.room 20)) fun x13 =>
  bS (e.ev.cl 334 [x13] (G.room 20)) fun x15 G14 =>
  chk ((sameO (ld Q q 3 x7 G14) x8 && (sameO (ld Q q 3 x3 G14) x4 && true))) <|
  bS (e.ev.cl 45 [v1, x9, x15] G14) fun x17 G16 =>
  bP (pNil v0) fun x18 =>
  bP (fa Q q 498 1 9 x18) fun x19 =>
  bP (st Q q 496 1 x19 (.func (.func 421) #[] #[]) G16) fun G20 =>
  some (.tuple #[], G20)
theorem m395 {e : Ex} {E : Ev} (h : ExLe Q e E) (v0 v1 : Value) (G : GS) : Ref (s395 true e v0 v1 G) (s395 false (Ex.of E) v0 v1 G) := by
  unfold s395
  exact Ref.go
theorem f395 {orc : FuncId → Bool} {e : Ex} (h : ExLe Q e (E orc)) (v0 v1 : Value) (G : GS) : Ref (s395 true e v0 v1 G) ((E orc).cl 395 [v0, v1] G) :=
  fun r hr => cl_sxE_some Q orc (vs := [v0, v1]) G Tryz.func395 (by kernel_rfl) (by kernel_rfl) (by kernel_rfl) (by kernel_rfl) (by kernel_rfl) (by kernel_rfl) (m395 h v0 v1 G r hr)
/-- (*coxswain/arena.Free).push -/
noncomputable def s396 (q : Bool) (e : Ex) (v0 v1 : Value) (G : GS) : Option (Value × GS) :=
  bP (pNil v0) fun x0 =>
  bP (fa Q q 384 0 0 x0) fun x1 =>
  bP (ld Q q 381 x1 G) fun x2 =>
  bS (e.ev.cl 398 [x2, v1] G) fun x3 G4 =>
  ifV x3 (
  bP (pNil v0) fun x5 =>
  bP (fa Q q 384 3 8 x5) fun x6 =>
  bP (st Q q 382 1 x6 .nilFunc G4) fun G7 =>
  some (.tuple #[], G7)) (
  some (.tuple #[], G4))
theorem m396 {e : Ex} {E : Ev} (h : ExLe Q e E) (v0 v1 : Value) (G : GS) : Ref (s396 true e v0 v1 G) (s396 false (Ex.of E) v0 v1 G) := by
  unfold s396
  exact Ref.go
theorem f396 {orc : FuncId → Bool} {e : Ex} (h : ExLe Q e (E orc)) (v0 v1 : Value) (G : GS) : Ref (s396 true e v0 v1 G) ((E orc).cl 396 [v0, v1] G) :=
  fun r hr => cl_sxE_some Q orc (vs := [v0, v1]) G Tryz.func396 (by kernel_rfl) (by kernel_rfl) (by kernel_rfl) (by kernel_rfl) (by kernel_rfl) (by kernel_rfl) (m396 h v0 v1 G r hr)
noncomputable def b397_0 (q : Bool) (e : Ex) (lp : Env → GS → Option (Exit × Env × GS)) (τ : Env) (G : GS) : Option (Exit × Env × GS) :=
  bV q (τ 0) fun a0_ =>
  bV q (τ 2) fun a2_ =>
  bV q (τ 4) fun a4_ =>
  bV q (τ 5) fun a5_ =>
  bP (bn Q q .geq 3 (.tmp 9) (.const (.int .i64 0)) a5_ (.int .i64 0)) fun x0 =>
  ifV x0 (
  bP (fa Q q 280 0 0 a4_) fun x1 =>
  bP (st Q q 3 1 x1 a5_ G) fun G2 =>
  bP (fa Q q 280 3 3 a4_) fun x3 =>
  bP (st Q q 41 1 x3 (.int .u64 0) G2) fun G4 =>
  bP (lda Q q 280 4 a4_ G4) fun x5 =>
  bS (cValue e.ev a0_ [a5_, x5] G4) fun x6 G7 =>
  bP (un Q q .not x6) fun x8 =>
  ifV x8 (
  some (.ret, clq q 25 (tu τ [(0, a0_), (2, a2_), (4, a4_), (5, a5_), (9, a5_), (10, x0), (13, a5_), (14, x1), (15, x3), (16, a0_), (17, a5_), (18, x5), (19, x6), (20, x8)]), G7)) (
  bP (ld Q q 281 a2_ G7) fun x9 =>
  bP (ias Q q 281 4 x9 a5_) fun x10 =>
  bP (lda Q q 280 4 x10 G7) fun x11 =>
  bP (st Q q 280 4 a4_ x11 G7) fun G12 =>
  bP (bn Q q .sub 3 (.tmp 11) (.const (.int .i64 1)) a5_ (.int .i64 1)) fun x13 =>
  lp (tu τ [(0, a0_), (2, a2_), (4, a4_), (5, x13), (9, a5_), (10, x0), (11, a5_), (12, x13), (13, a5_), (14, x1), (15, x3), (16, a0_), (17, a5_), (18, x5), (19, x6), (20, x8), (21, x9), (22, a5_), (23, x10), (24, x11)]) G12)) (
  some ((.exit 0), clq q 25 (tu τ [(0, a0_), (2, a2_), (4, a4_), (5, a5_), (9, a5_), (10, x0)]), G))
theorem mb397_0 {e : Ex} {E : Ev} (h : ExLe Q e E) {lp lp' : Env → GS → Option (Exit × Env × GS)} (hlp : LpLe lp lp') (τ : Env) (G : GS) : Ref (b397_0 true e lp τ G) (b397_0 false (Ex.of E) lp' τ G) := by
  unfold b397_0
  exact Ref.go
theorem l397_0 {orc : FuncId → Bool} {e : Ex} (h : ExLe Q e (E orc)) (lp : Env → GS → Option (Exit × Env × GS)) (hlp : ∀ τ G, Ref (lp τ G) (mapE ((E orc).lp (subAt [1, 1, 0, 0] (bodyOf Tryz.f397)) (lst 25 τ) G))) (T : List Value) (G : GS) (hT : T.length = 25) : Ref (b397_0 true e lp (nth undef T) G) (mapE ((E orc).lp (subAt [1, 1, 0, 0] (bodyOf Tryz.f397)) T G)) :=
  fun r hr => lp_sxM Q orc G hT (by kernel_rfl) (mb397_0 h ⟨hlp⟩ _ _ r hr)
/-- coxswain/find.down$1 -/
noncomputable def s397 (q : Bool) (e : Ex) (v0 v1 v2 : Value) (G : GS) : Option (Value × GS) :=
  bP (bd Q q 280 z280 [(1, 1, 1)] [(.int .i64 (-1))]) fun x0 =>
  bS (al Q q 280 z280 G) fun x1 G2 =>
  bP (st Q q 280 4 x1 x0 G2) fun G3 =>
  bP (ld Q q 3 v1 G3) fun x4 =>
  bP (bn Q q .sub 3 (.tmp 7) (.const (.int .i64 1)) x4 (.int .i64 1)) fun x5 =>
  bL q e 397 0 (subAt [1, 1, 0, 0] (bodyOf Tryz.f397)) 25 (tu (nth undef [v0, v1, v2]) [(4, x1), (5, x5), (6, x0), (7, x4), (8, x5)]) G3 fun e6 t7 G8 =>
  ifE e6 (.exit 0) (
  some (.tuple #[], G8)) (ifE e6 .ret (
  some (.tuple #[], G8)) (none))
theorem m397 {e : Ex} {E : Ev} (h : ExLe Q e E) (v0 v1 v2 : Value) (G : GS) : Ref (s397 true e v0 v1 v2 G) (s397 false (Ex.of E) v0 v1 v2 G) := by
  unfold s397
  exact Ref.go
theorem f397 {orc : FuncId → Bool} {e : Ex} (h : ExLe Q e (E orc)) (v0 v1 v2 : Value) (G : GS) : Ref (s397 true e v0 v1 v2 G) ((E orc).cl 397 [v0, v1, v2] G) :=
  fun r hr => cl_sxE_some Q orc (vs := [v0, v1, v2]) G Tryz.func397 (by kernel_rfl) (by kernel_rfl) (by kernel_rfl) (by kernel_rfl) (by kernel_rfl) (by kernel_rfl) (m397 h v0 v1 v2 G r hr)
/-- (*coxswain/stack.Push).Step -/
noncomputable def s398 (q : Bool) (e : Ex) (v0 v1 : Value) (G : GS) : Option (Value × GS) :=
  bP (ep Q q false 381 (.tmp 5) (.const (.pointer none)) v0 (.pointer none)) fun x0 =>
  bS (gd x0 false (some (v0, G)) G) fun x1 G2 =>
  bS (gd x0 false (bP (pNil x1) fun y => some (y, G2)) G2) fun x3 G4 =>
  bS (gd x0 false (bP (fa Q q 498 0 0 x3) fun y => some (y, G4)) G4) fun x5 G6 =>
  bS (gd x0 false (bS (e.ev.cl 393 [x5] G6) fun y G => some (y, G)) G6) fun x7 G8 =>
  bP (pickV x0 (.bool true) x7) fun x9 =>
  ifV x9 (
  some ((.bool true), G8)) (
  bP (pNil v0) fun x10 =>
  bP (fa Q q 498 1 9 x10) fun x11 =>
  bP (ld Q q 496 x11 G8) fun x12 =>
  bS (cValue e.ev x12 [v0, v1] G8) fun x13 G14 =>
  bP (pNil v0) fun x15 =>
  bP (fa Q q 498 0 0 x15) fun x16 =>
  bP (fa Q q 486 5 7 x16) fun x17 =>
  bP (ld Q q 4 x17 G14) fun x18 =>
  some (x18, G14))
theorem m398 {e : Ex} {E : Ev} (h : ExLe Q e E) (v0 v1 : Value) (G : GS) : Ref (s398 true e v0 v1 G) (s398 false (Ex.of E) v0 v1 G) := by
  unfold s398
  exact Ref.go
theorem f398 {orc : FuncId → Bool} {e : Ex} (h : ExLe Q e (E orc)) (v0 v1 : Value) (G : GS) : Ref (s398 true e v0 v1 G) ((E orc).cl 398 [v0, v1] G) :=
  fun r hr => cl_sxE_some Q orc (vs := [v0, v1]) G Tryz.func398 (by kernel_rfl) (by kernel_rfl) (by kernel_rfl) (by kernel_rfl) (by kernel_rfl) (by kernel_rfl) (m398 h v0 v1 G r hr)
/-- (coxswain/word.raw).with -/
noncomputable def s399 (q : Bool) (e : Ex) (v0 v1 v2 : Value) (G : GS) : Option (Value × GS) :=
  bS (bx q v1 G) fun x0 G1 =>
  bP (cv Q q 3 41 .i64 .u64 v2) fun x2 =>
  bP (fa Q q 392 0 0 x0) fun x3 =>
  bP (ld Q q 3 x3 G1) fun x4 =>
  bP (bn Q q .shl 41 (.tmp 9) (.tmp 11) x2 x4) fun x5 =>
  bP (bn Q q .or 395 (.tmp 7) (.tmp 12) v0 x5) fun x6 =>
  some (x6, G1)
theorem m399 {e : Ex} {E : Ev} (h : ExLe Q e E) (v0 v1 v2 : Value) (G : GS) : Ref (s399 true e v0 v1 v2 G) (s399 false (Ex.of E) v0 v1 v2 G) := by
  unfold s399
  exact Ref.go
theorem f399 {orc : FuncId → Bool} {e : Ex} (h : ExLe Q e (E orc)) (v0 v1 v2 : Value) (G : GS) : Ref (s399 true e v0 v1 v2 G) ((E orc).cl 399 [v0, v1, v2] G) :=
  fun r hr => cl_sxE_some Q orc (vs := [v0, v1, v2]) G Tryz.func399 (by kernel_rfl) (by kernel_rfl) (by kernel_rfl) (by kernel_rfl) (by kernel_rfl) (by kernel_rfl) (m399 h v0 v1 v2 G r hr)
/-- (*coxswain/ready.Put).lay$1 -/
noncomputable def s400 (q : Bool) (e : Ex) (v0 : Value) (G : GS) : Option (Value × GS) :=
  bP (ld Q q 80 v0 (G.room 23)) fun x0 =>
  bP (pNil x0) fun x1 =>
  bP (fa Q q 303 0 0 x1) fun x2 =>
  bP (fa Q q 300 0 0 x2) fun x3 =>
  bP (lda Q q 31 13 x3 (G.room 23)) fun x4 =>
  bP (ld Q q 80 v0 (G.room 23)) fun x5 =>
  bP (pNil x5) fun x6 =>
  bP (fa Q q 303 5 23 x6) fun x7 =>
  bP (ld Q q 41 x7 (G.room 23)) fun x8 =>
  bP (ld Q q 80 v0 (G.room 23)) fun x9 =>
  bP (pNil x9) fun x10 =>
  bP (fa Q q 303 1 19 x10) fun x11 =>
  bP (ld Q q 41 x11 (G.room 23)) fun x12 =>
  bP (ld Q q 80 v0 (G.room 23)) fun x13 =>
  bP (pNil x13) fun x14 =>
  bP (fa Q q 303 2 20 x14) fun x15 =>
  bP (ld Q q 3 x15 (G.room 23)) fun x16 =>
  bP (ld Q q 80 v0 (G.room 23)) fun x17 =>
  bP (pNil x17) fun x18 =>
  bP (fa Q q 303 3 21 x18) fun x19 =>
  bP (ld Q q 3 x19 (G.room 23)) fun x20 =>
  bS (e.ev.cl 401 [x4, x8, x12, x16, x20] (G.room 23)) fun x22 G21 =>
  some (x22, G21)
theorem m400 {e : Ex} {E : Ev} (h : ExLe Q e E) (v0 : Value) (G : GS) : Ref (s400 true e v0 G) (s400 false (Ex.of E) v0 G) := by
  unfold s400
  exact Ref.go
theorem f400 {orc : FuncId → Bool} {e : Ex} (h : ExLe Q e (E orc)) (v0 : Value) (G : GS) : Ref (s400 true e v0 G) ((E orc).cl 400 [v0] G) :=
  fun r hr => cl_sxE_some Q orc (vs := [v0]) G Tryz.func400 (by kernel_rfl) (by kernel_rfl) (by kernel_rfl) (by kernel_rfl) (by kernel_rfl) (by kernel_rfl) (m400 h v0 G r hr)
/-- coxswain/tower.NewLay -/
noncomputable def s401 (q : Bool) (e : Ex) (v0 v1 v2 v3 v4 : Value) (G : GS) : Option (Value × GS) :=
  bS (bx q v0 G) fun x0 G1 =>
  bP (lda Q q 31 13 x0 G1) fun x2 =>
  bS (e.ev.cl 422 [x2, v1, v3, v4] G1) fun x3 G4 =>
  bP (bd Q q 566 z566 [(0, 0, 1), (1, 1, 1), (4, 7, 1)] [(.bool true), v1, x3]) fun x5 =>
  bS (bx q x5 G4) fun x6 G7 =>
  bP (pNil x6) fun x8 =>
  bP (fa Q q 566 4 7 x8) fun x9 =>
  bP (ld Q q 33 x9 G7) fun x10 =>
  bP (bn Q q .neq 33 (.tmp 25) (.const (.int .i64 0)) x10 (.int .i64 0)) fun x11 =>
  ifV x11 (
  bP (pNil x6) fun x12 =>
  bP (fa Q q 566 3 6 x12) fun x13 =>
  bP (st Q q 3 1 x13 (.int .i64 4) G7) fun G14 =>
  some (x6, G14)) (
  bP (lda Q q 31 13 x0 G7) fun x15 =>
  bS (e.ev.cl 352 [x15, v1] G7) fun x16 G17 =>
  bS (al Q q 3 z3 G17) fun x18 G19 =>
  bP (st Q q 3 1 x18 x16 G19) fun G20 =>
  bS (cValue e.ev (.func (.func 423) #[] #[x0, x18]) [(.int .i64 0), v2] G20) fun x21 G22 =>
  bP (cv Q q 3 41 .i64 .u64 v3) fun x23 =>
  bS (cValue e.ev (.func (.func 423) #[] #[x0, x18]) [(.int .i64 1), x23] G22) fun x24 G25 =>
  bP (cv Q q 3 41 .i64 .u64 v4) fun x26 =>
  bS (cValue e.ev (.func (.func 423) #[] #[x0, x18]) [(.int .i64 2), x26] G25) fun x27 G28 =>
  bS (cValue e.ev (.func (.func 423) #[] #[x0, x18]) [(.int .i64 3), (.int .u64 2)] G28) fun x29 G30 =>
  bP (bd Q q 564 z564 [(0, 0, 1), (1, 1, 1), (2, 2, 1), (3, 3, 1)] [x21, x24, x27, x29]) fun x31 =>
  bP (pNil x6) fun x32 =>
  bP (fa Q q 566 2 2 x32) fun x33 =>
  bP (st Q q 564 4 x33 x31 G30) fun G34 =>
  some (x6, G34))
theorem m401 {e : Ex} {E : Ev} (h : ExLe Q e E) (v0 v1 v2 v3 v4 : Value) (G : GS) : Ref (s401 true e v0 v1 v2 v3 v4 G) (s401 false (Ex.of E) v0 v1 v2 v3 v4 G) := by
  unfold s401
  exact Ref.go
theorem f401 {orc : FuncId → Bool} {e : Ex} (h : ExLe Q e (E orc)) (v0 v1 v2 v3 v4 : Value) (G : GS) : Ref (s401 true e v0 v1 v2 v3 v4 G) ((E orc).cl 401 [v0, v1, v2, v3, v4] G) :=
  fun r hr => cl_sxE_some Q orc (vs := [v0, v1, v2, v3, v4]) G Tryz.func401 (by kernel_rfl) (by kernel_rfl) (by kernel_rfl) (by kernel_rfl) (by kernel_rfl) (by kernel_rfl) (m401 h v0 v1 v2 v3 v4 G r hr)
/-- (*coxswain/tower.Lay).By -/
noncomputable def s402 (q : Bool) (e : Ex) (v0 : Value) (G : GS) : Option (Value × GS) :=
  bP (ep Q q false 542 (.tmp 3) (.const (.pointer none)) v0 (.pointer none)) fun x0 =>
  bS (gd x0 false (some (v0, G)) G) fun x1 G2 =>
  bS (gd x0 false (bP (pNil x1) fun y => some (y, G2)) G2) fun x3 G4 =>
  bS (gd x0 false (bP (fa Q q 566 4 7 x3) fun y => some (y, G4)) G4) fun x5 G6 =>
  bS (gd x0 false (bP (ld Q q 33 x5 G6) fun y => some (y, G6)) G6) fun x7 G8 =>
  bS (gd x0 false (bP (bn Q q .neq 33 (.tmp 9) (.const (.int .i64 0)) x7 (.int .i64 0)) fun y => some (y, G8)) G8) fun x9 G10 =>
  bP (pickV x0 (.bool true) x9) fun x11 =>
  bS (gd x11 false (some (v0, G10)) G10) fun x12 G13 =>
  bS (gd x11 false (bP (pNil x12) fun y => some (y, G13)) G13) fun x14 G15 =>
  bS (gd x11 false (bP (fa Q q 566 3 6 x14) fun y => some (y, G15)) G15) fun x16 G17 =>
  bS (gd x11 false (bP (ld Q q 3 x16 G17) fun y => some (y, G17)) G17) fun x18 G19 =>
  bS (gd x11 false (bP (bn Q q .eql 3 (.tmp 16) (.const (.int .i64 0)) x18 (.int .i64 0)) fun y => some (y, G19)) G19) fun x20 G21 =>
  bP (pickV x11 (.bool true) x20) fun x22 =>
  ifV x22 (
  some ((.int .u64 0), G21)) (
  bP (pNil v0) fun x23 =>
  bP (fa Q q 566 1 1 x23) fun x24 =>
  bP (ld Q q 41 x24 G21) fun x25 =>
  some (x25, G21))
theorem m402 {e : Ex} {E : Ev} (h : ExLe Q e E) (v0 : Value) (G : GS) : Ref (s402 true e v0 G) (s402 false (Ex.of E) v0 G) := by
  unfold s402
  exact Ref.go
theorem f402 {orc : FuncId → Bool} {e : Ex} (h : ExLe Q e (E orc)) (v0 : Value) (G : GS) : Ref (s402 true e v0 G) ((E orc).cl 402 [v0] G) :=
  fun r hr => cl_sxE_some Q orc (vs := [v0]) G Tryz.func402 (by kernel_rfl) (by kernel_rfl) (by kernel_rfl) (by kernel_rfl) (by kernel_rfl) (by kernel_rfl) (m402 h v0 G r hr)
/-- (*coxswain/ready.Put).link$1 -/
noncomputable def s403 (q : Bool) (e : Ex) (v0 : Value) (G : GS) : Option (Value × GS) :=
  bP (ld Q q 80 v0 (G.room 19)) fun x0 =>
  bP (pNil x0) fun x1 =>
  bP (fa Q q 303 0 0 x1) fun x2 =>
  bP (fa Q q 300 0 0 x2) fun x3 =>
  bP (lda Q q 31 13 x3 (G.room 19)) fun x4 =>
  bP (ld Q q 80 v0 (G.room 19)) fun x5 =>
  bP (pNil x5) fun x6 =>
  bP (fa Q q 303 5 23 x6) fun x7 =>
  bP (ld Q q 41 x7 (G.room 19)) fun x8 =>
  bP (ld Q q 80 v0 (G.room 19)) fun x9 =>
  bP (pNil x9) fun x10 =>
  bP (fa Q q 303 1 19 x10) fun x11 =>
  bP (ld Q q 41 x11 (G.room 19)) fun x12 =>
  bP (ld Q q 80 v0 (G.room 19)) fun x13 =>
  bP (pNil x13) fun x14 =>
  bP (fa Q q 303 3 21 x14) fun x15 =>
  bP (ld Q q 3 x15 (G.room 19)) fun x16 =>
  bS (e.ev.cl 404 [x4, x8, x12, x16] (G.room 19)) fun x18 G17 =>
  some (x18, G17)
theorem m403 {e : Ex} {E : Ev} (h : ExLe Q e E) (v0 : Value) (G : GS) : Ref (s403 true e v0 G) (s403 false (Ex.of E) v0 G) := by
  unfold s403
  exact Ref.go
theorem f403 {orc : FuncId → Bool} {e : Ex} (h : ExLe Q e (E orc)) (v0 : Value) (G : GS) : Ref (s403 true e v0 G) ((E orc).cl 403 [v0] G) :=
  fun r hr => cl_sxE_some Q orc (vs := [v0]) G Tryz.func403 (by kernel_rfl) (by kernel_rfl) (by kernel_rfl) (by kernel_rfl) (by kernel_rfl) (by kernel_rfl) (m403 h v0 G r hr)
/-- coxswain/insert.NewInsert -/
noncomputable def s404 (q : Bool) (e : Ex) (v0 v1 v2 v3 : Value) (G : GS) : Option (Value × GS) :=
  bS (bx q v0 G) fun x0 G1 =>
  bP (lda Q q 31 13 x0 (G1.room 11)) fun x2 =>
  bP (lda Q q 31 13 x0 (G1.room 11)) fun x3 =>
  bS (e.ev.cl 425 [x3, v1, v3] (G1.room 11)) fun x5 G4 =>
  chk ((sameO (lda Q q 31 13 x0 G4) x2 && true)) <|
  bP (bd Q q 571 z571 [(0, 0, 13), (1, 13, 1), (3, 15, 1), (4, 16, 1), (6, 18, 1), (13, 25, 1)] [x2, (.bool true), v1, v2, v3, x5]) fun x6 =>
  bS (bx q x6 (G4.at' (G1.nx + 9))) fun x7 G8 =>
  bP (pNil x7) fun x9 =>
  bP (fa Q q 571 13 25 x9) fun x10 =>
  bP (ld Q q 33 x10 (G8.back G4)) fun x11 =>
  bP (bn Q q .eql 33 (.tmp 25) (.const (.int .i64 0)) x11 (.int .i64 0)) fun x12 =>
  ifV x12 (
  bS (e.ev.cl 203 [v1] (G8.back G4)) fun x13 G14 =>
  bP (pExtract x13 0) fun x15 =>
  bP (pExtract x13 1) fun x16 =>
  bS (al Q q 289 z289 G14) fun x17 G18 =>
  bP (st Q q 289 3 x17 x15 G18) fun G19 =>
  bP (fa Q q 289 0 0 x17) fun x20 =>
  bP (ld Q q 3 x20 G19) fun x21 =>
  bP (pNil x7) fun x22 =>
  bP (fa Q q 571 5 17 x22) fun x23 =>
  bP (st Q q 3 1 x23 x21 G19) fun G24 =>
  bS (e.ev.cl 426 [x7, (.int .i64 1)] G24) fun x25 G26 =>
  bP (pNil x7) fun x27 =>
  bP (fa Q q 571 7 19 x27) fun x28 =>
  bP (st Q q 569 1 x28 x25 G26) fun G29 =>
  some (x7, G29)) (
  some (x7, (G8.back G4)))
theorem m404 {e : Ex} {E : Ev} (h : ExLe Q e E) (v0 v1 v2 v3 : Value) (G : GS) : Ref (s404 true e v0 v1 v2 v3 G) (s404 false (Ex.of E) v0 v1 v2 v3 G) := by
  unfold s404
  exact Ref.go
theorem f404 {orc : FuncId → Bool} {e : Ex} (h : ExLe Q e (E orc)) (v0 v1 v2 v3 : Value) (G : GS) : Ref (s404 true e v0 v1 v2 v3 G) ((E orc).cl 404 [v0, v1, v2, v3] G) :=
  fun r hr => cl_sxE_some Q orc (vs := [v0, v1, v2, v3]) G Tryz.func404 (by kernel_rfl) (by kernel_rfl) (by kernel_rfl) (by kernel_rfl) (by kernel_rfl) (by kernel_rfl) (m404 h v0 v1 v2 v3 G r hr)
/-- (*coxswain/insert.Insert).By -/
noncomputable def s405 (q : Bool) (e : Ex) (v0 : Value) (G : GS) : Option (Value × GS) :=
  bP (ep Q q false 550 (.tmp 3) (.const (.pointer none)) v0 (.pointer none)) fun x0 =>
  ifV x0 (
  some ((.int .u64 0), G)) (
  bP (pNil v0) fun x1 =>
  bP (fa Q q 571 12 24 x1) fun x2 =>
  bP (ld Q q 41 x2 G) fun x3 =>
  some (x3, G))
theorem m405 {e : Ex} {E : Ev} (h : ExLe Q e E) (v0 : Value) (G : GS) : Ref (s405 true e v0 G) (s405 false (Ex.of E) v0 G) := by
  unfold s405
  exact Ref.go
theorem f405 {orc : FuncId → Bool} {e : Ex} (h : ExLe Q e (E orc)) (v0 : Value) (G : GS) : Ref (s405 true e v0 G) ((E orc).cl 405 [v0] G) :=
  fun r hr => cl_sxE_some Q orc (vs := [v0]) G Tryz.func405 (by kernel_rfl) (by kernel_rfl) (by kernel_rfl) (by kernel_rfl) (by kernel_rfl) (by kernel_rfl) (m405 h v0 G r hr)
/-- (*coxswain/epoch.Advance).load -/
noncomputable def s406 (q : Bool) (e : Ex) (v0 v1 : Value) (G : GS) : Option (Value × GS) :=
  bP (pNil v0) fun x0 =>
  bP (fa Q q 558 1 6 x0) fun x1 =>
  bP (fa Q q 27 0 0 x1) fun x2 =>
  bP (ld Q q 3 x2 G) fun x3 =>
  bS (e.ev.cl 177 [v1, x3] G) fun x4 G5 =>
  bP (pNil v0) fun x6 =>
  bP (fa Q q 558 4 11 x6) fun x7 =>
  bP (st Q q 41 1 x7 x4 G5) fun G8 =>
  bP (pNil v0) fun x9 =>
  bP (fa Q q 558 4 11 x9) fun x10 =>
  bP (ld Q q 41 x10 (G8.room 11)) fun x11 =>
  bP (cv Q q 41 415 .u64 .u32 x11) fun x12 =>
  bP (cv Q q 415 3 .u32 .i64 x12) fun x13 =>
  bP (pNil v0) fun x14 =>
  bP (fa Q q 558 3 10 x14) fun x15 =>
  bP (ld Q q 3 x15 (G8.room 11)) fun x16 =>
  bP (bn Q q .neq 3 (.tmp 19) (.tmp 23) x13 x16) fun x17 =>
  ifV x17 (
  bP (pNil v0) fun x18 =>
  bP (fa Q q 558 0 0 x18) fun x19 =>
  bS (e.ev.cl 361 [x19, (.int .i64 14)] (G8.room 11)) fun x20 G21 =>
  some (.tuple #[], G21)) (
  bS (e.ev.cl 427 [v0, (.int .i64 0)] (G8.room 11)) fun x22 G23 =>
  some (.tuple #[], G23))
theorem m406 {e : Ex} {E : Ev} (h : ExLe Q e E) (v0 v1 : Value) (G : GS) : Ref (s406 true e v0 v1 G) (s406 false (Ex.of E) v0 v1 G) := by
  unfold s406
  exact Ref.go
theorem f406 {orc : FuncId → Bool} {e : Ex} (h : ExLe Q e (E orc)) (v0 v1 : Value) (G : GS) : Ref (s406 true e v0 v1 G) ((E orc).cl 406 [v0, v1] G) :=
  fun r hr => cl_sxE_some Q orc (vs := [v0, v1]) G Tryz.func406 (by kernel_rfl) (by kernel_rfl) (by kernel_rfl) (by kernel_rfl) (by kernel_rfl) (by kernel_rfl) (m406 h v0 v1 G r hr)
/-- (*coxswain/epoch.Advance).look -/
noncomputable def s407 (q : Bool) (e : Ex) (v0 v1 : Value) (G : GS) : Option (Value × GS) :=
  bP (pNil v0) fun x0 =>
  bP (fa Q q 558 1 6 x0) fun x1 =>
  bP (fa Q q 27 1 1 x1) fun x2 =>
  bP (ld Q q 3 x2 (G.room 13)) fun x3 =>
  bP (pNil v0) fun x4 =>
  bP (fa Q q 558 5 12 x4) fun x5 =>
  bP (ld Q q 3 x5 (G.room 13)) fun x6 =>
  bP (bn Q q .add 3 (.tmp 10) (.tmp 14) x3 x6) fun x7 =>
  bS (e.ev.cl 177 [v1, x7] (G.room 13)) fun x9 G8 =>
  bP (bn Q q .neq 41 (.tmp 17) (.const (.int .u64 0)) x9 (.int .u64 0)) fun x10 =>
  bS (gd x10 true (some (x9, G8)) G8) fun x11 G12 =>
  bS (gd x10 true (some (v0, G12)) G12) fun x13 G14 =>
  bS (gd x10 true (bP (pNil x13) fun y => some (y, G14)) G14) fun x15 G16 =>
  bS (gd x10 true (bP (fa Q q 558 4 11 x15) fun y => some (y, G16)) G16) fun x17 G18 =>
  bS (gd x10 true (bP (ld Q q 41 x17 G18) fun y => some (y, G18)) G18) fun x19 G20 =>
  bS (gd x10 true (bP (cv Q q 41 415 .u64 .u32 x19) fun y => some (y, G20)) G20) fun x21 G22 =>
  bS (gd x10 true (bP (cv Q q 415 41 .u32 .u64 x21) fun y => some (y, G22)) G22) fun x23 G24 =>
  bS (gd x10 true (bP (bn Q q .add 41 (.tmp 26) (.const (.int .u64 1)) x23 (.int .u64 1)) fun y => some (y, G24)) G24) fun x25 G26 =>
  bS (gd x10 true (bP (bn Q q .neq 41 (.tmp 20) (.tmp 27) x11 x25) fun y => some (y, G26)) G26) fun x27 G28 =>
  bP (pickV x10 x27 (.bool false)) fun x29 =>
  ifV x29 (
  bP (pNil v0) fun x30 =>
  bP (fa Q q 558 0 0 x30) fun x31 =>
  bS (e.ev.cl 361 [x31, (.int .i64 14)] G28) fun x32 G33 =>
  some (.tuple #[], G33)) (
  bP (pNil v0) fun x34 =>
  bP (fa Q q 558 5 12 x34) fun x35 =>
  bP (ld Q q 3 x35 G28) fun x36 =>
  bP (bn Q q .add 3 (.tmp 38) (.const (.int .i64 1)) x36 (.int .i64 1)) fun x37 =>
  bS (e.ev.cl 427 [v0, x37] G28) fun x38 G39 =>
  some (.tuple #[], G39))
theorem m407 {e : Ex} {E : Ev} (h : ExLe Q e E) (v0 v1 : Value) (G : GS) : Ref (s407 true e v0 v1 G) (s407 false (Ex.of E) v0 v1 G) := by
  unfold s407
  exact Ref.go
theorem f407 {orc : FuncId → Bool} {e : Ex} (h : ExLe Q e (E orc)) (v0 v1 : Value) (G : GS) : Ref (s407 true e v0 v1 G) ((E orc).cl 407 [v0, v1] G) :=
  fun r hr => cl_sxE_some Q orc (vs := [v0, v1]) G Tryz.func407 (by kernel_rfl) (by kernel_rfl) (by kernel_rfl) (by kernel_rfl) (by kernel_rfl) (by kernel_rfl) (m407 h v0 v1 G r hr)
/-- (*coxswain/epoch.Advance).swap -/
noncomputable def s408 (q : Bool) (e : Ex) (v0 v1 : Value) (G : GS) : Option (Value × GS) :=
  bP (pNil v0) fun x0 =>
  bP (fa Q q 558 0 0 x0) fun x1 =>
  bS (e.ev.cl 361 [x1, (.int .i64 14)] G) fun x2 G3 =>
  bP (pNil v0) fun x4 =>
  bP (fa Q q 558 1 6 x4) fun x5 =>
  bP (fa Q q 27 0 0 x5) fun x6 =>
  bP (ld Q q 3 x6 (G3.room 18)) fun x7 =>
  bP (pNil v0) fun x8 =>
  bP (fa Q q 558 4 11 x8) fun x9 =>
  bP (ld Q q 41 x9 (G3.room 18)) fun x10 =>
  bP (pNil v0) fun x11 =>
  bP (fa Q q 558 4 11 x11) fun x12 =>
  bP (ld Q q 41 x12 (G3.room 18)) fun x13 =>
  bP (cv Q q 41 415 .u64 .u32 x13) fun x14 =>
  bP (cv Q q 415 41 .u32 .u64 x14) fun x15 =>
  bP (bn Q q .add 41 (.tmp 23) (.const (.int .u64 1)) x15 (.int .u64 1)) fun x16 =>
  bS (e.ev.cl 68 [v1, x7, x10, x16] (G3.room 18)) fun x18 G17 =>
  ifV x18 (
  bP (pNil v0) fun x19 =>
  bP (fa Q q 558 0 0 x19) fun x20 =>
  bS (e.ev.cl 361 [x20, (.int .i64 0)] G17) fun x21 G22 =>
  some (.tuple #[], G22)) (
  some (.tuple #[], G17))
theorem m408 {e : Ex} {E : Ev} (h : ExLe Q e E) (v0 v1 : Value) (G : GS) : Ref (s408 true e v0 v1 G) (s408 false (Ex.of E) v0 v1 G) := by
  unfold s408
  exact Ref.go
theorem f408 {orc : FuncId → Bool} {e : Ex} (h : ExLe Q e (E orc)) (v0 v1 : Value) (G : GS) : Ref (s408 true e v0 v1 G) ((E orc).cl 408 [v0, v1] G) :=
  fun r hr => cl_sxE_some Q orc (vs := [v0, v1]) G Tryz.func408 (by kernel_rfl) (by kernel_rfl) (by kernel_rfl) (by kernel_rfl) (by kernel_rfl) (by kernel_rfl) (m408 h v0 v1 G r hr)
/-- (*coxswain/stack.All).first -/
noncomputable def s409 (q : Bool) (e : Ex) (v0 v1 : Value) (G : GS) : Option (Value × GS) :=
  bP (pNil v0) fun x0 =>
  bP (fa Q q 561 1 9 x0) fun x1 =>
  bP (st Q q 559 1 x1 (.func (.func 428) #[] #[]) G) fun G2 =>
  bP (pNil v0) fun x3 =>
  bP (fa Q q 561 0 0 x3) fun x4 =>
  bS (e.ev.cl 392 [x4, v1] G2) fun x5 G6 =>
  bP (pNil v0) fun x7 =>
  bP (fa Q q 561 0 0 x7) fun x8 =>
  bP (fa Q q 486 2 4 x8) fun x9 =>
  bP (st Q q 3 1 x9 x5 G6) fun G10 =>
  bP (pNil v0) fun x11 =>
  bP (fa Q q 561 0 0 x11) fun x12 =>
  bP (fa Q q 486 2 4 x12) fun x13 =>
  bP (ld Q q 3 x13 G10) fun x14 =>
  bP (bn Q q .lss 3 (.tmp 20) (.const (.int .i64 0)) x14 (.int .i64 0)) fun x15 =>
  ifV x15 (
  bP (pNil v0) fun x16 =>
  bP (fa Q q 561 0 0 x16) fun x17 =>
  bS (e.ev.cl 345 [x17, (.int .i64 15)] G10) fun x18 G19 =>
  some (.tuple #[], G19)) (
  some (.tuple #[], G10))
theorem m409 {e : Ex} {E : Ev} (h : ExLe Q e E) (v0 v1 : Value) (G : GS) : Ref (s409 true e v0 v1 G) (s409 false (Ex.of E) v0 v1 G) := by
  unfold s409
  exact Ref.go
theorem f409 {orc : FuncId → Bool} {e : Ex} (h : ExLe Q e (E orc)) (v0 v1 : Value) (G : GS) : Ref (s409 true e v0 v1 G) ((E orc).cl 409 [v0, v1] G) :=
  fun r hr => cl_sxE_some Q orc (vs := [v0, v1]) G Tryz.func409 (by kernel_rfl) (by kernel_rfl) (by kernel_rfl) (by kernel_rfl) (by kernel_rfl) (by kernel_rfl) (m409 h v0 v1 G r hr)
/-- (*coxswain/epoch.Advance).Step -/
noncomputable def s410 (q : Bool) (e : Ex) (v0 v1 : Value) (G : GS) : Option (Value × GS) :=
  bP (ep Q q false 445 (.tmp 5) (.const (.pointer none)) v0 (.pointer none)) fun x0 =>
  bS (gd x0 false (some (v0, G)) G) fun x1 G2 =>
  bS (gd x0 false (bP (pNil x1) fun y => some (y, G2)) G2) fun x3 G4 =>
  bS (gd x0 false (bP (fa Q q 558 0 0 x3) fun y => some (y, G4)) G4) fun x5 G6 =>
  bS (gd x0 false (some (v1, G6)) G6) fun x7 G8 =>
  bS (gd x0 false (bS (e.ev.cl 429 [x5, x7] G8) fun y G => some (y, G)) G8) fun x9 G10 =>
  bP (pickV x0 (.bool true) x9) fun x11 =>
  some (x11, G10)
theorem m410 {e : Ex} {E : Ev} (h : ExLe Q e E) (v0 v1 : Value) (G : GS) : Ref (s410 true e v0 v1 G) (s410 false (Ex.of E) v0 v1 G) := by
  unfold s410
  exact Ref.go
theorem f410 {orc : FuncId → Bool} {e : Ex} (h : ExLe Q e (E orc)) (v0 v1 : Value) (G : GS) : Ref (s410 true e v0 v1 G) ((E orc).cl 410 [v0, v1] G) :=
  fun r hr => cl_sxE_some Q orc (vs := [v0, v1]) G Tryz.func410 (by kernel_rfl) (by kernel_rfl) (by kernel_rfl) (by kernel_rfl) (by kernel_rfl) (by kernel_rfl) (m410 h v0 v1 G r hr)
/-- (*coxswain/epoch.Advance).Err -/
noncomputable def s411 (q : Bool) (e : Ex) (v0 : Value) (G : GS) : Option (Value × GS) :=
  bP (ep Q q false 445 (.tmp 3) (.const (.pointer none)) v0 (.pointer none)) fun x0 =>
  ifV x0 (
  some ((.int .i64 1), G)) (
  bP (pNil v0) fun x1 =>
  bP (fa Q q 558 0 0 x1) fun x2 =>
  bS (e.ev.cl 365 [x2] G) fun x3 G4 =>
  some (x3, G4))
theorem m411 {e : Ex} {E : Ev} (h : ExLe Q e E) (v0 : Value) (G : GS) : Ref (s411 true e v0 G) (s411 false (Ex.of E) v0 G) := by
  unfold s411
  exact Ref.go
theorem f411 {orc : FuncId → Bool} {e : Ex} (h : ExLe Q e (E orc)) (v0 : Value) (G : GS) : Ref (s411 true e v0 G) ((E orc).cl 411 [v0] G) :=
  fun r hr => cl_sxE_some Q orc (vs := [v0]) G Tryz.func411 (by kernel_rfl) (by kernel_rfl) (by kernel_rfl) (by kernel_rfl) (by kernel_rfl) (by kernel_rfl) (m411 h v0 G r hr)
/-- (*coxswain/limbo.Collect).takes -/
noncomputable def s412 (q : Bool) (e : Ex) (v0 v1 : Value) (G : GS) : Option (Value × GS) :=
  bP (pNil v0) fun x0 =>
  bP (fa Q q 450 3 14 x0) fun x1 =>
  bP (ld Q q 446 x1 G) fun x2 =>
  bS (e.ev.cl 430 [x2, v1] G) fun x3 G4 =>
  bP (un Q q .not x3) fun x5 =>
  ifV x5 (
  some ((.func (.func 412) #[v0] #[]), G4)) (
  bP (pNil v0) fun x6 =>
  bP (fa Q q 450 3 14 x6) fun x7 =>
  bP (ld Q q 446 x7 G4) fun x8 =>
  bS (e.ev.cl 431 [x8] G4) fun x9 G10 =>
  bP (pExtract x9 0) fun x11 =>
  bP (pExtract x9 1) fun x12 =>
  bP (bn Q q .neq 33 (.tmp 24) (.const (.int .i64 0)) x12 (.int .i64 0)) fun x13 =>
  ifV x13 (
  some (.nilFunc, G10)) (
  bP (pNil v0) fun x14 =>
  bP (fa Q q 450 4 15 x14) fun x15 =>
  bP (st Q q 3 1 x15 x11 G10) fun G16 =>
  some ((.func (.func 432) #[v0] #[]), G16)))
theorem m412 {e : Ex} {E : Ev} (h : ExLe Q e E) (v0 v1 : Value) (G : GS) : Ref (s412 true e v0 v1 G) (s412 false (Ex.of E) v0 v1 G) := by
  unfold s412
  exact Ref.go
theorem f412 {orc : FuncId → Bool} {e : Ex} (h : ExLe Q e (E orc)) (v0 v1 : Value) (G : GS) : Ref (s412 true e v0 v1 G) ((E orc).cl 412 [v0, v1] G) :=
  fun r hr => cl_sxE_some Q orc (vs := [v0, v1]) G Tryz.func412 (by kernel_rfl) (by kernel_rfl) (by kernel_rfl) (by kernel_rfl) (by kernel_rfl) (by kernel_rfl) (m412 h v0 v1 G r hr)
/-- (*coxswain/stack.Pop).third -/
noncomputable def s419 (q : Bool) (e : Ex) (v0 v1 : Value) (G : GS) : Option (Value × GS) :=
  bP (pNil v0) fun x0 =>
  bP (fa Q q 489 1 9 x0) fun x1 =>
  bP (st Q q 487 1 x1 (.func (.func 335) #[] #[]) G) fun G2 =>
  bP (pNil v0) fun x3 =>
  bP (fa Q q 489 0 0 x3) fun x4 =>
  bP (pNil v0) fun x5 =>
  bP (fa Q q 489 0 0 x5) fun x6 =>
  bP (fa Q q 486 3 5 x6) fun x7 =>
  bP (ld Q q 3 x7 (G2.room 10)) fun x8 =>
  bS (e.ev.cl 435 [x4, v1, x8] (G2.room 10)) fun x10 G9 =>
  ifV x10 (
  bP (pNil v0) fun x11 =>
  bP (fa Q q 489 0 0 x11) fun x12 =>
  bS (e.ev.cl 345 [x12, (.int .i64 0)] G9) fun x13 G14 =>
  some (.tuple #[], G14)) (
  some (.tuple #[], G9))
theorem m419 {e : Ex} {E : Ev} (h : ExLe Q e E) (v0 v1 : Value) (G : GS) : Ref (s419 true e v0 v1 G) (s419 false (Ex.of E) v0 v1 G) := by
  unfold s419
  exact Ref.go
theorem f419 {orc : FuncId → Bool} {e : Ex} (h : ExLe Q e (E orc)) (v0 v1 : Value) (G : GS) : Ref (s419 true e v0 v1 G) ((E orc).cl 419 [v0, v1] G) :=
  fun r hr => cl_sxE_some Q orc (vs := [v0, v1]) G Tryz.func419 (by kernel_rfl) (by kernel_rfl) (by kernel_rfl) (by kernel_rfl) (by kernel_rfl) (by kernel_rfl) (m419 h v0 v1 G r hr)
/-- (*coxswain/stack.held).told -/
noncomputable def s420 (q : Bool) (e : Ex) (v0 : Value) (G : GS) : Option (Value × GS) :=
  bP (ep Q q false 536 (.tmp 4) (.const (.pointer none)) v0 (.pointer none)) fun x0 =>
  bS (gd x0 false (some (v0, G)) G) fun x1 G2 =>
  bS (gd x0 false (bP (pNil x1) fun y => some (y, G2)) G2) fun x3 G4 =>
  bS (gd x0 false (bP (fa Q q 486 4 6 x3) fun y => some (y, G4)) G4) fun x5 G6 =>
  bS (gd x0 false (bP (ld Q q 4 x5 G6) fun y => some (y, G6)) G6) fun x7 G8 =>
  bS (gd x0 false (bP (un Q q .not x7) fun y => some (y, G8)) G8) fun x9 G10 =>
  bP (pickV x0 (.bool true) x9) fun x11 =>
  ifV x11 (
  some ((.int .i64 1), G10)) (
  bP (pNil v0) fun x12 =>
  bP (fa Q q 486 5 7 x12) fun x13 =>
  bP (ld Q q 4 x13 G10) fun x14 =>
  bP (un Q q .not x14) fun x15 =>
  ifV x15 (
  some ((.int .i64 14), G10)) (
  bP (pNil v0) fun x16 =>
  bP (fa Q q 486 6 8 x16) fun x17 =>
  bP (ld Q q 33 x17 G10) fun x18 =>
  some (x18, G10)))
theorem m420 {e : Ex} {E : Ev} (h : ExLe Q e E) (v0 : Value) (G : GS) : Ref (s420 true e v0 G) (s420 false (Ex.of E) v0 G) := by
  unfold s420
  exact Ref.go
theorem f420 {orc : FuncId → Bool} {e : Ex} (h : ExLe Q e (E orc)) (v0 : Value) (G : GS) : Ref (s420 true e v0 G) ((E orc).cl 420 [v0] G) :=
  fun r hr => cl_sxE_some Q orc (vs := [v0]) G Tryz.func420 (by kernel_rfl) (by kernel_rfl) (by kernel_rfl) (by kernel_rfl) (by kernel_rfl) (by kernel_rfl) (m420 h v0 G r hr)
/-- (*coxswain/stack.Push).third -/
noncomputable def s421 (q : Bool) (e : Ex) (v0 v1 : Value) (G : GS) : Option (Value × GS) :=
  bP (pNil v0) fun x0 =>
  bP (fa Q q 498 1 9 x0) fun x1 =>
  bP (st Q q 496 1 x1 (.func (.func 344) #[] #[]) G) fun G2 =>
  bP (pNil v0) fun x3 =>
  bP (fa Q q 498 0 0 x3) fun x4 =>
  bP (pNil v0) fun x5 =>
  bP (fa Q q 498 0 0 x5) fun x6 =>
  bP (fa Q q 486 2 4 x6) fun x7 =>
  bP (ld Q q 3 x7 (G2.room 10)) fun x8 =>
  bS (e.ev.cl 435 [x4, v1, x8] (G2.room 10)) fun x10 G9 =>
  ifV x10 (
  bP (pNil v0) fun x11 =>
  bP (fa Q q 498 0 0 x11) fun x12 =>
  bS (e.ev.cl 345 [x12, (.int .i64 0)] G9) fun x13 G14 =>
  some (.tuple #[], G14)) (
  some (.tuple #[], G9))
theorem m421 {e : Ex} {E : Ev} (h : ExLe Q e E) (v0 v1 : Value) (G : GS) : Ref (s421 true e v0 v1 G) (s421 false (Ex.of E) v0 v1 G) := by
  unfold s421
  exact Ref.go
theorem f421 {orc : FuncId → Bool} {e : Ex} (h : ExLe Q e (E orc)) (v0 v1 : Value) (G : GS) : Ref (s421 true e v0 v1 G) ((E orc).cl 421 [v0, v1] G) :=
  fun r hr => cl_sxE_some Q orc (vs := [v0, v1]) G Tryz.func421 (by kernel_rfl) (by kernel_rfl) (by kernel_rfl) (by kernel_rfl) (by kernel_rfl) (by kernel_rfl) (m421 h v0 v1 G r hr)
/-- coxswain/tower.refused -/
noncomputable def s422 (q : Bool) (e : Ex) (v0 v1 v2 v3 : Value) (G : GS) : Option (Value × GS) :=
  bS (bx q v0 G) fun x0 G1 =>
  bP (lda Q q 31 13 x0 G1) fun x2 =>
  bS (e.ev.cl 102 [x2] G1) fun x3 G4 =>
  bP (un Q q .not x3) fun x5 =>
  ifV x5 (
  some ((.int .i64 2), G4)) (
  bS (e.ev.cl 203 [v1] G4) fun x6 G7 =>
  bP (pExtract x6 0) fun x8 =>
  bP (pExtract x6 1) fun x9 =>
  bS (al Q q 289 z289 G7) fun x10 G11 =>
  bP (st Q q 289 3 x10 x8 G11) fun G12 =>
  bP (bn Q q .neq 33 (.tmp 20) (.const (.int .i64 0)) x9 (.int .i64 0)) fun x13 =>
  ifV x13 (
  some ((.int .i64 5), G12)) (
  bP (fa Q q 289 0 0 x10) fun x14 =>
  bP (ld Q q 3 x14 G12) fun x15 =>
  bP (bn Q q .lss 3 (.tmp 24) (.const (.int .i64 0)) x15 (.int .i64 0)) fun x16 =>
  bS (gd x16 false (bP (fa Q q 289 2 2 x10) fun y => some (y, G12)) G12) fun x17 G18 =>
  bS (gd x16 false (bP (ld Q q 4 x17 G18) fun y => some (y, G18)) G18) fun x19 G20 =>
  bP (pickV x16 (.bool true) x19) fun x21 =>
  bS (gd x21 false (bP (fa Q q 289 0 0 x10) fun y => some (y, G20)) G20) fun x22 G23 =>
  bS (gd x21 false (bP (ld Q q 3 x22 G23) fun y => some (y, G23)) G23) fun x24 G25 =>
  bS (gd x21 false (bP (fa Q q 31 3 3 x0) fun y => some (y, G25)) G25) fun x26 G27 =>
  bS (gd x21 false (bP (fa Q q 29 0 0 x26) fun y => some (y, G27)) G27) fun x28 G29 =>
  bS (gd x21 false (bP (fa Q q 25 0 0 x28) fun y => some (y, G29)) G29) fun x30 G31 =>
  bS (gd x21 false (bP (fa Q q 23 2 2 x30) fun y => some (y, G31)) G31) fun x32 G33 =>
  bS (gd x21 false (bP (ld Q q 3 x32 G33) fun y => some (y, G33)) G33) fun x34 G35 =>
  bS (gd x21 false (bP (bn Q q .geq 3 (.tmp 32) (.tmp 37) x24 x34) fun y => some (y, G35)) G35) fun x36 G37 =>
  bP (pickV x21 (.bool true) x36) fun x38 =>
  bS (gd x38 false (some (v2, G37)) G37) fun x39 G40 =>
  bS (gd x38 false (bP (bn Q q .lss 3 (.tmp 41) (.const (.int .i64 0)) x39 (.int .i64 0)) fun y => some (y, G40)) G40) fun x41 G42 =>
  bP (pickV x38 (.bool true) x41) fun x43 =>
  bS (gd x43 false (some (v2, G42)) G42) fun x44 G45 =>
  bS (gd x43 false (bP (bn Q q .gtr 3 (.tmp 45) (.const (.int .i64 65534)) x44 (.int .i64 65534)) fun y => some (y, G45)) G45) fun x46 G47 =>
  bP (pickV x43 (.bool true) x46) fun x48 =>
  bS (gd x48 false (some (v3, G47)) G47) fun x49 G50 =>
  bS (gd x48 false (bP (bn Q q .lss 3 (.tmp 49) (.const (.int .i64 1)) x49 (.int .i64 1)) fun y => some (y, G50)) G50) fun x51 G52 =>
  bP (pickV x48 (.bool true) x51) fun x53 =>
  bS (gd x53 false (some (v3, G52)) G52) fun x54 G55 =>
  bS (gd x53 false (bP (fa Q q 31 2 2 x0) fun y => some (y, G55)) G55) fun x56 G57 =>
  bS (gd x53 false (bP (ld Q q 3 x56 G57) fun y => some (y, G57)) G57) fun x58 G59 =>
  bS (gd x53 false (bP (bn Q q .gtr 3 (.tmp 53) (.tmp 55) x54 x58) fun y => some (y, G59)) G59) fun x60 G61 =>
  bP (pickV x53 (.bool true) x60) fun x62 =>
  ifV x62 (
  some ((.int .i64 3), G61)) (
  some ((.int .i64 0), G61))))
theorem m422 {e : Ex} {E : Ev} (h : ExLe Q e E) (v0 v1 v2 v3 : Value) (G : GS) : Ref (s422 true e v0 v1 v2 v3 G) (s422 false (Ex.of E) v0 v1 v2 v3 G) := by
  unfold s422
  exact Ref.go
theorem f422 {orc : FuncId → Bool} {e : Ex} (h : ExLe Q e (E orc)) (v0 v1 v2 v3 : Value) (G : GS) : Ref (s422 true e v0 v1 v2 v3 G) ((E orc).cl 422 [v0, v1, v2, v3] G) :=
  fun r hr => cl_sxE_some Q orc (vs := [v0, v1, v2, v3]) G Tryz.func422 (by kernel_rfl) (by kernel_rfl) (by kernel_rfl) (by kernel_rfl) (by kernel_rfl) (by kernel_rfl) (m422 h v0 v1 v2 v3 G r hr)
/-- coxswain/tower.NewLay$1 -/
noncomputable def s423 (q : Bool) (e : Ex) (v0 v1 v2 v3 : Value) (G : GS) : Option (Value × GS) :=
  bS (bx q v0 G) fun x0 G1 =>
  bS (bx q v1 G1) fun x2 G3 =>
  some ((.func (.func 424) #[] #[v2, v3, x0, x2]), G3)
theorem m423 {e : Ex} {E : Ev} (h : ExLe Q e E) (v0 v1 v2 v3 : Value) (G : GS) : Ref (s423 true e v0 v1 v2 v3 G) (s423 false (Ex.of E) v0 v1 v2 v3 G) := by
  unfold s423
  exact Ref.go
theorem f423 {orc : FuncId → Bool} {e : Ex} (h : ExLe Q e (E orc)) (v0 v1 v2 v3 : Value) (G : GS) : Ref (s423 true e v0 v1 v2 v3 G) ((E orc).cl 423 [v0, v1, v2, v3] G) :=
  fun r hr => cl_sxE_some Q orc (vs := [v0, v1, v2, v3]) G Tryz.func423 (by kernel_rfl) (by kernel_rfl) (by kernel_rfl) (by kernel_rfl) (by kernel_rfl) (by kernel_rfl) (m423 h v0 v1 v2 v3 G r hr)
/-- coxswain/tower.NewLay$1$1 -/
noncomputable def s424 (q : Bool) (e : Ex) (v0 v1 v2 v3 v4 : Value) (G : GS) : Option (Value × GS) :=
  bP (lda Q q 31 13 v1 (G.room 7)) fun x0 =>
  bP (ld Q q 3 v2 (G.room 7)) fun x1 =>
  bP (ld Q q 3 v3 (G.room 7)) fun x2 =>
  bS (e.ev.cl 191 [x0, x1, x2] (G.room 7)) fun x4 G3 =>
  bP (ld Q q 41 v4 G3) fun x5 =>
  chk ((sameO (ld Q q 41 v4 (G.room 7)) x5 && true)) <|
  bS (e.ev.cl 45 [v0, x4, x5] G3) fun x7 G6 =>
  some (.tuple #[], G6)
theorem m424 {e : Ex} {E : Ev} (h : ExLe Q e E) (v0 v1 v2 v3 v4 : Value) (G : GS) : Ref (s424 true e v0 v1 v2 v3 v4 G) (s424 false (Ex.of E) v0 v1 v2 v3 v4 G) := by
  unfold s424
  exact Ref.go
theorem f424 {orc : FuncId → Bool} {e : Ex} (h : ExLe Q e (E orc)) (v0 v1 v2 v3 v4 : Value) (G : GS) : Ref (s424 true e v0 v1 v2 v3 v4 G) ((E orc).cl 424 [v0, v1, v2, v3, v4] G) :=
  fun r hr => cl_sxE_some Q orc (vs := [v0, v1, v2, v3, v4]) G Tryz.func424 (by kernel_rfl) (by kernel_rfl) (by kernel_rfl) (by kernel_rfl) (by kernel_rfl) (by kernel_rfl) (m424 h v0 v1 v2 v3 v4 G r hr)
/-- coxswain/insert.refused -/
noncomputable def s425 (q : Bool) (e : Ex) (v0 v1 v2 : Value) (G : GS) : Option (Value × GS) :=
  bS (bx q v0 G) fun x0 G1 =>
  bP (lda Q q 31 13 x0 G1) fun x2 =>
  bS (e.ev.cl 191 [x2, (.int .i64 0), (.int .i64 0)] G1) fun x3 G4 =>
  bP (bn Q q .lss 3 (.tmp 10) (.const (.int .i64 0)) x3 (.int .i64 0)) fun x5 =>
  ifV x5 (
  some ((.int .i64 2), G4)) (
  bS (e.ev.cl 203 [v1] G4) fun x6 G7 =>
  bP (pExtract x6 0) fun x8 =>
  bP (pExtract x6 1) fun x9 =>
  bS (al Q q 289 z289 G7) fun x10 G11 =>
  bP (st Q q 289 3 x10 x8 G11) fun G12 =>
  bP (bn Q q .neq 33 (.tmp 18) (.const (.int .i64 0)) x9 (.int .i64 0)) fun x13 =>
  ifV x13 (
  some ((.int .i64 5), G12)) (
  bP (fa Q q 289 0 0 x10) fun x14 =>
  bP (ld Q q 3 x14 G12) fun x15 =>
  bP (bn Q q .lss 3 (.tmp 22) (.const (.int .i64 0)) x15 (.int .i64 0)) fun x16 =>
  bS (gd x16 false (bP (fa Q q 289 2 2 x10) fun y => some (y, G12)) G12) fun x17 G18 =>
  bS (gd x16 false (bP (ld Q q 4 x17 G18) fun y => some (y, G18)) G18) fun x19 G20 =>
  bP (pickV x16 (.bool true) x19) fun x21 =>
  bS (gd x21 false (bP (fa Q q 289 0 0 x10) fun y => some (y, G20)) G20) fun x22 G23 =>
  bS (gd x21 false (bP (ld Q q 3 x22 G23) fun y => some (y, G23)) G23) fun x24 G25 =>
  bS (gd x21 false (bP (fa Q q 31 3 3 x0) fun y => some (y, G25)) G25) fun x26 G27 =>
  bS (gd x21 false (bP (fa Q q 29 0 0 x26) fun y => some (y, G27)) G27) fun x28 G29 =>
  bS (gd x21 false (bP (fa Q q 25 0 0 x28) fun y => some (y, G29)) G29) fun x30 G31 =>
  bS (gd x21 false (bP (fa Q q 23 2 2 x30) fun y => some (y, G31)) G31) fun x32 G33 =>
  bS (gd x21 false (bP (ld Q q 3 x32 G33) fun y => some (y, G33)) G33) fun x34 G35 =>
  bS (gd x21 false (bP (bn Q q .geq 3 (.tmp 30) (.tmp 35) x24 x34) fun y => some (y, G35)) G35) fun x36 G37 =>
  bP (pickV x21 (.bool true) x36) fun x38 =>
  bS (gd x38 false (some (v2, G37)) G37) fun x39 G40 =>
  bS (gd x38 false (bP (bn Q q .lss 3 (.tmp 39) (.const (.int .i64 1)) x39 (.int .i64 1)) fun y => some (y, G40)) G40) fun x41 G42 =>
  bP (pickV x38 (.bool true) x41) fun x43 =>
  bS (gd x43 false (some (v2, G42)) G42) fun x44 G45 =>
  bS (gd x43 false (bP (fa Q q 31 2 2 x0) fun y => some (y, G45)) G45) fun x46 G47 =>
  bS (gd x43 false (bP (ld Q q 3 x46 G47) fun y => some (y, G47)) G47) fun x48 G49 =>
  bS (gd x43 false (bP (bn Q q .gtr 3 (.tmp 43) (.tmp 45) x44 x48) fun y => some (y, G49)) G49) fun x50 G51 =>
  bP (pickV x43 (.bool true) x50) fun x52 =>
  ifV x52 (
  some ((.int .i64 3), G51)) (
  some ((.int .i64 0), G51))))
theorem m425 {e : Ex} {E : Ev} (h : ExLe Q e E) (v0 v1 v2 : Value) (G : GS) : Ref (s425 true e v0 v1 v2 G) (s425 false (Ex.of E) v0 v1 v2 G) := by
  unfold s425
  exact Ref.go
theorem f425 {orc : FuncId → Bool} {e : Ex} (h : ExLe Q e (E orc)) (v0 v1 v2 : Value) (G : GS) : Ref (s425 true e v0 v1 v2 G) ((E orc).cl 425 [v0, v1, v2] G) :=
  fun r hr => cl_sxE_some Q orc (vs := [v0, v1, v2]) G Tryz.func425 (by kernel_rfl) (by kernel_rfl) (by kernel_rfl) (by kernel_rfl) (by kernel_rfl) (by kernel_rfl) (m425 h v0 v1 v2 G r hr)
/-- (*coxswain/insert.Insert).anew -/
noncomputable def s426 (q : Bool) (e : Ex) (v0 v1 : Value) (G : GS) : Option (Value × GS) :=
  bP (pNil v0) fun x0 =>
  bP (fa Q q 571 0 0 x0) fun x1 =>
  bP (lda Q q 31 13 x1 (G.room 13)) fun x2 =>
  bP (pNil v0) fun x3 =>
  bP (fa Q q 571 4 16 x3) fun x4 =>
  bP (ld Q q 41 x4 (G.room 13)) fun x5 =>
  bS (e.ev.cl 72 [x2, x5] (G.room 13)) fun x7 G6 =>
  bP (pNil v0) fun x8 =>
  bP (fa Q q 571 10 22 x8) fun x9 =>
  bP (st Q q 37 1 x9 x7 G6) fun G10 =>
  some (v1, G10)
theorem m426 {e : Ex} {E : Ev} (h : ExLe Q e E) (v0 v1 : Value) (G : GS) : Ref (s426 true e v0 v1 G) (s426 false (Ex.of E) v0 v1 G) := by
  unfold s426
  exact Ref.go
theorem f426 {orc : FuncId → Bool} {e : Ex} (h : ExLe Q e (E orc)) (v0 v1 : Value) (G : GS) : Ref (s426 true e v0 v1 G) ((E orc).cl 426 [v0, v1] G) :=
  fun r hr => cl_sxE_some Q orc (vs := [v0, v1]) G Tryz.func426 (by kernel_rfl) (by kernel_rfl) (by kernel_rfl) (by kernel_rfl) (by kernel_rfl) (by kernel_rfl) (m426 h v0 v1 G r hr)
/-- (*coxswain/epoch.Advance).turn -/
noncomputable def s427 (q : Bool) (e : Ex) (v0 v1 : Value) (G : GS) : Option (Value × GS) :=
  bS (bx q v0 G) fun x0 G1 =>
  bS (bx q v1 G1) fun x2 G3 =>
  bP (ld Q q 445 x0 G3) fun x4 =>
  bP (pNil x4) fun x5 =>
  bP (fa Q q 558 0 0 x5) fun x6 =>
  bP (fa Q q 510 1 3 x6) fun x7 =>
  bP (st Q q 3 1 x7 (.int .i64 2) G3) fun G8 =>
  bP (ld Q q 445 x0 G8) fun x9 =>
  bP (pNil x9) fun x10 =>
  bP (fa Q q 558 1 6 x10) fun x11 =>
  bP (lda Q q 27 3 x11 G8) fun x12 =>
  bS (e.ev.cl 287 [x12] G8) fun x13 G14 =>
  bX (xRange e.ev x13 #[14, 15] (subAt [1, 1, 1, 0, 0] (bodyOf Tryz.f427)) (subAt [1, 1, 1, 0, 1] (bodyOf Tryz.f427)) (lst 35 (tu (nth undef [v0, v1]) [(2, x0), (3, x2), (5, x4), (6, x5), (7, x6), (8, x7), (9, x9), (10, x10), (11, x11), (12, x12), (13, x13)])) G14) fun e15 T16 G17 =>
  ifE e15 .normal (
  some (.tuple #[], G17)) (ifE e15 .ret (
  some (.tuple #[], G17)) (none))
theorem m427 {e : Ex} {E : Ev} (h : ExLe Q e E) (v0 v1 : Value) (G : GS) : Ref (s427 true e v0 v1 G) (s427 false (Ex.of E) v0 v1 G) := by
  unfold s427
  exact Ref.go
theorem f427 {orc : FuncId → Bool} {e : Ex} (h : ExLe Q e (E orc)) (v0 v1 : Value) (G : GS) : Ref (s427 true e v0 v1 G) ((E orc).cl 427 [v0, v1] G) :=
  fun r hr => cl_sxE_some Q orc (vs := [v0, v1]) G Tryz.func427 (by kernel_rfl) (by kernel_rfl) (by kernel_rfl) (by kernel_rfl) (by kernel_rfl) (by kernel_rfl) (m427 h v0 v1 G r hr)
/-- (*coxswain/stack.All).second -/
noncomputable def s428 (q : Bool) (e : Ex) (v0 v1 : Value) (G : GS) : Option (Value × GS) :=
  bP (pNil v0) fun x0 =>
  bP (fa Q q 561 1 9 x0) fun x1 =>
  bP (st Q q 559 1 x1 (.func (.func 409) #[] #[]) G) fun G2 =>
  bP (pNil v0) fun x3 =>
  bP (fa Q q 561 0 0 x3) fun x4 =>
  bS (e.ev.cl 435 [x4, v1, (.int .i64 (-1))] G2) fun x5 G6 =>
  ifV x5 (
  bP (pNil v0) fun x7 =>
  bP (fa Q q 561 0 0 x7) fun x8 =>
  bS (e.ev.cl 345 [x8, (.int .i64 0)] G6) fun x9 G10 =>
  some (.tuple #[], G10)) (
  some (.tuple #[], G6))
theorem m428 {e : Ex} {E : Ev} (h : ExLe Q e E) (v0 v1 : Value) (G : GS) : Ref (s428 true e v0 v1 G) (s428 false (Ex.of E) v0 v1 G) := by
  unfold s428
  exact Ref.go
theorem f428 {orc : FuncId → Bool} {e : Ex} (h : ExLe Q e (E orc)) (v0 v1 : Value) (G : GS) : Ref (s428 true e v0 v1 G) ((E orc).cl 428 [v0, v1] G) :=
  fun r hr => cl_sxE_some Q orc (vs := [v0, v1]) G Tryz.func428 (by kernel_rfl) (by kernel_rfl) (by kernel_rfl) (by kernel_rfl) (by kernel_rfl) (by kernel_rfl) (m428 h v0 v1 G r hr)
/-- (*coxswain/epoch.lines).step -/
noncomputable def s429 (q : Bool) (e : Ex) (v0 v1 : Value) (G : GS) : Option (Value × GS) :=
  bP (pNil v0) fun x0 =>
  bP (fa Q q 510 2 4 x0) fun x1 =>
  bP (ld Q q 4 x1 G) fun x2 =>
  bP (un Q q .not x2) fun x3 =>
  bS (gd x3 false (some (v0, G)) G) fun x4 G5 =>
  bS (gd x3 false (bP (pNil x4) fun y => some (y, G5)) G5) fun x6 G7 =>
  bS (gd x3 false (bP (fa Q q 510 1 3 x6) fun y => some (y, G7)) G7) fun x8 G9 =>
  bS (gd x3 false (bP (ld Q q 3 x8 G9) fun y => some (y, G9)) G9) fun x10 G11 =>
  bS (gd x3 false (bP (bn Q q .eql 3 (.tmp 14) (.const (.int .i64 (-1))) x10 (.int .i64 (-1))) fun y => some (y, G11)) G11) fun x12 G13 =>
  bP (pickV x3 (.bool true) x12) fun x14 =>
  ifV x14 (
  some ((.bool true), G13)) (
  bP (pNil v0) fun x15 =>
  bP (fa Q q 510 1 3 x15) fun x16 =>
  bP (ld Q q 3 x16 (G13.room 11)) fun x17 =>
  bP (pNil v0) fun x18 =>
  bP (fa Q q 510 0 0 x18) fun x19 =>
  bP (iaa Q q 508 3 1 x19 x17) fun x20 =>
  bP (ld Q q 159 x20 (G13.room 11)) fun x21 =>
  bS (cValue e.ev x21 [v1] (G13.room 11)) fun x23 G22 =>
  bP (pNil v0) fun x24 =>
  bP (fa Q q 510 1 3 x24) fun x25 =>
  bP (ld Q q 3 x25 G22) fun x26 =>
  bP (bn Q q .eql 3 (.tmp 31) (.const (.int .i64 (-1))) x26 (.int .i64 (-1))) fun x27 =>
  some (x27, G22))
theorem m429 {e : Ex} {E : Ev} (h : ExLe Q e E) (v0 v1 : Value) (G : GS) : Ref (s429 true e v0 v1 G) (s429 false (Ex.of E) v0 v1 G) := by
  unfold s429
  exact Ref.go
theorem f429 {orc : FuncId → Bool} {e : Ex} (h : ExLe Q e (E orc)) (v0 v1 : Value) (G : GS) : Ref (s429 true e v0 v1 G) ((E orc).cl 429 [v0, v1] G) :=
  fun r hr => cl_sxE_some Q orc (vs := [v0, v1]) G Tryz.func429 (by kernel_rfl) (by kernel_rfl) (by kernel_rfl) (by kernel_rfl) (by kernel_rfl) (by kernel_rfl) (m429 h v0 v1 G r hr)
/-- (*coxswain/stack.All).Step -/
noncomputable def s430 (q : Bool) (e : Ex) (v0 v1 : Value) (G : GS) : Option (Value × GS) :=
  bP (ep Q q false 446 (.tmp 5) (.const (.pointer none)) v0 (.pointer none)) fun x0 =>
  bS (gd x0 false (some (v0, G)) G) fun x1 G2 =>
  bS (gd x0 false (bP (pNil x1) fun y => some (y, G2)) G2) fun x3 G4 =>
  bS (gd x0 false (bP (fa Q q 561 0 0 x3) fun y => some (y, G4)) G4) fun x5 G6 =>
  bS (gd x0 false (bS (e.ev.cl 393 [x5] G6) fun y G => some (y, G)) G6) fun x7 G8 =>
  bP (pickV x0 (.bool true) x7) fun x9 =>
  ifV x9 (
  some ((.bool true), G8)) (
  bP (pNil v0) fun x10 =>
  bP (fa Q q 561 1 9 x10) fun x11 =>
  bP (ld Q q 559 x11 G8) fun x12 =>
  bS (cValue e.ev x12 [v0, v1] G8) fun x13 G14 =>
  bP (pNil v0) fun x15 =>
  bP (fa Q q 561 0 0 x15) fun x16 =>
  bP (fa Q q 486 5 7 x16) fun x17 =>
  bP (ld Q q 4 x17 G14) fun x18 =>
  some (x18, G14))
theorem m430 {e : Ex} {E : Ev} (h : ExLe Q e E) (v0 v1 : Value) (G : GS) : Ref (s430 true e v0 v1 G) (s430 false (Ex.of E) v0 v1 G) := by
  unfold s430
  exact Ref.go
theorem f430 {orc : FuncId → Bool} {e : Ex} (h : ExLe Q e (E orc)) (v0 v1 : Value) (G : GS) : Ref (s430 true e v0 v1 G) ((E orc).cl 430 [v0, v1] G) :=
  fun r hr => cl_sxE_some Q orc (vs := [v0, v1]) G Tryz.func430 (by kernel_rfl) (by kernel_rfl) (by kernel_rfl) (by kernel_rfl) (by kernel_rfl) (by kernel_rfl) (m430 h v0 v1 G r hr)
/-- (*coxswain/stack.All).Index -/
noncomputable def s431 (q : Bool) (e : Ex) (v0 : Value) (G : GS) : Option (Value × GS) :=
  bP (ep Q q false 446 (.tmp 4) (.const (.pointer none)) v0 (.pointer none)) fun x0 =>
  ifV x0 (
  some (.tuple #[(.int .i64 0), (.int .i64 1)], G)) (
  bP (pNil v0) fun x1 =>
  bP (fa Q q 561 0 0 x1) fun x2 =>
  bS (e.ev.cl 394 [x2] G) fun x3 G4 =>
  bP (pExtract x3 0) fun x5 =>
  bP (pExtract x3 1) fun x6 =>
  some (.tuple #[x5, x6], G4))
theorem m431 {e : Ex} {E : Ev} (h : ExLe Q e E) (v0 : Value) (G : GS) : Ref (s431 true e v0 G) (s431 false (Ex.of E) v0 G) := by
  unfold s431
  exact Ref.go
theorem f431 {orc : FuncId → Bool} {e : Ex} (h : ExLe Q e (E orc)) (v0 : Value) (G : GS) : Ref (s431 true e v0 G) ((E orc).cl 431 [v0] G) :=
  fun r hr => cl_sxE_some Q orc (vs := [v0]) G Tryz.func431 (by kernel_rfl) (by kernel_rfl) (by kernel_rfl) (by kernel_rfl) (by kernel_rfl) (by kernel_rfl) (m431 h v0 G r hr)
/-- (*coxswain/limbo.Collect).links -/
noncomputable def s432 (q : Bool) (e : Ex) (v0 v1 : Value) (G : GS) : Option (Value × GS) :=
  bP (pNil v0) fun x0 =>
  bP (fa Q q 450 1 3 x0) fun x1 =>
  bP (fa Q q 29 0 0 x1) fun x2 =>
  bP (fa Q q 25 0 0 x2) fun x3 =>
  bP (fa Q q 23 1 1 x3) fun x4 =>
  bP (ld Q q 3 x4 (G.room 21)) fun x5 =>
  bP (pNil v0) fun x6 =>
  bP (fa Q q 450 4 15 x6) fun x7 =>
  bP (ld Q q 3 x7 (G.room 21)) fun x8 =>
  bP (bn Q q .add 3 (.tmp 15) (.tmp 19) x5 x8) fun x9 =>
  bS (e.ev.cl 177 [v1, x9] (G.room 21)) fun x11 G10 =>
  bS (e.ev.cl 189 [x11] G10) fun x13 G12 =>
  bP (pExtract x13 0) fun x14 =>
  bP (pExtract x13 1) fun x15 =>
  bS (al Q q 274 z274 (G12.at' (G.nx + 18))) fun x16 G17 =>
  bP (st Q q 274 2 x16 x14 (G17.back G12)) fun G18 =>
  bP (pNil v0) fun x19 =>
  bP (fa Q q 450 1 3 x19) fun x20 =>
  bP (fa Q q 29 0 0 x20) fun x21 =>
  bP (lda Q q 25 6 x21 (G18.room 17)) fun x22 =>
  bP (pNil v0) fun x23 =>
  bP (fa Q q 450 4 15 x23) fun x24 =>
  bP (ld Q q 3 x24 (G18.room 17)) fun x25 =>
  bS (e.ev.cl 187 [x22, x25] (G18.room 17)) fun x27 G26 =>
  bP (fa Q q 274 0 0 x16) fun x28 =>
  bP (ld Q q 3 x28 G26) fun x29 =>
  chk ((sameO (ld Q q 3 x28 (G18.room 17)) x29 && true)) <|
  bP (bd Q q 448 z448 [(0, 0, 1), (1, 1, 1)] [x27, x29]) fun x30 =>
  bP (pNil v0) fun x31 =>
  bP (fa Q q 450 5 16 x31) fun x32 =>
  bP (st Q q 448 2 x32 x30 G26) fun G33 =>
  some ((.func (.func 436) #[v0] #[]), G33)
theorem m432 {e : Ex} {E : Ev} (h : ExLe Q e E) (v0 v1 : Value) (G : GS) : Ref (s432 true e v0 v1 G) (s432 false (Ex.of E) v0 v1 G) := by
  unfold s432
  exact Ref.go
theorem f432 {orc : FuncId → Bool} {e : Ex} (h : ExLe Q e (E orc)) (v0 v1 : Value) (G : GS) : Ref (s432 true e v0 v1 G) ((E orc).cl 432 [v0, v1] G) :=
  fun r hr => cl_sxE_some Q orc (vs := [v0, v1]) G Tryz.func432 (by kernel_rfl) (by kernel_rfl) (by kernel_rfl) (by kernel_rfl) (by kernel_rfl) (by kernel_rfl) (m432 h v0 v1 G r hr)
/-- (*coxswain/stack.held).swap -/
noncomputable def s435 (q : Bool) (e : Ex) (v0 v1 v2 : Value) (G : GS) : Option (Value × GS) :=
  bP (pNil v0) fun x0 =>
  bP (fa Q q 486 1 3 x0) fun x1 =>
  bP (ld Q q 41 x1 G) fun x2 =>
  bS (e.ev.cl 189 [x2] G) fun x3 G4 =>
  bP (pExtract x3 0) fun x5 =>
  bP (pExtract x3 1) fun x6 =>
  bS (al Q q 274 z274 G4) fun x7 G8 =>
  bP (st Q q 274 2 x7 x5 G8) fun G9 =>
  bP (fa Q q 274 1 1 x7) fun x10 =>
  bP (ld Q q 3 x10 G9) fun x11 =>
  bP (bn Q q .add 3 (.tmp 22) (.const (.int .i64 1)) x11 (.int .i64 1)) fun x12 =>
  bP (bn Q q .and 3 (.tmp 23) (.const (.int .i64 281474976710655)) x12 (.int .i64 281474976710655)) fun x13 =>
  bP (bd Q q 274 z274 [(0, 0, 1), (1, 1, 1)] [v2, x13]) fun x14 =>
  bS (e.ev.cl 390 [x14] G9) fun x15 G16 =>
  bP (pExtract x15 0) fun x17 =>
  bP (pExtract x15 1) fun x18 =>
  bP (pNil v0) fun x19 =>
  bP (fa Q q 486 0 0 x19) fun x20 =>
  bP (fa Q q 23 0 0 x20) fun x21 =>
  bP (ld Q q 3 x21 (G16.room 13)) fun x22 =>
  bP (pNil v0) fun x23 =>
  bP (fa Q q 486 1 3 x23) fun x24 =>
  bP (ld Q q 41 x24 (G16.room 13)) fun x25 =>
  bS (e.ev.cl 68 [v1, x22, x25, x17] (G16.room 13)) fun x27 G26 =>
  some (x27, G26)
theorem m435 {e : Ex} {E : Ev} (h : ExLe Q e E) (v0 v1 v2 : Value) (G : GS) : Ref (s435 true e v0 v1 v2 G) (s435 false (Ex.of E) v0 v1 v2 G) := by
  unfold s435
  exact Ref.go
theorem f435 {orc : FuncId → Bool} {e : Ex} (h : ExLe Q e (E orc)) (v0 v1 v2 : Value) (G : GS) : Ref (s435 true e v0 v1 v2 G) ((E orc).cl 435 [v0, v1, v2] G) :=
  fun r hr => cl_sxE_some Q orc (vs := [v0, v1, v2]) G Tryz.func435 (by kernel_rfl) (by kernel_rfl) (by kernel_rfl) (by kernel_rfl) (by kernel_rfl) (by kernel_rfl) (m435 h v0 v1 v2 G r hr)
/-- (*coxswain/limbo.Collect).gives -/
noncomputable def s436 (q : Bool) (e : Ex) (v0 v1 : Value) (G : GS) : Option (Value × GS) :=
  bP (pNil v0) fun x0 =>
  bP (fa Q q 450 5 16 x0) fun x1 =>
  bP (fa Q q 448 0 0 x1) fun x2 =>
  bP (ld Q q 147 x2 G) fun x3 =>
  bS (e.ev.cl 182 [x3, v1] G) fun x4 G5 =>
  bP (un Q q .not x4) fun x6 =>
  ifV x6 (
  some ((.func (.func 436) #[v0] #[]), G5)) (
  bP (pNil v0) fun x7 =>
  bP (fa Q q 450 6 18 x7) fun x8 =>
  bP (ld Q q 3 x8 G5) fun x9 =>
  bP (bn Q q .add 3 (.tmp 18) (.const (.int .i64 1)) x9 (.int .i64 1)) fun x10 =>
  bP (pNil v0) fun x11 =>
  bP (fa Q q 450 6 18 x11) fun x12 =>
  bP (st Q q 3 1 x12 x10 G5) fun G13 =>
  bP (pNil v0) fun x14 =>
  bP (fa Q q 450 5 16 x14) fun x15 =>
  bP (fa Q q 448 1 1 x15) fun x16 =>
  bP (ld Q q 3 x16 G13) fun x17 =>
  bP (pNil v0) fun x18 =>
  bP (fa Q q 450 4 15 x18) fun x19 =>
  bP (st Q q 3 1 x19 x17 G13) fun G20 =>
  bP (pNil v0) fun x21 =>
  bP (fa Q q 450 4 15 x21) fun x22 =>
  bP (ld Q q 3 x22 (G20.room 33)) fun x23 =>
  bP (bn Q q .lss 3 (.tmp 33) (.const (.int .i64 0)) x23 (.int .i64 0)) fun x24 =>
  bS (gd x24 false (some (v0, (G20.room 33))) (G20.room 33)) fun x25 _ =>
  bS (gd x24 false (bP (pNil x25) fun y => some (y, (G20.room 33))) (G20.room 33)) fun x26 _ =>
  bS (gd x24 false (bP (fa Q q 450 4 15 x26) fun y => some (y, (G20.room 33))) (G20.room 33)) fun x27 _ =>
  bS (gd x24 false (bP (ld Q q 3 x27 (G20.room 33)) fun y => some (y, (G20.room 33))) (G20.room 33)) fun x28 _ =>
  bS (gd x24 false (some (v0, (G20.room 33))) (G20.room 33)) fun x29 _ =>
  bS (gd x24 false (bP (pNil x29) fun y => some (y, (G20.room 33))) (G20.room 33)) fun x30 _ =>
  bS (gd x24 false (bP (fa Q q 450 1 3 x30) fun y => some (y, (G20.room 33))) (G20.room 33)) fun x31 _ =>
  bS (gd x24 false (bP (fa Q q 29 0 0 x31) fun y => some (y, (G20.room 33))) (G20.room 33)) fun x32 _ =>
  bS (gd x24 false (bP (fa Q q 25 0 0 x32) fun y => some (y, (G20.room 33))) (G20.room 33)) fun x33 _ =>
  bS (gd x24 false (bP (fa Q q 23 2 2 x33) fun y => some (y, (G20.room 33))) (G20.room 33)) fun x34 _ =>
  bS (gd x24 false (bP (ld Q q 3 x34 (G20.room 33)) fun y => some (y, (G20.room 33))) (G20.room 33)) fun x35 _ =>
  bS (gd x24 false (bP (bn Q q .geq 3 (.tmp 39) (.tmp 46) x28 x35) fun y => some (y, (G20.room 33))) (G20.room 33)) fun x36 _ =>
  bP (pickV x24 (.bool true) x36) fun x37 =>
  bS (gd x37 false (some (v0, (G20.room 33))) (G20.room 33)) fun x38 _ =>
  bS (gd x37 false (bP (pNil x38) fun y => some (y, (G20.room 33))) (G20.room 33)) fun x39 _ =>
  bS (gd x37 false (bP (fa Q q 450 6 18 x39) fun y => some (y, (G20.room 33))) (G20.room 33)) fun x40 _ =>
  bS (gd x37 false (bP (ld Q q 3 x40 (G20.room 33)) fun y => some (y, (G20.room 33))) (G20.room 33)) fun x41 _ =>
  bS (gd x37 false (some (v0, (G20.room 33))) (G20.room 33)) fun x42 _ =>
  bS (gd x37 false (bP (pNil x42) fun y => some (y, (G20.room 33))) (G20.room 33)) fun x43 _ =>
  bS (gd x37 false (bP (fa Q q 450 1 3 x43) fun y => some (y, (G20.room 33))) (G20.room 33)) fun x44 _ =>
  bS (gd x37 false (bP (fa Q q 29 0 0 x44) fun y => some (y, (G20.room 33))) (G20.room 33)) fun x45 _ =>
  bS (gd x37 false (bP (fa Q q 25 0 0 x45) fun y => some (y, (G20.room 33))) (G20.room 33)) fun x46 _ =>
  bS (gd x37 false (bP (fa Q q 23 2 2 x46) fun y => some (y, (G20.room 33))) (G20.room 33)) fun x47 _ =>
  bS (gd x37 false (bP (ld Q q 3 x47 (G20.room 33)) fun y => some (y, (G20.room 33))) (G20.room 33)) fun x48 _ =>
  bS (gd x37 false (bP (bn Q q .geq 3 (.tmp 53) (.tmp 60) x41 x48) fun y => some (y, (G20.room 33))) (G20.room 33)) fun x49 _ =>
  bP (pickV x37 (.bool true) x49) fun x50 =>
  ifV x50 (
  some (.nilFunc, (G20.room 33))) (
  some ((.func (.func 432) #[v0] #[]), (G20.room 33))))
theorem m436 {e : Ex} {E : Ev} (h : ExLe Q e E) (v0 v1 : Value) (G : GS) : Ref (s436 true e v0 v1 G) (s436 false (Ex.of E) v0 v1 G) := by
  unfold s436
  exact Ref.go
theorem f436 {orc : FuncId → Bool} {e : Ex} (h : ExLe Q e (E orc)) (v0 v1 : Value) (G : GS) : Ref (s436 true e v0 v1 G) ((E orc).cl 436 [v0, v1] G) :=
  fun r hr => cl_sxE_some Q orc (vs := [v0, v1]) G Tryz.func436 (by kernel_rfl) (by kernel_rfl) (by kernel_rfl) (by kernel_rfl) (by kernel_rfl) (by kernel_rfl) (m436 h v0 v1 G r hr)
/-- (*coxswain/ready.Tidy).Step -/
noncomputable def s502 (q : Bool) (e : Ex) (v0 v1 : Value) (G : GS) : Option (Value × GS) :=
  bP (ep Q q false 86 (.tmp 5) (.const (.pointer none)) v0 (.pointer none)) fun x0 =>
  bS (gd x0 false (some (v0, G)) G) fun x1 G2 =>
  bS (gd x0 false (bP (pNil x1) fun y => some (y, G2)) G2) fun x3 G4 =>
  bS (gd x0 false (bP (fa Q q 326 0 0 x3) fun y => some (y, G4)) G4) fun x5 G6 =>
  bS (gd x0 false (some (v1, G6)) G6) fun x7 G8 =>
  bS (gd x0 false (bS (e.ev.cl 302 [x5, x7] G8) fun y G => some (y, G)) G8) fun x9 G10 =>
  bP (pickV x0 (.bool true) x9) fun x11 =>
  some (x11, G10)
theorem m502 {e : Ex} {E : Ev} (h : ExLe Q e E) (v0 v1 : Value) (G : GS) : Ref (s502 true e v0 v1 G) (s502 false (Ex.of E) v0 v1 G) := by
  unfold s502
  exact Ref.go
theorem f502 {orc : FuncId → Bool} {e : Ex} (h : ExLe Q e (E orc)) (v0 v1 : Value) (G : GS) : Ref (s502 true e v0 v1 G) ((E orc).cl 502 [v0, v1] G) :=
  fun r hr => cl_sxE_some Q orc (vs := [v0, v1]) G Tryz.func502 (by kernel_rfl) (by kernel_rfl) (by kernel_rfl) (by kernel_rfl) (by kernel_rfl) (by kernel_rfl) (m502 h v0 v1 G r hr)
/-- (coxswain/tower.node).cells -/
noncomputable def s520 (q : Bool) (e : Ex) (v0 : Value) (G : GS) : Option (Value × GS) :=
  bP (bn Q q .add 3 (.const (.int .i64 4)) (.tmp 3) (.int .i64 4) v0) fun x0 =>
  some (x0, G)
theorem m520 {e : Ex} {E : Ev} (h : ExLe Q e E) (v0 : Value) (G : GS) : Ref (s520 true e v0 G) (s520 false (Ex.of E) v0 G) := by
  unfold s520
  exact Ref.go
theorem f520 {orc : FuncId → Bool} {e : Ex} (h : ExLe Q e (E orc)) (v0 : Value) (G : GS) : Ref (s520 true e v0 G) ((E orc).cl 520 [v0] G) :=
  fun r hr => cl_sxE_some Q orc (vs := [v0]) G Tryz.func520 (by kernel_rfl) (by kernel_rfl) (by kernel_rfl) (by kernel_rfl) (by kernel_rfl) (by kernel_rfl) (m520 h v0 G r hr)
/-- (coxswain/tower.head).cells -/
noncomputable def s521 (q : Bool) (e : Ex) (v0 : Value) (G : GS) : Option (Value × GS) :=
  some (v0, G)
theorem m521 {e : Ex} {E : Ev} (h : ExLe Q e E) (v0 : Value) (G : GS) : Ref (s521 true e v0 G) (s521 false (Ex.of E) v0 G) := by
  unfold s521
  exact Ref.go
theorem f521 {orc : FuncId → Bool} {e : Ex} (h : ExLe Q e (E orc)) (v0 : Value) (G : GS) : Ref (s521 true e v0 G) ((E orc).cl 521 [v0] G) :=
  fun r hr => cl_sxE_some Q orc (vs := [v0]) G Tryz.func521 (by kernel_rfl) (by kernel_rfl) (by kernel_rfl) (by kernel_rfl) (by kernel_rfl) (by kernel_rfl) (m521 h v0 G r hr)
/-- (*coxswain/ready.part[*coxswain/claim.Claim]).run -/
noncomputable def s523 (q : Bool) (e : Ex) (v0 v1 : Value) (G : GS) : Option (Value × GS) :=
  bP (pNil v0) fun x0 =>
  bP (fa Q q 317 4 4 x0) fun x1 =>
  bP (ld Q q 4 x1 G) fun x2 =>
  bP (un Q q .not x2) fun x3 =>
  ifV x3 (
  bP (pNil v0) fun x4 =>
  bP (fa Q q 317 0 0 x4) fun x5 =>
  bP (ld Q q 313 x5 G) fun x6 =>
  bS (cValue e.ev x6 [] G) fun x7 G8 =>
  bP (pNil v0) fun x9 =>
  bP (fa Q q 317 3 3 x9) fun x10 =>
  bP (st Q q 36 1 x10 x7 G8) fun G11 =>
  bP (pNil v0) fun x12 =>
  bP (fa Q q 317 4 4 x12) fun x13 =>
  bP (st Q q 4 1 x13 (.bool true) G11) fun G14 =>
  bP (pNil v0) fun x15 =>
  bP (fa Q q 317 3 3 x15) fun x16 =>
  bP (ld Q q 36 x16 G14) fun x17 =>
  bP (ifc Q q 36 x17) fun x18 =>
  bS (cInvoke Q e.ev x18 "Step" [v1] G14) fun x19 G20 =>
  bP (pNil v0) fun x21 =>
  bP (fa Q q 317 1 1 x21) fun x22 =>
  bP (ld Q q 314 x22 G20) fun x23 =>
  bP (ef Q q true 314 (.tmp 34) (.const .nilFunc) x23 .nilFunc) fun x24 =>
  ifV x24 (
  bP (pNil v0) fun x25 =>
  bP (fa Q q 317 1 1 x25) fun x26 =>
  bP (ld Q q 314 x26 (G20.room 10)) fun x27 =>
  bP (pNil v0) fun x28 =>
  bP (fa Q q 317 3 3 x28) fun x29 =>
  bP (ld Q q 36 x29 (G20.room 10)) fun x30 =>
  bS (cValue e.ev x27 [x30] (G20.room 10)) fun x32 G31 =>
  bS (gd x19 true (some (v0, G31)) G31) fun x33 G34 =>
  bS (gd x19 true (bP (pNil x33) fun y => some (y, G34)) G34) fun x35 G36 =>
  bS (gd x19 true (bP (fa Q q 317 2 2 x35) fun y => some (y, G36)) G36) fun x37 G38 =>
  bS (gd x19 true (bP (ld Q q 315 x37 G38) fun y => some (y, G38)) G38) fun x39 G40 =>
  bS (gd x19 true (bP (ef Q q true 315 (.tmp 50) (.const .nilFunc) x39 .nilFunc) fun y => some (y, G40)) G40) fun x41 G42 =>
  bP (pickV x19 x41 (.bool false)) fun x43 =>
  ifV x43 (
  bP (pNil v0) fun x44 =>
  bP (fa Q q 317 2 2 x44) fun x45 =>
  bP (ld Q q 315 x45 (G42.room 9)) fun x46 =>
  bP (pNil v0) fun x47 =>
  bP (fa Q q 317 3 3 x47) fun x48 =>
  bP (ld Q q 36 x48 (G42.room 9)) fun x49 =>
  bS (cValue e.ev x46 [x49] (G42.room 9)) fun x51 G50 =>
  some (.tuple #[x19, x32], G50)) (
  some (.tuple #[x19, x32], G42))) (
  bS (gd x19 true (some (v0, G20)) G20) fun x52 G53 =>
  bS (gd x19 true (bP (pNil x52) fun y => some (y, G53)) G53) fun x54 G55 =>
  bS (gd x19 true (bP (fa Q q 317 2 2 x54) fun y => some (y, G55)) G55) fun x56 G57 =>
  bS (gd x19 true (bP (ld Q q 315 x56 G57) fun y => some (y, G57)) G57) fun x58 G59 =>
  bS (gd x19 true (bP (ef Q q true 315 (.tmp 50) (.const .nilFunc) x58 .nilFunc) fun y => some (y, G59)) G59) fun x60 G61 =>
  bP (pickV x19 x60 (.bool false)) fun x62 =>
  ifV x62 (
  bP (pNil v0) fun x63 =>
  bP (fa Q q 317 2 2 x63) fun x64 =>
  bP (ld Q q 315 x64 (G61.room 9)) fun x65 =>
  bP (pNil v0) fun x66 =>
  bP (fa Q q 317 3 3 x66) fun x67 =>
  bP (ld Q q 36 x67 (G61.room 9)) fun x68 =>
  bS (cValue e.ev x65 [x68] (G61.room 9)) fun x70 G69 =>
  some (.tuple #[x19, (.int .u64 0)], G69)) (
  some (.tuple #[x19, (.int .u64 0)], G61)))) (
  bP (pNil v0) fun x71 =>
  bP (fa Q q 317 3 3 x71) fun x72 =>
  bP (ld Q q 36 x72 G) fun x73 =>
  bP (ifc Q q 36 x73) fun x74 =>
  bS (cInvoke Q e.ev x74 "Step" [v1] G) fun x75 G76 =>
  bP (pNil v0) fun x77 =>
  bP (fa Q q 317 1 1 x77) fun x78 =>
  bP (ld Q q 314 x78 G76) fun x79 =>
  bP (ef Q q true 314 (.tmp 34) (.const .nilFunc) x79 .nilFunc) fun x80 =>
  ifV x80 (
  bP (pNil v0) fun x81 =>
  bP (fa Q q 317 1 1 x81) fun x82 =>
  bP (ld Q q 314 x82 (G76.room 10)) fun x83 =>
  bP (pNil v0) fun x84 =>
  bP (fa Q q 317 3 3 x84) fun x85 =>
  bP (ld Q q 36 x85 (G76.room 10)) fun x86 =>
  bS (cValue e.ev x83 [x86] (G76.room 10)) fun x88 G87 =>
  bS (gd x75 true (some (v0, G87)) G87) fun x89 G90 =>
  bS (gd x75 true (bP (pNil x89) fun y => some (y, G90)) G90) fun x91 G92 =>
  bS (gd x75 true (bP (fa Q q 317 2 2 x91) fun y => some (y, G92)) G92) fun x93 G94 =>
  bS (gd x75 true (bP (ld Q q 315 x93 G94) fun y => some (y, G94)) G94) fun x95 G96 =>
  bS (gd x75 true (bP (ef Q q true 315 (.tmp 50) (.const .nilFunc) x95 .nilFunc) fun y => some (y, G96)) G96) fun x97 G98 =>
  bP (pickV x75 x97 (.bool false)) fun x99 =>
  ifV x99 (
  bP (pNil v0) fun x100 =>
  bP (fa Q q 317 2 2 x100) fun x101 =>
  bP (ld Q q 315 x101 (G98.room 9)) fun x102 =>
  bP (pNil v0) fun x103 =>
  bP (fa Q q 317 3 3 x103) fun x104 =>
  bP (ld Q q 36 x104 (G98.room 9)) fun x105 =>
  bS (cValue e.ev x102 [x105] (G98.room 9)) fun x107 G106 =>
  some (.tuple #[x75, x88], G106)) (
  some (.tuple #[x75, x88], G98))) (
  bS (gd x75 true (some (v0, G76)) G76) fun x108 G109 =>
  bS (gd x75 true (bP (pNil x108) fun y => some (y, G109)) G109) fun x110 G111 =>
  bS (gd x75 true (bP (fa Q q 317 2 2 x110) fun y => some (y, G111)) G111) fun x112 G113 =>
  bS (gd x75 true (bP (ld Q q 315 x112 G113) fun y => some (y, G113)) G113) fun x114 G115 =>
  bS (gd x75 true (bP (ef Q q true 315 (.tmp 50) (.const .nilFunc) x114 .nilFunc) fun y => some (y, G115)) G115) fun x116 G117 =>
  bP (pickV x75 x116 (.bool false)) fun x118 =>
  ifV x118 (
  bP (pNil v0) fun x119 =>
  bP (fa Q q 317 2 2 x119) fun x120 =>
  bP (ld Q q 315 x120 (G117.room 9)) fun x121 =>
  bP (pNil v0) fun x122 =>
  bP (fa Q q 317 3 3 x122) fun x123 =>
  bP (ld Q q 36 x123 (G117.room 9)) fun x124 =>
  bS (cValue e.ev x121 [x124] (G117.room 9)) fun x126 G125 =>
  some (.tuple #[x75, (.int .u64 0)], G125)) (
  some (.tuple #[x75, (.int .u64 0)], G117))))
theorem m523 {e : Ex} {E : Ev} (h : ExLe Q e E) (v0 v1 : Value) (G : GS) : Ref (s523 true e v0 v1 G) (s523 false (Ex.of E) v0 v1 G) := by
  unfold s523
  exact Ref.go
theorem f523 {orc : FuncId → Bool} {e : Ex} (h : ExLe Q e (E orc)) (v0 v1 : Value) (G : GS) : Ref (s523 true e v0 v1 G) ((E orc).cl 523 [v0, v1] G) :=
  fun r hr => cl_sxE_some Q orc (vs := [v0, v1]) G Tryz.func523 (by kernel_rfl) (by kernel_rfl) (by kernel_rfl) (by kernel_rfl) (by kernel_rfl) (by kernel_rfl) (m523 h v0 v1 G r hr)
/-- (*coxswain/ready.part[*coxswain/claim.Peek]).run -/
noncomputable def s524 (q : Bool) (e : Ex) (v0 v1 : Value) (G : GS) : Option (Value × GS) :=
  bP (pNil v0) fun x0 =>
  bP (fa Q q 324 4 4 x0) fun x1 =>
  bP (ld Q q 4 x1 G) fun x2 =>
  bP (un Q q .not x2) fun x3 =>
  ifV x3 (
  bP (pNil v0) fun x4 =>
  bP (fa Q q 324 0 0 x4) fun x5 =>
  bP (ld Q q 320 x5 G) fun x6 =>
  bS (cValue e.ev x6 [] G) fun x7 G8 =>
  bP (pNil v0) fun x9 =>
  bP (fa Q q 324 3 3 x9) fun x10 =>
  bP (st Q q 50 1 x10 x7 G8) fun G11 =>
  bP (pNil v0) fun x12 =>
  bP (fa Q q 324 4 4 x12) fun x13 =>
  bP (st Q q 4 1 x13 (.bool true) G11) fun G14 =>
  bP (pNil v0) fun x15 =>
  bP (fa Q q 324 3 3 x15) fun x16 =>
  bP (ld Q q 50 x16 G14) fun x17 =>
  bP (ifc Q q 50 x17) fun x18 =>
  bS (cInvoke Q e.ev x18 "Step" [v1] G14) fun x19 G20 =>
  bP (pNil v0) fun x21 =>
  bP (fa Q q 324 1 1 x21) fun x22 =>
  bP (ld Q q 321 x22 G20) fun x23 =>
  bP (ef Q q true 321 (.tmp 34) (.const .nilFunc) x23 .nilFunc) fun x24 =>
  ifV x24 (
  bP (pNil v0) fun x25 =>
  bP (fa Q q 324 1 1 x25) fun x26 =>
  bP (ld Q q 321 x26 (G20.room 10)) fun x27 =>
  bP (pNil v0) fun x28 =>
  bP (fa Q q 324 3 3 x28) fun x29 =>
  bP (ld Q q 50 x29 (G20.room 10)) fun x30 =>
  bS (cValue e.ev x27 [x30] (G20.room 10)) fun x32 G31 =>
  bS (gd x19 true (some (v0, G31)) G31) fun x33 G34 =>
  bS (gd x19 true (bP (pNil x33) fun y => some (y, G34)) G34) fun x35 G36 =>
  bS (gd x19 true (bP (fa Q q 324 2 2 x35) fun y => some (y, G36)) G36) fun x37 G38 =>
  bS (gd x19 true (bP (ld Q q 322 x37 G38) fun y => some (y, G38)) G38) fun x39 G40 =>
  bS (gd x19 true (bP (ef Q q true 322 (.tmp 50) (.const .nilFunc) x39 .nilFunc) fun y => some (y, G40)) G40) fun x41 G42 =>
  bP (pickV x19 x41 (.bool false)) fun x43 =>
  ifV x43 (
  bP (pNil v0) fun x44 =>
  bP (fa Q q 324 2 2 x44) fun x45 =>
  bP (ld Q q 322 x45 (G42.room 9)) fun x46 =>
  bP (pNil v0) fun x47 =>
  bP (fa Q q 324 3 3 x47) fun x48 =>
  bP (ld Q q 50 x48 (G42.room 9)) fun x49 =>
  bS (cValue e.ev x46 [x49] (G42.room 9)) fun x51 G50 =>
  some (.tuple #[x19, x32], G50)) (
  some (.tuple #[x19, x32], G42))) (
  bS (gd x19 true (some (v0, G20)) G20) fun x52 G53 =>
  bS (gd x19 true (bP (pNil x52) fun y => some (y, G53)) G53) fun x54 G55 =>
  bS (gd x19 true (bP (fa Q q 324 2 2 x54) fun y => some (y, G55)) G55) fun x56 G57 =>
  bS (gd x19 true (bP (ld Q q 322 x56 G57) fun y => some (y, G57)) G57) fun x58 G59 =>
  bS (gd x19 true (bP (ef Q q true 322 (.tmp 50) (.const .nilFunc) x58 .nilFunc) fun y => some (y, G59)) G59) fun x60 G61 =>
  bP (pickV x19 x60 (.bool false)) fun x62 =>
  ifV x62 (
  bP (pNil v0) fun x63 =>
  bP (fa Q q 324 2 2 x63) fun x64 =>
  bP (ld Q q 322 x64 (G61.room 9)) fun x65 =>
  bP (pNil v0) fun x66 =>
  bP (fa Q q 324 3 3 x66) fun x67 =>
  bP (ld Q q 50 x67 (G61.room 9)) fun x68 =>
  bS (cValue e.ev x65 [x68] (G61.room 9)) fun x70 G69 =>
  some (.tuple #[x19, (.int .u64 0)], G69)) (
  some (.tuple #[x19, (.int .u64 0)], G61)))) (
  bP (pNil v0) fun x71 =>
  bP (fa Q q 324 3 3 x71) fun x72 =>
  bP (ld Q q 50 x72 G) fun x73 =>
  bP (ifc Q q 50 x73) fun x74 =>
  bS (cInvoke Q e.ev x74 "Step" [v1] G) fun x75 G76 =>
  bP (pNil v0) fun x77 =>
  bP (fa Q q 324 1 1 x77) fun x78 =>
  bP (ld Q q 321 x78 G76) fun x79 =>
  bP (ef Q q true 321 (.tmp 34) (.const .nilFunc) x79 .nilFunc) fun x80 =>
  ifV x80 (
  bP (pNil v0) fun x81 =>
  bP (fa Q q 324 1 1 x81) fun x82 =>
  bP (ld Q q 321 x82 (G76.room 10)) fun x83 =>
  bP (pNil v0) fun x84 =>
  bP (fa Q q 324 3 3 x84) fun x85 =>
  bP (ld Q q 50 x85 (G76.room 10)) fun x86 =>
  bS (cValue e.ev x83 [x86] (G76.room 10)) fun x88 G87 =>
  bS (gd x75 true (some (v0, G87)) G87) fun x89 G90 =>
  bS (gd x75 true (bP (pNil x89) fun y => some (y, G90)) G90) fun x91 G92 =>
  bS (gd x75 true (bP (fa Q q 324 2 2 x91) fun y => some (y, G92)) G92) fun x93 G94 =>
  bS (gd x75 true (bP (ld Q q 322 x93 G94) fun y => some (y, G94)) G94) fun x95 G96 =>
  bS (gd x75 true (bP (ef Q q true 322 (.tmp 50) (.const .nilFunc) x95 .nilFunc) fun y => some (y, G96)) G96) fun x97 G98 =>
  bP (pickV x75 x97 (.bool false)) fun x99 =>
  ifV x99 (
  bP (pNil v0) fun x100 =>
  bP (fa Q q 324 2 2 x100) fun x101 =>
  bP (ld Q q 322 x101 (G98.room 9)) fun x102 =>
  bP (pNil v0) fun x103 =>
  bP (fa Q q 324 3 3 x103) fun x104 =>
  bP (ld Q q 50 x104 (G98.room 9)) fun x105 =>
  bS (cValue e.ev x102 [x105] (G98.room 9)) fun x107 G106 =>
  some (.tuple #[x75, x88], G106)) (
  some (.tuple #[x75, x88], G98))) (
  bS (gd x75 true (some (v0, G76)) G76) fun x108 G109 =>
  bS (gd x75 true (bP (pNil x108) fun y => some (y, G109)) G109) fun x110 G111 =>
  bS (gd x75 true (bP (fa Q q 324 2 2 x110) fun y => some (y, G111)) G111) fun x112 G113 =>
  bS (gd x75 true (bP (ld Q q 322 x112 G113) fun y => some (y, G113)) G113) fun x114 G115 =>
  bS (gd x75 true (bP (ef Q q true 322 (.tmp 50) (.const .nilFunc) x114 .nilFunc) fun y => some (y, G115)) G115) fun x116 G117 =>
  bP (pickV x75 x116 (.bool false)) fun x118 =>
  ifV x118 (
  bP (pNil v0) fun x119 =>
  bP (fa Q q 324 2 2 x119) fun x120 =>
  bP (ld Q q 322 x120 (G117.room 9)) fun x121 =>
  bP (pNil v0) fun x122 =>
  bP (fa Q q 324 3 3 x122) fun x123 =>
  bP (ld Q q 50 x123 (G117.room 9)) fun x124 =>
  bS (cValue e.ev x121 [x124] (G117.room 9)) fun x126 G125 =>
  some (.tuple #[x75, (.int .u64 0)], G125)) (
  some (.tuple #[x75, (.int .u64 0)], G117))))
theorem m524 {e : Ex} {E : Ev} (h : ExLe Q e E) (v0 v1 : Value) (G : GS) : Ref (s524 true e v0 v1 G) (s524 false (Ex.of E) v0 v1 G) := by
  unfold s524
  exact Ref.go
theorem f524 {orc : FuncId → Bool} {e : Ex} (h : ExLe Q e (E orc)) (v0 v1 : Value) (G : GS) : Ref (s524 true e v0 v1 G) ((E orc).cl 524 [v0, v1] G) :=
  fun r hr => cl_sxE_some Q orc (vs := [v0, v1]) G Tryz.func524 (by kernel_rfl) (by kernel_rfl) (by kernel_rfl) (by kernel_rfl) (by kernel_rfl) (by kernel_rfl) (m524 h v0 v1 G r hr)
/-- (*coxswain/limbo.Collect).Step -/
noncomputable def s525 (q : Bool) (e : Ex) (v0 v1 : Value) (G : GS) : Option (Value × GS) :=
  bP (ep Q q false 328 (.tmp 5) (.const (.pointer none)) v0 (.pointer none)) fun x0 =>
  bS (gd x0 false (some (v0, G)) G) fun x1 G2 =>
  bS (gd x0 false (bP (pNil x1) fun y => some (y, G2)) G2) fun x3 G4 =>
  bS (gd x0 false (bP (fa Q q 450 0 0 x3) fun y => some (y, G4)) G4) fun x5 G6 =>
  bS (gd x0 false (some (v1, G6)) G6) fun x7 G8 =>
  bS (gd x0 false (bS (e.ev.cl 281 [x5, x7] G8) fun y G => some (y, G)) G8) fun x9 G10 =>
  bP (pickV x0 (.bool true) x9) fun x11 =>
  some (x11, G10)
theorem m525 {e : Ex} {E : Ev} (h : ExLe Q e E) (v0 v1 : Value) (G : GS) : Ref (s525 true e v0 v1 G) (s525 false (Ex.of E) v0 v1 G) := by
  unfold s525
  exact Ref.go
theorem f525 {orc : FuncId → Bool} {e : Ex} (h : ExLe Q e (E orc)) (v0 v1 : Value) (G : GS) : Ref (s525 true e v0 v1 G) ((E orc).cl 525 [v0, v1] G) :=
  fun r hr => cl_sxE_some Q orc (vs := [v0, v1]) G Tryz.func525 (by kernel_rfl) (by kernel_rfl) (by kernel_rfl) (by kernel_rfl) (by kernel_rfl) (by kernel_rfl) (m525 h v0 v1 G r hr)
/-- (*coxswain/ready.part[*coxswain/epoch.Pin]).run -/
noncomputable def s529 (q : Bool) (e : Ex) (v0 v1 : Value) (G : GS) : Option (Value × GS) :=
  bP (pNil v0) fun x0 =>
  bP (fa Q q 423 4 4 x0) fun x1 =>
  bP (ld Q q 4 x1 G) fun x2 =>
  bP (un Q q .not x2) fun x3 =>
  ifV x3 (
  bP (pNil v0) fun x4 =>
  bP (fa Q q 423 0 0 x4) fun x5 =>
  bP (ld Q q 419 x5 G) fun x6 =>
  bS (cValue e.ev x6 [] G) fun x7 G8 =>
  bP (pNil v0) fun x9 =>
  bP (fa Q q 423 3 3 x9) fun x10 =>
  bP (st Q q 417 1 x10 x7 G8) fun G11 =>
  bP (pNil v0) fun x12 =>
  bP (fa Q q 423 4 4 x12) fun x13 =>
  bP (st Q q 4 1 x13 (.bool true) G11) fun G14 =>
  bP (pNil v0) fun x15 =>
  bP (fa Q q 423 3 3 x15) fun x16 =>
  bP (ld Q q 417 x16 G14) fun x17 =>
  bP (ifc Q q 417 x17) fun x18 =>
  bS (cInvoke Q e.ev x18 "Step" [v1] G14) fun x19 G20 =>
  bP (pNil v0) fun x21 =>
  bP (fa Q q 423 1 1 x21) fun x22 =>
  bP (ld Q q 421 x22 G20) fun x23 =>
  bP (ef Q q true 421 (.tmp 34) (.const .nilFunc) x23 .nilFunc) fun x24 =>
  ifV x24 (
  bP (pNil v0) fun x25 =>
  bP (fa Q q 423 1 1 x25) fun x26 =>
  bP (ld Q q 421 x26 (G20.room 10)) fun x27 =>
  bP (pNil v0) fun x28 =>
  bP (fa Q q 423 3 3 x28) fun x29 =>
  bP (ld Q q 417 x29 (G20.room 10)) fun x30 =>
  bS (cValue e.ev x27 [x30] (G20.room 10)) fun x32 G31 =>
  bS (gd x19 true (some (v0, G31)) G31) fun x33 G34 =>
  bS (gd x19 true (bP (pNil x33) fun y => some (y, G34)) G34) fun x35 G36 =>
  bS (gd x19 true (bP (fa Q q 423 2 2 x35) fun y => some (y, G36)) G36) fun x37 G38 =>
  bS (gd x19 true (bP (ld Q q 420 x37 G38) fun y => some (y, G38)) G38) fun x39 G40 =>
  bS (gd x19 true (bP (ef Q q true 420 (.tmp 50) (.const .nilFunc) x39 .nilFunc) fun y => some (y, G40)) G40) fun x41 G42 =>
  bP (pickV x19 x41 (.bool false)) fun x43 =>
  ifV x43 (
  bP (pNil v0) fun x44 =>
  bP (fa Q q 423 2 2 x44) fun x45 =>
  bP (ld Q q 420 x45 (G42.room 9)) fun x46 =>
  bP (pNil v0) fun x47 =>
  bP (fa Q q 423 3 3 x47) fun x48 =>
  bP (ld Q q 417 x48 (G42.room 9)) fun x49 =>
  bS (cValue e.ev x46 [x49] (G42.room 9)) fun x51 G50 =>
  some (.tuple #[x19, x32], G50)) (
  some (.tuple #[x19, x32], G42))) (
  bS (gd x19 true (some (v0, G20)) G20) fun x52 G53 =>
  bS (gd x19 true (bP (pNil x52) fun y => some (y, G53)) G53) fun x54 G55 =>
  bS (gd x19 true (bP (fa Q q 423 2 2 x54) fun y => some (y, G55)) G55) fun x56 G57 =>
  bS (gd x19 true (bP (ld Q q 420 x56 G57) fun y => some (y, G57)) G57) fun x58 G59 =>
  bS (gd x19 true (bP (ef Q q true 420 (.tmp 50) (.const .nilFunc) x58 .nilFunc) fun y => some (y, G59)) G59) fun x60 G61 =>
  bP (pickV x19 x60 (.bool false)) fun x62 =>
  ifV x62 (
  bP (pNil v0) fun x63 =>
  bP (fa Q q 423 2 2 x63) fun x64 =>
  bP (ld Q q 420 x64 (G61.room 9)) fun x65 =>
  bP (pNil v0) fun x66 =>
  bP (fa Q q 423 3 3 x66) fun x67 =>
  bP (ld Q q 417 x67 (G61.room 9)) fun x68 =>
  bS (cValue e.ev x65 [x68] (G61.room 9)) fun x70 G69 =>
  some (.tuple #[x19, (.int .u64 0)], G69)) (
  some (.tuple #[x19, (.int .u64 0)], G61)))) (
  bP (pNil v0) fun x71 =>
  bP (fa Q q 423 3 3 x71) fun x72 =>
  bP (ld Q q 417 x72 G) fun x73 =>
  bP (ifc Q q 417 x73) fun x74 =>
  bS (cInvoke Q e.ev x74 "Step" [v1] G) fun x75 G76 =>
  bP (pNil v0) fun x77 =>
  bP (fa Q q 423 1 1 x77) fun x78 =>
  bP (ld Q q 421 x78 G76) fun x79 =>
  bP (ef Q q true 421 (.tmp 34) (.const .nilFunc) x79 .nilFunc) fun x80 =>
  ifV x80 (
  bP (pNil v0) fun x81 =>
  bP (fa Q q 423 1 1 x81) fun x82 =>
  bP (ld Q q 421 x82 (G76.room 10)) fun x83 =>
  bP (pNil v0) fun x84 =>
  bP (fa Q q 423 3 3 x84) fun x85 =>
  bP (ld Q q 417 x85 (G76.room 10)) fun x86 =>
  bS (cValue e.ev x83 [x86] (G76.room 10)) fun x88 G87 =>
  bS (gd x75 true (some (v0, G87)) G87) fun x89 G90 =>
  bS (gd x75 true (bP (pNil x89) fun y => some (y, G90)) G90) fun x91 G92 =>
  bS (gd x75 true (bP (fa Q q 423 2 2 x91) fun y => some (y, G92)) G92) fun x93 G94 =>
  bS (gd x75 true (bP (ld Q q 420 x93 G94) fun y => some (y, G94)) G94) fun x95 G96 =>
  bS (gd x75 true (bP (ef Q q true 420 (.tmp 50) (.const .nilFunc) x95 .nilFunc) fun y => some (y, G96)) G96) fun x97 G98 =>
  bP (pickV x75 x97 (.bool false)) fun x99 =>
  ifV x99 (
  bP (pNil v0) fun x100 =>
  bP (fa Q q 423 2 2 x100) fun x101 =>
  bP (ld Q q 420 x101 (G98.room 9)) fun x102 =>
  bP (pNil v0) fun x103 =>
  bP (fa Q q 423 3 3 x103) fun x104 =>
  bP (ld Q q 417 x104 (G98.room 9)) fun x105 =>
  bS (cValue e.ev x102 [x105] (G98.room 9)) fun x107 G106 =>
  some (.tuple #[x75, x88], G106)) (
  some (.tuple #[x75, x88], G98))) (
  bS (gd x75 true (some (v0, G76)) G76) fun x108 G109 =>
  bS (gd x75 true (bP (pNil x108) fun y => some (y, G109)) G109) fun x110 G111 =>
  bS (gd x75 true (bP (fa Q q 423 2 2 x110) fun y => some (y, G111)) G111) fun x112 G113 =>
  bS (gd x75 true (bP (ld Q q 420 x112 G113) fun y => some (y, G113)) G113) fun x114 G115 =>
  bS (gd x75 true (bP (ef Q q true 420 (.tmp 50) (.const .nilFunc) x114 .nilFunc) fun y => some (y, G115)) G115) fun x116 G117 =>
  bP (pickV x75 x116 (.bool false)) fun x118 =>
  ifV x118 (
  bP (pNil v0) fun x119 =>
  bP (fa Q q 423 2 2 x119) fun x120 =>
  bP (ld Q q 420 x120 (G117.room 9)) fun x121 =>
  bP (pNil v0) fun x122 =>
  bP (fa Q q 423 3 3 x122) fun x123 =>
  bP (ld Q q 417 x123 (G117.room 9)) fun x124 =>
  bS (cValue e.ev x121 [x124] (G117.room 9)) fun x126 G125 =>
  some (.tuple #[x75, (.int .u64 0)], G125)) (
  some (.tuple #[x75, (.int .u64 0)], G117))))
theorem m529 {e : Ex} {E : Ev} (h : ExLe Q e E) (v0 v1 : Value) (G : GS) : Ref (s529 true e v0 v1 G) (s529 false (Ex.of E) v0 v1 G) := by
  unfold s529
  exact Ref.go
theorem f529 {orc : FuncId → Bool} {e : Ex} (h : ExLe Q e (E orc)) (v0 v1 : Value) (G : GS) : Ref (s529 true e v0 v1 G) ((E orc).cl 529 [v0, v1] G) :=
  fun r hr => cl_sxE_some Q orc (vs := [v0, v1]) G Tryz.func529 (by kernel_rfl) (by kernel_rfl) (by kernel_rfl) (by kernel_rfl) (by kernel_rfl) (by kernel_rfl) (m529 h v0 v1 G r hr)
/-- (*coxswain/epoch.Pin).Step -/
noncomputable def s530 (q : Bool) (e : Ex) (v0 v1 : Value) (G : GS) : Option (Value × GS) :=
  bP (ep Q q false 417 (.tmp 5) (.const (.pointer none)) v0 (.pointer none)) fun x0 =>
  bS (gd x0 false (some (v0, G)) G) fun x1 G2 =>
  bS (gd x0 false (bP (pNil x1) fun y => some (y, G2)) G2) fun x3 G4 =>
  bS (gd x0 false (bP (fa Q q 512 0 0 x3) fun y => some (y, G4)) G4) fun x5 G6 =>
  bS (gd x0 false (some (v1, G6)) G6) fun x7 G8 =>
  bS (gd x0 false (bS (e.ev.cl 429 [x5, x7] G8) fun y G => some (y, G)) G8) fun x9 G10 =>
  bP (pickV x0 (.bool true) x9) fun x11 =>
  some (x11, G10)
theorem m530 {e : Ex} {E : Ev} (h : ExLe Q e E) (v0 v1 : Value) (G : GS) : Ref (s530 true e v0 v1 G) (s530 false (Ex.of E) v0 v1 G) := by
  unfold s530
  exact Ref.go
theorem f530 {orc : FuncId → Bool} {e : Ex} (h : ExLe Q e (E orc)) (v0 v1 : Value) (G : GS) : Ref (s530 true e v0 v1 G) ((E orc).cl 530 [v0, v1] G) :=
  fun r hr => cl_sxE_some Q orc (vs := [v0, v1]) G Tryz.func530 (by kernel_rfl) (by kernel_rfl) (by kernel_rfl) (by kernel_rfl) (by kernel_rfl) (by kernel_rfl) (m530 h v0 v1 G r hr)
/-- (*coxswain/ready.part[*coxswain/arena.Alloc]).run -/
noncomputable def s531 (q : Bool) (e : Ex) (v0 v1 : Value) (G : GS) : Option (Value × GS) :=
  bP (pNil v0) fun x0 =>
  bP (fa Q q 429 4 4 x0) fun x1 =>
  bP (ld Q q 4 x1 G) fun x2 =>
  bP (un Q q .not x2) fun x3 =>
  ifV x3 (
  bP (pNil v0) fun x4 =>
  bP (fa Q q 429 0 0 x4) fun x5 =>
  bP (ld Q q 425 x5 G) fun x6 =>
  bS (cValue e.ev x6 [] G) fun x7 G8 =>
  bP (pNil v0) fun x9 =>
  bP (fa Q q 429 3 3 x9) fun x10 =>
  bP (st Q q 145 1 x10 x7 G8) fun G11 =>
  bP (pNil v0) fun x12 =>
  bP (fa Q q 429 4 4 x12) fun x13 =>
  bP (st Q q 4 1 x13 (.bool true) G11) fun G14 =>
  bP (pNil v0) fun x15 =>
  bP (fa Q q 429 3 3 x15) fun x16 =>
  bP (ld Q q 145 x16 G14) fun x17 =>
  bP (ifc Q q 145 x17) fun x18 =>
  bS (cInvoke Q e.ev x18 "Step" [v1] G14) fun x19 G20 =>
  bP (pNil v0) fun x21 =>
  bP (fa Q q 429 1 1 x21) fun x22 =>
  bP (ld Q q 427 x22 G20) fun x23 =>
  bP (ef Q q true 427 (.tmp 34) (.const .nilFunc) x23 .nilFunc) fun x24 =>
  ifV x24 (
  bP (pNil v0) fun x25 =>
  bP (fa Q q 429 1 1 x25) fun x26 =>
  bP (ld Q q 427 x26 (G20.room 10)) fun x27 =>
  bP (pNil v0) fun x28 =>
  bP (fa Q q 429 3 3 x28) fun x29 =>
  bP (ld Q q 145 x29 (G20.room 10)) fun x30 =>
  bS (cValue e.ev x27 [x30] (G20.room 10)) fun x32 G31 =>
  bS (gd x19 true (some (v0, G31)) G31) fun x33 G34 =>
  bS (gd x19 true (bP (pNil x33) fun y => some (y, G34)) G34) fun x35 G36 =>
  bS (gd x19 true (bP (fa Q q 429 2 2 x35) fun y => some (y, G36)) G36) fun x37 G38 =>
  bS (gd x19 true (bP (ld Q q 426 x37 G38) fun y => some (y, G38)) G38) fun x39 G40 =>
  bS (gd x19 true (bP (ef Q q true 426 (.tmp 50) (.const .nilFunc) x39 .nilFunc) fun y => some (y, G40)) G40) fun x41 G42 =>
  bP (pickV x19 x41 (.bool false)) fun x43 =>
  ifV x43 (
  bP (pNil v0) fun x44 =>
  bP (fa Q q 429 2 2 x44) fun x45 =>
  bP (ld Q q 426 x45 (G42.room 9)) fun x46 =>
  bP (pNil v0) fun x47 =>
  bP (fa Q q 429 3 3 x47) fun x48 =>
  bP (ld Q q 145 x48 (G42.room 9)) fun x49 =>
  bS (cValue e.ev x46 [x49] (G42.room 9)) fun x51 G50 =>
  some (.tuple #[x19, x32], G50)) (
  some (.tuple #[x19, x32], G42))) (
  bS (gd x19 true (some (v0, G20)) G20) fun x52 G53 =>
  bS (gd x19 true (bP (pNil x52) fun y => some (y, G53)) G53) fun x54 G55 =>
  bS (gd x19 true (bP (fa Q q 429 2 2 x54) fun y => some (y, G55)) G55) fun x56 G57 =>
  bS (gd x19 true (bP (ld Q q 426 x56 G57) fun y => some (y, G57)) G57) fun x58 G59 =>
  bS (gd x19 true (bP (ef Q q true 426 (.tmp 50) (.const .nilFunc) x58 .nilFunc) fun y => some (y, G59)) G59) fun x60 G61 =>
  bP (pickV x19 x60 (.bool false)) fun x62 =>
  ifV x62 (
  bP (pNil v0) fun x63 =>
  bP (fa Q q 429 2 2 x63) fun x64 =>
  bP (ld Q q 426 x64 (G61.room 9)) fun x65 =>
  bP (pNil v0) fun x66 =>
  bP (fa Q q 429 3 3 x66) fun x67 =>
  bP (ld Q q 145 x67 (G61.room 9)) fun x68 =>
  bS (cValue e.ev x65 [x68] (G61.room 9)) fun x70 G69 =>
  some (.tuple #[x19, (.int .u64 0)], G69)) (
  some (.tuple #[x19, (.int .u64 0)], G61)))) (
  bP (pNil v0) fun x71 =>
  bP (fa Q q 429 3 3 x71) fun x72 =>
  bP (ld Q q 145 x72 G) fun x73 =>
  bP (ifc Q q 145 x73) fun x74 =>
  bS (cInvoke Q e.ev x74 "Step" [v1] G) fun x75 G76 =>
  bP (pNil v0) fun x77 =>
  bP (fa Q q 429 1 1 x77) fun x78 =>
  bP (ld Q q 427 x78 G76) fun x79 =>
  bP (ef Q q true 427 (.tmp 34) (.const .nilFunc) x79 .nilFunc) fun x80 =>
  ifV x80 (
  bP (pNil v0) fun x81 =>
  bP (fa Q q 429 1 1 x81) fun x82 =>
  bP (ld Q q 427 x82 (G76.room 10)) fun x83 =>
  bP (pNil v0) fun x84 =>
  bP (fa Q q 429 3 3 x84) fun x85 =>
  bP (ld Q q 145 x85 (G76.room 10)) fun x86 =>
  bS (cValue e.ev x83 [x86] (G76.room 10)) fun x88 G87 =>
  bS (gd x75 true (some (v0, G87)) G87) fun x89 G90 =>
  bS (gd x75 true (bP (pNil x89) fun y => some (y, G90)) G90) fun x91 G92 =>
  bS (gd x75 true (bP (fa Q q 429 2 2 x91) fun y => some (y, G92)) G92) fun x93 G94 =>
  bS (gd x75 true (bP (ld Q q 426 x93 G94) fun y => some (y, G94)) G94) fun x95 G96 =>
  bS (gd x75 true (bP (ef Q q true 426 (.tmp 50) (.const .nilFunc) x95 .nilFunc) fun y => some (y, G96)) G96) fun x97 G98 =>
  bP (pickV x75 x97 (.bool false)) fun x99 =>
  ifV x99 (
  bP (pNil v0) fun x100 =>
  bP (fa Q q 429 2 2 x100) fun x101 =>
  bP (ld Q q 426 x101 (G98.room 9)) fun x102 =>
  bP (pNil v0) fun x103 =>
  bP (fa Q q 429 3 3 x103) fun x104 =>
  bP (ld Q q 145 x104 (G98.room 9)) fun x105 =>
  bS (cValue e.ev x102 [x105] (G98.room 9)) fun x107 G106 =>
  some (.tuple #[x75, x88], G106)) (
  some (.tuple #[x75, x88], G98))) (
  bS (gd x75 true (some (v0, G76)) G76) fun x108 G109 =>
  bS (gd x75 true (bP (pNil x108) fun y => some (y, G109)) G109) fun x110 G111 =>
  bS (gd x75 true (bP (fa Q q 429 2 2 x110) fun y => some (y, G111)) G111) fun x112 G113 =>
  bS (gd x75 true (bP (ld Q q 426 x112 G113) fun y => some (y, G113)) G113) fun x114 G115 =>
  bS (gd x75 true (bP (ef Q q true 426 (.tmp 50) (.const .nilFunc) x114 .nilFunc) fun y => some (y, G115)) G115) fun x116 G117 =>
  bP (pickV x75 x116 (.bool false)) fun x118 =>
  ifV x118 (
  bP (pNil v0) fun x119 =>
  bP (fa Q q 429 2 2 x119) fun x120 =>
  bP (ld Q q 426 x120 (G117.room 9)) fun x121 =>
  bP (pNil v0) fun x122 =>
  bP (fa Q q 429 3 3 x122) fun x123 =>
  bP (ld Q q 145 x123 (G117.room 9)) fun x124 =>
  bS (cValue e.ev x121 [x124] (G117.room 9)) fun x126 G125 =>
  some (.tuple #[x75, (.int .u64 0)], G125)) (
  some (.tuple #[x75, (.int .u64 0)], G117))))
theorem m531 {e : Ex} {E : Ev} (h : ExLe Q e E) (v0 v1 : Value) (G : GS) : Ref (s531 true e v0 v1 G) (s531 false (Ex.of E) v0 v1 G) := by
  unfold s531
  exact Ref.go
theorem f531 {orc : FuncId → Bool} {e : Ex} (h : ExLe Q e (E orc)) (v0 v1 : Value) (G : GS) : Ref (s531 true e v0 v1 G) ((E orc).cl 531 [v0, v1] G) :=
  fun r hr => cl_sxE_some Q orc (vs := [v0, v1]) G Tryz.func531 (by kernel_rfl) (by kernel_rfl) (by kernel_rfl) (by kernel_rfl) (by kernel_rfl) (by kernel_rfl) (m531 h v0 v1 G r hr)
/-- (*coxswain/ready.part[*coxswain/epoch.Unpin]).run -/
noncomputable def s532 (q : Bool) (e : Ex) (v0 v1 : Value) (G : GS) : Option (Value × GS) :=
  bP (pNil v0) fun x0 =>
  bP (fa Q q 438 4 4 x0) fun x1 =>
  bP (ld Q q 4 x1 G) fun x2 =>
  bP (un Q q .not x2) fun x3 =>
  ifV x3 (
  bP (pNil v0) fun x4 =>
  bP (fa Q q 438 0 0 x4) fun x5 =>
  bP (ld Q q 434 x5 G) fun x6 =>
  bS (cValue e.ev x6 [] G) fun x7 G8 =>
  bP (pNil v0) fun x9 =>
  bP (fa Q q 438 3 3 x9) fun x10 =>
  bP (st Q q 432 1 x10 x7 G8) fun G11 =>
  bP (pNil v0) fun x12 =>
  bP (fa Q q 438 4 4 x12) fun x13 =>
  bP (st Q q 4 1 x13 (.bool true) G11) fun G14 =>
  bP (pNil v0) fun x15 =>
  bP (fa Q q 438 3 3 x15) fun x16 =>
  bP (ld Q q 432 x16 G14) fun x17 =>
  bP (ifc Q q 432 x17) fun x18 =>
  bS (cInvoke Q e.ev x18 "Step" [v1] G14) fun x19 G20 =>
  bP (pNil v0) fun x21 =>
  bP (fa Q q 438 1 1 x21) fun x22 =>
  bP (ld Q q 435 x22 G20) fun x23 =>
  bP (ef Q q true 435 (.tmp 34) (.const .nilFunc) x23 .nilFunc) fun x24 =>
  ifV x24 (
  bP (pNil v0) fun x25 =>
  bP (fa Q q 438 1 1 x25) fun x26 =>
  bP (ld Q q 435 x26 (G20.room 10)) fun x27 =>
  bP (pNil v0) fun x28 =>
  bP (fa Q q 438 3 3 x28) fun x29 =>
  bP (ld Q q 432 x29 (G20.room 10)) fun x30 =>
  bS (cValue e.ev x27 [x30] (G20.room 10)) fun x32 G31 =>
  bS (gd x19 true (some (v0, G31)) G31) fun x33 G34 =>
  bS (gd x19 true (bP (pNil x33) fun y => some (y, G34)) G34) fun x35 G36 =>
  bS (gd x19 true (bP (fa Q q 438 2 2 x35) fun y => some (y, G36)) G36) fun x37 G38 =>
  bS (gd x19 true (bP (ld Q q 436 x37 G38) fun y => some (y, G38)) G38) fun x39 G40 =>
  bS (gd x19 true (bP (ef Q q true 436 (.tmp 50) (.const .nilFunc) x39 .nilFunc) fun y => some (y, G40)) G40) fun x41 G42 =>
  bP (pickV x19 x41 (.bool false)) fun x43 =>
  ifV x43 (
  bP (pNil v0) fun x44 =>
  bP (fa Q q 438 2 2 x44) fun x45 =>
  bP (ld Q q 436 x45 (G42.room 9)) fun x46 =>
  bP (pNil v0) fun x47 =>
  bP (fa Q q 438 3 3 x47) fun x48 =>
  bP (ld Q q 432 x48 (G42.room 9)) fun x49 =>
  bS (cValue e.ev x46 [x49] (G42.room 9)) fun x51 G50 =>
  some (.tuple #[x19, x32], G50)) (
  some (.tuple #[x19, x32], G42))) (
  bS (gd x19 true (some (v0, G20)) G20) fun x52 G53 =>
  bS (gd x19 true (bP (pNil x52) fun y => some (y, G53)) G53) fun x54 G55 =>
  bS (gd x19 true (bP (fa Q q 438 2 2 x54) fun y => some (y, G55)) G55) fun x56 G57 =>
  bS (gd x19 true (bP (ld Q q 436 x56 G57) fun y => some (y, G57)) G57) fun x58 G59 =>
  bS (gd x19 true (bP (ef Q q true 436 (.tmp 50) (.const .nilFunc) x58 .nilFunc) fun y => some (y, G59)) G59) fun x60 G61 =>
  bP (pickV x19 x60 (.bool false)) fun x62 =>
  ifV x62 (
  bP (pNil v0) fun x63 =>
  bP (fa Q q 438 2 2 x63) fun x64 =>
  bP (ld Q q 436 x64 (G61.room 9)) fun x65 =>
  bP (pNil v0) fun x66 =>
  bP (fa Q q 438 3 3 x66) fun x67 =>
  bP (ld Q q 432 x67 (G61.room 9)) fun x68 =>
  bS (cValue e.ev x65 [x68] (G61.room 9)) fun x70 G69 =>
  some (.tuple #[x19, (.int .u64 0)], G69)) (
  some (.tuple #[x19, (.int .u64 0)], G61)))) (
  bP (pNil v0) fun x71 =>
  bP (fa Q q 438 3 3 x71) fun x72 =>
  bP (ld Q q 432 x72 G) fun x73 =>
  bP (ifc Q q 432 x73) fun x74 =>
  bS (cInvoke Q e.ev x74 "Step" [v1] G) fun x75 G76 =>
  bP (pNil v0) fun x77 =>
  bP (fa Q q 438 1 1 x77) fun x78 =>
  bP (ld Q q 435 x78 G76) fun x79 =>
  bP (ef Q q true 435 (.tmp 34) (.const .nilFunc) x79 .nilFunc) fun x80 =>
  ifV x80 (
  bP (pNil v0) fun x81 =>
  bP (fa Q q 438 1 1 x81) fun x82 =>
  bP (ld Q q 435 x82 (G76.room 10)) fun x83 =>
  bP (pNil v0) fun x84 =>
  bP (fa Q q 438 3 3 x84) fun x85 =>
  bP (ld Q q 432 x85 (G76.room 10)) fun x86 =>
  bS (cValue e.ev x83 [x86] (G76.room 10)) fun x88 G87 =>
  bS (gd x75 true (some (v0, G87)) G87) fun x89 G90 =>
  bS (gd x75 true (bP (pNil x89) fun y => some (y, G90)) G90) fun x91 G92 =>
  bS (gd x75 true (bP (fa Q q 438 2 2 x91) fun y => some (y, G92)) G92) fun x93 G94 =>
  bS (gd x75 true (bP (ld Q q 436 x93 G94) fun y => some (y, G94)) G94) fun x95 G96 =>
  bS (gd x75 true (bP (ef Q q true 436 (.tmp 50) (.const .nilFunc) x95 .nilFunc) fun y => some (y, G96)) G96) fun x97 G98 =>
  bP (pickV x75 x97 (.bool false)) fun x99 =>
  ifV x99 (
  bP (pNil v0) fun x100 =>
  bP (fa Q q 438 2 2 x100) fun x101 =>
  bP (ld Q q 436 x101 (G98.room 9)) fun x102 =>
  bP (pNil v0) fun x103 =>
  bP (fa Q q 438 3 3 x103) fun x104 =>
  bP (ld Q q 432 x104 (G98.room 9)) fun x105 =>
  bS (cValue e.ev x102 [x105] (G98.room 9)) fun x107 G106 =>
  some (.tuple #[x75, x88], G106)) (
  some (.tuple #[x75, x88], G98))) (
  bS (gd x75 true (some (v0, G76)) G76) fun x108 G109 =>
  bS (gd x75 true (bP (pNil x108) fun y => some (y, G109)) G109) fun x110 G111 =>
  bS (gd x75 true (bP (fa Q q 438 2 2 x110) fun y => some (y, G111)) G111) fun x112 G113 =>
  bS (gd x75 true (bP (ld Q q 436 x112 G113) fun y => some (y, G113)) G113) fun x114 G115 =>
  bS (gd x75 true (bP (ef Q q true 436 (.tmp 50) (.const .nilFunc) x114 .nilFunc) fun y => some (y, G115)) G115) fun x116 G117 =>
  bP (pickV x75 x116 (.bool false)) fun x118 =>
  ifV x118 (
  bP (pNil v0) fun x119 =>
  bP (fa Q q 438 2 2 x119) fun x120 =>
  bP (ld Q q 436 x120 (G117.room 9)) fun x121 =>
  bP (pNil v0) fun x122 =>
  bP (fa Q q 438 3 3 x122) fun x123 =>
  bP (ld Q q 432 x123 (G117.room 9)) fun x124 =>
  bS (cValue e.ev x121 [x124] (G117.room 9)) fun x126 G125 =>
  some (.tuple #[x75, (.int .u64 0)], G125)) (
  some (.tuple #[x75, (.int .u64 0)], G117))))
theorem m532 {e : Ex} {E : Ev} (h : ExLe Q e E) (v0 v1 : Value) (G : GS) : Ref (s532 true e v0 v1 G) (s532 false (Ex.of E) v0 v1 G) := by
  unfold s532
  exact Ref.go
theorem f532 {orc : FuncId → Bool} {e : Ex} (h : ExLe Q e (E orc)) (v0 v1 : Value) (G : GS) : Ref (s532 true e v0 v1 G) ((E orc).cl 532 [v0, v1] G) :=
  fun r hr => cl_sxE_some Q orc (vs := [v0, v1]) G Tryz.func532 (by kernel_rfl) (by kernel_rfl) (by kernel_rfl) (by kernel_rfl) (by kernel_rfl) (by kernel_rfl) (m532 h v0 v1 G r hr)
/-- (*coxswain/epoch.Unpin).Step -/
noncomputable def s534 (q : Bool) (e : Ex) (v0 v1 : Value) (G : GS) : Option (Value × GS) :=
  bP (ep Q q false 432 (.tmp 5) (.const (.pointer none)) v0 (.pointer none)) fun x0 =>
  bS (gd x0 false (some (v0, G)) G) fun x1 G2 =>
  bS (gd x0 false (bP (pNil x1) fun y => some (y, G2)) G2) fun x3 G4 =>
  bS (gd x0 false (bP (fa Q q 518 0 0 x3) fun y => some (y, G4)) G4) fun x5 G6 =>
  bS (gd x0 false (some (v1, G6)) G6) fun x7 G8 =>
  bS (gd x0 false (bS (e.ev.cl 429 [x5, x7] G8) fun y G => some (y, G)) G8) fun x9 G10 =>
  bP (pickV x0 (.bool true) x9) fun x11 =>
  some (x11, G10)
theorem m534 {e : Ex} {E : Ev} (h : ExLe Q e E) (v0 v1 : Value) (G : GS) : Ref (s534 true e v0 v1 G) (s534 false (Ex.of E) v0 v1 G) := by
  unfold s534
  exact Ref.go
theorem f534 {orc : FuncId → Bool} {e : Ex} (h : ExLe Q e (E orc)) (v0 v1 : Value) (G : GS) : Ref (s534 true e v0 v1 G) ((E orc).cl 534 [v0, v1] G) :=
  fun r hr => cl_sxE_some Q orc (vs := [v0, v1]) G Tryz.func534 (by kernel_rfl) (by kernel_rfl) (by kernel_rfl) (by kernel_rfl) (by kernel_rfl) (by kernel_rfl) (m534 h v0 v1 G r hr)
/-- (*coxswain/ready.part[*coxswain/limbo.Collect]).run -/
noncomputable def s535 (q : Bool) (e : Ex) (v0 v1 : Value) (G : GS) : Option (Value × GS) :=
  bP (pNil v0) fun x0 =>
  bP (fa Q q 444 4 4 x0) fun x1 =>
  bP (ld Q q 4 x1 G) fun x2 =>
  bP (un Q q .not x2) fun x3 =>
  ifV x3 (
  bP (pNil v0) fun x4 =>
  bP (fa Q q 444 0 0 x4) fun x5 =>
  bP (ld Q q 441 x5 G) fun x6 =>
  bS (cValue e.ev x6 [] G) fun x7 G8 =>
  bP (pNil v0) fun x9 =>
  bP (fa Q q 444 3 3 x9) fun x10 =>
  bP (st Q q 328 1 x10 x7 G8) fun G11 =>
  bP (pNil v0) fun x12 =>
  bP (fa Q q 444 4 4 x12) fun x13 =>
  bP (st Q q 4 1 x13 (.bool true) G11) fun G14 =>
  bP (pNil v0) fun x15 =>
  bP (fa Q q 444 3 3 x15) fun x16 =>
  bP (ld Q q 328 x16 G14) fun x17 =>
  bP (ifc Q q 328 x17) fun x18 =>
  bS (cInvoke Q e.ev x18 "Step" [v1] G14) fun x19 G20 =>
  bP (pNil v0) fun x21 =>
  bP (fa Q q 444 1 1 x21) fun x22 =>
  bP (ld Q q 442 x22 G20) fun x23 =>
  bP (ef Q q true 442 (.tmp 34) (.const .nilFunc) x23 .nilFunc) fun x24 =>
  ifV x24 (
  bP (pNil v0) fun x25 =>
  bP (fa Q q 444 1 1 x25) fun x26 =>
  bP (ld Q q 442 x26 (G20.room 10)) fun x27 =>
  bP (pNil v0) fun x28 =>
  bP (fa Q q 444 3 3 x28) fun x29 =>
  bP (ld Q q 328 x29 (G20.room 10)) fun x30 =>
  bS (cValue e.ev x27 [x30] (G20.room 10)) fun x32 G31 =>
  bS (gd x19 true (some (v0, G31)) G31) fun x33 G34 =>
  bS (gd x19 true (bP (pNil x33) fun y => some (y, G34)) G34) fun x35 G36 =>
  bS (gd x19 true (bP (fa Q q 444 2 2 x35) fun y => some (y, G36)) G36) fun x37 G38 =>
  bS (gd x19 true (bP (ld Q q 329 x37 G38) fun y => some (y, G38)) G38) fun x39 G40 =>
  bS (gd x19 true (bP (ef Q q true 329 (.tmp 50) (.const .nilFunc) x39 .nilFunc) fun y => some (y, G40)) G40) fun x41 G42 =>
  bP (pickV x19 x41 (.bool false)) fun x43 =>
  ifV x43 (
  bP (pNil v0) fun x44 =>
  bP (fa Q q 444 2 2 x44) fun x45 =>
  bP (ld Q q 329 x45 (G42.room 9)) fun x46 =>
  bP (pNil v0) fun x47 =>
  bP (fa Q q 444 3 3 x47) fun x48 =>
  bP (ld Q q 328 x48 (G42.room 9)) fun x49 =>
  bS (cValue e.ev x46 [x49] (G42.room 9)) fun x51 G50 =>
  some (.tuple #[x19, x32], G50)) (
  some (.tuple #[x19, x32], G42))) (
  bS (gd x19 true (some (v0, G20)) G20) fun x52 G53 =>
  bS (gd x19 true (bP (pNil x52) fun y => some (y, G53)) G53) fun x54 G55 =>
  bS (gd x19 true (bP (fa Q q 444 2 2 x54) fun y => some (y, G55)) G55) fun x56 G57 =>
  bS (gd x19 true (bP (ld Q q 329 x56 G57) fun y => some (y, G57)) G57) fun x58 G59 =>
  bS (gd x19 true (bP (ef Q q true 329 (.tmp 50) (.const .nilFunc) x58 .nilFunc) fun y => some (y, G59)) G59) fun x60 G61 =>
  bP (pickV x19 x60 (.bool false)) fun x62 =>
  ifV x62 (
  bP (pNil v0) fun x63 =>
  bP (fa Q q 444 2 2 x63) fun x64 =>
  bP (ld Q q 329 x64 (G61.room 9)) fun x65 =>
  bP (pNil v0) fun x66 =>
  bP (fa Q q 444 3 3 x66) fun x67 =>
  bP (ld Q q 328 x67 (G61.room 9)) fun x68 =>
  bS (cValue e.ev x65 [x68] (G61.room 9)) fun x70 G69 =>
  some (.tuple #[x19, (.int .u64 0)], G69)) (
  some (.tuple #[x19, (.int .u64 0)], G61)))) (
  bP (pNil v0) fun x71 =>
  bP (fa Q q 444 3 3 x71) fun x72 =>
  bP (ld Q q 328 x72 G) fun x73 =>
  bP (ifc Q q 328 x73) fun x74 =>
  bS (cInvoke Q e.ev x74 "Step" [v1] G) fun x75 G76 =>
  bP (pNil v0) fun x77 =>
  bP (fa Q q 444 1 1 x77) fun x78 =>
  bP (ld Q q 442 x78 G76) fun x79 =>
  bP (ef Q q true 442 (.tmp 34) (.const .nilFunc) x79 .nilFunc) fun x80 =>
  ifV x80 (
  bP (pNil v0) fun x81 =>
  bP (fa Q q 444 1 1 x81) fun x82 =>
  bP (ld Q q 442 x82 (G76.room 10)) fun x83 =>
  bP (pNil v0) fun x84 =>
  bP (fa Q q 444 3 3 x84) fun x85 =>
  bP (ld Q q 328 x85 (G76.room 10)) fun x86 =>
  bS (cValue e.ev x83 [x86] (G76.room 10)) fun x88 G87 =>
  bS (gd x75 true (some (v0, G87)) G87) fun x89 G90 =>
  bS (gd x75 true (bP (pNil x89) fun y => some (y, G90)) G90) fun x91 G92 =>
  bS (gd x75 true (bP (fa Q q 444 2 2 x91) fun y => some (y, G92)) G92) fun x93 G94 =>
  bS (gd x75 true (bP (ld Q q 329 x93 G94) fun y => some (y, G94)) G94) fun x95 G96 =>
  bS (gd x75 true (bP (ef Q q true 329 (.tmp 50) (.const .nilFunc) x95 .nilFunc) fun y => some (y, G96)) G96) fun x97 G98 =>
  bP (pickV x75 x97 (.bool false)) fun x99 =>
  ifV x99 (
  bP (pNil v0) fun x100 =>
  bP (fa Q q 444 2 2 x100) fun x101 =>
  bP (ld Q q 329 x101 (G98.room 9)) fun x102 =>
  bP (pNil v0) fun x103 =>
  bP (fa Q q 444 3 3 x103) fun x104 =>
  bP (ld Q q 328 x104 (G98.room 9)) fun x105 =>
  bS (cValue e.ev x102 [x105] (G98.room 9)) fun x107 G106 =>
  some (.tuple #[x75, x88], G106)) (
  some (.tuple #[x75, x88], G98))) (
  bS (gd x75 true (some (v0, G76)) G76) fun x108 G109 =>
  bS (gd x75 true (bP (pNil x108) fun y => some (y, G109)) G109) fun x110 G111 =>
  bS (gd x75 true (bP (fa Q q 444 2 2 x110) fun y => some (y, G111)) G111) fun x112 G113 =>
  bS (gd x75 true (bP (ld Q q 329 x112 G113) fun y => some (y, G113)) G113) fun x114 G115 =>
  bS (gd x75 true (bP (ef Q q true 329 (.tmp 50) (.const .nilFunc) x114 .nilFunc) fun y => some (y, G115)) G115) fun x116 G117 =>
  bP (pickV x75 x116 (.bool false)) fun x118 =>
  ifV x118 (
  bP (pNil v0) fun x119 =>
  bP (fa Q q 444 2 2 x119) fun x120 =>
  bP (ld Q q 329 x120 (G117.room 9)) fun x121 =>
  bP (pNil v0) fun x122 =>
  bP (fa Q q 444 3 3 x122) fun x123 =>
  bP (ld Q q 328 x123 (G117.room 9)) fun x124 =>
  bS (cValue e.ev x121 [x124] (G117.room 9)) fun x126 G125 =>
  some (.tuple #[x75, (.int .u64 0)], G125)) (
  some (.tuple #[x75, (.int .u64 0)], G117))))
theorem m535 {e : Ex} {E : Ev} (h : ExLe Q e E) (v0 v1 : Value) (G : GS) : Ref (s535 true e v0 v1 G) (s535 false (Ex.of E) v0 v1 G) := by
  unfold s535
  exact Ref.go
theorem f535 {orc : FuncId → Bool} {e : Ex} (h : ExLe Q e (E orc)) (v0 v1 : Value) (G : GS) : Ref (s535 true e v0 v1 G) ((E orc).cl 535 [v0, v1] G) :=
  fun r hr => cl_sxE_some Q orc (vs := [v0, v1]) G Tryz.func535 (by kernel_rfl) (by kernel_rfl) (by kernel_rfl) (by kernel_rfl) (by kernel_rfl) (by kernel_rfl) (m535 h v0 v1 G r hr)
/-- (*coxswain/ready.part[*coxswain/tower.Lay]).run -/
noncomputable def s538 (q : Bool) (e : Ex) (v0 v1 : Value) (G : GS) : Option (Value × GS) :=
  bP (pNil v0) fun x0 =>
  bP (fa Q q 548 4 4 x0) fun x1 =>
  bP (ld Q q 4 x1 G) fun x2 =>
  bP (un Q q .not x2) fun x3 =>
  ifV x3 (
  bP (pNil v0) fun x4 =>
  bP (fa Q q 548 0 0 x4) fun x5 =>
  bP (ld Q q 544 x5 G) fun x6 =>
  bS (cValue e.ev x6 [] G) fun x7 G8 =>
  bP (pNil v0) fun x9 =>
  bP (fa Q q 548 3 3 x9) fun x10 =>
  bP (st Q q 542 1 x10 x7 G8) fun G11 =>
  bP (pNil v0) fun x12 =>
  bP (fa Q q 548 4 4 x12) fun x13 =>
  bP (st Q q 4 1 x13 (.bool true) G11) fun G14 =>
  bP (pNil v0) fun x15 =>
  bP (fa Q q 548 3 3 x15) fun x16 =>
  bP (ld Q q 542 x16 G14) fun x17 =>
  bP (ifc Q q 542 x17) fun x18 =>
  bS (cInvoke Q e.ev x18 "Step" [v1] G14) fun x19 G20 =>
  bP (pNil v0) fun x21 =>
  bP (fa Q q 548 1 1 x21) fun x22 =>
  bP (ld Q q 545 x22 G20) fun x23 =>
  bP (ef Q q true 545 (.tmp 34) (.const .nilFunc) x23 .nilFunc) fun x24 =>
  ifV x24 (
  bP (pNil v0) fun x25 =>
  bP (fa Q q 548 1 1 x25) fun x26 =>
  bP (ld Q q 545 x26 (G20.room 10)) fun x27 =>
  bP (pNil v0) fun x28 =>
  bP (fa Q q 548 3 3 x28) fun x29 =>
  bP (ld Q q 542 x29 (G20.room 10)) fun x30 =>
  bS (cValue e.ev x27 [x30] (G20.room 10)) fun x32 G31 =>
  bS (gd x19 true (some (v0, G31)) G31) fun x33 G34 =>
  bS (gd x19 true (bP (pNil x33) fun y => some (y, G34)) G34) fun x35 G36 =>
  bS (gd x19 true (bP (fa Q q 548 2 2 x35) fun y => some (y, G36)) G36) fun x37 G38 =>
  bS (gd x19 true (bP (ld Q q 546 x37 G38) fun y => some (y, G38)) G38) fun x39 G40 =>
  bS (gd x19 true (bP (ef Q q true 546 (.tmp 50) (.const .nilFunc) x39 .nilFunc) fun y => some (y, G40)) G40) fun x41 G42 =>
  bP (pickV x19 x41 (.bool false)) fun x43 =>
  ifV x43 (
  bP (pNil v0) fun x44 =>
  bP (fa Q q 548 2 2 x44) fun x45 =>
  bP (ld Q q 546 x45 (G42.room 9)) fun x46 =>
  bP (pNil v0) fun x47 =>
  bP (fa Q q 548 3 3 x47) fun x48 =>
  bP (ld Q q 542 x48 (G42.room 9)) fun x49 =>
  bS (cValue e.ev x46 [x49] (G42.room 9)) fun x51 G50 =>
  some (.tuple #[x19, x32], G50)) (
  some (.tuple #[x19, x32], G42))) (
  bS (gd x19 true (some (v0, G20)) G20) fun x52 G53 =>
  bS (gd x19 true (bP (pNil x52) fun y => some (y, G53)) G53) fun x54 G55 =>
  bS (gd x19 true (bP (fa Q q 548 2 2 x54) fun y => some (y, G55)) G55) fun x56 G57 =>
  bS (gd x19 true (bP (ld Q q 546 x56 G57) fun y => some (y, G57)) G57) fun x58 G59 =>
  bS (gd x19 true (bP (ef Q q true 546 (.tmp 50) (.const .nilFunc) x58 .nilFunc) fun y => some (y, G59)) G59) fun x60 G61 =>
  bP (pickV x19 x60 (.bool false)) fun x62 =>
  ifV x62 (
  bP (pNil v0) fun x63 =>
  bP (fa Q q 548 2 2 x63) fun x64 =>
  bP (ld Q q 546 x64 (G61.room 9)) fun x65 =>
  bP (pNil v0) fun x66 =>
  bP (fa Q q 548 3 3 x66) fun x67 =>
  bP (ld Q q 542 x67 (G61.room 9)) fun x68 =>
  bS (cValue e.ev x65 [x68] (G61.room 9)) fun x70 G69 =>
  some (.tuple #[x19, (.int .u64 0)], G69)) (
  some (.tuple #[x19, (.int .u64 0)], G61)))) (
  bP (pNil v0) fun x71 =>
  bP (fa Q q 548 3 3 x71) fun x72 =>
  bP (ld Q q 542 x72 G) fun x73 =>
  bP (ifc Q q 542 x73) fun x74 =>
  bS (cInvoke Q e.ev x74 "Step" [v1] G) fun x75 G76 =>
  bP (pNil v0) fun x77 =>
  bP (fa Q q 548 1 1 x77) fun x78 =>
  bP (ld Q q 545 x78 G76) fun x79 =>
  bP (ef Q q true 545 (.tmp 34) (.const .nilFunc) x79 .nilFunc) fun x80 =>
  ifV x80 (
  bP (pNil v0) fun x81 =>
  bP (fa Q q 548 1 1 x81) fun x82 =>
  bP (ld Q q 545 x82 (G76.room 10)) fun x83 =>
  bP (pNil v0) fun x84 =>
  bP (fa Q q 548 3 3 x84) fun x85 =>
  bP (ld Q q 542 x85 (G76.room 10)) fun x86 =>
  bS (cValue e.ev x83 [x86] (G76.room 10)) fun x88 G87 =>
  bS (gd x75 true (some (v0, G87)) G87) fun x89 G90 =>
  bS (gd x75 true (bP (pNil x89) fun y => some (y, G90)) G90) fun x91 G92 =>
  bS (gd x75 true (bP (fa Q q 548 2 2 x91) fun y => some (y, G92)) G92) fun x93 G94 =>
  bS (gd x75 true (bP (ld Q q 546 x93 G94) fun y => some (y, G94)) G94) fun x95 G96 =>
  bS (gd x75 true (bP (ef Q q true 546 (.tmp 50) (.const .nilFunc) x95 .nilFunc) fun y => some (y, G96)) G96) fun x97 G98 =>
  bP (pickV x75 x97 (.bool false)) fun x99 =>
  ifV x99 (
  bP (pNil v0) fun x100 =>
  bP (fa Q q 548 2 2 x100) fun x101 =>
  bP (ld Q q 546 x101 (G98.room 9)) fun x102 =>
  bP (pNil v0) fun x103 =>
  bP (fa Q q 548 3 3 x103) fun x104 =>
  bP (ld Q q 542 x104 (G98.room 9)) fun x105 =>
  bS (cValue e.ev x102 [x105] (G98.room 9)) fun x107 G106 =>
  some (.tuple #[x75, x88], G106)) (
  some (.tuple #[x75, x88], G98))) (
  bS (gd x75 true (some (v0, G76)) G76) fun x108 G109 =>
  bS (gd x75 true (bP (pNil x108) fun y => some (y, G109)) G109) fun x110 G111 =>
  bS (gd x75 true (bP (fa Q q 548 2 2 x110) fun y => some (y, G111)) G111) fun x112 G113 =>
  bS (gd x75 true (bP (ld Q q 546 x112 G113) fun y => some (y, G113)) G113) fun x114 G115 =>
  bS (gd x75 true (bP (ef Q q true 546 (.tmp 50) (.const .nilFunc) x114 .nilFunc) fun y => some (y, G115)) G115) fun x116 G117 =>
  bP (pickV x75 x116 (.bool false)) fun x118 =>
  ifV x118 (
  bP (pNil v0) fun x119 =>
  bP (fa Q q 548 2 2 x119) fun x120 =>
  bP (ld Q q 546 x120 (G117.room 9)) fun x121 =>
  bP (pNil v0) fun x122 =>
  bP (fa Q q 548 3 3 x122) fun x123 =>
  bP (ld Q q 542 x123 (G117.room 9)) fun x124 =>
  bS (cValue e.ev x121 [x124] (G117.room 9)) fun x126 G125 =>
  some (.tuple #[x75, (.int .u64 0)], G125)) (
  some (.tuple #[x75, (.int .u64 0)], G117))))
theorem m538 {e : Ex} {E : Ev} (h : ExLe Q e E) (v0 v1 : Value) (G : GS) : Ref (s538 true e v0 v1 G) (s538 false (Ex.of E) v0 v1 G) := by
  unfold s538
  exact Ref.go
theorem f538 {orc : FuncId → Bool} {e : Ex} (h : ExLe Q e (E orc)) (v0 v1 : Value) (G : GS) : Ref (s538 true e v0 v1 G) ((E orc).cl 538 [v0, v1] G) :=
  fun r hr => cl_sxE_some Q orc (vs := [v0, v1]) G Tryz.func538 (by kernel_rfl) (by kernel_rfl) (by kernel_rfl) (by kernel_rfl) (by kernel_rfl) (by kernel_rfl) (m538 h v0 v1 G r hr)
noncomputable def b539_0 (q : Bool) (e : Ex) (lp : Env → GS → Option (Exit × Env × GS)) (τ : Env) (G : GS) : Option (Exit × Env × GS) :=
  bV q (τ 0) fun a0_ =>
  bV q (τ 1) fun a1_ =>
  bV q (τ 12) fun a12_ =>
  bV q (τ 13) fun a13_ =>
  bP (bn Q q .lss 3 (.tmp 13) (.const (.int .i64 4)) a13_ (.int .i64 4)) fun x0 =>
  ifV x0 (
  bP (ix Q q 564 4 a12_ a13_) fun x1 =>
  bP (pNil a0_) fun x2 =>
  bP (fa Q q 566 3 6 x2) fun x3 =>
  bP (ld Q q 3 x3 G) fun x4 =>
  bP (bn Q q .eql 3 (.tmp 17) (.tmp 21) a13_ x4) fun x5 =>
  ifV x5 (
  bS (cValue e.ev x1 [a1_] G) fun x6 G7 =>
  some ((.exit 0), clq q 36 (tu τ [(0, a0_), (1, a1_), (12, a12_), (13, a13_), (5, a13_), (6, x1), (14, x0), (15, a13_), (16, x1), (17, a13_), (18, a0_), (19, x2), (20, x3), (21, x4), (22, x5), (23, x1), (24, a1_), (25, x6)]), G7)) (
  bP (bn Q q .add 3 (.tmp 13) (.const (.int .i64 1)) a13_ (.int .i64 1)) fun x8 =>
  lp (tu τ [(0, a0_), (1, a1_), (12, a12_), (13, x8), (5, a13_), (6, x1), (14, x0), (15, a13_), (16, x1), (17, a13_), (18, a0_), (19, x2), (20, x3), (21, x4), (22, x5), (26, x8)]) G)) (
  some ((.exit 0), clq q 36 (tu τ [(0, a0_), (1, a1_), (12, a12_), (13, a13_), (14, x0)]), G))
theorem mb539_0 {e : Ex} {E : Ev} (h : ExLe Q e E) {lp lp' : Env → GS → Option (Exit × Env × GS)} (hlp : LpLe lp lp') (τ : Env) (G : GS) : Ref (b539_0 true e lp τ G) (b539_0 false (Ex.of E) lp' τ G) := by
  unfold b539_0
  exact Ref.go
theorem l539_0 {orc : FuncId → Bool} {e : Ex} (h : ExLe Q e (E orc)) (lp : Env → GS → Option (Exit × Env × GS)) (hlp : ∀ τ G, Ref (lp τ G) (mapE ((E orc).lp (subAt [1, 1, 0, 1, 0, 0] (bodyOf Tryz.f539)) (lst 36 τ) G))) (T : List Value) (G : GS) (hT : T.length = 36) : Ref (b539_0 true e lp (nth undef T) G) (mapE ((E orc).lp (subAt [1, 1, 0, 1, 0, 0] (bodyOf Tryz.f539)) T G)) :=
  fun r hr => lp_sxM Q orc G hT (by kernel_rfl) (mb539_0 h ⟨hlp⟩ _ _ r hr)
/-- (*coxswain/tower.Lay).Step -/
noncomputable def s539 (q : Bool) (e : Ex) (v0 v1 : Value) (G : GS) : Option (Value × GS) :=
  bS (e.ev.cl 540 [v0] G) fun x0 G1 =>
  ifV x0 (
  some ((.bool true), G1)) (
  bP (pNil v0) fun x2 =>
  bP (fa Q q 566 2 2 x2) fun x3 =>
  bP (lda Q q 564 4 x3 G1) fun x4 =>
  bL q e 539 0 (subAt [1, 1, 0, 1, 0, 0] (bodyOf Tryz.f539)) 36 (tu (nth undef [v0, v1]) [(4, (.bool false)), (7, v0), (8, x0), (9, v0), (10, x2), (11, x3), (12, x4), (13, (.int .i64 0))]) G1 fun e5 t6 G7 =>
  bV q (t6 0) fun t6x0_ =>
  ifE e5 (.exit 0) (
  bP (pNil t6x0_) fun x8 =>
  bP (fa Q q 566 3 6 x8) fun x9 =>
  bP (ld Q q 3 x9 G7) fun x10 =>
  bP (bn Q q .add 3 (.tmp 30) (.const (.int .i64 1)) x10 (.int .i64 1)) fun x11 =>
  bP (pNil t6x0_) fun x12 =>
  bP (fa Q q 566 3 6 x12) fun x13 =>
  bP (st Q q 3 1 x13 x11 G7) fun G14 =>
  bS (e.ev.cl 540 [t6x0_] G14) fun x15 G16 =>
  some (x15, G16)) (none))
theorem m539 {e : Ex} {E : Ev} (h : ExLe Q e E) (v0 v1 : Value) (G : GS) : Ref (s539 true e v0 v1 G) (s539 false (Ex.of E) v0 v1 G) := by
  unfold s539
  exact Ref.go
theorem f539 {orc : FuncId → Bool} {e : Ex} (h : ExLe Q e (E orc)) (v0 v1 : Value) (G : GS) : Ref (s539 true e v0 v1 G) ((E orc).cl 539 [v0, v1] G) :=
  fun r hr => cl_sxE_some Q orc (vs := [v0, v1]) G Tryz.func539 (by kernel_rfl) (by kernel_rfl) (by kernel_rfl) (by kernel_rfl) (by kernel_rfl) (by kernel_rfl) (m539 h v0 v1 G r hr)
/-- (*coxswain/tower.Lay).over -/
noncomputable def s540 (q : Bool) (e : Ex) (v0 : Value) (G : GS) : Option (Value × GS) :=
  bP (ep Q q false 542 (.tmp 3) (.const (.pointer none)) v0 (.pointer none)) fun x0 =>
  bS (gd x0 false (some (v0, G)) G) fun x1 G2 =>
  bS (gd x0 false (bP (pNil x1) fun y => some (y, G2)) G2) fun x3 G4 =>
  bS (gd x0 false (bP (fa Q q 566 0 0 x3) fun y => some (y, G4)) G4) fun x5 G6 =>
  bS (gd x0 false (bP (ld Q q 4 x5 G6) fun y => some (y, G6)) G6) fun x7 G8 =>
  bS (gd x0 false (bP (un Q q .not x7) fun y => some (y, G8)) G8) fun x9 G10 =>
  bP (pickV x0 (.bool true) x9) fun x11 =>
  bS (gd x11 false (some (v0, G10)) G10) fun x12 G13 =>
  bS (gd x11 false (bP (pNil x12) fun y => some (y, G13)) G13) fun x14 G15 =>
  bS (gd x11 false (bP (fa Q q 566 3 6 x14) fun y => some (y, G15)) G15) fun x16 G17 =>
  bS (gd x11 false (bP (ld Q q 3 x16 G17) fun y => some (y, G17)) G17) fun x18 G19 =>
  bS (gd x11 false (bP (bn Q q .eql 3 (.tmp 16) (.const (.int .i64 4)) x18 (.int .i64 4)) fun y => some (y, G19)) G19) fun x20 G21 =>
  bP (pickV x11 (.bool true) x20) fun x22 =>
  some (x22, G21)
theorem m540 {e : Ex} {E : Ev} (h : ExLe Q e E) (v0 : Value) (G : GS) : Ref (s540 true e v0 G) (s540 false (Ex.of E) v0 G) := by
  unfold s540
  exact Ref.go
theorem f540 {orc : FuncId → Bool} {e : Ex} (h : ExLe Q e (E orc)) (v0 : Value) (G : GS) : Ref (s540 true e v0 G) ((E orc).cl 540 [v0] G) :=
  fun r hr => cl_sxE_some Q orc (vs := [v0]) G Tryz.func540 (by kernel_rfl) (by kernel_rfl) (by kernel_rfl) (by kernel_rfl) (by kernel_rfl) (by kernel_rfl) (m540 h v0 G r hr)
/-- (*coxswain/ready.part[*coxswain/insert.Insert]).run -/
noncomputable def s541 (q : Bool) (e : Ex) (v0 v1 : Value) (G : GS) : Option (Value × GS) :=
  bP (pNil v0) fun x0 =>
  bP (fa Q q 556 4 4 x0) fun x1 =>
  bP (ld Q q 4 x1 G) fun x2 =>
  bP (un Q q .not x2) fun x3 =>
  ifV x3 (
  bP (pNil v0) fun x4 =>
  bP (fa Q q 556 0 0 x4) fun x5 =>
  bP (ld Q q 552 x5 G) fun x6 =>
  bS (cValue e.ev x6 [] G) fun x7 G8 =>
  bP (pNil v0) fun x9 =>
  bP (fa Q q 556 3 3 x9) fun x10 =>
  bP (st Q q 550 1 x10 x7 G8) fun G11 =>
  bP (pNil v0) fun x12 =>
  bP (fa Q q 556 4 4 x12) fun x13 =>
  bP (st Q q 4 1 x13 (.bool true) G11) fun G14 =>
  bP (pNil v0) fun x15 =>
  bP (fa Q q 556 3 3 x15) fun x16 =>
  bP (ld Q q 550 x16 G14) fun x17 =>
  bP (ifc Q q 550 x17) fun x18 =>
  bS (cInvoke Q e.ev x18 "Step" [v1] G14) fun x19 G20 =>
  bP (pNil v0) fun x21 =>
  bP (fa Q q 556 1 1 x21) fun x22 =>
  bP (ld Q q 553 x22 G20) fun x23 =>
  bP (ef Q q true 553 (.tmp 34) (.const .nilFunc) x23 .nilFunc) fun x24 =>
  ifV x24 (
  bP (pNil v0) fun x25 =>
  bP (fa Q q 556 1 1 x25) fun x26 =>
  bP (ld Q q 553 x26 (G20.room 10)) fun x27 =>
  bP (pNil v0) fun x28 =>
  bP (fa Q q 556 3 3 x28) fun x29 =>
  bP (ld Q q 550 x29 (G20.room 10)) fun x30 =>
  bS (cValue e.ev x27 [x30] (G20.room 10)) fun x32 G31 =>
  bS (gd x19 true (some (v0, G31)) G31) fun x33 G34 =>
  bS (gd x19 true (bP (pNil x33) fun y => some (y, G34)) G34) fun x35 G36 =>
  bS (gd x19 true (bP (fa Q q 556 2 2 x35) fun y => some (y, G36)) G36) fun x37 G38 =>
  bS (gd x19 true (bP (ld Q q 554 x37 G38) fun y => some (y, G38)) G38) fun x39 G40 =>
  bS (gd x19 true (bP (ef Q q true 554 (.tmp 50) (.const .nilFunc) x39 .nilFunc) fun y => some (y, G40)) G40) fun x41 G42 =>
  bP (pickV x19 x41 (.bool false)) fun x43 =>
  ifV x43 (
  bP (pNil v0) fun x44 =>
  bP (fa Q q 556 2 2 x44) fun x45 =>
  bP (ld Q q 554 x45 (G42.room 9)) fun x46 =>
  bP (pNil v0) fun x47 =>
  bP (fa Q q 556 3 3 x47) fun x48 =>
  bP (ld Q q 550 x48 (G42.room 9)) fun x49 =>
  bS (cValue e.ev x46 [x49] (G42.room 9)) fun x51 G50 =>
  some (.tuple #[x19, x32], G50)) (
  some (.tuple #[x19, x32], G42))) (
  bS (gd x19 true (some (v0, G20)) G20) fun x52 G53 =>
  bS (gd x19 true (bP (pNil x52) fun y => some (y, G53)) G53) fun x54 G55 =>
  bS (gd x19 true (bP (fa Q q 556 2 2 x54) fun y => some (y, G55)) G55) fun x56 G57 =>
  bS (gd x19 true (bP (ld Q q 554 x56 G57) fun y => some (y, G57)) G57) fun x58 G59 =>
  bS (gd x19 true (bP (ef Q q true 554 (.tmp 50) (.const .nilFunc) x58 .nilFunc) fun y => some (y, G59)) G59) fun x60 G61 =>
  bP (pickV x19 x60 (.bool false)) fun x62 =>
  ifV x62 (
  bP (pNil v0) fun x63 =>
  bP (fa Q q 556 2 2 x63) fun x64 =>
  bP (ld Q q 554 x64 (G61.room 9)) fun x65 =>
  bP (pNil v0) fun x66 =>
  bP (fa Q q 556 3 3 x66) fun x67 =>
  bP (ld Q q 550 x67 (G61.room 9)) fun x68 =>
  bS (cValue e.ev x65 [x68] (G61.room 9)) fun x70 G69 =>
  some (.tuple #[x19, (.int .u64 0)], G69)) (
  some (.tuple #[x19, (.int .u64 0)], G61)))) (
  bP (pNil v0) fun x71 =>
  bP (fa Q q 556 3 3 x71) fun x72 =>
  bP (ld Q q 550 x72 G) fun x73 =>
  bP (ifc Q q 550 x73) fun x74 =>
  bS (cInvoke Q e.ev x74 "Step" [v1] G) fun x75 G76 =>
  bP (pNil v0) fun x77 =>
  bP (fa Q q 556 1 1 x77) fun x78 =>
  bP (ld Q q 553 x78 G76) fun x79 =>
  bP (ef Q q true 553 (.tmp 34) (.const .nilFunc) x79 .nilFunc) fun x80 =>
  ifV x80 (
  bP (pNil v0) fun x81 =>
  bP (fa Q q 556 1 1 x81) fun x82 =>
  bP (ld Q q 553 x82 (G76.room 10)) fun x83 =>
  bP (pNil v0) fun x84 =>
  bP (fa Q q 556 3 3 x84) fun x85 =>
  bP (ld Q q 550 x85 (G76.room 10)) fun x86 =>
  bS (cValue e.ev x83 [x86] (G76.room 10)) fun x88 G87 =>
  bS (gd x75 true (some (v0, G87)) G87) fun x89 G90 =>
  bS (gd x75 true (bP (pNil x89) fun y => some (y, G90)) G90) fun x91 G92 =>
  bS (gd x75 true (bP (fa Q q 556 2 2 x91) fun y => some (y, G92)) G92) fun x93 G94 =>
  bS (gd x75 true (bP (ld Q q 554 x93 G94) fun y => some (y, G94)) G94) fun x95 G96 =>
  bS (gd x75 true (bP (ef Q q true 554 (.tmp 50) (.const .nilFunc) x95 .nilFunc) fun y => some (y, G96)) G96) fun x97 G98 =>
  bP (pickV x75 x97 (.bool false)) fun x99 =>
  ifV x99 (
  bP (pNil v0) fun x100 =>
  bP (fa Q q 556 2 2 x100) fun x101 =>
  bP (ld Q q 554 x101 (G98.room 9)) fun x102 =>
  bP (pNil v0) fun x103 =>
  bP (fa Q q 556 3 3 x103) fun x104 =>
  bP (ld Q q 550 x104 (G98.room 9)) fun x105 =>
  bS (cValue e.ev x102 [x105] (G98.room 9)) fun x107 G106 =>
  some (.tuple #[x75, x88], G106)) (
  some (.tuple #[x75, x88], G98))) (
  bS (gd x75 true (some (v0, G76)) G76) fun x108 G109 =>
  bS (gd x75 true (bP (pNil x108) fun y => some (y, G109)) G109) fun x110 G111 =>
  bS (gd x75 true (bP (fa Q q 556 2 2 x110) fun y => some (y, G111)) G111) fun x112 G113 =>
  bS (gd x75 true (bP (ld Q q 554 x112 G113) fun y => some (y, G113)) G113) fun x114 G115 =>
  bS (gd x75 true (bP (ef Q q true 554 (.tmp 50) (.const .nilFunc) x114 .nilFunc) fun y => some (y, G115)) G115) fun x116 G117 =>
  bP (pickV x75 x116 (.bool false)) fun x118 =>
  ifV x118 (
  bP (pNil v0) fun x119 =>
  bP (fa Q q 556 2 2 x119) fun x120 =>
  bP (ld Q q 554 x120 (G117.room 9)) fun x121 =>
  bP (pNil v0) fun x122 =>
  bP (fa Q q 556 3 3 x122) fun x123 =>
  bP (ld Q q 550 x123 (G117.room 9)) fun x124 =>
  bS (cValue e.ev x121 [x124] (G117.room 9)) fun x126 G125 =>
  some (.tuple #[x75, (.int .u64 0)], G125)) (
  some (.tuple #[x75, (.int .u64 0)], G117))))
theorem m541 {e : Ex} {E : Ev} (h : ExLe Q e E) (v0 v1 : Value) (G : GS) : Ref (s541 true e v0 v1 G) (s541 false (Ex.of E) v0 v1 G) := by
  unfold s541
  exact Ref.go
theorem f541 {orc : FuncId → Bool} {e : Ex} (h : ExLe Q e (E orc)) (v0 v1 : Value) (G : GS) : Ref (s541 true e v0 v1 G) ((E orc).cl 541 [v0, v1] G) :=
  fun r hr => cl_sxE_some Q orc (vs := [v0, v1]) G Tryz.func541 (by kernel_rfl) (by kernel_rfl) (by kernel_rfl) (by kernel_rfl) (by kernel_rfl) (by kernel_rfl) (m541 h v0 v1 G r hr)
/-- (*coxswain/insert.Insert).Step -/
noncomputable def s542 (q : Bool) (e : Ex) (v0 v1 : Value) (G : GS) : Option (Value × GS) :=
  bP (ep Q q false 550 (.tmp 6) (.const (.pointer none)) v0 (.pointer none)) fun x0 =>
  bS (gd x0 false (some (v0, G)) G) fun x1 G2 =>
  bS (gd x0 false (bP (pNil x1) fun y => some (y, G2)) G2) fun x3 G4 =>
  bS (gd x0 false (bP (fa Q q 571 7 19 x3) fun y => some (y, G4)) G4) fun x5 G6 =>
  bS (gd x0 false (bP (ld Q q 569 x5 G6) fun y => some (y, G6)) G6) fun x7 G8 =>
  bS (gd x0 false (bP (bn Q q .eql 569 (.tmp 12) (.const (.int .i64 0)) x7 (.int .i64 0)) fun y => some (y, G8)) G8) fun x9 G10 =>
  bP (pickV x0 (.bool true) x9) fun x11 =>
  ifV x11 (
  some ((.bool true), G10)) (
  bS (e.ev.cl 543 [] G10) fun x12 G13 =>
  bS (al Q q 616 z616 G13) fun x14 G15 =>
  bP (st Q q 616 13 x14 x12 G15) fun G16 =>
  bP (pNil v0) fun x17 =>
  bP (fa Q q 571 7 19 x17) fun x18 =>
  bP (ld Q q 569 x18 G16) fun x19 =>
  bP (iaa Q q 616 13 1 x14 x19) fun x20 =>
  bP (ld Q q 615 x20 G16) fun x21 =>
  bS (cValue e.ev x21 [v0, v1] G16) fun x22 G23 =>
  bP (pNil v0) fun x24 =>
  bP (fa Q q 571 7 19 x24) fun x25 =>
  bP (st Q q 569 1 x25 x22 G23) fun G26 =>
  bP (pNil v0) fun x27 =>
  bP (fa Q q 571 7 19 x27) fun x28 =>
  bP (ld Q q 569 x28 G26) fun x29 =>
  bP (bn Q q .eql 569 (.tmp 31) (.const (.int .i64 0)) x29 (.int .i64 0)) fun x30 =>
  some (x30, G26))
theorem m542 {e : Ex} {E : Ev} (h : ExLe Q e E) (v0 v1 : Value) (G : GS) : Ref (s542 true e v0 v1 G) (s542 false (Ex.of E) v0 v1 G) := by
  unfold s542
  exact Ref.go
theorem f542 {orc : FuncId → Bool} {e : Ex} (h : ExLe Q e (E orc)) (v0 v1 : Value) (G : GS) : Ref (s542 true e v0 v1 G) ((E orc).cl 542 [v0, v1] G) :=
  fun r hr => cl_sxE_some Q orc (vs := [v0, v1]) G Tryz.func542 (by kernel_rfl) (by kernel_rfl) (by kernel_rfl) (by kernel_rfl) (by kernel_rfl) (by kernel_rfl) (m542 h v0 v1 G r hr)
/-- coxswain/insert.table -/
noncomputable def s543 (q : Bool) (e : Ex) (G : GS) : Option (Value × GS) :=
  bS (al Q q 616 z616 G) fun x0 G1 =>
  bP (bd Q q 616 z616 [(1, 1, 1), (2, 2, 1), (3, 3, 1), (4, 4, 1), (5, 5, 1), (6, 6, 1), (7, 7, 1), (8, 8, 1), (9, 9, 1), (10, 10, 1), (11, 11, 1), (12, 12, 1)] [(.func (.func 544) #[] #[]), (.func (.func 545) #[] #[]), (.func (.func 546) #[] #[]), (.func (.func 547) #[] #[]), (.func (.func 548) #[] #[]), (.func (.func 549) #[] #[]), (.func (.func 550) #[] #[]), (.func (.func 551) #[] #[]), (.func (.func 552) #[] #[]), (.func (.func 553) #[] #[]), (.func (.func 554) #[] #[]), (.func (.func 555) #[] #[])]) fun x2 =>
  bP (st Q q 616 13 x0 x2 G1) fun G3 =>
  bP (lda Q q 616 13 x0 G3) fun x4 =>
  some (x4, G3)
theorem m543 {e : Ex} {E : Ev} (h : ExLe Q e E) (G : GS) : Ref (s543 true e  G) (s543 false (Ex.of E)  G) := by
  unfold s543
  exact Ref.go
theorem f543 {orc : FuncId → Bool} {e : Ex} (h : ExLe Q e (E orc)) (ho : orc 543 = false) (G : GS) : Ref (s543 true e  G) ((E orc).cl 543 [] G) :=
  fun r hr => cl_sxE_some Q orc (vs := []) G Tryz.func543 (by kernel_rfl) (by kernel_rfl) ho (by kernel_rfl) (by kernel_rfl) (by kernel_rfl) (m543 h  G r hr)
/-- (*coxswain/insert.Insert).find -/
noncomputable def s544 (q : Bool) (e : Ex) (v0 v1 : Value) (G : GS) : Option (Value × GS) :=
  bS (e.ev.cl 556 [v0, v1] G) fun x0 G1 =>
  bP (un Q q .not x0) fun x2 =>
  ifV x2 (
  some ((.int .i64 1), G1)) (
  bP (pNil v0) fun x3 =>
  bP (fa Q q 571 8 20 x3) fun x4 =>
  bP (st Q q 3 1 x4 (.int .i64 0) G1) fun G5 =>
  some ((.int .i64 2), G5))
theorem m544 {e : Ex} {E : Ev} (h : ExLe Q e E) (v0 v1 : Value) (G : GS) : Ref (s544 true e v0 v1 G) (s544 false (Ex.of E) v0 v1 G) := by
  unfold s544
  exact Ref.go
theorem f544 {orc : FuncId → Bool} {e : Ex} (h : ExLe Q e (E orc)) (v0 v1 : Value) (G : GS) : Ref (s544 true e v0 v1 G) ((E orc).cl 544 [v0, v1] G) :=
  fun r hr => cl_sxE_some Q orc (vs := [v0, v1]) G Tryz.func544 (by kernel_rfl) (by kernel_rfl) (by kernel_rfl) (by kernel_rfl) (by kernel_rfl) (by kernel_rfl) (m544 h v0 v1 G r hr)
noncomputable def b545_0 (q : Bool) (e : Ex) (lp : Env → GS → Option (Exit × Env × GS)) (τ : Env) (G : GS) : Option (Exit × Env × GS) :=
  bV q (τ 0) fun a0_ =>
  bV q (τ 1) fun a1_ =>
  bV q (τ 16) fun a16_ =>
  bV q (τ 17) fun a17_ =>
  bP (bn Q q .lss 3 (.tmp 17) (.tmp 16) a17_ a16_) fun x0 =>
  ifV x0 (
  bP (pNil a0_) fun x1 =>
  bP (fa Q q 571 8 20 x1) fun x2 =>
  bP (ld Q q 3 x2 G) fun x3 =>
  bP (bn Q q .neq 3 (.tmp 20) (.tmp 24) a17_ x3) fun x4 =>
  ifV x4 (
  bP (bn Q q .add 3 (.tmp 17) (.const (.int .i64 1)) a17_ (.int .i64 1)) fun x5 =>
  lp (tu τ [(0, a0_), (1, a1_), (16, a16_), (17, x5), (5, a17_), (18, x0), (19, a17_), (20, a17_), (21, a0_), (22, x1), (23, x2), (24, x3), (25, x4), (46, x5)]) G) (
  bP (pNil a0_) fun x6 =>
  bP (fa Q q 571 0 0 x6) fun x7 =>
  bP (lda Q q 31 13 x7 (G.room 20)) fun x8 =>
  bP (pNil a0_) fun x9 =>
  bP (fa Q q 571 5 17 x9) fun x10 =>
  bP (ld Q q 3 x10 (G.room 20)) fun x11 =>
  bS (e.ev.cl 69 [x8, x11, a17_] (G.room 20)) fun x13 G12 =>
  bP (pNil a0_) fun x14 =>
  bP (fa Q q 571 10 22 x14) fun x15 =>
  bP (ld Q q 37 x15 G12) fun x16 =>
  chk ((sameO (ld Q q 37 x15 (G.room 20)) x16 && true)) <|
  bS (e.ev.cl 557 [x16] G12) fun x18 G17 =>
  bP (ias Q q 111 1 x18 a17_) fun x19 =>
  bP (ld Q q 41 x19 G17) fun x20 =>
  bS (e.ev.cl 45 [a1_, x13, x20] G17) fun x22 G21 =>
  bP (bn Q q .add 3 (.tmp 17) (.const (.int .i64 1)) a17_ (.int .i64 1)) fun x23 =>
  lp (tu τ [(0, a0_), (1, a1_), (16, a16_), (17, x23), (5, a17_), (18, x0), (19, a17_), (20, a17_), (21, a0_), (22, x1), (23, x2), (24, x3), (25, x4), (26, a1_), (27, a0_), (28, x6), (29, x7), (30, x8), (31, a0_), (32, x9), (33, x10), (34, x11), (35, a17_), (36, x13), (37, a0_), (38, x14), (39, x15), (40, x16), (41, x18), (42, a17_), (43, x19), (44, x20), (45, x22), (46, x23)]) G21)) (
  some ((.exit 0), clq q 66 (tu τ [(0, a0_), (1, a1_), (16, a16_), (17, a17_), (18, x0)]), G))
theorem mb545_0 {e : Ex} {E : Ev} (h : ExLe Q e E) {lp lp' : Env → GS → Option (Exit × Env × GS)} (hlp : LpLe lp lp') (τ : Env) (G : GS) : Ref (b545_0 true e lp τ G) (b545_0 false (Ex.of E) lp' τ G) := by
  unfold b545_0
  exact Ref.go
theorem l545_0 {orc : FuncId → Bool} {e : Ex} (h : ExLe Q e (E orc)) (lp : Env → GS → Option (Exit × Env × GS)) (hlp : ∀ τ G, Ref (lp τ G) (mapE ((E orc).lp (subAt [1, 0, 1, 1, 0, 1, 0, 0] (bodyOf Tryz.f545)) (lst 66 τ) G))) (T : List Value) (G : GS) (hT : T.length = 66) : Ref (b545_0 true e lp (nth undef T) G) (mapE ((E orc).lp (subAt [1, 0, 1, 1, 0, 1, 0, 0] (bodyOf Tryz.f545)) T G)) :=
  fun r hr => lp_sxM Q orc G hT (by kernel_rfl) (mb545_0 h ⟨hlp⟩ _ _ r hr)
/-- (*coxswain/insert.Insert).store -/
noncomputable def s545 (q : Bool) (e : Ex) (v0 v1 : Value) (G : GS) : Option (Value × GS) :=
  bP (pNil v0) fun x0 =>
  bP (fa Q q 571 3 15 x0) fun x1 =>
  bP (ld Q q 41 x1 G) fun x2 =>
  bP (pNil v0) fun x3 =>
  bP (fa Q q 571 12 24 x3) fun x4 =>
  bP (st Q q 41 1 x4 x2 G) fun G5 =>
  bP (pNil v0) fun x6 =>
  bP (fa Q q 571 6 18 x6) fun x7 =>
  bP (ld Q q 3 x7 G5) fun x8 =>
  bL q e 545 0 (subAt [1, 0, 1, 1, 0, 1, 0, 0] (bodyOf Tryz.f545)) 66 (tu (nth undef [v0, v1]) [(4, (.int .i64 0)), (6, v0), (7, v0), (8, x0), (9, x1), (10, x2), (11, x3), (12, x4), (13, v0), (14, x6), (15, x7), (16, x8), (17, (.int .i64 0))]) G5 fun e9 t10 G11 =>
  bV q (t10 0) fun t10x0_ =>
  ifE e9 (.exit 0) (
  bP (pNil t10x0_) fun x12 =>
  bP (fa Q q 571 8 20 x12) fun x13 =>
  bP (ld Q q 3 x13 G11) fun x14 =>
  bP (bn Q q .add 3 (.tmp 50) (.const (.int .i64 1)) x14 (.int .i64 1)) fun x15 =>
  bP (pNil t10x0_) fun x16 =>
  bP (fa Q q 571 8 20 x16) fun x17 =>
  bP (st Q q 3 1 x17 x15 G11) fun G18 =>
  bP (pNil t10x0_) fun x19 =>
  bP (fa Q q 571 8 20 x19) fun x20 =>
  bP (ld Q q 3 x20 (G18.room 9)) fun x21 =>
  bP (pNil t10x0_) fun x22 =>
  bP (fa Q q 571 6 18 x22) fun x23 =>
  bP (ld Q q 3 x23 (G18.room 9)) fun x24 =>
  bP (bn Q q .lss 3 (.tmp 57) (.tmp 61) x21 x24) fun x25 =>
  ifV x25 (
  some ((.int .i64 2), (G18.room 9))) (
  bP (pNil t10x0_) fun x26 =>
  bP (fa Q q 571 8 20 x26) fun x27 =>
  bP (st Q q 3 1 x27 (.int .i64 0) (G18.room 9)) fun G28 =>
  some ((.int .i64 3), G28))) (none)
theorem m545 {e : Ex} {E : Ev} (h : ExLe Q e E) (v0 v1 : Value) (G : GS) : Ref (s545 true e v0 v1 G) (s545 false (Ex.of E) v0 v1 G) := by
  unfold s545
  exact Ref.go
theorem f545 {orc : FuncId → Bool} {e : Ex} (h : ExLe Q e (E orc)) (v0 v1 : Value) (G : GS) : Ref (s545 true e v0 v1 G) ((E orc).cl 545 [v0, v1] G) :=
  fun r hr => cl_sxE_some Q orc (vs := [v0, v1]) G Tryz.func545 (by kernel_rfl) (by kernel_rfl) (by kernel_rfl) (by kernel_rfl) (by kernel_rfl) (by kernel_rfl) (m545 h v0 v1 G r hr)
/-- (*coxswain/insert.Insert).enter -/
noncomputable def s546 (q : Bool) (e : Ex) (v0 v1 : Value) (G : GS) : Option (Value × GS) :=
  bS (e.ev.cl 558 [v0, v1] G) fun x0 G1 =>
  bP (un Q q .not x0) fun x2 =>
  ifV x2 (
  bS (e.ev.cl 426 [v0, (.int .i64 1)] G1) fun x3 G4 =>
  some (x3, G4)) (
  bP (pNil v0) fun x5 =>
  bP (fa Q q 571 2 14 x5) fun x6 =>
  bP (st Q q 4 1 x6 (.bool true) G1) fun G7 =>
  bP (pNil v0) fun x8 =>
  bP (fa Q q 571 8 20 x8) fun x9 =>
  bP (st Q q 3 1 x9 (.int .i64 1) G7) fun G10 =>
  bS (e.ev.cl 559 [v0] G10) fun x11 G12 =>
  some (x11, G12))
theorem m546 {e : Ex} {E : Ev} (h : ExLe Q e E) (v0 v1 : Value) (G : GS) : Ref (s546 true e v0 v1 G) (s546 false (Ex.of E) v0 v1 G) := by
  unfold s546
  exact Ref.go
theorem f546 {orc : FuncId → Bool} {e : Ex} (h : ExLe Q e (E orc)) (v0 v1 : Value) (G : GS) : Ref (s546 true e v0 v1 G) ((E orc).cl 546 [v0, v1] G) :=
  fun r hr => cl_sxE_some Q orc (vs := [v0, v1]) G Tryz.func546 (by kernel_rfl) (by kernel_rfl) (by kernel_rfl) (by kernel_rfl) (by kernel_rfl) (by kernel_rfl) (m546 h v0 v1 G r hr)
/-- (*coxswain/insert.Insert).load -/
noncomputable def s547 (q : Bool) (e : Ex) (v0 v1 : Value) (G : GS) : Option (Value × GS) :=
  bP (pNil v0) fun x0 =>
  bP (fa Q q 571 8 20 x0) fun x1 =>
  bP (ld Q q 3 x1 G) fun x2 =>
  bS (e.ev.cl 560 [v0, v1, x2] G) fun x3 G4 =>
  bP (pNil v0) fun x5 =>
  bP (fa Q q 571 9 21 x5) fun x6 =>
  bP (st Q q 41 1 x6 x3 G4) fun G7 =>
  bP (pNil v0) fun x8 =>
  bP (fa Q q 571 9 21 x8) fun x9 =>
  bP (ld Q q 41 x9 G7) fun x10 =>
  bS (e.ev.cl 192 [x10] G7) fun x11 G12 =>
  ifV x11 (
  some ((.int .i64 9), G12)) (
  bP (pNil v0) fun x13 =>
  bP (fa Q q 571 9 21 x13) fun x14 =>
  bP (ld Q q 41 x14 (G12.room 17)) fun x15 =>
  bP (pNil v0) fun x16 =>
  bP (fa Q q 571 10 22 x16) fun x17 =>
  bP (ld Q q 37 x17 (G12.room 17)) fun x18 =>
  bS (e.ev.cl 557 [x18] (G12.room 17)) fun x20 G19 =>
  chk ((sameO (ld Q q 41 x14 G19) x15 && true)) <|
  bP (pNil v0) fun x21 =>
  bP (fa Q q 571 8 20 x21) fun x22 =>
  bP (ld Q q 3 x22 G19) fun x23 =>
  chk ((sameO (ld Q q 3 x22 (G12.room 17)) x23 && true)) <|
  bP (ias Q q 111 1 x20 x23) fun x24 =>
  bP (ld Q q 41 x24 G19) fun x25 =>
  bP (bn Q q .neq 41 (.tmp 25) (.tmp 36) x15 x25) fun x26 =>
  ifV x26 (
  some ((.int .i64 5), G19)) (
  some ((.int .i64 6), G19)))
theorem m547 {e : Ex} {E : Ev} (h : ExLe Q e E) (v0 v1 : Value) (G : GS) : Ref (s547 true e v0 v1 G) (s547 false (Ex.of E) v0 v1 G) := by
  unfold s547
  exact Ref.go
theorem f547 {orc : FuncId → Bool} {e : Ex} (h : ExLe Q e (E orc)) (v0 v1 : Value) (G : GS) : Ref (s547 true e v0 v1 G) ((E orc).cl 547 [v0, v1] G) :=
  fun r hr => cl_sxE_some Q orc (vs := [v0, v1]) G Tryz.func547 (by kernel_rfl) (by kernel_rfl) (by kernel_rfl) (by kernel_rfl) (by kernel_rfl) (by kernel_rfl) (m547 h v0 v1 G r hr)
/-- (*coxswain/insert.Insert).turn -/
noncomputable def s548 (q : Bool) (e : Ex) (v0 v1 : Value) (G : GS) : Option (Value × GS) :=
  bP (pNil v0) fun x0 =>
  bP (fa Q q 571 0 0 x0) fun x1 =>
  bP (lda Q q 31 13 x1 (G.room 31)) fun x2 =>
  bP (pNil v0) fun x3 =>
  bP (fa Q q 571 5 17 x3) fun x4 =>
  bP (ld Q q 3 x4 (G.room 31)) fun x5 =>
  bP (pNil v0) fun x6 =>
  bP (fa Q q 571 8 20 x6) fun x7 =>
  bP (ld Q q 3 x7 (G.room 31)) fun x8 =>
  bS (e.ev.cl 69 [x2, x5, x8] (G.room 31)) fun x10 G9 =>
  bP (pNil v0) fun x11 =>
  bP (fa Q q 571 9 21 x11) fun x12 =>
  bP (ld Q q 41 x12 G9) fun x13 =>
  chk ((sameO (ld Q q 41 x12 (G.room 31)) x13 && true)) <|
  bP (pNil v0) fun x14 =>
  bP (fa Q q 571 10 22 x14) fun x15 =>
  bP (ld Q q 37 x15 G9) fun x16 =>
  chk ((sameO (ld Q q 37 x15 (G.room 31)) x16 && true)) <|
  bS (e.ev.cl 557 [x16] G9) fun x18 G17 =>
  chk ((sameO (ld Q q 41 x12 G17) x13 && true)) <|
  bP (pNil v0) fun x19 =>
  bP (fa Q q 571 8 20 x19) fun x20 =>
  bP (ld Q q 3 x20 G17) fun x21 =>
  chk ((sameO (ld Q q 3 x20 G9) x21 && (sameO (ld Q q 3 x20 (G.room 31)) x21 && true))) <|
  bP (ias Q q 111 1 x18 x21) fun x22 =>
  bP (ld Q q 41 x22 G17) fun x23 =>
  bS (e.ev.cl 561 [v0, v1, x10, x13, x23] G17) fun x25 G24 =>
  ifV x25 (
  some ((.int .i64 6), G24)) (
  some ((.int .i64 9), G24))
theorem m548 {e : Ex} {E : Ev} (h : ExLe Q e E) (v0 v1 : Value) (G : GS) : Ref (s548 true e v0 v1 G) (s548 false (Ex.of E) v0 v1 G) := by
  unfold s548
  exact Ref.go
theorem f548 {orc : FuncId → Bool} {e : Ex} (h : ExLe Q e (E orc)) (v0 v1 : Value) (G : GS) : Ref (s548 true e v0 v1 G) ((E orc).cl 548 [v0, v1] G) :=
  fun r hr => cl_sxE_some Q orc (vs := [v0, v1]) G Tryz.func548 (by kernel_rfl) (by kernel_rfl) (by kernel_rfl) (by kernel_rfl) (by kernel_rfl) (by kernel_rfl) (m548 h v0 v1 G r hr)
/-- (*coxswain/insert.Insert).link -/
noncomputable def s549 (q : Bool) (e : Ex) (v0 v1 : Value) (G : GS) : Option (Value × GS) :=
  bS (e.ev.cl 558 [v0, v1] G) fun x0 G1 =>
  bP (un Q q .not x0) fun x2 =>
  ifV x2 (
  bS (e.ev.cl 426 [v0, (.int .i64 7)] G1) fun x3 G4 =>
  some (x3, G4)) (
  bP (pNil v0) fun x5 =>
  bP (fa Q q 571 8 20 x5) fun x6 =>
  bP (ld Q q 3 x6 G1) fun x7 =>
  bP (bn Q q .add 3 (.tmp 14) (.const (.int .i64 1)) x7 (.int .i64 1)) fun x8 =>
  bP (pNil v0) fun x9 =>
  bP (fa Q q 571 8 20 x9) fun x10 =>
  bP (st Q q 3 1 x10 x8 G1) fun G11 =>
  bS (e.ev.cl 559 [v0] G11) fun x12 G13 =>
  some (x12, G13))
theorem m549 {e : Ex} {E : Ev} (h : ExLe Q e E) (v0 v1 : Value) (G : GS) : Ref (s549 true e v0 v1 G) (s549 false (Ex.of E) v0 v1 G) := by
  unfold s549
  exact Ref.go
theorem f549 {orc : FuncId → Bool} {e : Ex} (h : ExLe Q e (E orc)) (v0 v1 : Value) (G : GS) : Ref (s549 true e v0 v1 G) ((E orc).cl 549 [v0, v1] G) :=
  fun r hr => cl_sxE_some Q orc (vs := [v0, v1]) G Tryz.func549 (by kernel_rfl) (by kernel_rfl) (by kernel_rfl) (by kernel_rfl) (by kernel_rfl) (by kernel_rfl) (m549 h v0 v1 G r hr)
/-- (*coxswain/insert.Insert).findAgain -/
noncomputable def s550 (q : Bool) (e : Ex) (v0 v1 : Value) (G : GS) : Option (Value × GS) :=
  bS (e.ev.cl 556 [v0, v1] G) fun x0 G1 =>
  ifV x0 (
  some ((.int .i64 8), G1)) (
  some ((.int .i64 7), G1))
theorem m550 {e : Ex} {E : Ev} (h : ExLe Q e E) (v0 v1 : Value) (G : GS) : Ref (s550 true e v0 v1 G) (s550 false (Ex.of E) v0 v1 G) := by
  unfold s550
  exact Ref.go
theorem f550 {orc : FuncId → Bool} {e : Ex} (h : ExLe Q e (E orc)) (v0 v1 : Value) (G : GS) : Ref (s550 true e v0 v1 G) ((E orc).cl 550 [v0, v1] G) :=
  fun r hr => cl_sxE_some Q orc (vs := [v0, v1]) G Tryz.func550 (by kernel_rfl) (by kernel_rfl) (by kernel_rfl) (by kernel_rfl) (by kernel_rfl) (by kernel_rfl) (m550 h v0 v1 G r hr)
/-- (*coxswain/insert.Insert).look -/
noncomputable def s551 (q : Bool) (e : Ex) (v0 v1 : Value) (G : GS) : Option (Value × GS) :=
  bS (e.ev.cl 560 [v0, v1, (.int .i64 0)] G) fun x0 G1 =>
  bS (e.ev.cl 192 [x0] G1) fun x2 G3 =>
  ifV x2 (
  bS (e.ev.cl 426 [v0, (.int .i64 10)] G3) fun x4 G5 =>
  some (x4, G5)) (
  some ((.int .i64 4), G3))
theorem m551 {e : Ex} {E : Ev} (h : ExLe Q e E) (v0 v1 : Value) (G : GS) : Ref (s551 true e v0 v1 G) (s551 false (Ex.of E) v0 v1 G) := by
  unfold s551
  exact Ref.go
theorem f551 {orc : FuncId → Bool} {e : Ex} (h : ExLe Q e (E orc)) (v0 v1 : Value) (G : GS) : Ref (s551 true e v0 v1 G) ((E orc).cl 551 [v0, v1] G) :=
  fun r hr => cl_sxE_some Q orc (vs := [v0, v1]) G Tryz.func551 (by kernel_rfl) (by kernel_rfl) (by kernel_rfl) (by kernel_rfl) (by kernel_rfl) (by kernel_rfl) (m551 h v0 v1 G r hr)
/-- (*coxswain/insert.Insert).ask -/
noncomputable def s552 (q : Bool) (e : Ex) (v0 v1 : Value) (G : GS) : Option (Value × GS) :=
  bS (e.ev.cl 560 [v0, v1, (.int .i64 0)] G) fun x0 G1 =>
  bS (e.ev.cl 192 [x0] G1) fun x2 G3 =>
  ifV x2 (
  bS (e.ev.cl 426 [v0, (.int .i64 10)] G3) fun x4 G5 =>
  some (x4, G5)) (
  some ((.int .i64 11), G3))
theorem m552 {e : Ex} {E : Ev} (h : ExLe Q e E) (v0 v1 : Value) (G : GS) : Ref (s552 true e v0 v1 G) (s552 false (Ex.of E) v0 v1 G) := by
  unfold s552
  exact Ref.go
theorem f552 {orc : FuncId → Bool} {e : Ex} (h : ExLe Q e (E orc)) (v0 v1 : Value) (G : GS) : Ref (s552 true e v0 v1 G) ((E orc).cl 552 [v0, v1] G) :=
  fun r hr => cl_sxE_some Q orc (vs := [v0, v1]) G Tryz.func552 (by kernel_rfl) (by kernel_rfl) (by kernel_rfl) (by kernel_rfl) (by kernel_rfl) (by kernel_rfl) (m552 h v0 v1 G r hr)
/-- (*coxswain/insert.Insert).clear -/
noncomputable def s553 (q : Bool) (e : Ex) (v0 v1 : Value) (G : GS) : Option (Value × GS) :=
  bS (e.ev.cl 556 [v0, v1] G) fun x0 G1 =>
  ifV x0 (
  some ((.int .i64 11), G1)) (
  some ((.int .i64 10), G1))
theorem m553 {e : Ex} {E : Ev} (h : ExLe Q e E) (v0 v1 : Value) (G : GS) : Ref (s553 true e v0 v1 G) (s553 false (Ex.of E) v0 v1 G) := by
  unfold s553
  exact Ref.go
theorem f553 {orc : FuncId → Bool} {e : Ex} (h : ExLe Q e (E orc)) (v0 v1 : Value) (G : GS) : Ref (s553 true e v0 v1 G) ((E orc).cl 553 [v0, v1] G) :=
  fun r hr => cl_sxE_some Q orc (vs := [v0, v1]) G Tryz.func553 (by kernel_rfl) (by kernel_rfl) (by kernel_rfl) (by kernel_rfl) (by kernel_rfl) (by kernel_rfl) (m553 h v0 v1 G r hr)
/-- (*coxswain/insert.Insert).let -/
noncomputable def s554 (q : Bool) (e : Ex) (v0 v1 : Value) (G : GS) : Option (Value × GS) :=
  bP (pNil v0) fun x0 =>
  bP (fa Q q 571 3 15 x0) fun x1 =>
  bP (ld Q q 41 x1 G) fun x2 =>
  bP (pNil v0) fun x3 =>
  bP (fa Q q 571 12 24 x3) fun x4 =>
  bP (st Q q 41 1 x4 x2 G) fun G5 =>
  bP (pNil v0) fun x6 =>
  bP (fa Q q 571 0 0 x6) fun x7 =>
  bP (lda Q q 31 13 x7 (G5.room 12)) fun x8 =>
  bP (pNil v0) fun x9 =>
  bP (fa Q q 571 5 17 x9) fun x10 =>
  bP (ld Q q 3 x10 (G5.room 12)) fun x11 =>
  bS (e.ev.cl 191 [x8, x11, (.int .i64 3)] (G5.room 12)) fun x13 G12 =>
  bS (e.ev.cl 198 [v1, x13, (.int .u64 18446744073709551615)] G12) fun x15 G14 =>
  bP (bn Q q .neq 41 (.tmp 22) (.const (.int .u64 0)) x15 (.int .u64 0)) fun x16 =>
  ifV x16 (
  some ((.int .i64 0), G14)) (
  bP (pNil v0) fun x17 =>
  bP (fa Q q 571 0 0 x17) fun x18 =>
  bP (fa Q q 31 3 3 x18) fun x19 =>
  bP (lda Q q 29 10 x19 (G14.room 14)) fun x20 =>
  bP (pNil v0) fun x21 =>
  bP (fa Q q 571 5 17 x21) fun x22 =>
  bP (ld Q q 3 x22 (G14.room 14)) fun x23 =>
  bS (e.ev.cl 199 [x20, x23] (G14.room 14)) fun x25 G24 =>
  bP (pNil v0) fun x26 =>
  bP (fa Q q 571 11 23 x26) fun x27 =>
  bP (st Q q 38 1 x27 x25 G24) fun G28 =>
  some ((.int .i64 12), G28))
theorem m554 {e : Ex} {E : Ev} (h : ExLe Q e E) (v0 v1 : Value) (G : GS) : Ref (s554 true e v0 v1 G) (s554 false (Ex.of E) v0 v1 G) := by
  unfold s554
  exact Ref.go
theorem f554 {orc : FuncId → Bool} {e : Ex} (h : ExLe Q e (E orc)) (v0 v1 : Value) (G : GS) : Ref (s554 true e v0 v1 G) ((E orc).cl 554 [v0, v1] G) :=
  fun r hr => cl_sxE_some Q orc (vs := [v0, v1]) G Tryz.func554 (by kernel_rfl) (by kernel_rfl) (by kernel_rfl) (by kernel_rfl) (by kernel_rfl) (by kernel_rfl) (m554 h v0 v1 G r hr)
/-- (*coxswain/insert.Insert).wait -/
noncomputable def s555 (q : Bool) (e : Ex) (v0 v1 : Value) (G : GS) : Option (Value × GS) :=
  bP (pNil v0) fun x0 =>
  bP (fa Q q 571 12 24 x0) fun x1 =>
  bP (st Q q 41 1 x1 (.int .u64 0) G) fun G2 =>
  bP (pNil v0) fun x3 =>
  bP (fa Q q 571 11 23 x3) fun x4 =>
  bP (ld Q q 38 x4 G2) fun x5 =>
  bS (e.ev.cl 200 [x5, v1] G2) fun x6 G7 =>
  ifV x6 (
  some ((.int .i64 0), G7)) (
  some ((.int .i64 12), G7))
theorem m555 {e : Ex} {E : Ev} (h : ExLe Q e E) (v0 v1 : Value) (G : GS) : Ref (s555 true e v0 v1 G) (s555 false (Ex.of E) v0 v1 G) := by
  unfold s555
  exact Ref.go
theorem f555 {orc : FuncId → Bool} {e : Ex} (h : ExLe Q e (E orc)) (v0 v1 : Value) (G : GS) : Ref (s555 true e v0 v1 G) ((E orc).cl 555 [v0, v1] G) :=
  fun r hr => cl_sxE_some Q orc (vs := [v0, v1]) G Tryz.func555 (by kernel_rfl) (by kernel_rfl) (by kernel_rfl) (by kernel_rfl) (by kernel_rfl) (by kernel_rfl) (m555 h v0 v1 G r hr)
/-- (*coxswain/insert.Insert).seeks -/
noncomputable def s556 (q : Bool) (e : Ex) (v0 v1 : Value) (G : GS) : Option (Value × GS) :=
  bP (pNil v0) fun x0 =>
  bP (fa Q q 571 10 22 x0) fun x1 =>
  bP (ld Q q 37 x1 G) fun x2 =>
  bS (e.ev.cl 196 [x2, v1] G) fun x3 G4 =>
  bP (pNil v0) fun x5 =>
  bP (fa Q q 571 10 22 x5) fun x6 =>
  bP (ld Q q 37 x6 G4) fun x7 =>
  bS (e.ev.cl 197 [x7] G4) fun x8 G9 =>
  bP (pNil v0) fun x10 =>
  bP (fa Q q 571 12 24 x10) fun x11 =>
  bP (st Q q 41 1 x11 x8 G9) fun G12 =>
  some (x3, G12)
theorem m556 {e : Ex} {E : Ev} (h : ExLe Q e E) (v0 v1 : Value) (G : GS) : Ref (s556 true e v0 v1 G) (s556 false (Ex.of E) v0 v1 G) := by
  unfold s556
  exact Ref.go
theorem f556 {orc : FuncId → Bool} {e : Ex} (h : ExLe Q e (E orc)) (v0 v1 : Value) (G : GS) : Ref (s556 true e v0 v1 G) ((E orc).cl 556 [v0, v1] G) :=
  fun r hr => cl_sxE_some Q orc (vs := [v0, v1]) G Tryz.func556 (by kernel_rfl) (by kernel_rfl) (by kernel_rfl) (by kernel_rfl) (by kernel_rfl) (by kernel_rfl) (m556 h v0 v1 G r hr)
noncomputable def b557_0 (q : Bool) (e : Ex) (lp : Env → GS → Option (Exit × Env × GS)) (τ : Env) (G : GS) : Option (Exit × Env × GS) :=
  bV q (τ 3) fun a3_ =>
  bV q (τ 7) fun a7_ =>
  bV q (τ 8) fun a8_ =>
  bV q (τ 9) fun a9_ =>
  bP (bn Q q .lss 3 (.tmp 9) (.tmp 8) a9_ a8_) fun x0 =>
  ifV x0 (
  bP (ias Q q 281 4 a7_ a9_) fun x1 =>
  bP (lda Q q 280 4 x1 G) fun x2 =>
  bS (al Q q 280 z280 G) fun x3 G4 =>
  bP (st Q q 280 4 x3 x2 G4) fun G5 =>
  bP (fa Q q 280 3 3 x3) fun x6 =>
  bP (ld Q q 41 x6 G5) fun x7 =>
  bS (bs Q q 111 1 (rep z41 1) 1 [(0, 0, 1)] [x7] G5) fun x8 G9 =>
  bS (ap Q q 111 111 1 8 a3_ x8 G9) fun x10 G11 =>
  bP (bn Q q .add 3 (.tmp 9) (.const (.int .i64 1)) a9_ (.int .i64 1)) fun x12 =>
  lp (tu τ [(3, x10), (7, a7_), (8, a8_), (9, x12), (5, x3), (10, x0), (11, x1), (12, x2), (13, a3_), (14, x6), (15, x7), (16, x8), (17, x10), (18, x12)]) G11) (
  some ((.exit 0), clq q 20 (tu τ [(3, a3_), (7, a7_), (8, a8_), (9, a9_), (10, x0)]), G))
theorem mb557_0 {e : Ex} {E : Ev} (h : ExLe Q e E) {lp lp' : Env → GS → Option (Exit × Env × GS)} (hlp : LpLe lp lp') (τ : Env) (G : GS) : Ref (b557_0 true e lp τ G) (b557_0 false (Ex.of E) lp' τ G) := by
  unfold b557_0
  exact Ref.go
theorem l557_0 {orc : FuncId → Bool} {e : Ex} (h : ExLe Q e (E orc)) (lp : Env → GS → Option (Exit × Env × GS)) (hlp : ∀ τ G, Ref (lp τ G) (mapE ((E orc).lp (subAt [1, 1, 0, 1, 0, 0] (bodyOf Tryz.f557)) (lst 20 τ) G))) (T : List Value) (G : GS) (hT : T.length = 20) : Ref (b557_0 true e lp (nth undef T) G) (mapE ((E orc).lp (subAt [1, 1, 0, 1, 0, 0] (bodyOf Tryz.f557)) T G)) :=
  fun r hr => lp_sxM Q orc G hT (by kernel_rfl) (mb557_0 h ⟨hlp⟩ _ _ r hr)
/-- (*coxswain/find.Find).Succs -/
noncomputable def s557 (q : Bool) (e : Ex) (v0 : Value) (G : GS) : Option (Value × GS) :=
  bS (e.ev.cl 562 [v0] G) fun x0 G1 =>
  bP (ln Q q 281 x0) fun x2 =>
  bL q e 557 0 (subAt [1, 1, 0, 1, 0, 0] (bodyOf Tryz.f557)) 20 (tu (nth undef [v0]) [(2, (.slice none 0 0)), (3, (.slice none 0 0)), (6, v0), (7, x0), (8, x2), (9, (.int .i64 0))]) G1 fun e3 t4 G5 =>
  bV q (t4 3) fun t4x3_ =>
  ifE e3 (.exit 0) (
  some (t4x3_, G5)) (none)
theorem m557 {e : Ex} {E : Ev} (h : ExLe Q e E) (v0 : Value) (G : GS) : Ref (s557 true e v0 G) (s557 false (Ex.of E) v0 G) := by
  unfold s557
  exact Ref.go
theorem f557 {orc : FuncId → Bool} {e : Ex} (h : ExLe Q e (E orc)) (v0 : Value) (G : GS) : Ref (s557 true e v0 G) ((E orc).cl 557 [v0] G) :=
  fun r hr => cl_sxE_some Q orc (vs := [v0]) G Tryz.func557 (by kernel_rfl) (by kernel_rfl) (by kernel_rfl) (by kernel_rfl) (by kernel_rfl) (by kernel_rfl) (m557 h v0 G r hr)
/-- (*coxswain/insert.Insert).hangs -/
noncomputable def s558 (q : Bool) (e : Ex) (v0 v1 : Value) (G : GS) : Option (Value × GS) :=
  bP (pNil v0) fun x0 =>
  bP (fa Q q 571 10 22 x0) fun x1 =>
  bP (ld Q q 37 x1 (G.room 15)) fun x2 =>
  bS (e.ev.cl 563 [x2] (G.room 15)) fun x4 G3 =>
  bP (pNil v0) fun x5 =>
  bP (fa Q q 571 8 20 x5) fun x6 =>
  bP (ld Q q 3 x6 G3) fun x7 =>
  chk ((sameO (ld Q q 3 x6 (G.room 15)) x7 && true)) <|
  bP (ias Q q 111 1 x4 x7) fun x8 =>
  bP (ld Q q 41 x8 G3) fun x9 =>
  bP (pNil v0) fun x10 =>
  bP (fa Q q 571 12 24 x10) fun x11 =>
  bP (st Q q 41 1 x11 x9 G3) fun G12 =>
  bP (pNil v0) fun x13 =>
  bP (fa Q q 571 0 0 x13) fun x14 =>
  bP (lda Q q 31 13 x14 (G12.room 38)) fun x15 =>
  bP (pNil v0) fun x16 =>
  bP (fa Q q 571 10 22 x16) fun x17 =>
  bP (ld Q q 37 x17 (G12.room 38)) fun x18 =>
  bS (e.ev.cl 564 [x18] (G12.room 38)) fun x20 G19 =>
  chk ((sameO (lda Q q 31 13 x14 G19) x15 && true)) <|
  bP (pNil v0) fun x21 =>
  bP (fa Q q 571 8 20 x21) fun x22 =>
  bP (ld Q q 3 x22 G19) fun x23 =>
  chk ((sameO (ld Q q 3 x22 (G12.room 38)) x23 && true)) <|
  bP (ias Q q 78 1 x20 x23) fun x24 =>
  bP (ld Q q 3 x24 G19) fun x25 =>
  bP (pNil v0) fun x26 =>
  bP (fa Q q 571 8 20 x26) fun x27 =>
  bP (ld Q q 3 x27 G19) fun x28 =>
  chk ((sameO (ld Q q 3 x27 (G12.room 38)) x28 && true)) <|
  bS (e.ev.cl 69 [x15, x25, x28] G19) fun x30 G29 =>
  bP (pNil v0) fun x31 =>
  bP (fa Q q 571 10 22 x31) fun x32 =>
  bP (ld Q q 37 x32 G29) fun x33 =>
  chk ((sameO (ld Q q 37 x32 G19) x33 && (sameO (ld Q q 37 x32 (G12.room 38)) x33 && true))) <|
  bS (e.ev.cl 557 [x33] G29) fun x35 G34 =>
  bP (pNil v0) fun x36 =>
  bP (fa Q q 571 8 20 x36) fun x37 =>
  bP (ld Q q 3 x37 G34) fun x38 =>
  chk ((sameO (ld Q q 3 x37 G29) x38 && (sameO (ld Q q 3 x37 G19) x38 && (sameO (ld Q q 3 x37 (G12.room 38)) x38 && true)))) <|
  bP (ias Q q 111 1 x35 x38) fun x39 =>
  bP (ld Q q 41 x39 G34) fun x40 =>
  bP (pNil v0) fun x41 =>
  bP (fa Q q 571 3 15 x41) fun x42 =>
  bP (ld Q q 41 x42 G34) fun x43 =>
  chk ((sameO (ld Q q 41 x42 G29) x43 && (sameO (ld Q q 41 x42 G19) x43 && (sameO (ld Q q 41 x42 (G12.room 38)) x43 && true)))) <|
  bS (e.ev.cl 68 [v1, x30, x40, x43] G34) fun x45 G44 =>
  some (x45, G44)
theorem m558 {e : Ex} {E : Ev} (h : ExLe Q e E) (v0 v1 : Value) (G : GS) : Ref (s558 true e v0 v1 G) (s558 false (Ex.of E) v0 v1 G) := by
  unfold s558
  exact Ref.go
theorem f558 {orc : FuncId → Bool} {e : Ex} (h : ExLe Q e (E orc)) (v0 v1 : Value) (G : GS) : Ref (s558 true e v0 v1 G) ((E orc).cl 558 [v0, v1] G) :=
  fun r hr => cl_sxE_some Q orc (vs := [v0, v1]) G Tryz.func558 (by kernel_rfl) (by kernel_rfl) (by kernel_rfl) (by kernel_rfl) (by kernel_rfl) (by kernel_rfl) (m558 h v0 v1 G r hr)
/-- (*coxswain/insert.Insert).up -/
noncomputable def s559 (q : Bool) (e : Ex) (v0 : Value) (G : GS) : Option (Value × GS) :=
  bP (pNil v0) fun x0 =>
  bP (fa Q q 571 8 20 x0) fun x1 =>
  bP (ld Q q 3 x1 (G.room 9)) fun x2 =>
  bP (pNil v0) fun x3 =>
  bP (fa Q q 571 6 18 x3) fun x4 =>
  bP (ld Q q 3 x4 (G.room 9)) fun x5 =>
  bP (bn Q q .geq 3 (.tmp 6) (.tmp 10) x2 x5) fun x6 =>
  ifV x6 (
  some ((.int .i64 9), (G.room 9))) (
  some ((.int .i64 4), (G.room 9)))
theorem m559 {e : Ex} {E : Ev} (h : ExLe Q e E) (v0 : Value) (G : GS) : Ref (s559 true e v0 G) (s559 false (Ex.of E) v0 G) := by
  unfold s559
  exact Ref.go
theorem f559 {orc : FuncId → Bool} {e : Ex} (h : ExLe Q e (E orc)) (v0 : Value) (G : GS) : Ref (s559 true e v0 G) ((E orc).cl 559 [v0] G) :=
  fun r hr => cl_sxE_some Q orc (vs := [v0]) G Tryz.func559 (by kernel_rfl) (by kernel_rfl) (by kernel_rfl) (by kernel_rfl) (by kernel_rfl) (by kernel_rfl) (m559 h v0 G r hr)
/-- (*coxswain/insert.Insert).read -/
noncomputable def s560 (q : Bool) (e : Ex) (v0 v1 v2 : Value) (G : GS) : Option (Value × GS) :=
  bP (pNil v0) fun x0 =>
  bP (fa Q q 571 3 15 x0) fun x1 =>
  bP (ld Q q 41 x1 G) fun x2 =>
  bP (pNil v0) fun x3 =>
  bP (fa Q q 571 12 24 x3) fun x4 =>
  bP (st Q q 41 1 x4 x2 G) fun G5 =>
  bP (pNil v0) fun x6 =>
  bP (fa Q q 571 0 0 x6) fun x7 =>
  bP (lda Q q 31 13 x7 (G5.room 13)) fun x8 =>
  bP (pNil v0) fun x9 =>
  bP (fa Q q 571 5 17 x9) fun x10 =>
  bP (ld Q q 3 x10 (G5.room 13)) fun x11 =>
  bS (e.ev.cl 69 [x8, x11, v2] (G5.room 13)) fun x13 G12 =>
  bS (e.ev.cl 177 [v1, x13] G12) fun x15 G14 =>
  some (x15, G14)
theorem m560 {e : Ex} {E : Ev} (h : ExLe Q e E) (v0 v1 v2 : Value) (G : GS) : Ref (s560 true e v0 v1 v2 G) (s560 false (Ex.of E) v0 v1 v2 G) := by
  unfold s560
  exact Ref.go
theorem f560 {orc : FuncId → Bool} {e : Ex} (h : ExLe Q e (E orc)) (v0 v1 v2 : Value) (G : GS) : Ref (s560 true e v0 v1 v2 G) ((E orc).cl 560 [v0, v1, v2] G) :=
  fun r hr => cl_sxE_some Q orc (vs := [v0, v1, v2]) G Tryz.func560 (by kernel_rfl) (by kernel_rfl) (by kernel_rfl) (by kernel_rfl) (by kernel_rfl) (by kernel_rfl) (m560 h v0 v1 v2 G r hr)
/-- (*coxswain/insert.Insert).swap -/
noncomputable def s561 (q : Bool) (e : Ex) (v0 v1 v2 v3 v4 : Value) (G : GS) : Option (Value × GS) :=
  bP (pNil v0) fun x0 =>
  bP (fa Q q 571 3 15 x0) fun x1 =>
  bP (ld Q q 41 x1 G) fun x2 =>
  bP (pNil v0) fun x3 =>
  bP (fa Q q 571 12 24 x3) fun x4 =>
  bP (st Q q 41 1 x4 x2 G) fun G5 =>
  bS (e.ev.cl 68 [v1, v2, v3, v4] G5) fun x6 G7 =>
  some (x6, G7)
theorem m561 {e : Ex} {E : Ev} (h : ExLe Q e E) (v0 v1 v2 v3 v4 : Value) (G : GS) : Ref (s561 true e v0 v1 v2 v3 v4 G) (s561 false (Ex.of E) v0 v1 v2 v3 v4 G) := by
  unfold s561
  exact Ref.go
theorem f561 {orc : FuncId → Bool} {e : Ex} (h : ExLe Q e (E orc)) (v0 v1 v2 v3 v4 : Value) (G : GS) : Ref (s561 true e v0 v1 v2 v3 v4 G) ((E orc).cl 561 [v0, v1, v2, v3, v4] G) :=
  fun r hr => cl_sxE_some Q orc (vs := [v0, v1, v2, v3, v4]) G Tryz.func561 (by kernel_rfl) (by kernel_rfl) (by kernel_rfl) (by kernel_rfl) (by kernel_rfl) (by kernel_rfl) (m561 h v0 v1 v2 v3 v4 G r hr)
/-- (*coxswain/find.Find).all -/
noncomputable def s562 (q : Bool) (e : Ex) (v0 : Value) (G : GS) : Option (Value × GS) :=
  bS (e.ev.cl 565 [v0] G) fun x0 G1 =>
  bP (bn Q q .neq 33 (.tmp 4) (.const (.int .i64 0)) x0 (.int .i64 0)) fun x2 =>
  ifV x2 (
  some ((.slice none 0 0), G1)) (
  bP (pNil v0) fun x3 =>
  bP (fa Q q 283 5 20 x3) fun x4 =>
  bP (ld Q q 281 x4 G1) fun x5 =>
  some (x5, G1))
theorem m562 {e : Ex} {E : Ev} (h : ExLe Q e E) (v0 : Value) (G : GS) : Ref (s562 true e v0 G) (s562 false (Ex.of E) v0 G) := by
  unfold s562
  exact Ref.go
theorem f562 {orc : FuncId → Bool} {e : Ex} (h : ExLe Q e (E orc)) (v0 : Value) (G : GS) : Ref (s562 true e v0 G) ((E orc).cl 562 [v0] G) :=
  fun r hr => cl_sxE_some Q orc (vs := [v0]) G Tryz.func562 (by kernel_rfl) (by kernel_rfl) (by kernel_rfl) (by kernel_rfl) (by kernel_rfl) (by kernel_rfl) (m562 h v0 G r hr)
noncomputable def b563_0 (q : Bool) (e : Ex) (lp : Env → GS → Option (Exit × Env × GS)) (τ : Env) (G : GS) : Option (Exit × Env × GS) :=
  bV q (τ 3) fun a3_ =>
  bV q (τ 7) fun a7_ =>
  bV q (τ 8) fun a8_ =>
  bV q (τ 9) fun a9_ =>
  bP (bn Q q .lss 3 (.tmp 9) (.tmp 8) a9_ a8_) fun x0 =>
  ifV x0 (
  bP (ias Q q 281 4 a7_ a9_) fun x1 =>
  bP (lda Q q 280 4 x1 G) fun x2 =>
  bS (al Q q 280 z280 G) fun x3 G4 =>
  bP (st Q q 280 4 x3 x2 G4) fun G5 =>
  bP (fa Q q 280 2 2 x3) fun x6 =>
  bP (ld Q q 41 x6 G5) fun x7 =>
  bS (bs Q q 111 1 (rep z41 1) 1 [(0, 0, 1)] [x7] G5) fun x8 G9 =>
  bS (ap Q q 111 111 1 8 a3_ x8 G9) fun x10 G11 =>
  bP (bn Q q .add 3 (.tmp 9) (.const (.int .i64 1)) a9_ (.int .i64 1)) fun x12 =>
  lp (tu τ [(3, x10), (7, a7_), (8, a8_), (9, x12), (5, x3), (10, x0), (11, x1), (12, x2), (13, a3_), (14, x6), (15, x7), (16, x8), (17, x10), (18, x12)]) G11) (
  some ((.exit 0), clq q 20 (tu τ [(3, a3_), (7, a7_), (8, a8_), (9, a9_), (10, x0)]), G))
theorem mb563_0 {e : Ex} {E : Ev} (h : ExLe Q e E) {lp lp' : Env → GS → Option (Exit × Env × GS)} (hlp : LpLe lp lp') (τ : Env) (G : GS) : Ref (b563_0 true e lp τ G) (b563_0 false (Ex.of E) lp' τ G) := by
  unfold b563_0
  exact Ref.go
theorem l563_0 {orc : FuncId → Bool} {e : Ex} (h : ExLe Q e (E orc)) (lp : Env → GS → Option (Exit × Env × GS)) (hlp : ∀ τ G, Ref (lp τ G) (mapE ((E orc).lp (subAt [1, 1, 0, 1, 0, 0] (bodyOf Tryz.f563)) (lst 20 τ) G))) (T : List Value) (G : GS) (hT : T.length = 20) : Ref (b563_0 true e lp (nth undef T) G) (mapE ((E orc).lp (subAt [1, 1, 0, 1, 0, 0] (bodyOf Tryz.f563)) T G)) :=
  fun r hr => lp_sxM Q orc G hT (by kernel_rfl) (mb563_0 h ⟨hlp⟩ _ _ r hr)
/-- (*coxswain/find.Find).Known -/
noncomputable def s563 (q : Bool) (e : Ex) (v0 : Value) (G : GS) : Option (Value × GS) :=
  bS (e.ev.cl 562 [v0] G) fun x0 G1 =>
  bP (ln Q q 281 x0) fun x2 =>
  bL q e 563 0 (subAt [1, 1, 0, 1, 0, 0] (bodyOf Tryz.f563)) 20 (tu (nth undef [v0]) [(2, (.slice none 0 0)), (3, (.slice none 0 0)), (6, v0), (7, x0), (8, x2), (9, (.int .i64 0))]) G1 fun e3 t4 G5 =>
  bV q (t4 3) fun t4x3_ =>
  ifE e3 (.exit 0) (
  some (t4x3_, G5)) (none)
theorem m563 {e : Ex} {E : Ev} (h : ExLe Q e E) (v0 : Value) (G : GS) : Ref (s563 true e v0 G) (s563 false (Ex.of E) v0 G) := by
  unfold s563
  exact Ref.go
theorem f563 {orc : FuncId → Bool} {e : Ex} (h : ExLe Q e (E orc)) (v0 : Value) (G : GS) : Ref (s563 true e v0 G) ((E orc).cl 563 [v0] G) :=
  fun r hr => cl_sxE_some Q orc (vs := [v0]) G Tryz.func563 (by kernel_rfl) (by kernel_rfl) (by kernel_rfl) (by kernel_rfl) (by kernel_rfl) (by kernel_rfl) (m563 h v0 G r hr)
noncomputable def b564_0 (q : Bool) (e : Ex) (lp : Env → GS → Option (Exit × Env × GS)) (τ : Env) (G : GS) : Option (Exit × Env × GS) :=
  bV q (τ 3) fun a3_ =>
  bV q (τ 7) fun a7_ =>
  bV q (τ 8) fun a8_ =>
  bV q (τ 9) fun a9_ =>
  bP (bn Q q .lss 3 (.tmp 9) (.tmp 8) a9_ a8_) fun x0 =>
  ifV x0 (
  bP (ias Q q 281 4 a7_ a9_) fun x1 =>
  bP (lda Q q 280 4 x1 G) fun x2 =>
  bS (al Q q 280 z280 G) fun x3 G4 =>
  bP (st Q q 280 4 x3 x2 G4) fun G5 =>
  bP (fa Q q 280 1 1 x3) fun x6 =>
  bP (ld Q q 3 x6 G5) fun x7 =>
  bS (bs Q q 78 1 (rep z3 1) 1 [(0, 0, 1)] [x7] G5) fun x8 G9 =>
  bS (ap Q q 78 78 1 8 a3_ x8 G9) fun x10 G11 =>
  bP (bn Q q .add 3 (.tmp 9) (.const (.int .i64 1)) a9_ (.int .i64 1)) fun x12 =>
  lp (tu τ [(3, x10), (7, a7_), (8, a8_), (9, x12), (5, x3), (10, x0), (11, x1), (12, x2), (13, a3_), (14, x6), (15, x7), (16, x8), (17, x10), (18, x12)]) G11) (
  some ((.exit 0), clq q 20 (tu τ [(3, a3_), (7, a7_), (8, a8_), (9, a9_), (10, x0)]), G))
theorem mb564_0 {e : Ex} {E : Ev} (h : ExLe Q e E) {lp lp' : Env → GS → Option (Exit × Env × GS)} (hlp : LpLe lp lp') (τ : Env) (G : GS) : Ref (b564_0 true e lp τ G) (b564_0 false (Ex.of E) lp' τ G) := by
  unfold b564_0
  exact Ref.go
theorem l564_0 {orc : FuncId → Bool} {e : Ex} (h : ExLe Q e (E orc)) (lp : Env → GS → Option (Exit × Env × GS)) (hlp : ∀ τ G, Ref (lp τ G) (mapE ((E orc).lp (subAt [1, 1, 0, 1, 0, 0] (bodyOf Tryz.f564)) (lst 20 τ) G))) (T : List Value) (G : GS) (hT : T.length = 20) : Ref (b564_0 true e lp (nth undef T) G) (mapE ((E orc).lp (subAt [1, 1, 0, 1, 0, 0] (bodyOf Tryz.f564)) T G)) :=
  fun r hr => lp_sxM Q orc G hT (by kernel_rfl) (mb564_0 h ⟨hlp⟩ _ _ r hr)
/-- (*coxswain/find.Find).Preds -/
noncomputable def s564 (q : Bool) (e : Ex) (v0 : Value) (G : GS) : Option (Value × GS) :=
  bS (e.ev.cl 562 [v0] G) fun x0 G1 =>
  bP (ln Q q 281 x0) fun x2 =>
  bL q e 564 0 (subAt [1, 1, 0, 1, 0, 0] (bodyOf Tryz.f564)) 20 (tu (nth undef [v0]) [(2, (.slice none 0 0)), (3, (.slice none 0 0)), (6, v0), (7, x0), (8, x2), (9, (.int .i64 0))]) G1 fun e3 t4 G5 =>
  bV q (t4 3) fun t4x3_ =>
  ifE e3 (.exit 0) (
  some (t4x3_, G5)) (none)
theorem m564 {e : Ex} {E : Ev} (h : ExLe Q e E) (v0 : Value) (G : GS) : Ref (s564 true e v0 G) (s564 false (Ex.of E) v0 G) := by
  unfold s564
  exact Ref.go
theorem f564 {orc : FuncId → Bool} {e : Ex} (h : ExLe Q e (E orc)) (v0 : Value) (G : GS) : Ref (s564 true e v0 G) ((E orc).cl 564 [v0] G) :=
  fun r hr => cl_sxE_some Q orc (vs := [v0]) G Tryz.func564 (by kernel_rfl) (by kernel_rfl) (by kernel_rfl) (by kernel_rfl) (by kernel_rfl) (by kernel_rfl) (m564 h v0 G r hr)
/-- (*coxswain/find.Find).Err -/
noncomputable def s565 (q : Bool) (e : Ex) (v0 : Value) (G : GS) : Option (Value × GS) :=
  bP (ep Q q false 37 (.tmp 4) (.const (.pointer none)) v0 (.pointer none)) fun x0 =>
  bS (gd x0 false (some (v0, G)) G) fun x1 G2 =>
  bS (gd x0 false (bP (pNil x1) fun y => some (y, G2)) G2) fun x3 G4 =>
  bS (gd x0 false (bP (fa Q q 283 7 22 x3) fun y => some (y, G4)) G4) fun x5 G6 =>
  bS (gd x0 false (bP (ld Q q 4 x5 G6) fun y => some (y, G6)) G6) fun x7 G8 =>
  bS (gd x0 false (bP (un Q q .not x7) fun y => some (y, G8)) G8) fun x9 G10 =>
  bP (pickV x0 (.bool true) x9) fun x11 =>
  ifV x11 (
  some ((.int .i64 1), G10)) (
  bP (pNil v0) fun x12 =>
  bP (fa Q q 283 2 14 x12) fun x13 =>
  bP (ld Q q 3 x13 G10) fun x14 =>
  bP (bn Q q .neq 3 (.tmp 17) (.const (.int .i64 9)) x14 (.int .i64 9)) fun x15 =>
  ifV x15 (
  some ((.int .i64 14), G10)) (
  bP (pNil v0) fun x16 =>
  bP (fa Q q 283 8 23 x16) fun x17 =>
  bP (ld Q q 33 x17 G10) fun x18 =>
  some (x18, G10)))
theorem m565 {e : Ex} {E : Ev} (h : ExLe Q e E) (v0 : Value) (G : GS) : Ref (s565 true e v0 G) (s565 false (Ex.of E) v0 G) := by
  unfold s565
  exact Ref.go
theorem f565 {orc : FuncId → Bool} {e : Ex} (h : ExLe Q e (E orc)) (v0 : Value) (G : GS) : Ref (s565 true e v0 G) ((E orc).cl 565 [v0] G) :=
  fun r hr => cl_sxE_some Q orc (vs := [v0]) G Tryz.func565 (by kernel_rfl) (by kernel_rfl) (by kernel_rfl) (by kernel_rfl) (by kernel_rfl) (by kernel_rfl) (m565 h v0 G r hr)
noncomputable def clT (orc : FuncId → Bool) (e : Ex) (f : FuncId) (vs : List Value) (G : GS) : Option (Value × GS) :=
  fork f 297 (
fork f 191 (
fork f 77 (
fork f 62 (
fork f 17 (
fork f 11 (
fork f 9 (
leaf f 9 (app1 (s9 true e) vs G)) (
fork f 10 (
leaf f 10 (app1 (s10 true e) vs G)) (
leaf f 11 (app1 (s11 true e) vs G)))) (
fork f 13 (
fork f 12 (
leaf f 12 (app2 (s12 true e) vs G)) (
leaf f 13 (app2 (s13 true e) vs G))) (
fork f 16 (
leaf f 16 (app1 (s16 true e) vs G)) (
leaf f 17 (app1 (s17 true e) vs G))))) (
fork f 21 (
fork f 19 (
leaf f 19 (app1 (s19 true e) vs G)) (
fork f 20 (
leaf f 20 (app1 (s20 true e) vs G)) (
leaf f 21 (app1 (s21 true e) vs G)))) (
fork f 45 (
fork f 32 (
leaf f 32 (app0 (orc 32) (hasTab Q G) (s32 true e) vs G)) (
leaf f 45 (app3 (s45 true e) vs G))) (
fork f 61 (
leaf f 61 (app1 (s61 true e) vs G)) (
leaf f 62 (app1 (s62 true e) vs G)))))) (
fork f 69 (
fork f 65 (
fork f 63 (
leaf f 63 (app1 (s63 true e) vs G)) (
fork f 64 (
leaf f 64 (app2 (s64 true e) vs G)) (
leaf f 65 (app2 (s65 true e) vs G)))) (
fork f 67 (
fork f 66 (
leaf f 66 (app3 (s66 true e) vs G)) (
leaf f 67 (app1 (s67 true e) vs G))) (
fork f 68 (
leaf f 68 (app4 (s68 true e) vs G)) (
leaf f 69 (app3 (s69 true e) vs G))))) (
fork f 73 (
fork f 71 (
fork f 70 (
leaf f 70 (app2 (s70 true e) vs G)) (
leaf f 71 (app2 (s71 true e) vs G))) (
fork f 72 (
leaf f 72 (app2 (s72 true e) vs G)) (
leaf f 73 (app2 (s73 true e) vs G)))) (
fork f 75 (
fork f 74 (
leaf f 74 (app1 (s74 true e) vs G)) (
leaf f 75 (app2 (s75 true e) vs G))) (
fork f 76 (
leaf f 76 (app3 (s76 true e) vs G)) (
leaf f 77 (app2 (s77 true e) vs G))))))) (
fork f 129 (
fork f 109 (
fork f 102 (
fork f 78 (
leaf f 78 (app1 (s78 true e) vs G)) (
fork f 79 (
leaf f 79 (app1 (s79 true e) vs G)) (
leaf f 102 (app1 (s102 true e) vs G)))) (
fork f 105 (
fork f 103 (
leaf f 103 (app1 (s103 true e) vs G)) (
leaf f 105 (app1 (s105 true e) vs G))) (
fork f 107 (
leaf f 107 (app5 (s107 true e) vs G)) (
leaf f 109 (app2 (s109 true e) vs G))))) (
fork f 119 (
fork f 111 (
leaf f 111 (app2 (s111 true e) vs G)) (
fork f 115 (
leaf f 115 (app1 (s115 true e) vs G)) (
leaf f 119 (app1 (s119 true e) vs G)))) (
fork f 127 (
fork f 122 (
leaf f 122 (app1 (s122 true e) vs G)) (
leaf f 127 (app0 (orc 127) (hasTab Q G) (s127 true e) vs G))) (
fork f 128 (
leaf f 128 (app0 (orc 128) (hasTab Q G) (s128 true e) vs G)) (
leaf f 129 (app3 (s129 true e) vs G)))))) (
fork f 173 (
fork f 158 (
fork f 130 (
leaf f 130 (app4 (s130 true e) vs G)) (
fork f 156 (
leaf f 156 (app2 (s156 true e) vs G)) (
leaf f 158 (app2 (s158 true e) vs G)))) (
fork f 160 (
fork f 159 (
leaf f 159 (app5 (s159 true e) vs G)) (
leaf f 160 (app1 (s160 true e) vs G))) (
fork f 171 (
leaf f 171 (app2 (s171 true e) vs G)) (
leaf f 173 (app1 (s173 true e) vs G))))) (
fork f 182 (
fork f 177 (
fork f 174 (
leaf f 174 (app1 (s174 true e) vs G)) (
leaf f 177 (app2 (s177 true e) vs G))) (
fork f 179 (
leaf f 179 (app2 (s179 true e) vs G)) (
leaf f 182 (app2 (s182 true e) vs G)))) (
fork f 189 (
fork f 187 (
leaf f 187 (app2 (s187 true e) vs G)) (
leaf f 189 (app1 (s189 true e) vs G))) (
fork f 190 (
leaf f 190 (app1 (s190 true e) vs G)) (
leaf f 191 (app3 (s191 true e) vs G)))))))) (
fork f 256 (
fork f 218 (
fork f 198 (
fork f 194 (
fork f 192 (
leaf f 192 (app1 (s192 true e) vs G)) (
fork f 193 (
leaf f 193 (app1 (s193 true e) vs G)) (
leaf f 194 (app2 (s194 true e) vs G)))) (
fork f 196 (
fork f 195 (
leaf f 195 (app1 (s195 true e) vs G)) (
leaf f 196 (app2 (s196 true e) vs G))) (
fork f 197 (
leaf f 197 (app1 (s197 true e) vs G)) (
leaf f 198 (app3 (s198 true e) vs G))))) (
fork f 203 (
fork f 199 (
leaf f 199 (app2 (s199 true e) vs G)) (
fork f 200 (
leaf f 200 (app2 (s200 true e) vs G)) (
leaf f 203 (app1 (s203 true e) vs G)))) (
fork f 214 (
fork f 213 (
leaf f 213 (app2 (s213 true e) vs G)) (
leaf f 214 (app1 (s214 true e) vs G))) (
fork f 215 (
leaf f 215 (app1 (s215 true e) vs G)) (
leaf f 218 (app1 (s218 true e) vs G)))))) (
fork f 227 (
fork f 221 (
fork f 219 (
leaf f 219 (app2 (s219 true e) vs G)) (
fork f 220 (
leaf f 220 (app1 (s220 true e) vs G)) (
leaf f 221 (app1 (s221 true e) vs G)))) (
fork f 223 (
fork f 222 (
leaf f 222 (app2 (s222 true e) vs G)) (
leaf f 223 (app2 (s223 true e) vs G))) (
fork f 226 (
leaf f 226 (app1 (s226 true e) vs G)) (
leaf f 227 (app2 (s227 true e) vs G))))) (
fork f 232 (
fork f 230 (
fork f 229 (
leaf f 229 (app2 (s229 true e) vs G)) (
leaf f 230 (app6 (s230 true e) vs G))) (
fork f 231 (
leaf f 231 (app2 (s231 true e) vs G)) (
leaf f 232 (app3 (s232 true e) vs G)))) (
fork f 248 (
fork f 246 (
leaf f 246 (app2 (s246 true e) vs G)) (
leaf f 248 (app1 (s248 true e) vs G))) (
fork f 254 (
leaf f 254 (app1 (s254 true e) vs G)) (
leaf f 256 (app1 (s256 true e) vs G))))))) (
fork f 278 (
fork f 271 (
fork f 259 (
fork f 257 (
leaf f 257 (app2 (s257 true e) vs G)) (
fork f 258 (
leaf f 258 (app1 (s258 true e) vs G)) (
leaf f 259 (app2 (s259 true e) vs G)))) (
fork f 268 (
fork f 260 (
leaf f 260 (app1 (s260 true e) vs G)) (
leaf f 268 (app2 (s268 true e) vs G))) (
fork f 269 (
leaf f 269 (app2 (s269 true e) vs G)) (
leaf f 271 (app0 (orc 271) (hasTab Q G) (s271 true e) vs G))))) (
fork f 274 (
fork f 272 (
leaf f 272 (app2 (s272 true e) vs G)) (
fork f 273 (
leaf f 273 (app3 (s273 true e) vs G)) (
leaf f 274 (app3 (s274 true e) vs G)))) (
fork f 276 (
fork f 275 (
leaf f 275 (app2 (s275 true e) vs G)) (
leaf f 276 (app2 (s276 true e) vs G))) (
fork f 277 (
leaf f 277 (app1 (s277 true e) vs G)) (
leaf f 278 (app1 (s278 true e) vs G)))))) (
fork f 287 (
fork f 281 (
fork f 279 (
leaf f 279 (app1 (s279 true e) vs G)) (
fork f 280 (
leaf f 280 (app2 (s280 true e) vs G)) (
leaf f 281 (app2 (s281 true e) vs G)))) (
fork f 285 (
fork f 284 (
leaf f 284 (app0 (orc 284) (hasTab Q G) (s284 true e) vs G)) (
leaf f 285 (app1 (s285 true e) vs G))) (
fork f 286 (
leaf f 286 (app1 (s286 true e) vs G)) (
leaf f 287 (app1 (s287 true e) vs G))))) (
fork f 292 (
fork f 290 (
fork f 289 (
leaf f 289 (app2 (s289 true e) vs G)) (
leaf f 290 (app1 (s290 true e) vs G))) (
fork f 291 (
leaf f 291 (app2 (s291 true e) vs G)) (
leaf f 292 (app2 (s292 true e) vs G)))) (
fork f 294 (
fork f 293 (
leaf f 293 (app1 (s293 true e) vs G)) (
leaf f 294 (app1 (s294 true e) vs G))) (
fork f 295 (
leaf f 295 (app2 (s295 true e) vs G)) (
leaf f 297 (app1 (s297 true e) vs G))))))))) (
fork f 409 (
fork f 363 (
fork f 344 (
fork f 321 (
fork f 300 (
fork f 298 (
leaf f 298 (app2 (s298 true e) vs G)) (
fork f 299 (
leaf f 299 (app1 (s299 true e) vs G)) (
leaf f 300 (app3 (s300 true e) vs G)))) (
fork f 303 (
fork f 302 (
leaf f 302 (app2 (s302 true e) vs G)) (
leaf f 303 (app2 (s303 true e) vs G))) (
fork f 320 (
leaf f 320 (app2 (s320 true e) vs G)) (
leaf f 321 (app2 (s321 true e) vs G))))) (
fork f 336 (
fork f 334 (
leaf f 334 (app1 (s334 true e) vs G)) (
fork f 335 (
leaf f 335 (app2 (s335 true e) vs G)) (
leaf f 336 (app2 (s336 true e) vs G)))) (
fork f 338 (
fork f 337 (
leaf f 337 (app1 (s337 true e) vs G)) (
leaf f 338 (app2 (s338 true e) vs G))) (
fork f 339 (
leaf f 339 (app2 (s339 true e) vs G)) (
leaf f 344 (app2 (s344 true e) vs G)))))) (
fork f 352 (
fork f 347 (
fork f 345 (
leaf f 345 (app2 (s345 true e) vs G)) (
fork f 346 (
leaf f 346 (app2 (s346 true e) vs G)) (
leaf f 347 (app1 (s347 true e) vs G)))) (
fork f 349 (
fork f 348 (
leaf f 348 (app2 (s348 true e) vs G)) (
leaf f 349 (app2 (s349 true e) vs G))) (
fork f 350 (
leaf f 350 (app2 (s350 true e) vs G)) (
leaf f 352 (app2 (s352 true e) vs G))))) (
fork f 359 (
fork f 357 (
fork f 356 (
leaf f 356 (app2 (s356 true e) vs G)) (
leaf f 357 (app1 (s357 true e) vs G))) (
fork f 358 (
leaf f 358 (app2 (s358 true e) vs G)) (
leaf f 359 (app2 (s359 true e) vs G)))) (
fork f 361 (
fork f 360 (
leaf f 360 (app2 (s360 true e) vs G)) (
leaf f 361 (app2 (s361 true e) vs G))) (
fork f 362 (
leaf f 362 (app2 (s362 true e) vs G)) (
leaf f 363 (app2 (s363 true e) vs G))))))) (
fork f 394 (
fork f 371 (
fork f 366 (
fork f 364 (
leaf f 364 (app2 (s364 true e) vs G)) (
fork f 365 (
leaf f 365 (app1 (s365 true e) vs G)) (
leaf f 366 (app1 (s366 true e) vs G)))) (
fork f 368 (
fork f 367 (
leaf f 367 (app1 (s367 true e) vs G)) (
leaf f 368 (app1 (s368 true e) vs G))) (
fork f 370 (
leaf f 370 (app2 (s370 true e) vs G)) (
leaf f 371 (app3 (s371 true e) vs G))))) (
fork f 390 (
fork f 372 (
leaf f 372 (app1 (s372 true e) vs G)) (
fork f 373 (
leaf f 373 (app2 (s373 true e) vs G)) (
leaf f 390 (app1 (s390 true e) vs G)))) (
fork f 392 (
fork f 391 (
leaf f 391 (app2 (s391 true e) vs G)) (
leaf f 392 (app2 (s392 true e) vs G))) (
fork f 393 (
leaf f 393 (app1 (s393 true e) vs G)) (
leaf f 394 (app1 (s394 true e) vs G)))))) (
fork f 401 (
fork f 397 (
fork f 395 (
leaf f 395 (app2 (s395 true e) vs G)) (
fork f 396 (
leaf f 396 (app2 (s396 true e) vs G)) (
leaf f 397 (app3 (s397 true e) vs G)))) (
fork f 399 (
fork f 398 (
leaf f 398 (app2 (s398 true e) vs G)) (
leaf f 399 (app3 (s399 true e) vs G))) (
fork f 400 (
leaf f 400 (app1 (s400 true e) vs G)) (
leaf f 401 (app5 (s401 true e) vs G))))) (
fork f 405 (
fork f 403 (
fork f 402 (
leaf f 402 (app1 (s402 true e) vs G)) (
leaf f 403 (app1 (s403 true e) vs G))) (
fork f 404 (
leaf f 404 (app4 (s404 true e) vs G)) (
leaf f 405 (app1 (s405 true e) vs G)))) (
fork f 407 (
fork f 406 (
leaf f 406 (app2 (s406 true e) vs G)) (
leaf f 407 (app2 (s407 true e) vs G))) (
fork f 408 (
leaf f 408 (app2 (s408 true e) vs G)) (
leaf f 409 (app2 (s409 true e) vs G)))))))) (
fork f 532 (
fork f 429 (
fork f 422 (
fork f 412 (
fork f 410 (
leaf f 410 (app2 (s410 true e) vs G)) (
fork f 411 (
leaf f 411 (app1 (s411 true e) vs G)) (
leaf f 412 (app2 (s412 true e) vs G)))) (
fork f 420 (
fork f 419 (
leaf f 419 (app2 (s419 true e) vs G)) (
leaf f 420 (app1 (s420 true e) vs G))) (
fork f 421 (
leaf f 421 (app2 (s421 true e) vs G)) (
leaf f 422 (app4 (s422 true e) vs G))))) (
fork f 425 (
fork f 423 (
leaf f 423 (app4 (s423 true e) vs G)) (
fork f 424 (
leaf f 424 (app5 (s424 true e) vs G)) (
leaf f 425 (app3 (s425 true e) vs G)))) (
fork f 427 (
fork f 426 (
leaf f 426 (app2 (s426 true e) vs G)) (
leaf f 427 (app2 (s427 true e) vs G))) (
fork f 428 (
leaf f 428 (app2 (s428 true e) vs G)) (
leaf f 429 (app2 (s429 true e) vs G)))))) (
fork f 520 (
fork f 432 (
fork f 430 (
leaf f 430 (app2 (s430 true e) vs G)) (
fork f 431 (
leaf f 431 (app1 (s431 true e) vs G)) (
leaf f 432 (app2 (s432 true e) vs G)))) (
fork f 436 (
fork f 435 (
leaf f 435 (app3 (s435 true e) vs G)) (
leaf f 436 (app2 (s436 true e) vs G))) (
fork f 502 (
leaf f 502 (app2 (s502 true e) vs G)) (
leaf f 520 (app1 (s520 true e) vs G))))) (
fork f 525 (
fork f 523 (
fork f 521 (
leaf f 521 (app1 (s521 true e) vs G)) (
leaf f 523 (app2 (s523 true e) vs G))) (
fork f 524 (
leaf f 524 (app2 (s524 true e) vs G)) (
leaf f 525 (app2 (s525 true e) vs G)))) (
fork f 530 (
fork f 529 (
leaf f 529 (app2 (s529 true e) vs G)) (
leaf f 530 (app2 (s530 true e) vs G))) (
fork f 531 (
leaf f 531 (app2 (s531 true e) vs G)) (
leaf f 532 (app2 (s532 true e) vs G))))))) (
fork f 550 (
fork f 542 (
fork f 538 (
fork f 534 (
leaf f 534 (app2 (s534 true e) vs G)) (
fork f 535 (
leaf f 535 (app2 (s535 true e) vs G)) (
leaf f 538 (app2 (s538 true e) vs G)))) (
fork f 540 (
fork f 539 (
leaf f 539 (app2 (s539 true e) vs G)) (
leaf f 540 (app1 (s540 true e) vs G))) (
fork f 541 (
leaf f 541 (app2 (s541 true e) vs G)) (
leaf f 542 (app2 (s542 true e) vs G))))) (
fork f 546 (
fork f 544 (
fork f 543 (
leaf f 543 (app0 (orc 543) (hasTab Q G) (s543 true e) vs G)) (
leaf f 544 (app2 (s544 true e) vs G))) (
fork f 545 (
leaf f 545 (app2 (s545 true e) vs G)) (
leaf f 546 (app2 (s546 true e) vs G)))) (
fork f 548 (
fork f 547 (
leaf f 547 (app2 (s547 true e) vs G)) (
leaf f 548 (app2 (s548 true e) vs G))) (
fork f 549 (
leaf f 549 (app2 (s549 true e) vs G)) (
leaf f 550 (app2 (s550 true e) vs G)))))) (
fork f 557 (
fork f 553 (
fork f 551 (
leaf f 551 (app2 (s551 true e) vs G)) (
fork f 552 (
leaf f 552 (app2 (s552 true e) vs G)) (
leaf f 553 (app2 (s553 true e) vs G)))) (
fork f 555 (
fork f 554 (
leaf f 554 (app2 (s554 true e) vs G)) (
leaf f 555 (app2 (s555 true e) vs G))) (
fork f 556 (
leaf f 556 (app2 (s556 true e) vs G)) (
leaf f 557 (app1 (s557 true e) vs G))))) (
fork f 561 (
fork f 559 (
fork f 558 (
leaf f 558 (app2 (s558 true e) vs G)) (
leaf f 559 (app1 (s559 true e) vs G))) (
fork f 560 (
leaf f 560 (app3 (s560 true e) vs G)) (
leaf f 561 (app5 (s561 true e) vs G)))) (
fork f 563 (
fork f 562 (
leaf f 562 (app1 (s562 true e) vs G)) (
leaf f 563 (app1 (s563 true e) vs G))) (
fork f 564 (
leaf f 564 (app1 (s564 true e) vs G)) (
leaf f 565 (app1 (s565 true e) vs G)))))))))
theorem clT_ok {orc : FuncId → Bool} {e : Ex} (h : ExLe Q e (E orc)) (f : FuncId) (vs : List Value) (G : GS) : Ref (clT orc e f vs G) ((E orc).cl f vs G) :=
  Ref.fork (
Ref.fork (
Ref.fork (
Ref.fork (
Ref.fork (
Ref.fork (
Ref.fork (
Ref.leaf (y := fun f => (E orc).cl f vs G) (Ref.app1 (fun u0 G => f9 h u0 G) vs G)) (
Ref.fork (
Ref.leaf (y := fun f => (E orc).cl f vs G) (Ref.app1 (fun u0 G => f10 h u0 G) vs G)) (
Ref.leaf (y := fun f => (E orc).cl f vs G) (Ref.app1 (fun u0 G => f11 h u0 G) vs G)))) (
Ref.fork (
Ref.fork (
Ref.leaf (y := fun f => (E orc).cl f vs G) (Ref.app2 (fun u0 u1 G => f12 h u0 u1 G) vs G)) (
Ref.leaf (y := fun f => (E orc).cl f vs G) (Ref.app2 (fun u0 u1 G => f13 h u0 u1 G) vs G))) (
Ref.fork (
Ref.leaf (y := fun f => (E orc).cl f vs G) (Ref.app1 (fun u0 G => f16 h u0 G) vs G)) (
Ref.leaf (y := fun f => (E orc).cl f vs G) (Ref.app1 (fun u0 G => f17 h u0 G) vs G))))) (
Ref.fork (
Ref.fork (
Ref.leaf (y := fun f => (E orc).cl f vs G) (Ref.app1 (fun u0 G => f19 h u0 G) vs G)) (
Ref.fork (
Ref.leaf (y := fun f => (E orc).cl f vs G) (Ref.app1 (fun u0 G => f20 h u0 G) vs G)) (
Ref.leaf (y := fun f => (E orc).cl f vs G) (Ref.app1 (fun u0 G => f21 h u0 G) vs G)))) (
Ref.fork (
Ref.fork (
Ref.leaf (y := fun f => (E orc).cl f vs G) (Ref.app0 (fun ho G => f32 h ho G) vs G)) (
Ref.leaf (y := fun f => (E orc).cl f vs G) (Ref.app3 (fun u0 u1 u2 G => f45 h u0 u1 u2 G) vs G))) (
Ref.fork (
Ref.leaf (y := fun f => (E orc).cl f vs G) (Ref.app1 (fun u0 G => f61 h u0 G) vs G)) (
Ref.leaf (y := fun f => (E orc).cl f vs G) (Ref.app1 (fun u0 G => f62 h u0 G) vs G)))))) (
Ref.fork (
Ref.fork (
Ref.fork (
Ref.leaf (y := fun f => (E orc).cl f vs G) (Ref.app1 (fun u0 G => f63 h u0 G) vs G)) (
Ref.fork (
Ref.leaf (y := fun f => (E orc).cl f vs G) (Ref.app2 (fun u0 u1 G => f64 h u0 u1 G) vs G)) (
Ref.leaf (y := fun f => (E orc).cl f vs G) (Ref.app2 (fun u0 u1 G => f65 h u0 u1 G) vs G)))) (
Ref.fork (
Ref.fork (
Ref.leaf (y := fun f => (E orc).cl f vs G) (Ref.app3 (fun u0 u1 u2 G => f66 h u0 u1 u2 G) vs G)) (
Ref.leaf (y := fun f => (E orc).cl f vs G) (Ref.app1 (fun u0 G => f67 h u0 G) vs G))) (
Ref.fork (
Ref.leaf (y := fun f => (E orc).cl f vs G) (Ref.app4 (fun u0 u1 u2 u3 G => f68 h u0 u1 u2 u3 G) vs G)) (
Ref.leaf (y := fun f => (E orc).cl f vs G) (Ref.app3 (fun u0 u1 u2 G => f69 h u0 u1 u2 G) vs G))))) (
Ref.fork (
Ref.fork (
Ref.fork (
Ref.leaf (y := fun f => (E orc).cl f vs G) (Ref.app2 (fun u0 u1 G => f70 h u0 u1 G) vs G)) (
Ref.leaf (y := fun f => (E orc).cl f vs G) (Ref.app2 (fun u0 u1 G => f71 h u0 u1 G) vs G))) (
Ref.fork (
Ref.leaf (y := fun f => (E orc).cl f vs G) (Ref.app2 (fun u0 u1 G => f72 h u0 u1 G) vs G)) (
Ref.leaf (y := fun f => (E orc).cl f vs G) (Ref.app2 (fun u0 u1 G => f73 h u0 u1 G) vs G)))) (
Ref.fork (
Ref.fork (
Ref.leaf (y := fun f => (E orc).cl f vs G) (Ref.app1 (fun u0 G => f74 h u0 G) vs G)) (
Ref.leaf (y := fun f => (E orc).cl f vs G) (Ref.app2 (fun u0 u1 G => f75 h u0 u1 G) vs G))) (
Ref.fork (
Ref.leaf (y := fun f => (E orc).cl f vs G) (Ref.app3 (fun u0 u1 u2 G => f76 h u0 u1 u2 G) vs G)) (
Ref.leaf (y := fun f => (E orc).cl f vs G) (Ref.app2 (fun u0 u1 G => f77 h u0 u1 G) vs G))))))) (
Ref.fork (
Ref.fork (
Ref.fork (
Ref.fork (
Ref.leaf (y := fun f => (E orc).cl f vs G) (Ref.app1 (fun u0 G => f78 h u0 G) vs G)) (
Ref.fork (
Ref.leaf (y := fun f => (E orc).cl f vs G) (Ref.app1 (fun u0 G => f79 h u0 G) vs G)) (
Ref.leaf (y := fun f => (E orc).cl f vs G) (Ref.app1 (fun u0 G => f102 h u0 G) vs G)))) (
Ref.fork (
Ref.fork (
Ref.leaf (y := fun f => (E orc).cl f vs G) (Ref.app1 (fun u0 G => f103 h u0 G) vs G)) (
Ref.leaf (y := fun f => (E orc).cl f vs G) (Ref.app1 (fun u0 G => f105 h u0 G) vs G))) (
Ref.fork (
Ref.leaf (y := fun f => (E orc).cl f vs G) (Ref.app5 (fun u0 u1 u2 u3 u4 G => f107 h u0 u1 u2 u3 u4 G) vs G)) (
Ref.leaf (y := fun f => (E orc).cl f vs G) (Ref.app2 (fun u0 u1 G => f109 h u0 u1 G) vs G))))) (
Ref.fork (
Ref.fork (
Ref.leaf (y := fun f => (E orc).cl f vs G) (Ref.app2 (fun u0 u1 G => f111 h u0 u1 G) vs G)) (
Ref.fork (
Ref.leaf (y := fun f => (E orc).cl f vs G) (Ref.app1 (fun u0 G => f115 h u0 G) vs G)) (
Ref.leaf (y := fun f => (E orc).cl f vs G) (Ref.app1 (fun u0 G => f119 h u0 G) vs G)))) (
Ref.fork (
Ref.fork (
Ref.leaf (y := fun f => (E orc).cl f vs G) (Ref.app1 (fun u0 G => f122 h u0 G) vs G)) (
Ref.leaf (y := fun f => (E orc).cl f vs G) (Ref.app0 (fun ho G => f127 h ho G) vs G))) (
Ref.fork (
Ref.leaf (y := fun f => (E orc).cl f vs G) (Ref.app0 (fun ho G => f128 h ho G) vs G)) (
Ref.leaf (y := fun f => (E orc).cl f vs G) (Ref.app3 (fun u0 u1 u2 G => f129 h u0 u1 u2 G) vs G)))))) (
Ref.fork (
Ref.fork (
Ref.fork (
Ref.leaf (y := fun f => (E orc).cl f vs G) (Ref.app4 (fun u0 u1 u2 u3 G => f130 h u0 u1 u2 u3 G) vs G)) (
Ref.fork (
Ref.leaf (y := fun f => (E orc).cl f vs G) (Ref.app2 (fun u0 u1 G => f156 h u0 u1 G) vs G)) (
Ref.leaf (y := fun f => (E orc).cl f vs G) (Ref.app2 (fun u0 u1 G => f158 h u0 u1 G) vs G)))) (
Ref.fork (
Ref.fork (
Ref.leaf (y := fun f => (E orc).cl f vs G) (Ref.app5 (fun u0 u1 u2 u3 u4 G => f159 h u0 u1 u2 u3 u4 G) vs G)) (
Ref.leaf (y := fun f => (E orc).cl f vs G) (Ref.app1 (fun u0 G => f160 h u0 G) vs G))) (
Ref.fork (
Ref.leaf (y := fun f => (E orc).cl f vs G) (Ref.app2 (fun u0 u1 G => f171 h u0 u1 G) vs G)) (
Ref.leaf (y := fun f => (E orc).cl f vs G) (Ref.app1 (fun u0 G => f173 h u0 G) vs G))))) (
Ref.fork (
Ref.fork (
Ref.fork (
Ref.leaf (y := fun f => (E orc).cl f vs G) (Ref.app1 (fun u0 G => f174 h u0 G) vs G)) (
Ref.leaf (y := fun f => (E orc).cl f vs G) (Ref.app2 (fun u0 u1 G => f177 h u0 u1 G) vs G))) (
Ref.fork (
Ref.leaf (y := fun f => (E orc).cl f vs G) (Ref.app2 (fun u0 u1 G => f179 h u0 u1 G) vs G)) (
Ref.leaf (y := fun f => (E orc).cl f vs G) (Ref.app2 (fun u0 u1 G => f182 h u0 u1 G) vs G)))) (
Ref.fork (
Ref.fork (
Ref.leaf (y := fun f => (E orc).cl f vs G) (Ref.app2 (fun u0 u1 G => f187 h u0 u1 G) vs G)) (
Ref.leaf (y := fun f => (E orc).cl f vs G) (Ref.app1 (fun u0 G => f189 h u0 G) vs G))) (
Ref.fork (
Ref.leaf (y := fun f => (E orc).cl f vs G) (Ref.app1 (fun u0 G => f190 h u0 G) vs G)) (
Ref.leaf (y := fun f => (E orc).cl f vs G) (Ref.app3 (fun u0 u1 u2 G => f191 h u0 u1 u2 G) vs G)))))))) (
Ref.fork (
Ref.fork (
Ref.fork (
Ref.fork (
Ref.fork (
Ref.leaf (y := fun f => (E orc).cl f vs G) (Ref.app1 (fun u0 G => f192 h u0 G) vs G)) (
Ref.fork (
Ref.leaf (y := fun f => (E orc).cl f vs G) (Ref.app1 (fun u0 G => f193 h u0 G) vs G)) (
Ref.leaf (y := fun f => (E orc).cl f vs G) (Ref.app2 (fun u0 u1 G => f194 h u0 u1 G) vs G)))) (
Ref.fork (
Ref.fork (
Ref.leaf (y := fun f => (E orc).cl f vs G) (Ref.app1 (fun u0 G => f195 h u0 G) vs G)) (
Ref.leaf (y := fun f => (E orc).cl f vs G) (Ref.app2 (fun u0 u1 G => f196 h u0 u1 G) vs G))) (
Ref.fork (
Ref.leaf (y := fun f => (E orc).cl f vs G) (Ref.app1 (fun u0 G => f197 h u0 G) vs G)) (
Ref.leaf (y := fun f => (E orc).cl f vs G) (Ref.app3 (fun u0 u1 u2 G => f198 h u0 u1 u2 G) vs G))))) (
Ref.fork (
Ref.fork (
Ref.leaf (y := fun f => (E orc).cl f vs G) (Ref.app2 (fun u0 u1 G => f199 h u0 u1 G) vs G)) (
Ref.fork (
Ref.leaf (y := fun f => (E orc).cl f vs G) (Ref.app2 (fun u0 u1 G => f200 h u0 u1 G) vs G)) (
Ref.leaf (y := fun f => (E orc).cl f vs G) (Ref.app1 (fun u0 G => f203 h u0 G) vs G)))) (
Ref.fork (
Ref.fork (
Ref.leaf (y := fun f => (E orc).cl f vs G) (Ref.app2 (fun u0 u1 G => f213 h u0 u1 G) vs G)) (
Ref.leaf (y := fun f => (E orc).cl f vs G) (Ref.app1 (fun u0 G => f214 h u0 G) vs G))) (
Ref.fork (
Ref.leaf (y := fun f => (E orc).cl f vs G) (Ref.app1 (fun u0 G => f215 h u0 G) vs G)) (
Ref.leaf (y := fun f => (E orc).cl f vs G) (Ref.app1 (fun u0 G => f218 h u0 G) vs G)))))) (
Ref.fork (
Ref.fork (
Ref.fork (
Ref.leaf (y := fun f => (E orc).cl f vs G) (Ref.app2 (fun u0 u1 G => f219 h u0 u1 G) vs G)) (
Ref.fork (
Ref.leaf (y := fun f => (E orc).cl f vs G) (Ref.app1 (fun u0 G => f220 h u0 G) vs G)) (
Ref.leaf (y := fun f => (E orc).cl f vs G) (Ref.app1 (fun u0 G => f221 h u0 G) vs G)))) (
Ref.fork (
Ref.fork (
Ref.leaf (y := fun f => (E orc).cl f vs G) (Ref.app2 (fun u0 u1 G => f222 h u0 u1 G) vs G)) (
Ref.leaf (y := fun f => (E orc).cl f vs G) (Ref.app2 (fun u0 u1 G => f223 h u0 u1 G) vs G))) (
Ref.fork (
Ref.leaf (y := fun f => (E orc).cl f vs G) (Ref.app1 (fun u0 G => f226 h u0 G) vs G)) (
Ref.leaf (y := fun f => (E orc).cl f vs G) (Ref.app2 (fun u0 u1 G => f227 h u0 u1 G) vs G))))) (
Ref.fork (
Ref.fork (
Ref.fork (
Ref.leaf (y := fun f => (E orc).cl f vs G) (Ref.app2 (fun u0 u1 G => f229 h u0 u1 G) vs G)) (
Ref.leaf (y := fun f => (E orc).cl f vs G) (Ref.app6 (fun u0 u1 u2 u3 u4 u5 G => f230 h u0 u1 u2 u3 u4 u5 G) vs G))) (
Ref.fork (
Ref.leaf (y := fun f => (E orc).cl f vs G) (Ref.app2 (fun u0 u1 G => f231 h u0 u1 G) vs G)) (
Ref.leaf (y := fun f => (E orc).cl f vs G) (Ref.app3 (fun u0 u1 u2 G => f232 h u0 u1 u2 G) vs G)))) (
Ref.fork (
Ref.fork (
Ref.leaf (y := fun f => (E orc).cl f vs G) (Ref.app2 (fun u0 u1 G => f246 h u0 u1 G) vs G)) (
Ref.leaf (y := fun f => (E orc).cl f vs G) (Ref.app1 (fun u0 G => f248 h u0 G) vs G))) (
Ref.fork (
Ref.leaf (y := fun f => (E orc).cl f vs G) (Ref.app1 (fun u0 G => f254 h u0 G) vs G)) (
Ref.leaf (y := fun f => (E orc).cl f vs G) (Ref.app1 (fun u0 G => f256 h u0 G) vs G))))))) (
Ref.fork (
Ref.fork (
Ref.fork (
Ref.fork (
Ref.leaf (y := fun f => (E orc).cl f vs G) (Ref.app2 (fun u0 u1 G => f257 h u0 u1 G) vs G)) (
Ref.fork (
Ref.leaf (y := fun f => (E orc).cl f vs G) (Ref.app1 (fun u0 G => f258 h u0 G) vs G)) (
Ref.leaf (y := fun f => (E orc).cl f vs G) (Ref.app2 (fun u0 u1 G => f259 h u0 u1 G) vs G)))) (
Ref.fork (
Ref.fork (
Ref.leaf (y := fun f => (E orc).cl f vs G) (Ref.app1 (fun u0 G => f260 h u0 G) vs G)) (
Ref.leaf (y := fun f => (E orc).cl f vs G) (Ref.app2 (fun u0 u1 G => f268 h u0 u1 G) vs G))) (
Ref.fork (
Ref.leaf (y := fun f => (E orc).cl f vs G) (Ref.app2 (fun u0 u1 G => f269 h u0 u1 G) vs G)) (
Ref.leaf (y := fun f => (E orc).cl f vs G) (Ref.app0 (fun ho G => f271 h ho G) vs G))))) (
Ref.fork (
Ref.fork (
Ref.leaf (y := fun f => (E orc).cl f vs G) (Ref.app2 (fun u0 u1 G => f272 h u0 u1 G) vs G)) (
Ref.fork (
Ref.leaf (y := fun f => (E orc).cl f vs G) (Ref.app3 (fun u0 u1 u2 G => f273 h u0 u1 u2 G) vs G)) (
Ref.leaf (y := fun f => (E orc).cl f vs G) (Ref.app3 (fun u0 u1 u2 G => f274 h u0 u1 u2 G) vs G)))) (
Ref.fork (
Ref.fork (
Ref.leaf (y := fun f => (E orc).cl f vs G) (Ref.app2 (fun u0 u1 G => f275 h u0 u1 G) vs G)) (
Ref.leaf (y := fun f => (E orc).cl f vs G) (Ref.app2 (fun u0 u1 G => f276 h u0 u1 G) vs G))) (
Ref.fork (
Ref.leaf (y := fun f => (E orc).cl f vs G) (Ref.app1 (fun u0 G => f277 h u0 G) vs G)) (
Ref.leaf (y := fun f => (E orc).cl f vs G) (Ref.app1 (fun u0 G => f278 h u0 G) vs G)))))) (
Ref.fork (
Ref.fork (
Ref.fork (
Ref.leaf (y := fun f => (E orc).cl f vs G) (Ref.app1 (fun u0 G => f279 h u0 G) vs G)) (
Ref.fork (
Ref.leaf (y := fun f => (E orc).cl f vs G) (Ref.app2 (fun u0 u1 G => f280 h u0 u1 G) vs G)) (
Ref.leaf (y := fun f => (E orc).cl f vs G) (Ref.app2 (fun u0 u1 G => f281 h u0 u1 G) vs G)))) (
Ref.fork (
Ref.fork (
Ref.leaf (y := fun f => (E orc).cl f vs G) (Ref.app0 (fun ho G => f284 h ho G) vs G)) (
Ref.leaf (y := fun f => (E orc).cl f vs G) (Ref.app1 (fun u0 G => f285 h u0 G) vs G))) (
Ref.fork (
Ref.leaf (y := fun f => (E orc).cl f vs G) (Ref.app1 (fun u0 G => f286 h u0 G) vs G)) (
Ref.leaf (y := fun f => (E orc).cl f vs G) (Ref.app1 (fun u0 G => f287 h u0 G) vs G))))) (
Ref.fork (
Ref.fork (
Ref.fork (
Ref.leaf (y := fun f => (E orc).cl f vs G) (Ref.app2 (fun u0 u1 G => f289 h u0 u1 G) vs G)) (
Ref.leaf (y := fun f => (E orc).cl f vs G) (Ref.app1 (fun u0 G => f290 h u0 G) vs G))) (
Ref.fork (
Ref.leaf (y := fun f => (E orc).cl f vs G) (Ref.app2 (fun u0 u1 G => f291 h u0 u1 G) vs G)) (
Ref.leaf (y := fun f => (E orc).cl f vs G) (Ref.app2 (fun u0 u1 G => f292 h u0 u1 G) vs G)))) (
Ref.fork (
Ref.fork (
Ref.leaf (y := fun f => (E orc).cl f vs G) (Ref.app1 (fun u0 G => f293 h u0 G) vs G)) (
Ref.leaf (y := fun f => (E orc).cl f vs G) (Ref.app1 (fun u0 G => f294 h u0 G) vs G))) (
Ref.fork (
Ref.leaf (y := fun f => (E orc).cl f vs G) (Ref.app2 (fun u0 u1 G => f295 h u0 u1 G) vs G)) (
Ref.leaf (y := fun f => (E orc).cl f vs G) (Ref.app1 (fun u0 G => f297 h u0 G) vs G))))))))) (
Ref.fork (
Ref.fork (
Ref.fork (
Ref.fork (
Ref.fork (
Ref.fork (
Ref.leaf (y := fun f => (E orc).cl f vs G) (Ref.app2 (fun u0 u1 G => f298 h u0 u1 G) vs G)) (
Ref.fork (
Ref.leaf (y := fun f => (E orc).cl f vs G) (Ref.app1 (fun u0 G => f299 h u0 G) vs G)) (
Ref.leaf (y := fun f => (E orc).cl f vs G) (Ref.app3 (fun u0 u1 u2 G => f300 h u0 u1 u2 G) vs G)))) (
Ref.fork (
Ref.fork (
Ref.leaf (y := fun f => (E orc).cl f vs G) (Ref.app2 (fun u0 u1 G => f302 h u0 u1 G) vs G)) (
Ref.leaf (y := fun f => (E orc).cl f vs G) (Ref.app2 (fun u0 u1 G => f303 h u0 u1 G) vs G))) (
Ref.fork (
Ref.leaf (y := fun f => (E orc).cl f vs G) (Ref.app2 (fun u0 u1 G => f320 h u0 u1 G) vs G)) (
Ref.leaf (y := fun f => (E orc).cl f vs G) (Ref.app2 (fun u0 u1 G => f321 h u0 u1 G) vs G))))) (
Ref.fork (
Ref.fork (
Ref.leaf (y := fun f => (E orc).cl f vs G) (Ref.app1 (fun u0 G => f334 h u0 G) vs G)) (
Ref.fork (
Ref.leaf (y := fun f => (E orc).cl f vs G) (Ref.app2 (fun u0 u1 G => f335 h u0 u1 G) vs G)) (
Ref.leaf (y := fun f => (E orc).cl f vs G) (Ref.app2 (fun u0 u1 G => f336 h u0 u1 G) vs G)))) (
Ref.fork (
Ref.fork (
Ref.leaf (y := fun f => (E orc).cl f vs G) (Ref.app1 (fun u0 G => f337 h u0 G) vs G)) (
Ref.leaf (y := fun f => (E orc).cl f vs G) (Ref.app2 (fun u0 u1 G => f338 h u0 u1 G) vs G))) (
Ref.fork (
Ref.leaf (y := fun f => (E orc).cl f vs G) (Ref.app2 (fun u0 u1 G => f339 h u0 u1 G) vs G)) (
Ref.leaf (y := fun f => (E orc).cl f vs G) (Ref.app2 (fun u0 u1 G => f344 h u0 u1 G) vs G)))))) (
Ref.fork (
Ref.fork (
Ref.fork (
Ref.leaf (y := fun f => (E orc).cl f vs G) (Ref.app2 (fun u0 u1 G => f345 h u0 u1 G) vs G)) (
Ref.fork (
Ref.leaf (y := fun f => (E orc).cl f vs G) (Ref.app2 (fun u0 u1 G => f346 h u0 u1 G) vs G)) (
Ref.leaf (y := fun f => (E orc).cl f vs G) (Ref.app1 (fun u0 G => f347 h u0 G) vs G)))) (
Ref.fork (
Ref.fork (
Ref.leaf (y := fun f => (E orc).cl f vs G) (Ref.app2 (fun u0 u1 G => f348 h u0 u1 G) vs G)) (
Ref.leaf (y := fun f => (E orc).cl f vs G) (Ref.app2 (fun u0 u1 G => f349 h u0 u1 G) vs G))) (
Ref.fork (
Ref.leaf (y := fun f => (E orc).cl f vs G) (Ref.app2 (fun u0 u1 G => f350 h u0 u1 G) vs G)) (
Ref.leaf (y := fun f => (E orc).cl f vs G) (Ref.app2 (fun u0 u1 G => f352 h u0 u1 G) vs G))))) (
Ref.fork (
Ref.fork (
Ref.fork (
Ref.leaf (y := fun f => (E orc).cl f vs G) (Ref.app2 (fun u0 u1 G => f356 h u0 u1 G) vs G)) (
Ref.leaf (y := fun f => (E orc).cl f vs G) (Ref.app1 (fun u0 G => f357 h u0 G) vs G))) (
Ref.fork (
Ref.leaf (y := fun f => (E orc).cl f vs G) (Ref.app2 (fun u0 u1 G => f358 h u0 u1 G) vs G)) (
Ref.leaf (y := fun f => (E orc).cl f vs G) (Ref.app2 (fun u0 u1 G => f359 h u0 u1 G) vs G)))) (
Ref.fork (
Ref.fork (
Ref.leaf (y := fun f => (E orc).cl f vs G) (Ref.app2 (fun u0 u1 G => f360 h u0 u1 G) vs G)) (
Ref.leaf (y := fun f => (E orc).cl f vs G) (Ref.app2 (fun u0 u1 G => f361 h u0 u1 G) vs G))) (
Ref.fork (
Ref.leaf (y := fun f => (E orc).cl f vs G) (Ref.app2 (fun u0 u1 G => f362 h u0 u1 G) vs G)) (
Ref.leaf (y := fun f => (E orc).cl f vs G) (Ref.app2 (fun u0 u1 G => f363 h u0 u1 G) vs G))))))) (
Ref.fork (
Ref.fork (
Ref.fork (
Ref.fork (
Ref.leaf (y := fun f => (E orc).cl f vs G) (Ref.app2 (fun u0 u1 G => f364 h u0 u1 G) vs G)) (
Ref.fork (
Ref.leaf (y := fun f => (E orc).cl f vs G) (Ref.app1 (fun u0 G => f365 h u0 G) vs G)) (
Ref.leaf (y := fun f => (E orc).cl f vs G) (Ref.app1 (fun u0 G => f366 h u0 G) vs G)))) (
Ref.fork (
Ref.fork (
Ref.leaf (y := fun f => (E orc).cl f vs G) (Ref.app1 (fun u0 G => f367 h u0 G) vs G)) (
Ref.leaf (y := fun f => (E orc).cl f vs G) (Ref.app1 (fun u0 G => f368 h u0 G) vs G))) (
Ref.fork (
Ref.leaf (y := fun f => (E orc).cl f vs G) (Ref.app2 (fun u0 u1 G => f370 h u0 u1 G) vs G)) (
Ref.leaf (y := fun f => (E orc).cl f vs G) (Ref.app3 (fun u0 u1 u2 G => f371 h u0 u1 u2 G) vs G))))) (
Ref.fork (
Ref.fork (
Ref.leaf (y := fun f => (E orc).cl f vs G) (Ref.app1 (fun u0 G => f372 h u0 G) vs G)) (
Ref.fork (
Ref.leaf (y := fun f => (E orc).cl f vs G) (Ref.app2 (fun u0 u1 G => f373 h u0 u1 G) vs G)) (
Ref.leaf (y := fun f => (E orc).cl f vs G) (Ref.app1 (fun u0 G => f390 h u0 G) vs G)))) (
Ref.fork (
Ref.fork (
Ref.leaf (y := fun f => (E orc).cl f vs G) (Ref.app2 (fun u0 u1 G => f391 h u0 u1 G) vs G)) (
Ref.leaf (y := fun f => (E orc).cl f vs G) (Ref.app2 (fun u0 u1 G => f392 h u0 u1 G) vs G))) (
Ref.fork (
Ref.leaf (y := fun f => (E orc).cl f vs G) (Ref.app1 (fun u0 G => f393 h u0 G) vs G)) (
Ref.leaf (y := fun f => (E orc).cl f vs G) (Ref.app1 (fun u0 G => f394 h u0 G) vs G)))))) (
Ref.fork (
Ref.fork (
Ref.fork (
Ref.leaf (y := fun f => (E orc).cl f vs G) (Ref.app2 (fun u0 u1 G => f395 h u0 u1 G) vs G)) (
Ref.fork (
Ref.leaf (y := fun f => (E orc).cl f vs G) (Ref.app2 (fun u0 u1 G => f396 h u0 u1 G) vs G)) (
Ref.leaf (y := fun f => (E orc).cl f vs G) (Ref.app3 (fun u0 u1 u2 G => f397 h u0 u1 u2 G) vs G)))) (
Ref.fork (
Ref.fork (
Ref.leaf (y := fun f => (E orc).cl f vs G) (Ref.app2 (fun u0 u1 G => f398 h u0 u1 G) vs G)) (
Ref.leaf (y := fun f => (E orc).cl f vs G) (Ref.app3 (fun u0 u1 u2 G => f399 h u0 u1 u2 G) vs G))) (
Ref.fork (
Ref.leaf (y := fun f => (E orc).cl f vs G) (Ref.app1 (fun u0 G => f400 h u0 G) vs G)) (
Ref.leaf (y := fun f => (E orc).cl f vs G) (Ref.app5 (fun u0 u1 u2 u3 u4 G => f401 h u0 u1 u2 u3 u4 G) vs G))))) (
Ref.fork (
Ref.fork (
Ref.fork (
Ref.leaf (y := fun f => (E orc).cl f vs G) (Ref.app1 (fun u0 G => f402 h u0 G) vs G)) (
Ref.leaf (y := fun f => (E orc).cl f vs G) (Ref.app1 (fun u0 G => f403 h u0 G) vs G))) (
Ref.fork (
Ref.leaf (y := fun f => (E orc).cl f vs G) (Ref.app4 (fun u0 u1 u2 u3 G => f404 h u0 u1 u2 u3 G) vs G)) (
Ref.leaf (y := fun f => (E orc).cl f vs G) (Ref.app1 (fun u0 G => f405 h u0 G) vs G)))) (
Ref.fork (
Ref.fork (
Ref.leaf (y := fun f => (E orc).cl f vs G) (Ref.app2 (fun u0 u1 G => f406 h u0 u1 G) vs G)) (
Ref.leaf (y := fun f => (E orc).cl f vs G) (Ref.app2 (fun u0 u1 G => f407 h u0 u1 G) vs G))) (
Ref.fork (
Ref.leaf (y := fun f => (E orc).cl f vs G) (Ref.app2 (fun u0 u1 G => f408 h u0 u1 G) vs G)) (
Ref.leaf (y := fun f => (E orc).cl f vs G) (Ref.app2 (fun u0 u1 G => f409 h u0 u1 G) vs G)))))))) (
Ref.fork (
Ref.fork (
Ref.fork (
Ref.fork (
Ref.fork (
Ref.leaf (y := fun f => (E orc).cl f vs G) (Ref.app2 (fun u0 u1 G => f410 h u0 u1 G) vs G)) (
Ref.fork (
Ref.leaf (y := fun f => (E orc).cl f vs G) (Ref.app1 (fun u0 G => f411 h u0 G) vs G)) (
Ref.leaf (y := fun f => (E orc).cl f vs G) (Ref.app2 (fun u0 u1 G => f412 h u0 u1 G) vs G)))) (
Ref.fork (
Ref.fork (
Ref.leaf (y := fun f => (E orc).cl f vs G) (Ref.app2 (fun u0 u1 G => f419 h u0 u1 G) vs G)) (
Ref.leaf (y := fun f => (E orc).cl f vs G) (Ref.app1 (fun u0 G => f420 h u0 G) vs G))) (
Ref.fork (
Ref.leaf (y := fun f => (E orc).cl f vs G) (Ref.app2 (fun u0 u1 G => f421 h u0 u1 G) vs G)) (
Ref.leaf (y := fun f => (E orc).cl f vs G) (Ref.app4 (fun u0 u1 u2 u3 G => f422 h u0 u1 u2 u3 G) vs G))))) (
Ref.fork (
Ref.fork (
Ref.leaf (y := fun f => (E orc).cl f vs G) (Ref.app4 (fun u0 u1 u2 u3 G => f423 h u0 u1 u2 u3 G) vs G)) (
Ref.fork (
Ref.leaf (y := fun f => (E orc).cl f vs G) (Ref.app5 (fun u0 u1 u2 u3 u4 G => f424 h u0 u1 u2 u3 u4 G) vs G)) (
Ref.leaf (y := fun f => (E orc).cl f vs G) (Ref.app3 (fun u0 u1 u2 G => f425 h u0 u1 u2 G) vs G)))) (
Ref.fork (
Ref.fork (
Ref.leaf (y := fun f => (E orc).cl f vs G) (Ref.app2 (fun u0 u1 G => f426 h u0 u1 G) vs G)) (
Ref.leaf (y := fun f => (E orc).cl f vs G) (Ref.app2 (fun u0 u1 G => f427 h u0 u1 G) vs G))) (
Ref.fork (
Ref.leaf (y := fun f => (E orc).cl f vs G) (Ref.app2 (fun u0 u1 G => f428 h u0 u1 G) vs G)) (
Ref.leaf (y := fun f => (E orc).cl f vs G) (Ref.app2 (fun u0 u1 G => f429 h u0 u1 G) vs G)))))) (
Ref.fork (
Ref.fork (
Ref.fork (
Ref.leaf (y := fun f => (E orc).cl f vs G) (Ref.app2 (fun u0 u1 G => f430 h u0 u1 G) vs G)) (
Ref.fork (
Ref.leaf (y := fun f => (E orc).cl f vs G) (Ref.app1 (fun u0 G => f431 h u0 G) vs G)) (
Ref.leaf (y := fun f => (E orc).cl f vs G) (Ref.app2 (fun u0 u1 G => f432 h u0 u1 G) vs G)))) (
Ref.fork (
Ref.fork (
Ref.leaf (y := fun f => (E orc).cl f vs G) (Ref.app3 (fun u0 u1 u2 G => f435 h u0 u1 u2 G) vs G)) (
Ref.leaf (y := fun f => (E orc).cl f vs G) (Ref.app2 (fun u0 u1 G => f436 h u0 u1 G) vs G))) (
Ref.fork (
Ref.leaf (y := fun f => (E orc).cl f vs G) (Ref.app2 (fun u0 u1 G => f502 h u0 u1 G) vs G)) (
Ref.leaf (y := fun f => (E orc).cl f vs G) (Ref.app1 (fun u0 G => f520 h u0 G) vs G))))) (
Ref.fork (
Ref.fork (
Ref.fork (
Ref.leaf (y := fun f => (E orc).cl f vs G) (Ref.app1 (fun u0 G => f521 h u0 G) vs G)) (
Ref.leaf (y := fun f => (E orc).cl f vs G) (Ref.app2 (fun u0 u1 G => f523 h u0 u1 G) vs G))) (
Ref.fork (
Ref.leaf (y := fun f => (E orc).cl f vs G) (Ref.app2 (fun u0 u1 G => f524 h u0 u1 G) vs G)) (
Ref.leaf (y := fun f => (E orc).cl f vs G) (Ref.app2 (fun u0 u1 G => f525 h u0 u1 G) vs G)))) (
Ref.fork (
Ref.fork (
Ref.leaf (y := fun f => (E orc).cl f vs G) (Ref.app2 (fun u0 u1 G => f529 h u0 u1 G) vs G)) (
Ref.leaf (y := fun f => (E orc).cl f vs G) (Ref.app2 (fun u0 u1 G => f530 h u0 u1 G) vs G))) (
Ref.fork (
Ref.leaf (y := fun f => (E orc).cl f vs G) (Ref.app2 (fun u0 u1 G => f531 h u0 u1 G) vs G)) (
Ref.leaf (y := fun f => (E orc).cl f vs G) (Ref.app2 (fun u0 u1 G => f532 h u0 u1 G) vs G))))))) (
Ref.fork (
Ref.fork (
Ref.fork (
Ref.fork (
Ref.leaf (y := fun f => (E orc).cl f vs G) (Ref.app2 (fun u0 u1 G => f534 h u0 u1 G) vs G)) (
Ref.fork (
Ref.leaf (y := fun f => (E orc).cl f vs G) (Ref.app2 (fun u0 u1 G => f535 h u0 u1 G) vs G)) (
Ref.leaf (y := fun f => (E orc).cl f vs G) (Ref.app2 (fun u0 u1 G => f538 h u0 u1 G) vs G)))) (
Ref.fork (
Ref.fork (
Ref.leaf (y := fun f => (E orc).cl f vs G) (Ref.app2 (fun u0 u1 G => f539 h u0 u1 G) vs G)) (
Ref.leaf (y := fun f => (E orc).cl f vs G) (Ref.app1 (fun u0 G => f540 h u0 G) vs G))) (
Ref.fork (
Ref.leaf (y := fun f => (E orc).cl f vs G) (Ref.app2 (fun u0 u1 G => f541 h u0 u1 G) vs G)) (
Ref.leaf (y := fun f => (E orc).cl f vs G) (Ref.app2 (fun u0 u1 G => f542 h u0 u1 G) vs G))))) (
Ref.fork (
Ref.fork (
Ref.fork (
Ref.leaf (y := fun f => (E orc).cl f vs G) (Ref.app0 (fun ho G => f543 h ho G) vs G)) (
Ref.leaf (y := fun f => (E orc).cl f vs G) (Ref.app2 (fun u0 u1 G => f544 h u0 u1 G) vs G))) (
Ref.fork (
Ref.leaf (y := fun f => (E orc).cl f vs G) (Ref.app2 (fun u0 u1 G => f545 h u0 u1 G) vs G)) (
Ref.leaf (y := fun f => (E orc).cl f vs G) (Ref.app2 (fun u0 u1 G => f546 h u0 u1 G) vs G)))) (
Ref.fork (
Ref.fork (
Ref.leaf (y := fun f => (E orc).cl f vs G) (Ref.app2 (fun u0 u1 G => f547 h u0 u1 G) vs G)) (
Ref.leaf (y := fun f => (E orc).cl f vs G) (Ref.app2 (fun u0 u1 G => f548 h u0 u1 G) vs G))) (
Ref.fork (
Ref.leaf (y := fun f => (E orc).cl f vs G) (Ref.app2 (fun u0 u1 G => f549 h u0 u1 G) vs G)) (
Ref.leaf (y := fun f => (E orc).cl f vs G) (Ref.app2 (fun u0 u1 G => f550 h u0 u1 G) vs G)))))) (
Ref.fork (
Ref.fork (
Ref.fork (
Ref.leaf (y := fun f => (E orc).cl f vs G) (Ref.app2 (fun u0 u1 G => f551 h u0 u1 G) vs G)) (
Ref.fork (
Ref.leaf (y := fun f => (E orc).cl f vs G) (Ref.app2 (fun u0 u1 G => f552 h u0 u1 G) vs G)) (
Ref.leaf (y := fun f => (E orc).cl f vs G) (Ref.app2 (fun u0 u1 G => f553 h u0 u1 G) vs G)))) (
Ref.fork (
Ref.fork (
Ref.leaf (y := fun f => (E orc).cl f vs G) (Ref.app2 (fun u0 u1 G => f554 h u0 u1 G) vs G)) (
Ref.leaf (y := fun f => (E orc).cl f vs G) (Ref.app2 (fun u0 u1 G => f555 h u0 u1 G) vs G))) (
Ref.fork (
Ref.leaf (y := fun f => (E orc).cl f vs G) (Ref.app2 (fun u0 u1 G => f556 h u0 u1 G) vs G)) (
Ref.leaf (y := fun f => (E orc).cl f vs G) (Ref.app1 (fun u0 G => f557 h u0 G) vs G))))) (
Ref.fork (
Ref.fork (
Ref.fork (
Ref.leaf (y := fun f => (E orc).cl f vs G) (Ref.app2 (fun u0 u1 G => f558 h u0 u1 G) vs G)) (
Ref.leaf (y := fun f => (E orc).cl f vs G) (Ref.app1 (fun u0 G => f559 h u0 G) vs G))) (
Ref.fork (
Ref.leaf (y := fun f => (E orc).cl f vs G) (Ref.app3 (fun u0 u1 u2 G => f560 h u0 u1 u2 G) vs G)) (
Ref.leaf (y := fun f => (E orc).cl f vs G) (Ref.app5 (fun u0 u1 u2 u3 u4 G => f561 h u0 u1 u2 u3 u4 G) vs G)))) (
Ref.fork (
Ref.fork (
Ref.leaf (y := fun f => (E orc).cl f vs G) (Ref.app1 (fun u0 G => f562 h u0 G) vs G)) (
Ref.leaf (y := fun f => (E orc).cl f vs G) (Ref.app1 (fun u0 G => f563 h u0 G) vs G))) (
Ref.fork (
Ref.leaf (y := fun f => (E orc).cl f vs G) (Ref.app1 (fun u0 G => f564 h u0 G) vs G)) (
Ref.leaf (y := fun f => (E orc).cl f vs G) (Ref.app1 (fun u0 G => f565 h u0 G) vs G)))))))))
end Go.Proofs.YtdohlgkmaeipjaaGreat.LiftK
