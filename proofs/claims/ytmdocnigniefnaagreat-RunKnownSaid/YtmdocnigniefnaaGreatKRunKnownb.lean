/- the program's code, spelled out by a program of ours (lift2.lean) -/
import Derived.Test.YtmdocnigniefnaaGreatKRunKnowna
namespace Go.Proofs.YtmdocnigniefnaaGreat.Lift
open Go Go.Proofs.YtmdocnigniefnaaGreat.Gh Go.Proofs
set_option linter.unusedVariables false
set_option maxRecDepth 100000
/-- coxswain/tower.heads -/
noncomputable def s132 (q : Bool) (e : Ex) (v0 : Value) (G : GS) : Option (Value × GS) :=
  bS (bx q v0 G) fun x0 G1 =>
  bS (al Q q 227 z227 G1) fun x2 G3 =>
  bP (fa Q q 36 1 1 x0) fun x4 =>
  bP (ld Q q 3 x4 G3) fun x5 =>
  bP (fa Q q 36 2 2 x0) fun x6 =>
  bP (ld Q q 3 x6 G3) fun x7 =>
  bP (bd Q q 227 z227 [(0, 0, 1), (1, 1, 1), (2, 2, 1)] [x5, (.int .i64 1), x7]) fun x8 =>
  bP (st Q q 227 3 x2 x8 G3) fun G9 =>
  bP (lda Q q 227 3 x2 G9) fun x10 =>
  some (x10, G9)
theorem m132 {e : Ex} {E : Ev} (h : ExLe Q e E) (v0 : Value) (G : GS) : Ref (s132 true e v0 G) (s132 false (Ex.of E) v0 G) := by
  unfold s132
  exact Ref.go
theorem f132 {orc : FuncId → Bool} {e : Ex} (h : ExLe Q e (E orc)) (v0 : Value) (G : GS) : Ref (s132 true e v0 G) ((E orc).cl 132 [v0] G) :=
  fun r hr => cl_sxE_some Q orc (vs := [v0]) G Tryz.func132 (by kernel_rfl) (by kernel_rfl) (by kernel_rfl) (by kernel_rfl) (by kernel_rfl) (by kernel_rfl) (m132 h v0 G r hr)
/-- (coxswain/tower.rows[coxswain/tower.head]).at -/
noncomputable def s133 (q : Bool) (e : Ex) (v0 v1 v2 : Value) (G : GS) : Option (Value × GS) :=
  bS (bx q v0 G) fun x0 G1 =>
  bP (bn Q q .lss 3 (.tmp 7) (.const (.int .i64 0)) v1 (.int .i64 0)) fun x2 =>
  bS (gd x2 false (some (v1, G1)) G1) fun x3 G4 =>
  bS (gd x2 false (bP (fa Q q 227 1 1 x0) fun y => some (y, G4)) G4) fun x5 G6 =>
  bS (gd x2 false (bP (ld Q q 3 x5 G6) fun y => some (y, G6)) G6) fun x7 G8 =>
  bS (gd x2 false (bP (bn Q q .geq 3 (.tmp 10) (.tmp 12) x3 x7) fun y => some (y, G8)) G8) fun x9 G10 =>
  bP (pickV x2 (.bool true) x9) fun x11 =>
  bS (gd x11 false (some (v2, G10)) G10) fun x12 G13 =>
  bS (gd x11 false (bP (bn Q q .lss 3 (.tmp 16) (.const (.int .i64 0)) x12 (.int .i64 0)) fun y => some (y, G13)) G13) fun x14 G15 =>
  bP (pickV x11 (.bool true) x14) fun x16 =>
  bS (gd x16 false (some (v2, G15)) G15) fun x17 G18 =>
  bS (gd x16 false (bP (fa Q q 227 2 2 x0) fun y => some (y, G18)) G18) fun x19 G20 =>
  bS (gd x16 false (bP (ld Q q 225 x19 G20) fun y => some (y, G20)) G20) fun x21 G22 =>
  bS (gd x16 false (bP (ifc Q q 225 x21) fun y => some (y, G22)) G22) fun x23 G24 =>
  bS (gd x16 false (bS (cInvoke Q e.ev x23 "coxswain/tower.cells" [] G24) fun y G => some (y, G)) G24) fun x25 G26 =>
  bS (gd x16 false (bP (bn Q q .geq 3 (.tmp 20) (.tmp 24) x17 x25) fun y => some (y, G26)) G26) fun x27 G28 =>
  bP (pickV x16 (.bool true) x27) fun x29 =>
  ifV x29 (
  some ((.int .i64 (-1)), G28)) (
  bP (fa Q q 227 0 0 x0) fun x30 =>
  bP (ld Q q 3 x30 (G28.room 12)) fun x31 =>
  bP (fa Q q 227 2 2 x0) fun x32 =>
  bP (ld Q q 225 x32 (G28.room 12)) fun x33 =>
  bP (ifc Q q 225 x33) fun x34 =>
  bS (cInvoke Q e.ev x34 "coxswain/tower.cells" [] (G28.room 12)) fun x36 G35 =>
  chk ((sameO (ld Q q 3 x30 G35) x31 && true)) <|
  bP (bn Q q .mul 3 (.tmp 29) (.tmp 33) v1 x36) fun x37 =>
  bP (bn Q q .add 3 (.tmp 28) (.tmp 34) x31 x37) fun x38 =>
  bP (bn Q q .add 3 (.tmp 35) (.tmp 36) x38 v2) fun x39 =>
  some (x39, G35))
theorem m133 {e : Ex} {E : Ev} (h : ExLe Q e E) (v0 v1 v2 : Value) (G : GS) : Ref (s133 true e v0 v1 v2 G) (s133 false (Ex.of E) v0 v1 v2 G) := by
  unfold s133
  exact Ref.go
theorem f133 {orc : FuncId → Bool} {e : Ex} (h : ExLe Q e (E orc)) (v0 v1 v2 : Value) (G : GS) : Ref (s133 true e v0 v1 v2 G) ((E orc).cl 133 [v0, v1, v2] G) :=
  fun r hr => cl_sxE_some Q orc (vs := [v0, v1, v2]) G Tryz.func133 (by kernel_rfl) (by kernel_rfl) (by kernel_rfl) (by kernel_rfl) (by kernel_rfl) (by kernel_rfl) (m133 h v0 v1 v2 G r hr)
/-- coxswain/epoch.none -/
noncomputable def s134 (q : Bool) (e : Ex) (v0 v1 : Value) (G : GS) : Option (Value × GS) :=
  bS (bx q v0 G) fun x0 G1 =>
  bP (bn Q q .lss 3 (.tmp 5) (.const (.int .i64 0)) v1 (.int .i64 0)) fun x2 =>
  bS (gd x2 false (some (v1, G1)) G1) fun x3 G4 =>
  bS (gd x2 false (bP (fa Q q 32 2 2 x0) fun y => some (y, G4)) G4) fun x5 G6 =>
  bS (gd x2 false (bP (ld Q q 3 x5 G6) fun y => some (y, G6)) G6) fun x7 G8 =>
  bS (gd x2 false (bP (bn Q q .geq 3 (.tmp 8) (.tmp 10) x3 x7) fun y => some (y, G8)) G8) fun x9 G10 =>
  bP (pickV x2 (.bool true) x9) fun x11 =>
  some (x11, G10)
theorem m134 {e : Ex} {E : Ev} (h : ExLe Q e E) (v0 v1 : Value) (G : GS) : Ref (s134 true e v0 v1 G) (s134 false (Ex.of E) v0 v1 G) := by
  unfold s134
  exact Ref.go
theorem f134 {orc : FuncId → Bool} {e : Ex} (h : ExLe Q e (E orc)) (v0 v1 : Value) (G : GS) : Ref (s134 true e v0 v1 G) ((E orc).cl 134 [v0, v1] G) :=
  fun r hr => cl_sxE_some Q orc (vs := [v0, v1]) G Tryz.func134 (by kernel_rfl) (by kernel_rfl) (by kernel_rfl) (by kernel_rfl) (by kernel_rfl) (by kernel_rfl) (m134 h v0 v1 G r hr)
/-- (*coxswain/epoch.lines).ends -/
noncomputable def s135 (q : Bool) (e : Ex) (v0 v1 : Value) (G : GS) : Option (Value × GS) :=
  bP (pNil v0) fun x0 =>
  bP (fa Q q 231 1 3 x0) fun x1 =>
  bP (st Q q 3 1 x1 (.int .i64 (-1)) G) fun G2 =>
  bP (pNil v0) fun x3 =>
  bP (fa Q q 231 3 5 x3) fun x4 =>
  bP (st Q q 23 1 x4 v1 G2) fun G5 =>
  some (.tuple #[], G5)
theorem m135 {e : Ex} {E : Ev} (h : ExLe Q e E) (v0 v1 : Value) (G : GS) : Ref (s135 true e v0 v1 G) (s135 false (Ex.of E) v0 v1 G) := by
  unfold s135
  exact Ref.go
theorem f135 {orc : FuncId → Bool} {e : Ex} (h : ExLe Q e (E orc)) (v0 v1 : Value) (G : GS) : Ref (s135 true e v0 v1 G) ((E orc).cl 135 [v0, v1] G) :=
  fun r hr => cl_sxE_some Q orc (vs := [v0, v1]) G Tryz.func135 (by kernel_rfl) (by kernel_rfl) (by kernel_rfl) (by kernel_rfl) (by kernel_rfl) (by kernel_rfl) (m135 h v0 v1 G r hr)
/-- (*coxswain/epoch.Pin).load -/
noncomputable def s136 (q : Bool) (e : Ex) (v0 v1 : Value) (G : GS) : Option (Value × GS) :=
  bP (pNil v0) fun x0 =>
  bP (fa Q q 235 1 6 x0) fun x1 =>
  bP (fa Q q 32 0 0 x1) fun x2 =>
  bP (ld Q q 3 x2 G) fun x3 =>
  bS (e.ev.cl 120 [v1, x3] G) fun x4 G5 =>
  bP (cv Q q 38 233 .u64 .u32 x4) fun x6 =>
  bP (pNil v0) fun x7 =>
  bP (fa Q q 235 3 10 x7) fun x8 =>
  bP (st Q q 233 1 x8 x6 G5) fun G9 =>
  bP (pNil v0) fun x10 =>
  bP (fa Q q 235 0 0 x10) fun x11 =>
  bP (fa Q q 231 1 3 x11) fun x12 =>
  bP (st Q q 3 1 x12 (.int .i64 1) G9) fun G13 =>
  some (.tuple #[], G13)
theorem m136 {e : Ex} {E : Ev} (h : ExLe Q e E) (v0 v1 : Value) (G : GS) : Ref (s136 true e v0 v1 G) (s136 false (Ex.of E) v0 v1 G) := by
  unfold s136
  exact Ref.go
theorem f136 {orc : FuncId → Bool} {e : Ex} (h : ExLe Q e (E orc)) (v0 v1 : Value) (G : GS) : Ref (s136 true e v0 v1 G) ((E orc).cl 136 [v0, v1] G) :=
  fun r hr => cl_sxE_some Q orc (vs := [v0, v1]) G Tryz.func136 (by kernel_rfl) (by kernel_rfl) (by kernel_rfl) (by kernel_rfl) (by kernel_rfl) (by kernel_rfl) (m136 h v0 v1 G r hr)
/-- (*coxswain/epoch.Pin).store -/
noncomputable def s137 (q : Bool) (e : Ex) (v0 v1 : Value) (G : GS) : Option (Value × GS) :=
  bP (pNil v0) fun x0 =>
  bP (fa Q q 235 2 9 x0) fun x1 =>
  bP (ld Q q 3 x1 (G.room 12)) fun x2 =>
  bP (pNil v0) fun x3 =>
  bP (fa Q q 235 3 10 x3) fun x4 =>
  bP (ld Q q 233 x4 (G.room 12)) fun x5 =>
  bP (cv Q q 233 38 .u32 .u64 x5) fun x6 =>
  bP (bn Q q .add 38 (.tmp 13) (.const (.int .u64 1)) x6 (.int .u64 1)) fun x7 =>
  bS (e.ev.cl 29 [v1, x2, x7] (G.room 12)) fun x9 G8 =>
  bP (pNil v0) fun x10 =>
  bP (fa Q q 235 0 0 x10) fun x11 =>
  bP (fa Q q 231 1 3 x11) fun x12 =>
  bP (st Q q 3 1 x12 (.int .i64 2) G8) fun G13 =>
  some (.tuple #[], G13)
theorem m137 {e : Ex} {E : Ev} (h : ExLe Q e E) (v0 v1 : Value) (G : GS) : Ref (s137 true e v0 v1 G) (s137 false (Ex.of E) v0 v1 G) := by
  unfold s137
  exact Ref.go
theorem f137 {orc : FuncId → Bool} {e : Ex} (h : ExLe Q e (E orc)) (v0 v1 : Value) (G : GS) : Ref (s137 true e v0 v1 G) ((E orc).cl 137 [v0, v1] G) :=
  fun r hr => cl_sxE_some Q orc (vs := [v0, v1]) G Tryz.func137 (by kernel_rfl) (by kernel_rfl) (by kernel_rfl) (by kernel_rfl) (by kernel_rfl) (by kernel_rfl) (m137 h v0 v1 G r hr)
/-- (*coxswain/epoch.Pin).again -/
noncomputable def s138 (q : Bool) (e : Ex) (v0 v1 : Value) (G : GS) : Option (Value × GS) :=
  bP (pNil v0) fun x0 =>
  bP (fa Q q 235 1 6 x0) fun x1 =>
  bP (fa Q q 32 0 0 x1) fun x2 =>
  bP (ld Q q 3 x2 G) fun x3 =>
  bS (e.ev.cl 120 [v1, x3] G) fun x4 G5 =>
  bP (cv Q q 38 233 .u64 .u32 x4) fun x6 =>
  bP (pNil v0) fun x7 =>
  bP (fa Q q 235 3 10 x7) fun x8 =>
  bP (ld Q q 233 x8 G5) fun x9 =>
  bP (bn Q q .eql 233 (.tmp 13) (.tmp 17) x6 x9) fun x10 =>
  ifV x10 (
  bP (pNil v0) fun x11 =>
  bP (fa Q q 235 0 0 x11) fun x12 =>
  bS (e.ev.cl 135 [x12, (.int .i64 0)] G5) fun x13 G14 =>
  some (.tuple #[], G14)) (
  bP (pNil v0) fun x15 =>
  bP (fa Q q 235 3 10 x15) fun x16 =>
  bP (st Q q 233 1 x16 x6 G5) fun G17 =>
  bP (pNil v0) fun x18 =>
  bP (fa Q q 235 0 0 x18) fun x19 =>
  bP (fa Q q 231 1 3 x19) fun x20 =>
  bP (st Q q 3 1 x20 (.int .i64 1) G17) fun G21 =>
  some (.tuple #[], G21))
theorem m138 {e : Ex} {E : Ev} (h : ExLe Q e E) (v0 v1 : Value) (G : GS) : Ref (s138 true e v0 v1 G) (s138 false (Ex.of E) v0 v1 G) := by
  unfold s138
  exact Ref.go
theorem f138 {orc : FuncId → Bool} {e : Ex} (h : ExLe Q e (E orc)) (v0 v1 : Value) (G : GS) : Ref (s138 true e v0 v1 G) ((E orc).cl 138 [v0, v1] G) :=
  fun r hr => cl_sxE_some Q orc (vs := [v0, v1]) G Tryz.func138 (by kernel_rfl) (by kernel_rfl) (by kernel_rfl) (by kernel_rfl) (by kernel_rfl) (by kernel_rfl) (m138 h v0 v1 G r hr)
/-- (*coxswain/epoch.lines).told -/
noncomputable def s139 (q : Bool) (e : Ex) (v0 : Value) (G : GS) : Option (Value × GS) :=
  bP (pNil v0) fun x0 =>
  bP (fa Q q 231 2 4 x0) fun x1 =>
  bP (ld Q q 4 x1 G) fun x2 =>
  bP (un Q q .not x2) fun x3 =>
  ifV x3 (
  some ((.int .i64 1), G)) (
  bP (pNil v0) fun x4 =>
  bP (fa Q q 231 1 3 x4) fun x5 =>
  bP (ld Q q 3 x5 G) fun x6 =>
  bP (bn Q q .neq 3 (.tmp 13) (.const (.int .i64 (-1))) x6 (.int .i64 (-1))) fun x7 =>
  ifV x7 (
  some ((.int .i64 14), G)) (
  bP (pNil v0) fun x8 =>
  bP (fa Q q 231 3 5 x8) fun x9 =>
  bP (ld Q q 23 x9 G) fun x10 =>
  some (x10, G)))
theorem m139 {e : Ex} {E : Ev} (h : ExLe Q e E) (v0 : Value) (G : GS) : Ref (s139 true e v0 G) (s139 false (Ex.of E) v0 G) := by
  unfold s139
  exact Ref.go
theorem f139 {orc : FuncId → Bool} {e : Ex} (h : ExLe Q e (E orc)) (v0 : Value) (G : GS) : Ref (s139 true e v0 G) ((E orc).cl 139 [v0] G) :=
  fun r hr => cl_sxE_some Q orc (vs := [v0]) G Tryz.func139 (by kernel_rfl) (by kernel_rfl) (by kernel_rfl) (by kernel_rfl) (by kernel_rfl) (by kernel_rfl) (m139 h v0 G r hr)
/-- coxswain/stack.NewPop -/
noncomputable def s140 (q : Bool) (e : Ex) (v0 : Value) (G : GS) : Option (Value × GS) :=
  bS (bx q v0 G) fun x0 G1 =>
  bP (lda Q q 28 3 x0 G1) fun x2 =>
  bP (bd Q q 286 z286 [(0, 0, 3), (4, 6, 1)] [x2, (.bool true)]) fun x3 =>
  bP (bd Q q 289 z289 [(0, 0, 9), (1, 9, 1)] [x3, (.func (.func 174) #[] #[])]) fun x4 =>
  bS (bx q x4 G1) fun x5 G6 =>
  some (x5, G6)
theorem m140 {e : Ex} {E : Ev} (h : ExLe Q e E) (v0 : Value) (G : GS) : Ref (s140 true e v0 G) (s140 false (Ex.of E) v0 G) := by
  unfold s140
  exact Ref.go
theorem f140 {orc : FuncId → Bool} {e : Ex} (h : ExLe Q e (E orc)) (v0 : Value) (G : GS) : Ref (s140 true e v0 G) ((E orc).cl 140 [v0] G) :=
  fun r hr => cl_sxE_some Q orc (vs := [v0]) G Tryz.func140 (by kernel_rfl) (by kernel_rfl) (by kernel_rfl) (by kernel_rfl) (by kernel_rfl) (by kernel_rfl) (m140 h v0 G r hr)
/-- (*coxswain/arena.Alloc).pop -/
noncomputable def s141 (q : Bool) (e : Ex) (v0 v1 : Value) (G : GS) : Option (Value × GS) :=
  bP (pNil v0) fun x0 =>
  bP (fa Q q 241 0 0 x0) fun x1 =>
  bP (ld Q q 237 x1 G) fun x2 =>
  bS (e.ev.cl 175 [x2, v1] G) fun x3 G4 =>
  bP (un Q q .not x3) fun x5 =>
  ifV x5 (
  some (.tuple #[], G4)) (
  bP (pNil v0) fun x6 =>
  bP (fa Q q 241 0 0 x6) fun x7 =>
  bP (ld Q q 237 x7 G4) fun x8 =>
  bS (e.ev.cl 176 [x8] G4) fun x9 G10 =>
  bP (pExtract x9 0) fun x11 =>
  bP (pExtract x9 1) fun x12 =>
  bP (pNil v0) fun x13 =>
  bP (fa Q q 241 4 9 x13) fun x14 =>
  bP (st Q q 3 1 x14 x11 G10) fun G15 =>
  bP (pNil v0) fun x16 =>
  bP (fa Q q 241 3 8 x16) fun x17 =>
  bP (st Q q 239 1 x17 (.func (.func 177) #[] #[]) G15) fun G18 =>
  bP (bn Q q .neq 23 (.tmp 28) (.const (.int .i64 0)) x12 (.int .i64 0)) fun x19 =>
  ifV x19 (
  bP (pNil v0) fun x20 =>
  bP (fa Q q 241 3 8 x20) fun x21 =>
  bP (st Q q 239 1 x21 (.func (.func 178) #[] #[]) G18) fun G22 =>
  some (.tuple #[], G22)) (
  some (.tuple #[], G18)))
theorem m141 {e : Ex} {E : Ev} (h : ExLe Q e E) (v0 v1 : Value) (G : GS) : Ref (s141 true e v0 v1 G) (s141 false (Ex.of E) v0 v1 G) := by
  unfold s141
  exact Ref.go
theorem f141 {orc : FuncId → Bool} {e : Ex} (h : ExLe Q e (E orc)) (v0 v1 : Value) (G : GS) : Ref (s141 true e v0 v1 G) ((E orc).cl 141 [v0, v1] G) :=
  fun r hr => cl_sxE_some Q orc (vs := [v0, v1]) G Tryz.func141 (by kernel_rfl) (by kernel_rfl) (by kernel_rfl) (by kernel_rfl) (by kernel_rfl) (by kernel_rfl) (m141 h v0 v1 G r hr)
/-- (*coxswain/arena.Alloc).Ref -/
noncomputable def s142 (q : Bool) (e : Ex) (v0 : Value) (G : GS) : Option (Value × GS) :=
  bP (ep Q q false 166 (.tmp 5) (.const (.pointer none)) v0 (.pointer none)) fun x0 =>
  bS (gd x0 false (some (v0, G)) G) fun x1 G2 =>
  bS (gd x0 false (bP (pNil x1) fun y => some (y, G2)) G2) fun x3 G4 =>
  bS (gd x0 false (bP (fa Q q 241 2 7 x3) fun y => some (y, G4)) G4) fun x5 G6 =>
  bS (gd x0 false (bP (ld Q q 4 x5 G6) fun y => some (y, G6)) G6) fun x7 G8 =>
  bS (gd x0 false (bP (un Q q .not x7) fun y => some (y, G8)) G8) fun x9 G10 =>
  bP (pickV x0 (.bool true) x9) fun x11 =>
  ifV x11 (
  some (.tuple #[(.int .u64 0), (.int .i64 1)], G10)) (
  bP (pNil v0) fun x12 =>
  bP (fa Q q 241 3 8 x12) fun x13 =>
  bP (ld Q q 239 x13 G10) fun x14 =>
  bP (ef Q q true 239 (.tmp 18) (.const .nilFunc) x14 .nilFunc) fun x15 =>
  ifV x15 (
  some (.tuple #[(.int .u64 0), (.int .i64 14)], G10)) (
  bP (pNil v0) fun x16 =>
  bP (fa Q q 241 5 10 x16) fun x17 =>
  bP (ld Q q 38 x17 (G10.room 10)) fun x18 =>
  bP (pNil v0) fun x19 =>
  bP (fa Q q 241 6 11 x19) fun x20 =>
  bP (ld Q q 23 x20 (G10.room 10)) fun x21 =>
  some (.tuple #[x18, x21], (G10.room 10))))
theorem m142 {e : Ex} {E : Ev} (h : ExLe Q e E) (v0 : Value) (G : GS) : Ref (s142 true e v0 G) (s142 false (Ex.of E) v0 G) := by
  unfold s142
  exact Ref.go
theorem f142 {orc : FuncId → Bool} {e : Ex} (h : ExLe Q e (E orc)) (v0 : Value) (G : GS) : Ref (s142 true e v0 G) ((E orc).cl 142 [v0] G) :=
  fun r hr => cl_sxE_some Q orc (vs := [v0]) G Tryz.func142 (by kernel_rfl) (by kernel_rfl) (by kernel_rfl) (by kernel_rfl) (by kernel_rfl) (by kernel_rfl) (m142 h v0 G r hr)
/-- (*coxswain/ready.Put).lay -/
noncomputable def s143 (q : Bool) (e : Ex) (v0 : Value) (G : GS) : Option (Value × GS) :=
  bS (bx q v0 G) fun x0 G1 =>
  bP (bd Q q 297 z297 [(0, 0, 1), (1, 1, 1)] [(.func (.func 179) #[] #[x0]), (.func (.func 181) #[] #[])]) fun x2 =>
  bS (bx q x2 G1) fun x3 G4 =>
  bP (ifc Q q 290 x3) fun x5 =>
  some (x5, G4)
theorem m143 {e : Ex} {E : Ev} (h : ExLe Q e E) (v0 : Value) (G : GS) : Ref (s143 true e v0 G) (s143 false (Ex.of E) v0 G) := by
  unfold s143
  exact Ref.go
theorem f143 {orc : FuncId → Bool} {e : Ex} (h : ExLe Q e (E orc)) (v0 : Value) (G : GS) : Ref (s143 true e v0 G) ((E orc).cl 143 [v0] G) :=
  fun r hr => cl_sxE_some Q orc (vs := [v0]) G Tryz.func143 (by kernel_rfl) (by kernel_rfl) (by kernel_rfl) (by kernel_rfl) (by kernel_rfl) (by kernel_rfl) (m143 h v0 G r hr)
/-- (*coxswain/ready.Put).link -/
noncomputable def s144 (q : Bool) (e : Ex) (v0 : Value) (G : GS) : Option (Value × GS) :=
  bS (bx q v0 G) fun x0 G1 =>
  bP (bd Q q 305 z305 [(0, 0, 1), (1, 1, 1)] [(.func (.func 182) #[] #[x0]), (.func (.func 184) #[] #[])]) fun x2 =>
  bS (bx q x2 G1) fun x3 G4 =>
  bP (ifc Q q 298 x3) fun x5 =>
  some (x5, G4)
theorem m144 {e : Ex} {E : Ev} (h : ExLe Q e E) (v0 : Value) (G : GS) : Ref (s144 true e v0 G) (s144 false (Ex.of E) v0 G) := by
  unfold s144
  exact Ref.go
theorem f144 {orc : FuncId → Bool} {e : Ex} (h : ExLe Q e (E orc)) (v0 : Value) (G : GS) : Ref (s144 true e v0 G) ((E orc).cl 144 [v0] G) :=
  fun r hr => cl_sxE_some Q orc (vs := [v0]) G Tryz.func144 (by kernel_rfl) (by kernel_rfl) (by kernel_rfl) (by kernel_rfl) (by kernel_rfl) (by kernel_rfl) (m144 h v0 G r hr)
/-- (*coxswain/ready.Put).given$1 -/
noncomputable def s145 (q : Bool) (e : Ex) (v0 : Value) (G : GS) : Option (Value × GS) :=
  bP (ld Q q 26 v0 G) fun x0 =>
  bP (pNil x0) fun x1 =>
  bP (fa Q q 42 0 0 x1) fun x2 =>
  bS (e.ev.cl 146 [x2, .nilFunc] G) fun x3 G4 =>
  some (x3, G4)
theorem m145 {e : Ex} {E : Ev} (h : ExLe Q e E) (v0 : Value) (G : GS) : Ref (s145 true e v0 G) (s145 false (Ex.of E) v0 G) := by
  unfold s145
  exact Ref.go
theorem f145 {orc : FuncId → Bool} {e : Ex} (h : ExLe Q e (E orc)) (v0 : Value) (G : GS) : Ref (s145 true e v0 G) ((E orc).cl 145 [v0] G) :=
  fun r hr => cl_sxE_some Q orc (vs := [v0]) G Tryz.func145 (by kernel_rfl) (by kernel_rfl) (by kernel_rfl) (by kernel_rfl) (by kernel_rfl) (by kernel_rfl) (m145 h v0 G r hr)
/-- (*coxswain/ready.work).collect -/
noncomputable def s146 (q : Bool) (e : Ex) (v0 v1 : Value) (G : GS) : Option (Value × GS) :=
  bS (bx q v0 G) fun x0 G1 =>
  bP (bd Q q 313 z313 [(0, 0, 1), (2, 2, 1)] [(.func (.func 185) #[] #[x0]), v1]) fun x2 =>
  bS (bx q x2 G1) fun x3 G4 =>
  bP (ifc Q q 307 x3) fun x5 =>
  some (x5, G4)
theorem m146 {e : Ex} {E : Ev} (h : ExLe Q e E) (v0 v1 : Value) (G : GS) : Ref (s146 true e v0 v1 G) (s146 false (Ex.of E) v0 v1 G) := by
  unfold s146
  exact Ref.go
theorem f146 {orc : FuncId → Bool} {e : Ex} (h : ExLe Q e (E orc)) (v0 v1 : Value) (G : GS) : Ref (s146 true e v0 v1 G) ((E orc).cl 146 [v0, v1] G) :=
  fun r hr => cl_sxE_some Q orc (vs := [v0, v1]) G Tryz.func146 (by kernel_rfl) (by kernel_rfl) (by kernel_rfl) (by kernel_rfl) (by kernel_rfl) (by kernel_rfl) (m146 h v0 v1 G r hr)
noncomputable def b147_0 (q : Bool) (e : Ex) (lp : Env → GS → Option (Exit × Env × GS)) (τ : Env) (G : GS) : Option (Exit × Env × GS) :=
  bV q (τ 1) fun a1_ =>
  bV q (τ 2) fun a2_ =>
  bV q (τ 18) fun a18_ =>
  bV q (τ 19) fun a19_ =>
  bP (bn Q q .lss 3 (.tmp 19) (.tmp 18) a19_ a18_) fun x0 =>
  ifV x0 (
  bP (fa Q q 30 1 3 a2_) fun x1 =>
  bP (ld Q q 3 x1 G) fun x2 =>
  bP (bn Q q .add 3 (.tmp 24) (.tmp 25) x2 a19_) fun x3 =>
  bS (e.ev.cl 29 [a1_, x3, (.int .u64 1)] G) fun x4 G5 =>
  bP (bn Q q .add 3 (.tmp 19) (.const (.int .i64 1)) a19_ (.int .i64 1)) fun x6 =>
  lp (tu τ [(1, a1_), (2, a2_), (18, a18_), (19, x6), (4, a19_), (20, x0), (21, a19_), (22, a1_), (23, x1), (24, x2), (25, a19_), (26, x3), (27, x4), (28, x6)]) G5) (
  some ((.exit 0), clq q 29 (tu τ [(1, a1_), (2, a2_), (18, a18_), (19, a19_), (20, x0)]), G))
theorem mb147_0 {e : Ex} {E : Ev} (h : ExLe Q e E) {lp lp' : Env → GS → Option (Exit × Env × GS)} (hlp : LpLe lp lp') (τ : Env) (G : GS) : Ref (b147_0 true e lp τ G) (b147_0 false (Ex.of E) lp' τ G) := by
  unfold b147_0
  exact Ref.go
theorem l147_0 {orc : FuncId → Bool} {e : Ex} (h : ExLe Q e (E orc)) (lp : Env → GS → Option (Exit × Env × GS)) (hlp : ∀ τ G, Ref (lp τ G) (mapE ((E orc).lp (subAt [1, 1, 1, 1, 1, 0, 0] (bodyOf Tryz.f147)) (lst 29 τ) G))) (T : List Value) (G : GS) (hT : T.length = 29) : Ref (b147_0 true e lp (nth undef T) G) (mapE ((E orc).lp (subAt [1, 1, 1, 1, 1, 0, 0] (bodyOf Tryz.f147)) T G)) :=
  fun r hr => lp_sxM Q orc G hT (by kernel_rfl) (mb147_0 h ⟨hlp⟩ _ _ r hr)
/-- coxswain/arena.Fill -/
noncomputable def s147 (q : Bool) (e : Ex) (v0 v1 : Value) (G : GS) : Option (Value × GS) :=
  bS (bx q v0 G) fun x0 G1 =>
  bP (lda Q q 30 6 x0 G1) fun x2 =>
  bS (e.ev.cl 187 [x2] G1) fun x3 G4 =>
  bP (un Q q .not x3) fun x5 =>
  ifV x5 (
  some (.tuple #[], G4)) (
  bP (fa Q q 30 0 0 x0) fun x6 =>
  bP (lda Q q 28 3 x6 G4) fun x7 =>
  bS (e.ev.cl 188 [x7, v1] G4) fun x8 G9 =>
  bP (fa Q q 30 2 4 x0) fun x10 =>
  bP (ld Q q 3 x10 G9) fun x11 =>
  bS (e.ev.cl 29 [v1, x11, (.int .u64 0)] G9) fun x12 G13 =>
  bP (fa Q q 30 0 0 x0) fun x14 =>
  bP (fa Q q 28 2 2 x14) fun x15 =>
  bP (ld Q q 3 x15 G13) fun x16 =>
  bL q e 147 0 (subAt [1, 1, 1, 1, 1, 0, 0] (bodyOf Tryz.f147)) 29 (tu (nth undef [v0, v1]) [(2, x0), (5, x2), (6, x3), (7, x5), (8, x6), (9, x7), (10, v1), (11, x8), (12, v1), (13, x10), (14, x11), (15, x12), (16, x14), (17, x15), (18, x16), (19, (.int .i64 0))]) G13 fun e17 t18 G19 =>
  ifE e17 (.exit 0) (
  some (.tuple #[], G19)) (none))
theorem m147 {e : Ex} {E : Ev} (h : ExLe Q e E) (v0 v1 : Value) (G : GS) : Ref (s147 true e v0 v1 G) (s147 false (Ex.of E) v0 v1 G) := by
  unfold s147
  exact Ref.go
theorem f147 {orc : FuncId → Bool} {e : Ex} (h : ExLe Q e (E orc)) (v0 v1 : Value) (G : GS) : Ref (s147 true e v0 v1 G) ((E orc).cl 147 [v0, v1] G) :=
  fun r hr => cl_sxE_some Q orc (vs := [v0, v1]) G Tryz.func147 (by kernel_rfl) (by kernel_rfl) (by kernel_rfl) (by kernel_rfl) (by kernel_rfl) (by kernel_rfl) (m147 h v0 v1 G r hr)
/-- coxswain/epoch.Fill -/
noncomputable def s148 (q : Bool) (e : Ex) (v0 v1 : Value) (G : GS) : Option (Value × GS) :=
  bS (bx q v0 G) fun x0 G1 =>
  bS (bx q v1 G1) fun x2 G3 =>
  bP (lda Q q 32 3 x0 G3) fun x4 =>
  bS (e.ev.cl 157 [x4] G3) fun x5 G6 =>
  bP (un Q q .not x5) fun x7 =>
  ifV x7 (
  some (.tuple #[], G6)) (
  bP (ld Q q 22 x2 G6) fun x8 =>
  bP (fa Q q 32 0 0 x0) fun x9 =>
  bP (ld Q q 3 x9 G6) fun x10 =>
  bS (e.ev.cl 29 [x8, x10, (.int .u64 0)] G6) fun x11 G12 =>
  bP (lda Q q 32 3 x0 G12) fun x13 =>
  bS (e.ev.cl 158 [x13] G12) fun x14 G15 =>
  bX (xRange e.ev x14 #[15, 16] (subAt [1, 1, 1, 1, 0, 0] (bodyOf Tryz.f148)) (subAt [1, 1, 1, 1, 0, 1] (bodyOf Tryz.f148)) (lst 20 (tu (nth undef [v0, v1]) [(2, x0), (3, x2), (6, x4), (7, x5), (8, x7), (9, x8), (10, x9), (11, x10), (12, x11), (13, x13), (14, x14)])) G15) fun e16 T17 G18 =>
  ifE e16 .normal (
  some (.tuple #[], G18)) (none))
theorem m148 {e : Ex} {E : Ev} (h : ExLe Q e E) (v0 v1 : Value) (G : GS) : Ref (s148 true e v0 v1 G) (s148 false (Ex.of E) v0 v1 G) := by
  unfold s148
  exact Ref.go
theorem f148 {orc : FuncId → Bool} {e : Ex} (h : ExLe Q e (E orc)) (v0 v1 : Value) (G : GS) : Ref (s148 true e v0 v1 G) ((E orc).cl 148 [v0, v1] G) :=
  fun r hr => cl_sxE_some Q orc (vs := [v0, v1]) G Tryz.func148 (by kernel_rfl) (by kernel_rfl) (by kernel_rfl) (by kernel_rfl) (by kernel_rfl) (by kernel_rfl) (m148 h v0 v1 G r hr)
/-- (coxswain/limbo.turn).stack -/
noncomputable def s149 (q : Bool) (e : Ex) (v0 v1 : Value) (G : GS) : Option (Value × GS) :=
  bS (bx q v1 G) fun x0 G1 =>
  bS (al Q q 28 z28 G1) fun x2 G3 =>
  bP (fa Q q 34 2 9 x0) fun x4 =>
  bP (ld Q q 3 x4 G3) fun x5 =>
  bP (bn Q q .add 3 (.tmp 6) (.tmp 7) x5 v0) fun x6 =>
  bP (fa Q q 34 0 0 x0) fun x7 =>
  bP (fa Q q 30 0 0 x7) fun x8 =>
  bP (fa Q q 28 1 1 x8) fun x9 =>
  bP (ld Q q 3 x9 G3) fun x10 =>
  bP (fa Q q 34 0 0 x0) fun x11 =>
  bP (fa Q q 30 0 0 x11) fun x12 =>
  bP (fa Q q 28 2 2 x12) fun x13 =>
  bP (ld Q q 3 x13 G3) fun x14 =>
  bP (bd Q q 28 z28 [(0, 0, 1), (1, 1, 1), (2, 2, 1)] [x6, x10, x14]) fun x15 =>
  bP (st Q q 28 3 x2 x15 G3) fun G16 =>
  bP (lda Q q 28 3 x2 G16) fun x17 =>
  some (x17, G16)
theorem m149 {e : Ex} {E : Ev} (h : ExLe Q e E) (v0 v1 : Value) (G : GS) : Ref (s149 true e v0 v1 G) (s149 false (Ex.of E) v0 v1 G) := by
  unfold s149
  exact Ref.go
theorem f149 {orc : FuncId → Bool} {e : Ex} (h : ExLe Q e (E orc)) (v0 v1 : Value) (G : GS) : Ref (s149 true e v0 v1 G) ((E orc).cl 149 [v0, v1] G) :=
  fun r hr => cl_sxE_some Q orc (vs := [v0, v1]) G Tryz.func149 (by kernel_rfl) (by kernel_rfl) (by kernel_rfl) (by kernel_rfl) (by kernel_rfl) (by kernel_rfl) (m149 h v0 v1 G r hr)
/-- coxswain/word.GetRef -/
noncomputable def s154 (q : Bool) (e : Ex) (v0 : Value) (G : GS) : Option (Value × GS) :=
  bS (al Q q 258 z258 G) fun x0 G1 =>
  bS (e.ev.cl 195 [] G1) fun x2 G3 =>
  bS (al Q q 320 z320 G3) fun x4 G5 =>
  bP (st Q q 320 4 x4 x2 G5) fun G6 =>
  bP (iaa Q q 320 2 2 x4 (.int .i64 0)) fun x7 =>
  bP (lda Q q 319 2 x7 (G6.room 14)) fun x8 =>
  bS (e.ev.cl 196 [v0, x8] (G6.room 14)) fun x10 G9 =>
  bP (bn Q q .sub 3 (.tmp 12) (.const (.int .i64 1)) x10 (.int .i64 1)) fun x11 =>
  bP (iaa Q q 320 2 2 x4 (.int .i64 1)) fun x12 =>
  bP (lda Q q 319 2 x12 G9) fun x13 =>
  chk ((sameO (lda Q q 319 2 x12 (G6.room 14)) x13 && true)) <|
  bS (e.ev.cl 196 [v0, x13] G9) fun x15 G14 =>
  bS (e.ev.cl 197 [v0] G14) fun x17 G16 =>
  bP (bd Q q 258 z258 [(0, 0, 1), (1, 1, 1), (2, 2, 1)] [x11, x15, x17]) fun x18 =>
  bS (al Q q 258 z258 (G16.at' (G6.nx + 12))) fun x19 G20 =>
  bP (st Q q 258 3 x19 x18 (G20.back G16)) fun G21 =>
  bP (lda Q q 258 3 x19 G21) fun x22 =>
  bS (e.ev.cl 198 [x22] G21) fun x23 G24 =>
  bP (pExtract x23 0) fun x25 =>
  bP (pExtract x23 1) fun x26 =>
  bP (bn Q q .neq 23 (.tmp 26) (.const (.int .i64 0)) x26 (.int .i64 0)) fun x27 =>
  bS (gd x27 false (some (x25, G24)) G24) fun x28 G29 =>
  bS (gd x27 false (some (v0, G29)) G29) fun x30 G31 =>
  bS (gd x27 false (bP (bn Q q .neq 38 (.tmp 29) (.tmp 30) x28 x30) fun y => some (y, G31)) G31) fun x32 G33 =>
  bP (pickV x27 (.bool true) x32) fun x34 =>
  ifV x34 (
  bP (bd Q q 258 z258 [] []) fun x35 =>
  bP (st Q q 258 3 x0 x35 G33) fun G36 =>
  bP (lda Q q 258 3 x0 G36) fun x37 =>
  some (.tuple #[x37, (.int .i64 5)], G36)) (
  bP (lda Q q 258 3 x19 G33) fun x38 =>
  bP (st Q q 258 3 x0 x38 G33) fun G39 =>
  bP (lda Q q 258 3 x0 G39) fun x40 =>
  some (.tuple #[x40, (.int .i64 0)], G39))
theorem m154 {e : Ex} {E : Ev} (h : ExLe Q e E) (v0 : Value) (G : GS) : Ref (s154 true e v0 G) (s154 false (Ex.of E) v0 G) := by
  unfold s154
  exact Ref.go
theorem f154 {orc : FuncId → Bool} {e : Ex} (h : ExLe Q e (E orc)) (v0 : Value) (G : GS) : Ref (s154 true e v0 G) ((E orc).cl 154 [v0] G) :=
  fun r hr => cl_sxE_some Q orc (vs := [v0]) G Tryz.func154 (by kernel_rfl) (by kernel_rfl) (by kernel_rfl) (by kernel_rfl) (by kernel_rfl) (by kernel_rfl) (m154 h v0 G r hr)
/-- (*coxswain/epoch.Unpin).clear -/
noncomputable def s156 (q : Bool) (e : Ex) (v0 v1 : Value) (G : GS) : Option (Value × GS) :=
  bP (pNil v0) fun x0 =>
  bP (fa Q q 264 1 6 x0) fun x1 =>
  bP (ld Q q 3 x1 G) fun x2 =>
  bS (e.ev.cl 29 [v1, x2, (.int .u64 0)] G) fun x3 G4 =>
  bP (pNil v0) fun x5 =>
  bP (fa Q q 264 0 0 x5) fun x6 =>
  bS (e.ev.cl 135 [x6, (.int .i64 0)] G4) fun x7 G8 =>
  some (.tuple #[], G8)
theorem m156 {e : Ex} {E : Ev} (h : ExLe Q e E) (v0 v1 : Value) (G : GS) : Ref (s156 true e v0 v1 G) (s156 false (Ex.of E) v0 v1 G) := by
  unfold s156
  exact Ref.go
theorem f156 {orc : FuncId → Bool} {e : Ex} (h : ExLe Q e (E orc)) (v0 v1 : Value) (G : GS) : Ref (s156 true e v0 v1 G) ((E orc).cl 156 [v0, v1] G) :=
  fun r hr => cl_sxE_some Q orc (vs := [v0, v1]) G Tryz.func156 (by kernel_rfl) (by kernel_rfl) (by kernel_rfl) (by kernel_rfl) (by kernel_rfl) (by kernel_rfl) (m156 h v0 v1 G r hr)
/-- coxswain/epoch.sized -/
noncomputable def s157 (q : Bool) (e : Ex) (v0 : Value) (G : GS) : Option (Value × GS) :=
  bS (bx q v0 G) fun x0 G1 =>
  bP (fa Q q 32 2 2 x0) fun x2 =>
  bP (ld Q q 3 x2 G1) fun x3 =>
  bP (bn Q q .geq 3 (.tmp 4) (.const (.int .i64 1)) x3 (.int .i64 1)) fun x4 =>
  bS (gd x4 true (bP (fa Q q 32 2 2 x0) fun y => some (y, G1)) G1) fun x5 G6 =>
  bS (gd x4 true (bP (ld Q q 3 x5 G6) fun y => some (y, G6)) G6) fun x7 G8 =>
  bS (gd x4 true (bP (bn Q q .leq 3 (.tmp 8) (.const (.int .i64 64)) x7 (.int .i64 64)) fun y => some (y, G8)) G8) fun x9 G10 =>
  bP (pickV x4 x9 (.bool false)) fun x11 =>
  some (x11, G10)
theorem m157 {e : Ex} {E : Ev} (h : ExLe Q e E) (v0 : Value) (G : GS) : Ref (s157 true e v0 G) (s157 false (Ex.of E) v0 G) := by
  unfold s157
  exact Ref.go
theorem f157 {orc : FuncId → Bool} {e : Ex} (h : ExLe Q e (E orc)) (v0 : Value) (G : GS) : Ref (s157 true e v0 G) ((E orc).cl 157 [v0] G) :=
  fun r hr => cl_sxE_some Q orc (vs := [v0]) G Tryz.func157 (by kernel_rfl) (by kernel_rfl) (by kernel_rfl) (by kernel_rfl) (by kernel_rfl) (by kernel_rfl) (m157 h v0 G r hr)
/-- coxswain/epoch.pins -/
noncomputable def s158 (q : Bool) (e : Ex) (v0 : Value) (G : GS) : Option (Value × GS) :=
  bS (bx q v0 G) fun x0 G1 =>
  some ((.func (.func 199) #[] #[x0]), G1)
theorem m158 {e : Ex} {E : Ev} (h : ExLe Q e E) (v0 : Value) (G : GS) : Ref (s158 true e v0 G) (s158 false (Ex.of E) v0 G) := by
  unfold s158
  exact Ref.go
theorem f158 {orc : FuncId → Bool} {e : Ex} (h : ExLe Q e (E orc)) (v0 : Value) (G : GS) : Ref (s158 true e v0 G) ((E orc).cl 158 [v0] G) :=
  fun r hr => cl_sxE_some Q orc (vs := [v0]) G Tryz.func158 (by kernel_rfl) (by kernel_rfl) (by kernel_rfl) (by kernel_rfl) (by kernel_rfl) (by kernel_rfl) (m158 h v0 G r hr)
/-- (*coxswain/ready.Look).By -/
noncomputable def s160 (q : Bool) (e : Ex) (v0 : Value) (G : GS) : Option (Value × GS) :=
  bP (ep Q q false 52 (.tmp 3) (.const (.pointer none)) v0 (.pointer none)) fun x0 =>
  ifV x0 (
  some ((.int .u64 0), G)) (
  bP (pNil v0) fun x1 =>
  bP (fa Q q 53 0 0 x1) fun x2 =>
  bP (fa Q q 40 5 17 x2) fun x3 =>
  bP (ld Q q 38 x3 G) fun x4 =>
  some (x4, G))
theorem m160 {e : Ex} {E : Ev} (h : ExLe Q e E) (v0 : Value) (G : GS) : Ref (s160 true e v0 G) (s160 false (Ex.of E) v0 G) := by
  unfold s160
  exact Ref.go
theorem f160 {orc : FuncId → Bool} {e : Ex} (h : ExLe Q e (E orc)) (v0 : Value) (G : GS) : Ref (s160 true e v0 G) ((E orc).cl 160 [v0] G) :=
  fun r hr => cl_sxE_some Q orc (vs := [v0]) G Tryz.func160 (by kernel_rfl) (by kernel_rfl) (by kernel_rfl) (by kernel_rfl) (by kernel_rfl) (by kernel_rfl) (m160 h v0 G r hr)
/-- (coxswain/cells.deed).load -/
noncomputable def s161 (q : Bool) (e : Ex) (v0 : Value) (G : GS) : Option (Value × GS) :=
  bS (bx q v0 G) fun x0 G1 =>
  bP (fa Q q 135 0 0 x0) fun x2 =>
  bP (ld Q q 132 x2 G1) fun x3 =>
  bP (pNil x3) fun x4 =>
  bP (ld Q q 97 x4 G1) fun x5 =>
  some (.tuple #[x5, (.bool false)], G1)
theorem m161 {e : Ex} {E : Ev} (h : ExLe Q e E) (v0 : Value) (G : GS) : Ref (s161 true e v0 G) (s161 false (Ex.of E) v0 G) := by
  unfold s161
  exact Ref.go
theorem f161 {orc : FuncId → Bool} {e : Ex} (h : ExLe Q e (E orc)) (v0 : Value) (G : GS) : Ref (s161 true e v0 G) ((E orc).cl 161 [v0] G) :=
  fun r hr => cl_sxE_some Q orc (vs := [v0]) G Tryz.func161 (by kernel_rfl) (by kernel_rfl) (by kernel_rfl) (by kernel_rfl) (by kernel_rfl) (by kernel_rfl) (m161 h v0 G r hr)
noncomputable def b162_0 (q : Bool) (e : Ex) (lp : Env → GS → Option (Exit × Env × GS)) (τ : Env) (G : GS) : Option (Exit × Env × GS) :=
  bV q (τ 2) fun a2_ =>
  bV q (τ 8) fun a8_ =>
  bP (bn Q q .lss 3 (.tmp 12) (.tmp 13) a8_ a2_) fun x0 =>
  ifV x0 (
  bL q e 162 1 (subAt [1, 0, 0, 1, 0, 0, 1, 0, 0] (bodyOf Tryz.f162)) 53 (tu τ [(9, a8_), (12, a8_), (13, a2_), (14, x0), (17, a8_)]) G fun e1 t2 G3 =>
  bV q (t2 2) fun t2x2_ =>
  bV q (t2 8) fun t2x8_ =>
  ifE e1 (.exit 2) (
  bP (bn Q q .add 3 (.tmp 15) (.const (.int .i64 1)) t2x8_ (.int .i64 1)) fun x4 =>
  lp (tu t2 [(2, t2x2_), (8, x4), (15, t2x8_), (16, x4)]) G3) (none)) (
  some ((.exit 0), clq q 53 (tu τ [(2, a2_), (8, a8_), (12, a8_), (13, a2_), (14, x0)]), G))
theorem mb162_0 {e : Ex} {E : Ev} (h : ExLe Q e E) {lp lp' : Env → GS → Option (Exit × Env × GS)} (hlp : LpLe lp lp') (τ : Env) (G : GS) : Ref (b162_0 true e lp τ G) (b162_0 false (Ex.of E) lp' τ G) := by
  unfold b162_0
  exact Ref.go
theorem l162_0 {orc : FuncId → Bool} {e : Ex} (h : ExLe Q e (E orc)) (lp : Env → GS → Option (Exit × Env × GS)) (hlp : ∀ τ G, Ref (lp τ G) (mapE ((E orc).lp (subAt [1, 0, 0] (bodyOf Tryz.f162)) (lst 53 τ) G))) (T : List Value) (G : GS) (hT : T.length = 53) : Ref (b162_0 true e lp (nth undef T) G) (mapE ((E orc).lp (subAt [1, 0, 0] (bodyOf Tryz.f162)) T G)) :=
  fun r hr => lp_sxM Q orc G hT (by kernel_rfl) (mb162_0 h ⟨hlp⟩ _ _ r hr)
noncomputable def b162_1 (q : Bool) (e : Ex) (lp : Env → GS → Option (Exit × Env × GS)) (τ : Env) (G : GS) : Option (Exit × Env × GS) :=
  bV q (τ 0) fun a0_ =>
  bV q (τ 1) fun a1_ =>
  bV q (τ 3) fun a3_ =>
  bV q (τ 9) fun a9_ =>
  bP (bn Q q .gtr 3 (.tmp 18) (.tmp 19) a9_ a1_) fun x0 =>
  bS (gd x0 true (some (a3_, (G.room 17))) (G.room 17)) fun x1 _ =>
  bS (gd x0 true (some (a0_, (G.room 17))) (G.room 17)) fun x2 _ =>
  bS (gd x0 true (some (a9_, (G.room 17))) (G.room 17)) fun x3 _ =>
  bS (gd x0 true (bP (ias Q q 90 1 x2 x3) fun y => some (y, (G.room 17))) (G.room 17)) fun x4 _ =>
  bS (gd x0 true (bP (ld Q q 38 x4 (G.room 17)) fun y => some (y, (G.room 17))) (G.room 17)) fun x5 _ =>
  bS (gd x0 true (some (a0_, (G.room 17))) (G.room 17)) fun x6 _ =>
  bS (gd x0 true (some (a9_, (G.room 17))) (G.room 17)) fun x7 _ =>
  bS (gd x0 true (bP (bn Q q .sub 3 (.tmp 28) (.const (.int .i64 1)) x7 (.int .i64 1)) fun y => some (y, (G.room 17))) (G.room 17)) fun x8 _ =>
  bS (gd x0 true (bP (ias Q q 90 1 x6 x8) fun y => some (y, (G.room 17))) (G.room 17)) fun x9 _ =>
  bS (gd x0 true (bP (ld Q q 38 x9 (G.room 17)) fun y => some (y, (G.room 17))) (G.room 17)) fun x10 _ =>
  bS (gd x0 true (bS (cValue e.ev x1 [x5, x10] (G.room 17)) fun y G => some (y, G)) (G.room 17)) fun x12 G11 =>
  bS (gd x0 true (bP (bn Q q .lss 3 (.tmp 32) (.const (.int .i64 0)) x12 (.int .i64 0)) fun y => some (y, G11)) G11) fun x13 _ =>
  bP (pickV x0 x13 (.bool false)) fun x14 =>
  ifV x14 (
  bP (bn Q q .sub 3 (.tmp 40) (.const (.int .i64 1)) a9_ (.int .i64 1)) fun x15 =>
  bP (bn Q q .sub 3 (.tmp 43) (.const (.int .i64 1)) a9_ (.int .i64 1)) fun x16 =>
  bP (ias Q q 90 1 a0_ x16) fun x17 =>
  bP (ld Q q 38 x17 (G11.room 18)) fun x18 =>
  bP (ias Q q 90 1 a0_ a9_) fun x19 =>
  bP (ld Q q 38 x19 (G11.room 18)) fun x20 =>
  bP (ias Q q 90 1 a0_ a9_) fun x21 =>
  bP (st Q q 38 1 x21 x18 (G11.room 18)) fun G22 =>
  bP (ias Q q 90 1 a0_ x15) fun x23 =>
  bP (st Q q 38 1 x23 x20 G22) fun G24 =>
  bP (bn Q q .sub 3 (.tmp 35) (.const (.int .i64 1)) a9_ (.int .i64 1)) fun x25 =>
  lp (tu τ [(0, a0_), (1, a1_), (3, a3_), (9, x25), (18, a9_), (19, a1_), (20, x0), (21, x0), (22, x1), (23, x2), (24, x3), (25, x4), (26, x5), (27, x6), (28, x7), (29, x8), (30, x9), (31, x10), (32, x12), (33, x13), (34, x14), (35, a9_), (36, x25), (37, a0_), (38, a9_), (39, a0_), (40, a9_), (41, x15), (42, a0_), (43, a9_), (44, x16), (45, x17), (46, x18), (47, a0_), (48, a9_), (49, x19), (50, x20), (51, x21), (52, x23)]) G24) (
  some ((.exit 2), clq q 53 (tu τ [(0, a0_), (1, a1_), (3, a3_), (9, a9_), (18, a9_), (19, a1_), (20, x0), (21, x0), (22, x1), (23, x2), (24, x3), (25, x4), (26, x5), (27, x6), (28, x7), (29, x8), (30, x9), (31, x10), (32, x12), (33, x13), (34, x14)]), G11))
theorem mb162_1 {e : Ex} {E : Ev} (h : ExLe Q e E) {lp lp' : Env → GS → Option (Exit × Env × GS)} (hlp : LpLe lp lp') (τ : Env) (G : GS) : Ref (b162_1 true e lp τ G) (b162_1 false (Ex.of E) lp' τ G) := by
  unfold b162_1
  exact Ref.go
theorem l162_1 {orc : FuncId → Bool} {e : Ex} (h : ExLe Q e (E orc)) (lp : Env → GS → Option (Exit × Env × GS)) (hlp : ∀ τ G, Ref (lp τ G) (mapE ((E orc).lp (subAt [1, 0, 0, 1, 0, 0, 1, 0, 0] (bodyOf Tryz.f162)) (lst 53 τ) G))) (T : List Value) (G : GS) (hT : T.length = 53) : Ref (b162_1 true e lp (nth undef T) G) (mapE ((E orc).lp (subAt [1, 0, 0, 1, 0, 0, 1, 0, 0] (bodyOf Tryz.f162)) T G)) :=
  fun r hr => lp_sxM Q orc G hT (by kernel_rfl) (mb162_1 h ⟨hlp⟩ _ _ r hr)
/-- slices.insertionSortCmpFunc[uint64] -/
noncomputable def s162 (q : Bool) (e : Ex) (v0 v1 v2 v3 : Value) (G : GS) : Option (Value × GS) :=
  bP (bn Q q .add 3 (.tmp 10) (.const (.int .i64 1)) v1 (.int .i64 1)) fun x0 =>
  bL q e 162 0 (subAt [1, 0, 0] (bodyOf Tryz.f162)) 53 (tu (nth undef [v0, v1, v2, v3]) [(8, x0), (10, v1), (11, x0)]) G fun e1 t2 G3 =>
  ifE e1 (.exit 0) (
  some (.tuple #[], G3)) (none)
theorem m162 {e : Ex} {E : Ev} (h : ExLe Q e E) (v0 v1 v2 v3 : Value) (G : GS) : Ref (s162 true e v0 v1 v2 v3 G) (s162 false (Ex.of E) v0 v1 v2 v3 G) := by
  unfold s162
  exact Ref.go
theorem f162 {orc : FuncId → Bool} {e : Ex} (h : ExLe Q e (E orc)) (v0 v1 v2 v3 : Value) (G : GS) : Ref (s162 true e v0 v1 v2 v3 G) ((E orc).cl 162 [v0, v1, v2, v3] G) :=
  fun r hr => cl_sxE_some Q orc (vs := [v0, v1, v2, v3]) G Tryz.func162 (by kernel_rfl) (by kernel_rfl) (by kernel_rfl) (by kernel_rfl) (by kernel_rfl) (by kernel_rfl) (m162 h v0 v1 v2 v3 G r hr)
noncomputable def b163_0 (q : Bool) (e : Ex) (lp : Env → GS → Option (Exit × Env × GS)) (τ : Env) (G : GS) : Option (Exit × Env × GS) :=
  bV q (τ 0) fun a0_ =>
  bV q (τ 3) fun a3_ =>
  bV q (τ 8) fun a8_ =>
  bV q (τ 10) fun a10_ =>
  bV q (τ 11) fun a11_ =>
  bP (bn Q q .geq 3 (.tmp 20) (.const (.int .i64 0)) a11_ (.int .i64 0)) fun x0 =>
  ifV x0 (
  bS (e.ev.cl 200 [a0_, a11_, a10_, a8_, a3_] G) fun x1 G2 =>
  bP (bn Q q .sub 3 (.tmp 22) (.const (.int .i64 1)) a11_ (.int .i64 1)) fun x3 =>
  lp (tu τ [(0, a0_), (3, a3_), (8, a8_), (10, a10_), (11, x3), (20, a11_), (21, x0), (22, a11_), (23, x3), (24, a0_), (25, a11_), (26, a10_), (27, a8_), (28, a3_), (29, x1)]) G2) (
  some ((.exit 0), clq q 60 (tu τ [(0, a0_), (3, a3_), (8, a8_), (10, a10_), (11, a11_), (20, a11_), (21, x0)]), G))
theorem mb163_0 {e : Ex} {E : Ev} (h : ExLe Q e E) {lp lp' : Env → GS → Option (Exit × Env × GS)} (hlp : LpLe lp lp') (τ : Env) (G : GS) : Ref (b163_0 true e lp τ G) (b163_0 false (Ex.of E) lp' τ G) := by
  unfold b163_0
  exact Ref.go
theorem l163_0 {orc : FuncId → Bool} {e : Ex} (h : ExLe Q e (E orc)) (lp : Env → GS → Option (Exit × Env × GS)) (hlp : ∀ τ G, Ref (lp τ G) (mapE ((E orc).lp (subAt [1, 1, 1, 0, 1, 0, 0] (bodyOf Tryz.f163)) (lst 60 τ) G))) (T : List Value) (G : GS) (hT : T.length = 60) : Ref (b163_0 true e lp (nth undef T) G) (mapE ((E orc).lp (subAt [1, 1, 1, 0, 1, 0, 0] (bodyOf Tryz.f163)) T G)) :=
  fun r hr => lp_sxM Q orc G hT (by kernel_rfl) (mb163_0 h ⟨hlp⟩ _ _ r hr)
noncomputable def b163_1 (q : Bool) (e : Ex) (lp : Env → GS → Option (Exit × Env × GS)) (τ : Env) (G : GS) : Option (Exit × Env × GS) :=
  bV q (τ 0) fun a0_ =>
  bV q (τ 3) fun a3_ =>
  bV q (τ 8) fun a8_ =>
  bV q (τ 9) fun a9_ =>
  bV q (τ 12) fun a12_ =>
  bP (bn Q q .geq 3 (.tmp 32) (.const (.int .i64 0)) a12_ (.int .i64 0)) fun x0 =>
  ifV x0 (
  bP (bn Q q .add 3 (.tmp 39) (.tmp 40) a8_ a12_) fun x1 =>
  bP (bn Q q .add 3 (.tmp 43) (.tmp 44) a8_ a12_) fun x2 =>
  bP (ias Q q 90 1 a0_ x2) fun x3 =>
  bP (ld Q q 38 x3 (G.room 20)) fun x4 =>
  bP (ias Q q 90 1 a0_ a8_) fun x5 =>
  bP (ld Q q 38 x5 (G.room 20)) fun x6 =>
  bP (ias Q q 90 1 a0_ a8_) fun x7 =>
  bP (st Q q 38 1 x7 x4 (G.room 20)) fun G8 =>
  bP (ias Q q 90 1 a0_ x1) fun x9 =>
  bP (st Q q 38 1 x9 x6 G8) fun G10 =>
  bS (e.ev.cl 200 [a0_, a9_, a12_, a8_, a3_] G10) fun x11 G12 =>
  bP (bn Q q .sub 3 (.tmp 34) (.const (.int .i64 1)) a12_ (.int .i64 1)) fun x13 =>
  lp (tu τ [(0, a0_), (3, a3_), (8, a8_), (9, a9_), (12, x13), (32, a12_), (33, x0), (34, a12_), (35, x13), (36, a0_), (37, a8_), (38, a0_), (39, a8_), (40, a12_), (41, x1), (42, a0_), (43, a8_), (44, a12_), (45, x2), (46, x3), (47, x4), (48, a0_), (49, a8_), (50, x5), (51, x6), (52, x7), (53, x9), (54, a0_), (55, a9_), (56, a12_), (57, a8_), (58, a3_), (59, x11)]) G12) (
  some ((.exit 2), clq q 60 (tu τ [(0, a0_), (3, a3_), (8, a8_), (9, a9_), (12, a12_), (32, a12_), (33, x0)]), G))
theorem mb163_1 {e : Ex} {E : Ev} (h : ExLe Q e E) {lp lp' : Env → GS → Option (Exit × Env × GS)} (hlp : LpLe lp lp') (τ : Env) (G : GS) : Ref (b163_1 true e lp τ G) (b163_1 false (Ex.of E) lp' τ G) := by
  unfold b163_1
  exact Ref.go
theorem l163_1 {orc : FuncId → Bool} {e : Ex} (h : ExLe Q e (E orc)) (lp : Env → GS → Option (Exit × Env × GS)) (hlp : ∀ τ G, Ref (lp τ G) (mapE ((E orc).lp (subAt [1, 1, 1, 1, 1, 0, 0] (bodyOf Tryz.f163)) (lst 60 τ) G))) (T : List Value) (G : GS) (hT : T.length = 60) : Ref (b163_1 true e lp (nth undef T) G) (mapE ((E orc).lp (subAt [1, 1, 1, 1, 1, 0, 0] (bodyOf Tryz.f163)) T G)) :=
  fun r hr => lp_sxM Q orc G hT (by kernel_rfl) (mb163_1 h ⟨hlp⟩ _ _ r hr)
/-- slices.heapSortCmpFunc[uint64] -/
noncomputable def s163 (q : Bool) (e : Ex) (v0 v1 v2 v3 : Value) (G : GS) : Option (Value × GS) :=
  bP (bn Q q .sub 3 (.tmp 14) (.tmp 15) v2 v1) fun x0 =>
  bP (bn Q q .sub 3 (.tmp 17) (.const (.int .i64 1)) x0 (.int .i64 1)) fun x1 =>
  bP (bn Q q .quo 3 (.tmp 18) (.const (.int .i64 2)) x1 (.int .i64 2)) fun x2 =>
  bL q e 163 0 (subAt [1, 1, 1, 0, 1, 0, 0] (bodyOf Tryz.f163)) 60 (tu (nth undef [v0, v1, v2, v3]) [(8, v1), (9, (.int .i64 0)), (10, x0), (11, x2), (13, v1), (14, v2), (15, v1), (16, x0), (17, x0), (18, x1), (19, x2)]) G fun e3 t4 G5 =>
  bV q (t4 10) fun t4x10_ =>
  ifE e3 (.exit 0) (
  bP (bn Q q .sub 3 (.tmp 30) (.const (.int .i64 1)) t4x10_ (.int .i64 1)) fun x6 =>
  bL q e 163 1 (subAt [1, 1, 1, 1, 1, 0, 0] (bodyOf Tryz.f163)) 60 (tu t4 [(12, x6), (30, t4x10_), (31, x6)]) G5 fun e7 t8 G9 =>
  ifE e7 (.exit 2) (
  some (.tuple #[], G9)) (none)) (none)
theorem m163 {e : Ex} {E : Ev} (h : ExLe Q e E) (v0 v1 v2 v3 : Value) (G : GS) : Ref (s163 true e v0 v1 v2 v3 G) (s163 false (Ex.of E) v0 v1 v2 v3 G) := by
  unfold s163
  exact Ref.go
theorem f163 {orc : FuncId → Bool} {e : Ex} (h : ExLe Q e (E orc)) (v0 v1 v2 v3 : Value) (G : GS) : Ref (s163 true e v0 v1 v2 v3 G) ((E orc).cl 163 [v0, v1, v2, v3] G) :=
  fun r hr => cl_sxE_some Q orc (vs := [v0, v1, v2, v3]) G Tryz.func163 (by kernel_rfl) (by kernel_rfl) (by kernel_rfl) (by kernel_rfl) (by kernel_rfl) (by kernel_rfl) (m163 h v0 v1 v2 v3 G r hr)
noncomputable def b164_0 (q : Bool) (e : Ex) (lp : Env → GS → Option (Exit × Env × GS)) (τ : Env) (G : GS) : Option (Exit × Env × GS) :=
  bV q (τ 0) fun a0_ =>
  bV q (τ 1) fun a1_ =>
  bV q (τ 8) fun a8_ =>
  bV q (τ 9) fun a9_ =>
  bV q (τ 10) fun a10_ =>
  bV q (τ 11) fun a11_ =>
  bP (bn Q q .quo 3 (.tmp 30) (.const (.int .i64 4)) a8_ (.int .i64 4)) fun x0 =>
  bP (bn Q q .mul 3 (.tmp 31) (.const (.int .i64 2)) x0 (.int .i64 2)) fun x1 =>
  bP (bn Q q .add 3 (.tmp 29) (.tmp 32) a1_ x1) fun x2 =>
  bP (bn Q q .add 3 (.tmp 33) (.const (.int .i64 1)) x2 (.int .i64 1)) fun x3 =>
  bP (bn Q q .leq 3 (.tmp 28) (.tmp 34) a11_ x3) fun x4 =>
  ifV x4 (
  bS (e.ev.cl 202 [a9_] G) fun x5 G6 =>
  bP (bn Q q .sub 212 (.tmp 39) (.const (.int .u64 1)) a10_ (.int .u64 1)) fun x7 =>
  bP (bn Q q .and 212 (.tmp 38) (.tmp 40) x5 x7) fun x8 =>
  bP (cv Q q 212 3 .u64 .i64 x8) fun x9 =>
  bP (bn Q q .geq 3 (.tmp 43) (.tmp 44) x9 a8_) fun x10 =>
  ifV x10 (
  bP (bn Q q .sub 3 (.tmp 46) (.tmp 47) x9 a8_) fun x11 =>
  bP (bn Q q .add 3 (.tmp 52) (.tmp 53) a1_ x11) fun x12 =>
  bP (bn Q q .add 3 (.tmp 56) (.tmp 57) a1_ x11) fun x13 =>
  bP (ias Q q 90 1 a0_ x13) fun x14 =>
  bP (ld Q q 38 x14 (G6.room 20)) fun x15 =>
  bP (ias Q q 90 1 a0_ a11_) fun x16 =>
  bP (ld Q q 38 x16 (G6.room 20)) fun x17 =>
  bP (ias Q q 90 1 a0_ a11_) fun x18 =>
  bP (st Q q 38 1 x18 x15 (G6.room 20)) fun G19 =>
  bP (ias Q q 90 1 a0_ x12) fun x20 =>
  bP (st Q q 38 1 x20 x17 G19) fun G21 =>
  bP (bn Q q .add 3 (.tmp 36) (.const (.int .i64 1)) a11_ (.int .i64 1)) fun x22 =>
  lp (tu τ [(0, a0_), (1, a1_), (8, a8_), (9, a9_), (10, a10_), (11, x22), (12, x11), (28, a11_), (29, a1_), (30, a8_), (31, x0), (32, x1), (33, x2), (34, x3), (35, x4), (36, a11_), (37, x22), (38, x5), (39, a10_), (40, x7), (41, x8), (42, x9), (43, x9), (44, a8_), (45, x10), (46, x9), (47, a8_), (48, x11), (49, a0_), (50, a11_), (51, a0_), (52, a1_), (53, x11), (54, x12), (55, a0_), (56, a1_), (57, x11), (58, x13), (59, x14), (60, x15), (61, a0_), (62, a11_), (63, x16), (64, x17), (65, x18), (66, x20)]) G21) (
  bP (bn Q q .add 3 (.tmp 52) (.tmp 53) a1_ x9) fun x23 =>
  bP (bn Q q .add 3 (.tmp 56) (.tmp 57) a1_ x9) fun x24 =>
  bP (ias Q q 90 1 a0_ x24) fun x25 =>
  bP (ld Q q 38 x25 (G6.room 20)) fun x26 =>
  bP (ias Q q 90 1 a0_ a11_) fun x27 =>
  bP (ld Q q 38 x27 (G6.room 20)) fun x28 =>
  bP (ias Q q 90 1 a0_ a11_) fun x29 =>
  bP (st Q q 38 1 x29 x26 (G6.room 20)) fun G30 =>
  bP (ias Q q 90 1 a0_ x23) fun x31 =>
  bP (st Q q 38 1 x31 x28 G30) fun G32 =>
  bP (bn Q q .add 3 (.tmp 36) (.const (.int .i64 1)) a11_ (.int .i64 1)) fun x33 =>
  lp (tu τ [(0, a0_), (1, a1_), (8, a8_), (9, a9_), (10, a10_), (11, x33), (12, x9), (28, a11_), (29, a1_), (30, a8_), (31, x0), (32, x1), (33, x2), (34, x3), (35, x4), (36, a11_), (37, x33), (38, x5), (39, a10_), (40, x7), (41, x8), (42, x9), (43, x9), (44, a8_), (45, x10), (49, a0_), (50, a11_), (51, a0_), (52, a1_), (53, x9), (54, x23), (55, a0_), (56, a1_), (57, x9), (58, x24), (59, x25), (60, x26), (61, a0_), (62, a11_), (63, x27), (64, x28), (65, x29), (66, x31)]) G32)) (
  some ((.exit 0), clq q 67 (tu τ [(0, a0_), (1, a1_), (8, a8_), (9, a9_), (10, a10_), (11, a11_), (28, a11_), (29, a1_), (30, a8_), (31, x0), (32, x1), (33, x2), (34, x3), (35, x4)]), G))
theorem mb164_0 {e : Ex} {E : Ev} (h : ExLe Q e E) {lp lp' : Env → GS → Option (Exit × Env × GS)} (hlp : LpLe lp lp') (τ : Env) (G : GS) : Ref (b164_0 true e lp τ G) (b164_0 false (Ex.of E) lp' τ G) := by
  unfold b164_0
  exact Ref.go
theorem l164_0 {orc : FuncId → Bool} {e : Ex} (h : ExLe Q e (E orc)) (lp : Env → GS → Option (Exit × Env × GS)) (hlp : ∀ τ G, Ref (lp τ G) (mapE ((E orc).lp (subAt [1, 1, 0, 1, 1, 1, 0, 0] (bodyOf Tryz.f164)) (lst 67 τ) G))) (T : List Value) (G : GS) (hT : T.length = 67) : Ref (b164_0 true e lp (nth undef T) G) (mapE ((E orc).lp (subAt [1, 1, 0, 1, 1, 1, 0, 0] (bodyOf Tryz.f164)) T G)) :=
  fun r hr => lp_sxM Q orc G hT (by kernel_rfl) (mb164_0 h ⟨hlp⟩ _ _ r hr)
/-- slices.breakPatternsCmpFunc[uint64] -/
noncomputable def s164 (q : Bool) (e : Ex) (v0 v1 v2 v3 : Value) (G : GS) : Option (Value × GS) :=
  bP (bn Q q .sub 3 (.tmp 13) (.tmp 14) v2 v1) fun x0 =>
  bP (bn Q q .geq 3 (.tmp 16) (.const (.int .i64 8)) x0 (.int .i64 8)) fun x1 =>
  ifV x1 (
  bP (cv Q q 3 325 .i64 .u64 x0) fun x2 =>
  bS (al Q q 325 z325 G) fun x3 G4 =>
  bP (st Q q 325 1 x3 x2 G4) fun G5 =>
  bS (e.ev.cl 201 [x0] G5) fun x6 G7 =>
  bP (bn Q q .quo 3 (.tmp 23) (.const (.int .i64 4)) x0 (.int .i64 4)) fun x8 =>
  bP (bn Q q .mul 3 (.tmp 24) (.const (.int .i64 2)) x8 (.int .i64 2)) fun x9 =>
  bP (bn Q q .add 3 (.tmp 22) (.tmp 25) v1 x9) fun x10 =>
  bP (bn Q q .sub 3 (.tmp 26) (.const (.int .i64 1)) x10 (.int .i64 1)) fun x11 =>
  bL q e 164 0 (subAt [1, 1, 0, 1, 1, 1, 0, 0] (bodyOf Tryz.f164)) 67 (tu (nth undef [v0, v1, v2, v3]) [(8, x0), (9, x3), (10, x6), (11, x11), (13, v2), (14, v1), (15, x0), (16, x0), (17, x1), (18, x0), (19, x2), (20, x0), (21, x6), (22, v1), (23, x0), (24, x8), (25, x9), (26, x10), (27, x11)]) G7 fun e12 t13 G14 =>
  ifE e12 (.exit 0) (
  some (.tuple #[], G14)) (none)) (
  some (.tuple #[], G))
theorem m164 {e : Ex} {E : Ev} (h : ExLe Q e E) (v0 v1 v2 v3 : Value) (G : GS) : Ref (s164 true e v0 v1 v2 v3 G) (s164 false (Ex.of E) v0 v1 v2 v3 G) := by
  unfold s164
  exact Ref.go
theorem f164 {orc : FuncId → Bool} {e : Ex} (h : ExLe Q e (E orc)) (v0 v1 v2 v3 : Value) (G : GS) : Ref (s164 true e v0 v1 v2 v3 G) ((E orc).cl 164 [v0, v1, v2, v3] G) :=
  fun r hr => cl_sxE_some Q orc (vs := [v0, v1, v2, v3]) G Tryz.func164 (by kernel_rfl) (by kernel_rfl) (by kernel_rfl) (by kernel_rfl) (by kernel_rfl) (by kernel_rfl) (m164 h v0 v1 v2 v3 G r hr)
/-- slices.choosePivotCmpFunc[uint64] -/
noncomputable def s165 (q : Bool) (e : Ex) (v0 v1 v2 v3 : Value) (G : GS) : Option (Value × GS) :=
  bP (bn Q q .sub 3 (.tmp 15) (.tmp 16) v2 v1) fun x0 =>
  bS (al Q q 3 z3 G) fun x1 G2 =>
  bP (bn Q q .quo 3 (.tmp 19) (.const (.int .i64 4)) x0 (.int .i64 4)) fun x3 =>
  bP (bn Q q .mul 3 (.tmp 20) (.const (.int .i64 1)) x3 (.int .i64 1)) fun x4 =>
  bP (bn Q q .add 3 (.tmp 18) (.tmp 21) v1 x4) fun x5 =>
  bP (bn Q q .quo 3 (.tmp 24) (.const (.int .i64 4)) x0 (.int .i64 4)) fun x6 =>
  bP (bn Q q .mul 3 (.tmp 25) (.const (.int .i64 2)) x6 (.int .i64 2)) fun x7 =>
  bP (bn Q q .add 3 (.tmp 23) (.tmp 26) v1 x7) fun x8 =>
  bP (bn Q q .quo 3 (.tmp 29) (.const (.int .i64 4)) x0 (.int .i64 4)) fun x9 =>
  bP (bn Q q .mul 3 (.tmp 30) (.const (.int .i64 3)) x9 (.int .i64 3)) fun x10 =>
  bP (bn Q q .add 3 (.tmp 28) (.tmp 31) v1 x10) fun x11 =>
  bP (bn Q q .geq 3 (.tmp 33) (.const (.int .i64 8)) x0 (.int .i64 8)) fun x12 =>
  ifV x12 (
  bP (bn Q q .geq 3 (.tmp 35) (.const (.int .i64 50)) x0 (.int .i64 50)) fun x13 =>
  ifV x13 (
  bS (e.ev.cl 203 [v0, x5, x1, v3] G2) fun x14 G15 =>
  bS (e.ev.cl 203 [v0, x8, x1, v3] G15) fun x16 G17 =>
  bS (e.ev.cl 203 [v0, x11, x1, v3] G17) fun x18 G19 =>
  bS (e.ev.cl 204 [v0, x14, x16, x18, x1, v3] G19) fun x20 G21 =>
  bP (ld Q q 3 x1 G21) fun x22 =>
  bP (bn Q q .eql 3 (.tmp 55) (.const (.int .i64 0)) x22 (.int .i64 0)) fun x23 =>
  ifV x23 (
  some (.tuple #[x20, (.int .i64 1)], G21)) (
  bP (bn Q q .eql 3 (.tmp 55) (.const (.int .i64 12)) x22 (.int .i64 12)) fun x24 =>
  ifV x24 (
  some (.tuple #[x20, (.int .i64 2)], G21)) (
  some (.tuple #[x20, (.int .i64 0)], G21)))) (
  bS (e.ev.cl 204 [v0, x5, x8, x11, x1, v3] G2) fun x25 G26 =>
  bP (ld Q q 3 x1 G26) fun x27 =>
  bP (bn Q q .eql 3 (.tmp 55) (.const (.int .i64 0)) x27 (.int .i64 0)) fun x28 =>
  ifV x28 (
  some (.tuple #[x25, (.int .i64 1)], G26)) (
  bP (bn Q q .eql 3 (.tmp 55) (.const (.int .i64 12)) x27 (.int .i64 12)) fun x29 =>
  ifV x29 (
  some (.tuple #[x25, (.int .i64 2)], G26)) (
  some (.tuple #[x25, (.int .i64 0)], G26))))) (
  bP (ld Q q 3 x1 G2) fun x30 =>
  bP (bn Q q .eql 3 (.tmp 55) (.const (.int .i64 0)) x30 (.int .i64 0)) fun x31 =>
  ifV x31 (
  some (.tuple #[x8, (.int .i64 1)], G2)) (
  bP (bn Q q .eql 3 (.tmp 55) (.const (.int .i64 12)) x30 (.int .i64 12)) fun x32 =>
  ifV x32 (
  some (.tuple #[x8, (.int .i64 2)], G2)) (
  some (.tuple #[x8, (.int .i64 0)], G2))))
theorem m165 {e : Ex} {E : Ev} (h : ExLe Q e E) (v0 v1 v2 v3 : Value) (G : GS) : Ref (s165 true e v0 v1 v2 v3 G) (s165 false (Ex.of E) v0 v1 v2 v3 G) := by
  unfold s165
  exact Ref.go
theorem f165 {orc : FuncId → Bool} {e : Ex} (h : ExLe Q e (E orc)) (v0 v1 v2 v3 : Value) (G : GS) : Ref (s165 true e v0 v1 v2 v3 G) ((E orc).cl 165 [v0, v1, v2, v3] G) :=
  fun r hr => cl_sxE_some Q orc (vs := [v0, v1, v2, v3]) G Tryz.func165 (by kernel_rfl) (by kernel_rfl) (by kernel_rfl) (by kernel_rfl) (by kernel_rfl) (by kernel_rfl) (m165 h v0 v1 v2 v3 G r hr)
noncomputable def b166_0 (q : Bool) (e : Ex) (lp : Env → GS → Option (Exit × Env × GS)) (τ : Env) (G : GS) : Option (Exit × Env × GS) :=
  bV q (τ 0) fun a0_ =>
  bV q (τ 8) fun a8_ =>
  bV q (τ 9) fun a9_ =>
  bP (bn Q q .lss 3 (.tmp 13) (.tmp 14) a8_ a9_) fun x0 =>
  ifV x0 (
  bP (ias Q q 90 1 a0_ a9_) fun x1 =>
  bP (ld Q q 38 x1 (G.room 16)) fun x2 =>
  bP (ias Q q 90 1 a0_ a8_) fun x3 =>
  bP (ld Q q 38 x3 (G.room 16)) fun x4 =>
  bP (ias Q q 90 1 a0_ a8_) fun x5 =>
  bP (st Q q 38 1 x5 x2 (G.room 16)) fun G6 =>
  bP (ias Q q 90 1 a0_ a9_) fun x7 =>
  bP (st Q q 38 1 x7 x4 G6) fun G8 =>
  bP (bn Q q .add 3 (.tmp 30) (.const (.int .i64 1)) a8_ (.int .i64 1)) fun x9 =>
  bP (bn Q q .sub 3 (.tmp 32) (.const (.int .i64 1)) a9_ (.int .i64 1)) fun x10 =>
  lp (tu τ [(0, a0_), (8, x9), (9, x10), (13, a8_), (14, a9_), (15, x0), (16, a0_), (17, a8_), (18, a0_), (19, a9_), (20, a0_), (21, a9_), (22, x1), (23, x2), (24, a0_), (25, a8_), (26, x3), (27, x4), (28, x5), (29, x7), (30, a8_), (31, x9), (32, a9_), (33, x10)]) G8) (
  some ((.exit 0), clq q 34 (tu τ [(0, a0_), (8, a8_), (9, a9_), (13, a8_), (14, a9_), (15, x0)]), G))
theorem mb166_0 {e : Ex} {E : Ev} (h : ExLe Q e E) {lp lp' : Env → GS → Option (Exit × Env × GS)} (hlp : LpLe lp lp') (τ : Env) (G : GS) : Ref (b166_0 true e lp τ G) (b166_0 false (Ex.of E) lp' τ G) := by
  unfold b166_0
  exact Ref.go
theorem l166_0 {orc : FuncId → Bool} {e : Ex} (h : ExLe Q e (E orc)) (lp : Env → GS → Option (Exit × Env × GS)) (hlp : ∀ τ G, Ref (lp τ G) (mapE ((E orc).lp (subAt [1, 1, 0, 0] (bodyOf Tryz.f166)) (lst 34 τ) G))) (T : List Value) (G : GS) (hT : T.length = 34) : Ref (b166_0 true e lp (nth undef T) G) (mapE ((E orc).lp (subAt [1, 1, 0, 0] (bodyOf Tryz.f166)) T G)) :=
  fun r hr => lp_sxM Q orc G hT (by kernel_rfl) (mb166_0 h ⟨hlp⟩ _ _ r hr)
/-- slices.reverseRangeCmpFunc[uint64] -/
noncomputable def s166 (q : Bool) (e : Ex) (v0 v1 v2 v3 : Value) (G : GS) : Option (Value × GS) :=
  bP (bn Q q .sub 3 (.tmp 11) (.const (.int .i64 1)) v2 (.int .i64 1)) fun x0 =>
  bL q e 166 0 (subAt [1, 1, 0, 0] (bodyOf Tryz.f166)) 34 (tu (nth undef [v0, v1, v2, v3]) [(8, v1), (9, x0), (10, v1), (11, v2), (12, x0)]) G fun e1 t2 G3 =>
  ifE e1 (.exit 0) (
  some (.tuple #[], G3)) (none)
theorem m166 {e : Ex} {E : Ev} (h : ExLe Q e E) (v0 v1 v2 v3 : Value) (G : GS) : Ref (s166 true e v0 v1 v2 v3 G) (s166 false (Ex.of E) v0 v1 v2 v3 G) := by
  unfold s166
  exact Ref.go
theorem f166 {orc : FuncId → Bool} {e : Ex} (h : ExLe Q e (E orc)) (v0 v1 v2 v3 : Value) (G : GS) : Ref (s166 true e v0 v1 v2 v3 G) ((E orc).cl 166 [v0, v1, v2, v3] G) :=
  fun r hr => cl_sxE_some Q orc (vs := [v0, v1, v2, v3]) G Tryz.func166 (by kernel_rfl) (by kernel_rfl) (by kernel_rfl) (by kernel_rfl) (by kernel_rfl) (by kernel_rfl) (m166 h v0 v1 v2 v3 G r hr)
noncomputable def b167_0 (q : Bool) (e : Ex) (lp : Env → GS → Option (Exit × Env × GS)) (τ : Env) (G : GS) : Option (Exit × Env × GS) :=
  bV q (τ 10) fun a10_ =>
  bP (bn Q q .lss 3 (.tmp 15) (.const (.int .i64 5)) a10_ (.int .i64 5)) fun x0 =>
  ifV x0 (
  bL q e 167 1 (subAt [1, 1, 0, 1, 0, 0, 1, 0, 0, 0, 0, 0] (bodyOf Tryz.f167)) 141 (tu τ [(15, a10_), (16, x0)]) G fun e1 t2 G3 =>
  bV q (t2 0) fun t2x0_ =>
  bV q (t2 1) fun t2x1_ =>
  bV q (t2 2) fun t2x2_ =>
  bV q (t2 9) fun t2x9_ =>
  bV q (t2 10) fun t2x10_ =>
  ifE e1 (.exit 2) (
  bP (bn Q q .eql 3 (.tmp 39) (.tmp 40) t2x9_ t2x2_) fun x4 =>
  ifV x4 (
  some (.ret, clq q 141 (tu t2 [(10, t2x10_), (8, (.bool true)), (39, t2x9_), (40, t2x2_), (41, x4)]), G3)) (
  bP (bn Q q .sub 3 (.tmp 42) (.tmp 43) t2x2_ t2x1_) fun x5 =>
  bP (bn Q q .lss 3 (.tmp 44) (.const (.int .i64 50)) x5 (.int .i64 50)) fun x6 =>
  ifV x6 (
  some (.ret, clq q 141 (tu t2 [(10, t2x10_), (8, (.bool false)), (39, t2x9_), (40, t2x2_), (41, x4), (42, t2x2_), (43, t2x1_), (44, x5), (45, x6)]), G3)) (
  bP (bn Q q .sub 3 (.tmp 49) (.const (.int .i64 1)) t2x9_ (.int .i64 1)) fun x7 =>
  bP (bn Q q .sub 3 (.tmp 52) (.const (.int .i64 1)) t2x9_ (.int .i64 1)) fun x8 =>
  bP (ias Q q 90 1 t2x0_ x8) fun x9 =>
  bP (ld Q q 38 x9 (G3.room 18)) fun x10 =>
  bP (ias Q q 90 1 t2x0_ t2x9_) fun x11 =>
  bP (ld Q q 38 x11 (G3.room 18)) fun x12 =>
  bP (ias Q q 90 1 t2x0_ t2x9_) fun x13 =>
  bP (st Q q 38 1 x13 x10 (G3.room 18)) fun G14 =>
  bP (ias Q q 90 1 t2x0_ x7) fun x15 =>
  bP (st Q q 38 1 x15 x12 G14) fun G16 =>
  bP (bn Q q .sub 3 (.tmp 62) (.tmp 63) t2x9_ t2x1_) fun x17 =>
  bP (bn Q q .geq 3 (.tmp 64) (.const (.int .i64 2)) x17 (.int .i64 2)) fun x18 =>
  ifV x18 (
  bP (bn Q q .sub 3 (.tmp 66) (.const (.int .i64 1)) t2x9_ (.int .i64 1)) fun x19 =>
  bL q e 167 2 (subAt [1, 1, 0, 1, 0, 0, 1, 0, 0, 1, 1, 1, 1, 0, 1, 0, 1, 0, 0] (bodyOf Tryz.f167)) 141 (tu t2 [(11, x19), (39, t2x9_), (40, t2x2_), (41, x4), (42, t2x2_), (43, t2x1_), (44, x5), (45, x6), (46, t2x0_), (47, t2x9_), (48, t2x0_), (49, t2x9_), (50, x7), (51, t2x0_), (52, t2x9_), (53, x8), (54, x9), (55, x10), (56, t2x0_), (57, t2x9_), (58, x11), (59, x12), (60, x13), (61, x15), (62, t2x9_), (63, t2x1_), (64, x17), (65, x18), (66, t2x9_), (67, x19)]) G16 fun e20 t21 G22 =>
  bV q (t21 2) fun t21x2_ =>
  bV q (t21 9) fun t21x9_ =>
  bV q (t21 10) fun t21x10_ =>
  ifE e20 (.exit 4) (
  bP (bn Q q .sub 3 (.tmp 101) (.tmp 102) t21x2_ t21x9_) fun x23 =>
  bP (bn Q q .geq 3 (.tmp 103) (.const (.int .i64 2)) x23 (.int .i64 2)) fun x24 =>
  ifV x24 (
  bP (bn Q q .add 3 (.tmp 105) (.const (.int .i64 1)) t21x9_ (.int .i64 1)) fun x25 =>
  bL q e 167 3 (subAt [1, 1, 0, 1, 0, 0, 1, 0, 0, 1, 1, 1, 1, 1, 1, 0, 1, 0, 0] (bodyOf Tryz.f167)) 141 (tu t21 [(12, x25), (101, t21x2_), (102, t21x9_), (103, x23), (104, x24), (105, t21x9_), (106, x25)]) G22 fun e26 t27 G28 =>
  bV q (t27 10) fun t27x10_ =>
  ifE e26 (.exit 6) (
  bP (bn Q q .add 3 (.tmp 17) (.const (.int .i64 1)) t27x10_ (.int .i64 1)) fun x29 =>
  lp (tu t27 [(10, x29), (17, t27x10_), (18, x29)]) G28) (none)) (
  bP (bn Q q .add 3 (.tmp 17) (.const (.int .i64 1)) t21x10_ (.int .i64 1)) fun x30 =>
  lp (tu t21 [(10, x30), (17, t21x10_), (18, x30), (101, t21x2_), (102, t21x9_), (103, x23), (104, x24)]) G22)) (none)) (
  bP (bn Q q .sub 3 (.tmp 101) (.tmp 102) t2x2_ t2x9_) fun x31 =>
  bP (bn Q q .geq 3 (.tmp 103) (.const (.int .i64 2)) x31 (.int .i64 2)) fun x32 =>
  ifV x32 (
  bP (bn Q q .add 3 (.tmp 105) (.const (.int .i64 1)) t2x9_ (.int .i64 1)) fun x33 =>
  bL q e 167 3 (subAt [1, 1, 0, 1, 0, 0, 1, 0, 0, 1, 1, 1, 1, 1, 1, 0, 1, 0, 0] (bodyOf Tryz.f167)) 141 (tu t2 [(12, x33), (39, t2x9_), (40, t2x2_), (41, x4), (42, t2x2_), (43, t2x1_), (44, x5), (45, x6), (46, t2x0_), (47, t2x9_), (48, t2x0_), (49, t2x9_), (50, x7), (51, t2x0_), (52, t2x9_), (53, x8), (54, x9), (55, x10), (56, t2x0_), (57, t2x9_), (58, x11), (59, x12), (60, x13), (61, x15), (62, t2x9_), (63, t2x1_), (64, x17), (65, x18), (101, t2x2_), (102, t2x9_), (103, x31), (104, x32), (105, t2x9_), (106, x33)]) G16 fun e34 t35 G36 =>
  bV q (t35 10) fun t35x10_ =>
  ifE e34 (.exit 6) (
  bP (bn Q q .add 3 (.tmp 17) (.const (.int .i64 1)) t35x10_ (.int .i64 1)) fun x37 =>
  lp (tu t35 [(10, x37), (17, t35x10_), (18, x37)]) G36) (none)) (
  bP (bn Q q .add 3 (.tmp 17) (.const (.int .i64 1)) t2x10_ (.int .i64 1)) fun x38 =>
  lp (tu t2 [(10, x38), (17, t2x10_), (18, x38), (39, t2x9_), (40, t2x2_), (41, x4), (42, t2x2_), (43, t2x1_), (44, x5), (45, x6), (46, t2x0_), (47, t2x9_), (48, t2x0_), (49, t2x9_), (50, x7), (51, t2x0_), (52, t2x9_), (53, x8), (54, x9), (55, x10), (56, t2x0_), (57, t2x9_), (58, x11), (59, x12), (60, x13), (61, x15), (62, t2x9_), (63, t2x1_), (64, x17), (65, x18), (101, t2x2_), (102, t2x9_), (103, x31), (104, x32)]) G16))))) (none)) (
  some ((.exit 0), clq q 141 (tu τ [(10, a10_), (15, a10_), (16, x0)]), G))
theorem mb167_0 {e : Ex} {E : Ev} (h : ExLe Q e E) {lp lp' : Env → GS → Option (Exit × Env × GS)} (hlp : LpLe lp lp') (τ : Env) (G : GS) : Ref (b167_0 true e lp τ G) (b167_0 false (Ex.of E) lp' τ G) := by
  unfold b167_0
  exact Ref.go
set_option maxHeartbeats 8000000 in
theorem l167_0 {orc : FuncId → Bool} {e : Ex} (h : ExLe Q e (E orc)) (lp : Env → GS → Option (Exit × Env × GS)) (hlp : ∀ τ G, Ref (lp τ G) (mapE ((E orc).lp (subAt [1, 1, 0, 1, 0, 0] (bodyOf Tryz.f167)) (lst 141 τ) G))) (T : List Value) (G : GS) (hT : T.length = 141) : Ref (b167_0 true e lp (nth undef T) G) (mapE ((E orc).lp (subAt [1, 1, 0, 1, 0, 0] (bodyOf Tryz.f167)) T G)) :=
  fun r hr => lp_sxM Q orc G hT (by kernel_rfl) (mb167_0 h ⟨hlp⟩ _ _ r hr)
noncomputable def b167_1 (q : Bool) (e : Ex) (lp : Env → GS → Option (Exit × Env × GS)) (τ : Env) (G : GS) : Option (Exit × Env × GS) :=
  bV q (τ 0) fun a0_ =>
  bV q (τ 2) fun a2_ =>
  bV q (τ 3) fun a3_ =>
  bV q (τ 9) fun a9_ =>
  bP (bn Q q .lss 3 (.tmp 19) (.tmp 20) a9_ a2_) fun x0 =>
  bS (gd x0 true (some (a3_, (G.room 18))) (G.room 18)) fun x1 _ =>
  bS (gd x0 true (some (a0_, (G.room 18))) (G.room 18)) fun x2 _ =>
  bS (gd x0 true (some (a9_, (G.room 18))) (G.room 18)) fun x3 _ =>
  bS (gd x0 true (bP (ias Q q 90 1 x2 x3) fun y => some (y, (G.room 18))) (G.room 18)) fun x4 _ =>
  bS (gd x0 true (bP (ld Q q 38 x4 (G.room 18)) fun y => some (y, (G.room 18))) (G.room 18)) fun x5 _ =>
  bS (gd x0 true (some (a0_, (G.room 18))) (G.room 18)) fun x6 _ =>
  bS (gd x0 true (some (a9_, (G.room 18))) (G.room 18)) fun x7 _ =>
  bS (gd x0 true (bP (bn Q q .sub 3 (.tmp 29) (.const (.int .i64 1)) x7 (.int .i64 1)) fun y => some (y, (G.room 18))) (G.room 18)) fun x8 _ =>
  bS (gd x0 true (bP (ias Q q 90 1 x6 x8) fun y => some (y, (G.room 18))) (G.room 18)) fun x9 _ =>
  bS (gd x0 true (bP (ld Q q 38 x9 (G.room 18)) fun y => some (y, (G.room 18))) (G.room 18)) fun x10 _ =>
  bS (gd x0 true (bS (cValue e.ev x1 [x5, x10] (G.room 18)) fun y G => some (y, G)) (G.room 18)) fun x12 G11 =>
  bS (gd x0 true (bP (bn Q q .lss 3 (.tmp 33) (.const (.int .i64 0)) x12 (.int .i64 0)) fun y => some (y, G11)) G11) fun x13 _ =>
  bS (gd x0 true (bP (un Q q .not x13) fun y => some (y, G11)) G11) fun x14 _ =>
  bP (pickV x0 x14 (.bool false)) fun x15 =>
  ifV x15 (
  bP (bn Q q .add 3 (.tmp 37) (.const (.int .i64 1)) a9_ (.int .i64 1)) fun x16 =>
  lp (tu τ [(0, a0_), (2, a2_), (3, a3_), (9, x16), (19, a9_), (20, a2_), (21, x0), (22, x0), (23, x1), (24, x2), (25, x3), (26, x4), (27, x5), (28, x6), (29, x7), (30, x8), (31, x9), (32, x10), (33, x12), (34, x13), (35, x14), (36, x15), (37, a9_), (38, x16)]) G11) (
  some ((.exit 2), clq q 141 (tu τ [(0, a0_), (2, a2_), (3, a3_), (9, a9_), (19, a9_), (20, a2_), (21, x0), (22, x0), (23, x1), (24, x2), (25, x3), (26, x4), (27, x5), (28, x6), (29, x7), (30, x8), (31, x9), (32, x10), (33, x12), (34, x13), (35, x14), (36, x15)]), G11))
theorem mb167_1 {e : Ex} {E : Ev} (h : ExLe Q e E) {lp lp' : Env → GS → Option (Exit × Env × GS)} (hlp : LpLe lp lp') (τ : Env) (G : GS) : Ref (b167_1 true e lp τ G) (b167_1 false (Ex.of E) lp' τ G) := by
  unfold b167_1
  exact Ref.go
set_option maxHeartbeats 8000000 in
theorem l167_1 {orc : FuncId → Bool} {e : Ex} (h : ExLe Q e (E orc)) (lp : Env → GS → Option (Exit × Env × GS)) (hlp : ∀ τ G, Ref (lp τ G) (mapE ((E orc).lp (subAt [1, 1, 0, 1, 0, 0, 1, 0, 0, 0, 0, 0] (bodyOf Tryz.f167)) (lst 141 τ) G))) (T : List Value) (G : GS) (hT : T.length = 141) : Ref (b167_1 true e lp (nth undef T) G) (mapE ((E orc).lp (subAt [1, 1, 0, 1, 0, 0, 1, 0, 0, 0, 0, 0] (bodyOf Tryz.f167)) T G)) :=
  fun r hr => lp_sxM Q orc G hT (by kernel_rfl) (mb167_1 h ⟨hlp⟩ _ _ r hr)
noncomputable def b167_2 (q : Bool) (e : Ex) (lp : Env → GS → Option (Exit × Env × GS)) (τ : Env) (G : GS) : Option (Exit × Env × GS) :=
  bV q (τ 0) fun a0_ =>
  bV q (τ 3) fun a3_ =>
  bV q (τ 11) fun a11_ =>
  bP (bn Q q .geq 3 (.tmp 68) (.const (.int .i64 1)) a11_ (.int .i64 1)) fun x0 =>
  ifV x0 (
  bP (ias Q q 90 1 a0_ a11_) fun x1 =>
  bP (ld Q q 38 x1 (G.room 13)) fun x2 =>
  bP (bn Q q .sub 3 (.tmp 78) (.const (.int .i64 1)) a11_ (.int .i64 1)) fun x3 =>
  bP (ias Q q 90 1 a0_ x3) fun x4 =>
  bP (ld Q q 38 x4 (G.room 13)) fun x5 =>
  bS (cValue e.ev a3_ [x2, x5] (G.room 13)) fun x7 G6 =>
  bP (bn Q q .lss 3 (.tmp 82) (.const (.int .i64 0)) x7 (.int .i64 0)) fun x8 =>
  bP (un Q q .not x8) fun x9 =>
  ifV x9 (
  some ((.exit 4), clq q 141 (tu τ [(0, a0_), (3, a3_), (11, a11_), (68, a11_), (69, x0), (72, a3_), (73, a0_), (74, a11_), (75, x1), (76, x2), (77, a0_), (78, a11_), (79, x3), (80, x4), (81, x5), (82, x7), (83, x8), (84, x9)]), G6)) (
  bP (bn Q q .sub 3 (.tmp 88) (.const (.int .i64 1)) a11_ (.int .i64 1)) fun x10 =>
  bP (bn Q q .sub 3 (.tmp 91) (.const (.int .i64 1)) a11_ (.int .i64 1)) fun x11 =>
  bP (ias Q q 90 1 a0_ x11) fun x12 =>
  bP (ld Q q 38 x12 (G6.room 18)) fun x13 =>
  bP (ias Q q 90 1 a0_ a11_) fun x14 =>
  bP (ld Q q 38 x14 (G6.room 18)) fun x15 =>
  bP (ias Q q 90 1 a0_ a11_) fun x16 =>
  bP (st Q q 38 1 x16 x13 (G6.room 18)) fun G17 =>
  bP (ias Q q 90 1 a0_ x10) fun x18 =>
  bP (st Q q 38 1 x18 x15 G17) fun G19 =>
  bP (bn Q q .sub 3 (.tmp 70) (.const (.int .i64 1)) a11_ (.int .i64 1)) fun x20 =>
  lp (tu τ [(0, a0_), (3, a3_), (11, x20), (68, a11_), (69, x0), (70, a11_), (71, x20), (72, a3_), (73, a0_), (74, a11_), (75, x1), (76, x2), (77, a0_), (78, a11_), (79, x3), (80, x4), (81, x5), (82, x7), (83, x8), (84, x9), (85, a0_), (86, a11_), (87, a0_), (88, a11_), (89, x10), (90, a0_), (91, a11_), (92, x11), (93, x12), (94, x13), (95, a0_), (96, a11_), (97, x14), (98, x15), (99, x16), (100, x18)]) G19)) (
  some ((.exit 4), clq q 141 (tu τ [(0, a0_), (3, a3_), (11, a11_), (68, a11_), (69, x0)]), G))
theorem mb167_2 {e : Ex} {E : Ev} (h : ExLe Q e E) {lp lp' : Env → GS → Option (Exit × Env × GS)} (hlp : LpLe lp lp') (τ : Env) (G : GS) : Ref (b167_2 true e lp τ G) (b167_2 false (Ex.of E) lp' τ G) := by
  unfold b167_2
  exact Ref.go
set_option maxHeartbeats 8000000 in
theorem l167_2 {orc : FuncId → Bool} {e : Ex} (h : ExLe Q e (E orc)) (lp : Env → GS → Option (Exit × Env × GS)) (hlp : ∀ τ G, Ref (lp τ G) (mapE ((E orc).lp (subAt [1, 1, 0, 1, 0, 0, 1, 0, 0, 1, 1, 1, 1, 0, 1, 0, 1, 0, 0] (bodyOf Tryz.f167)) (lst 141 τ) G))) (T : List Value) (G : GS) (hT : T.length = 141) : Ref (b167_2 true e lp (nth undef T) G) (mapE ((E orc).lp (subAt [1, 1, 0, 1, 0, 0, 1, 0, 0, 1, 1, 1, 1, 0, 1, 0, 1, 0, 0] (bodyOf Tryz.f167)) T G)) :=
  fun r hr => lp_sxM Q orc G hT (by kernel_rfl) (mb167_2 h ⟨hlp⟩ _ _ r hr)
noncomputable def b167_3 (q : Bool) (e : Ex) (lp : Env → GS → Option (Exit × Env × GS)) (τ : Env) (G : GS) : Option (Exit × Env × GS) :=
  bV q (τ 0) fun a0_ =>
  bV q (τ 2) fun a2_ =>
  bV q (τ 3) fun a3_ =>
  bV q (τ 12) fun a12_ =>
  bP (bn Q q .lss 3 (.tmp 107) (.tmp 108) a12_ a2_) fun x0 =>
  ifV x0 (
  bP (ias Q q 90 1 a0_ a12_) fun x1 =>
  bP (ld Q q 38 x1 (G.room 13)) fun x2 =>
  bP (bn Q q .sub 3 (.tmp 118) (.const (.int .i64 1)) a12_ (.int .i64 1)) fun x3 =>
  bP (ias Q q 90 1 a0_ x3) fun x4 =>
  bP (ld Q q 38 x4 (G.room 13)) fun x5 =>
  bS (cValue e.ev a3_ [x2, x5] (G.room 13)) fun x7 G6 =>
  bP (bn Q q .lss 3 (.tmp 122) (.const (.int .i64 0)) x7 (.int .i64 0)) fun x8 =>
  bP (un Q q .not x8) fun x9 =>
  ifV x9 (
  some ((.exit 6), clq q 141 (tu τ [(0, a0_), (2, a2_), (3, a3_), (12, a12_), (107, a12_), (108, a2_), (109, x0), (112, a3_), (113, a0_), (114, a12_), (115, x1), (116, x2), (117, a0_), (118, a12_), (119, x3), (120, x4), (121, x5), (122, x7), (123, x8), (124, x9)]), G6)) (
  bP (bn Q q .sub 3 (.tmp 128) (.const (.int .i64 1)) a12_ (.int .i64 1)) fun x10 =>
  bP (bn Q q .sub 3 (.tmp 131) (.const (.int .i64 1)) a12_ (.int .i64 1)) fun x11 =>
  bP (ias Q q 90 1 a0_ x11) fun x12 =>
  bP (ld Q q 38 x12 (G6.room 18)) fun x13 =>
  bP (ias Q q 90 1 a0_ a12_) fun x14 =>
  bP (ld Q q 38 x14 (G6.room 18)) fun x15 =>
  bP (ias Q q 90 1 a0_ a12_) fun x16 =>
  bP (st Q q 38 1 x16 x13 (G6.room 18)) fun G17 =>
  bP (ias Q q 90 1 a0_ x10) fun x18 =>
  bP (st Q q 38 1 x18 x15 G17) fun G19 =>
  bP (bn Q q .add 3 (.tmp 110) (.const (.int .i64 1)) a12_ (.int .i64 1)) fun x20 =>
  lp (tu τ [(0, a0_), (2, a2_), (3, a3_), (12, x20), (107, a12_), (108, a2_), (109, x0), (110, a12_), (111, x20), (112, a3_), (113, a0_), (114, a12_), (115, x1), (116, x2), (117, a0_), (118, a12_), (119, x3), (120, x4), (121, x5), (122, x7), (123, x8), (124, x9), (125, a0_), (126, a12_), (127, a0_), (128, a12_), (129, x10), (130, a0_), (131, a12_), (132, x11), (133, x12), (134, x13), (135, a0_), (136, a12_), (137, x14), (138, x15), (139, x16), (140, x18)]) G19)) (
  some ((.exit 6), clq q 141 (tu τ [(0, a0_), (2, a2_), (3, a3_), (12, a12_), (107, a12_), (108, a2_), (109, x0)]), G))
theorem mb167_3 {e : Ex} {E : Ev} (h : ExLe Q e E) {lp lp' : Env → GS → Option (Exit × Env × GS)} (hlp : LpLe lp lp') (τ : Env) (G : GS) : Ref (b167_3 true e lp τ G) (b167_3 false (Ex.of E) lp' τ G) := by
  unfold b167_3
  exact Ref.go
set_option maxHeartbeats 8000000 in
theorem l167_3 {orc : FuncId → Bool} {e : Ex} (h : ExLe Q e (E orc)) (lp : Env → GS → Option (Exit × Env × GS)) (hlp : ∀ τ G, Ref (lp τ G) (mapE ((E orc).lp (subAt [1, 1, 0, 1, 0, 0, 1, 0, 0, 1, 1, 1, 1, 1, 1, 0, 1, 0, 0] (bodyOf Tryz.f167)) (lst 141 τ) G))) (T : List Value) (G : GS) (hT : T.length = 141) : Ref (b167_3 true e lp (nth undef T) G) (mapE ((E orc).lp (subAt [1, 1, 0, 1, 0, 0, 1, 0, 0, 1, 1, 1, 1, 1, 1, 0, 1, 0, 0] (bodyOf Tryz.f167)) T G)) :=
  fun r hr => lp_sxM Q orc G hT (by kernel_rfl) (mb167_3 h ⟨hlp⟩ _ _ r hr)
/-- slices.partialInsertionSortCmpFunc[uint64] -/
noncomputable def s167 (q : Bool) (e : Ex) (v0 v1 v2 v3 : Value) (G : GS) : Option (Value × GS) :=
  bP (bn Q q .add 3 (.tmp 13) (.const (.int .i64 1)) v1 (.int .i64 1)) fun x0 =>
  bL q e 167 0 (subAt [1, 1, 0, 1, 0, 0] (bodyOf Tryz.f167)) 141 (tu (nth undef [v0, v1, v2, v3]) [(8, (.bool false)), (9, x0), (10, (.int .i64 0)), (13, v1), (14, x0)]) G fun e1 t2 G3 =>
  bV q (t2 8) fun t2x8_ =>
  ifE e1 (.exit 0) (
  some ((.bool false), G3)) (ifE e1 .ret (
  some (t2x8_, G3)) (none))
theorem m167 {e : Ex} {E : Ev} (h : ExLe Q e E) (v0 v1 v2 v3 : Value) (G : GS) : Ref (s167 true e v0 v1 v2 v3 G) (s167 false (Ex.of E) v0 v1 v2 v3 G) := by
  unfold s167
  exact Ref.go
set_option maxHeartbeats 8000000 in
theorem f167 {orc : FuncId → Bool} {e : Ex} (h : ExLe Q e (E orc)) (v0 v1 v2 v3 : Value) (G : GS) : Ref (s167 true e v0 v1 v2 v3 G) ((E orc).cl 167 [v0, v1, v2, v3] G) :=
  fun r hr => cl_sxE_some Q orc (vs := [v0, v1, v2, v3]) G Tryz.func167 (by kernel_rfl) (by kernel_rfl) (by kernel_rfl) (by kernel_rfl) (by kernel_rfl) (by kernel_rfl) (m167 h v0 v1 v2 v3 G r hr)
noncomputable def b168_0 (q : Bool) (e : Ex) (lp : Env → GS → Option (Exit × Env × GS)) (τ : Env) (G : GS) : Option (Exit × Env × GS) :=
  bL q e 168 1 (subAt [1, 1, 1, 0, 0, 0, 0, 0, 0, 0] (bodyOf Tryz.f168)) 90 τ G fun e0 t1 G2 =>
  ifE e0 (.exit 2) (
  bL q e 168 2 (subAt [1, 1, 1, 0, 0, 0, 0, 1, 0, 0, 0] (bodyOf Tryz.f168)) 90 t1 G2 fun e3 t4 G5 =>
  bV q (t4 0) fun t4x0_ =>
  bV q (t4 11) fun t4x11_ =>
  bV q (t4 12) fun t4x12_ =>
  ifE e3 (.exit 4) (
  bP (bn Q q .gtr 3 (.tmp 68) (.tmp 69) t4x11_ t4x12_) fun x6 =>
  ifV x6 (
  some ((.exit 0), clq q 90 (tu t4 [(68, t4x11_), (69, t4x12_), (70, x6)]), G5)) (
  bP (ias Q q 90 1 t4x0_ t4x12_) fun x7 =>
  bP (ld Q q 38 x7 (G5.room 16)) fun x8 =>
  bP (ias Q q 90 1 t4x0_ t4x11_) fun x9 =>
  bP (ld Q q 38 x9 (G5.room 16)) fun x10 =>
  bP (ias Q q 90 1 t4x0_ t4x11_) fun x11 =>
  bP (st Q q 38 1 x11 x8 (G5.room 16)) fun G12 =>
  bP (ias Q q 90 1 t4x0_ t4x12_) fun x13 =>
  bP (st Q q 38 1 x13 x10 G12) fun G14 =>
  bP (bn Q q .add 3 (.tmp 85) (.const (.int .i64 1)) t4x11_ (.int .i64 1)) fun x15 =>
  bP (bn Q q .sub 3 (.tmp 87) (.const (.int .i64 1)) t4x12_ (.int .i64 1)) fun x16 =>
  lp (tu t4 [(11, x15), (12, x16), (68, t4x11_), (69, t4x12_), (70, x6), (71, t4x0_), (72, t4x11_), (73, t4x0_), (74, t4x12_), (75, t4x0_), (76, t4x12_), (77, x7), (78, x8), (79, t4x0_), (80, t4x11_), (81, x9), (82, x10), (83, x11), (84, x13), (85, t4x11_), (86, x15), (87, t4x12_), (88, x16)]) G14)) (none)) (none)
theorem mb168_0 {e : Ex} {E : Ev} (h : ExLe Q e E) {lp lp' : Env → GS → Option (Exit × Env × GS)} (hlp : LpLe lp lp') (τ : Env) (G : GS) : Ref (b168_0 true e lp τ G) (b168_0 false (Ex.of E) lp' τ G) := by
  unfold b168_0
  exact Ref.go
theorem l168_0 {orc : FuncId → Bool} {e : Ex} (h : ExLe Q e (E orc)) (lp : Env → GS → Option (Exit × Env × GS)) (hlp : ∀ τ G, Ref (lp τ G) (mapE ((E orc).lp (subAt [1, 1, 1, 0, 0, 0] (bodyOf Tryz.f168)) (lst 90 τ) G))) (T : List Value) (G : GS) (hT : T.length = 90) : Ref (b168_0 true e lp (nth undef T) G) (mapE ((E orc).lp (subAt [1, 1, 1, 0, 0, 0] (bodyOf Tryz.f168)) T G)) :=
  fun r hr => lp_sxM Q orc G hT (by kernel_rfl) (mb168_0 h ⟨hlp⟩ _ _ r hr)
noncomputable def b168_1 (q : Bool) (e : Ex) (lp : Env → GS → Option (Exit × Env × GS)) (τ : Env) (G : GS) : Option (Exit × Env × GS) :=
  bV q (τ 0) fun a0_ =>
  bV q (τ 1) fun a1_ =>
  bV q (τ 4) fun a4_ =>
  bV q (τ 11) fun a11_ =>
  bV q (τ 12) fun a12_ =>
  bP (bn Q q .leq 3 (.tmp 31) (.tmp 32) a11_ a12_) fun x0 =>
  bS (gd x0 true (some (a4_, (G.room 17))) (G.room 17)) fun x1 _ =>
  bS (gd x0 true (some (a0_, (G.room 17))) (G.room 17)) fun x2 _ =>
  bS (gd x0 true (some (a1_, (G.room 17))) (G.room 17)) fun x3 _ =>
  bS (gd x0 true (bP (ias Q q 90 1 x2 x3) fun y => some (y, (G.room 17))) (G.room 17)) fun x4 _ =>
  bS (gd x0 true (bP (ld Q q 38 x4 (G.room 17)) fun y => some (y, (G.room 17))) (G.room 17)) fun x5 _ =>
  bS (gd x0 true (some (a0_, (G.room 17))) (G.room 17)) fun x6 _ =>
  bS (gd x0 true (some (a11_, (G.room 17))) (G.room 17)) fun x7 _ =>
  bS (gd x0 true (bP (ias Q q 90 1 x6 x7) fun y => some (y, (G.room 17))) (G.room 17)) fun x8 _ =>
  bS (gd x0 true (bP (ld Q q 38 x8 (G.room 17)) fun y => some (y, (G.room 17))) (G.room 17)) fun x9 _ =>
  bS (gd x0 true (bS (cValue e.ev x1 [x5, x9] (G.room 17)) fun y G => some (y, G)) (G.room 17)) fun x11 G10 =>
  bS (gd x0 true (bP (bn Q q .lss 3 (.tmp 44) (.const (.int .i64 0)) x11 (.int .i64 0)) fun y => some (y, G10)) G10) fun x12 _ =>
  bS (gd x0 true (bP (un Q q .not x12) fun y => some (y, G10)) G10) fun x13 _ =>
  bP (pickV x0 x13 (.bool false)) fun x14 =>
  ifV x14 (
  bP (bn Q q .add 3 (.tmp 48) (.const (.int .i64 1)) a11_ (.int .i64 1)) fun x15 =>
  lp (tu τ [(0, a0_), (1, a1_), (4, a4_), (11, x15), (12, a12_), (31, a11_), (32, a12_), (33, x0), (34, x0), (35, x1), (36, x2), (37, x3), (38, x4), (39, x5), (40, x6), (41, x7), (42, x8), (43, x9), (44, x11), (45, x12), (46, x13), (47, x14), (48, a11_), (49, x15)]) G10) (
  some ((.exit 2), clq q 90 (tu τ [(0, a0_), (1, a1_), (4, a4_), (11, a11_), (12, a12_), (31, a11_), (32, a12_), (33, x0), (34, x0), (35, x1), (36, x2), (37, x3), (38, x4), (39, x5), (40, x6), (41, x7), (42, x8), (43, x9), (44, x11), (45, x12), (46, x13), (47, x14)]), G10))
theorem mb168_1 {e : Ex} {E : Ev} (h : ExLe Q e E) {lp lp' : Env → GS → Option (Exit × Env × GS)} (hlp : LpLe lp lp') (τ : Env) (G : GS) : Ref (b168_1 true e lp τ G) (b168_1 false (Ex.of E) lp' τ G) := by
  unfold b168_1
  exact Ref.go
theorem l168_1 {orc : FuncId → Bool} {e : Ex} (h : ExLe Q e (E orc)) (lp : Env → GS → Option (Exit × Env × GS)) (hlp : ∀ τ G, Ref (lp τ G) (mapE ((E orc).lp (subAt [1, 1, 1, 0, 0, 0, 0, 0, 0, 0] (bodyOf Tryz.f168)) (lst 90 τ) G))) (T : List Value) (G : GS) (hT : T.length = 90) : Ref (b168_1 true e lp (nth undef T) G) (mapE ((E orc).lp (subAt [1, 1, 1, 0, 0, 0, 0, 0, 0, 0] (bodyOf Tryz.f168)) T G)) :=
  fun r hr => lp_sxM Q orc G hT (by kernel_rfl) (mb168_1 h ⟨hlp⟩ _ _ r hr)
noncomputable def b168_2 (q : Bool) (e : Ex) (lp : Env → GS → Option (Exit × Env × GS)) (τ : Env) (G : GS) : Option (Exit × Env × GS) :=
  bV q (τ 0) fun a0_ =>
  bV q (τ 1) fun a1_ =>
  bV q (τ 4) fun a4_ =>
  bV q (τ 11) fun a11_ =>
  bV q (τ 12) fun a12_ =>
  bP (bn Q q .leq 3 (.tmp 50) (.tmp 51) a11_ a12_) fun x0 =>
  bS (gd x0 true (some (a4_, (G.room 16))) (G.room 16)) fun x1 _ =>
  bS (gd x0 true (some (a0_, (G.room 16))) (G.room 16)) fun x2 _ =>
  bS (gd x0 true (some (a1_, (G.room 16))) (G.room 16)) fun x3 _ =>
  bS (gd x0 true (bP (ias Q q 90 1 x2 x3) fun y => some (y, (G.room 16))) (G.room 16)) fun x4 _ =>
  bS (gd x0 true (bP (ld Q q 38 x4 (G.room 16)) fun y => some (y, (G.room 16))) (G.room 16)) fun x5 _ =>
  bS (gd x0 true (some (a0_, (G.room 16))) (G.room 16)) fun x6 _ =>
  bS (gd x0 true (some (a12_, (G.room 16))) (G.room 16)) fun x7 _ =>
  bS (gd x0 true (bP (ias Q q 90 1 x6 x7) fun y => some (y, (G.room 16))) (G.room 16)) fun x8 _ =>
  bS (gd x0 true (bP (ld Q q 38 x8 (G.room 16)) fun y => some (y, (G.room 16))) (G.room 16)) fun x9 _ =>
  bS (gd x0 true (bS (cValue e.ev x1 [x5, x9] (G.room 16)) fun y G => some (y, G)) (G.room 16)) fun x11 G10 =>
  bS (gd x0 true (bP (bn Q q .lss 3 (.tmp 63) (.const (.int .i64 0)) x11 (.int .i64 0)) fun y => some (y, G10)) G10) fun x12 _ =>
  bP (pickV x0 x12 (.bool false)) fun x13 =>
  ifV x13 (
  bP (bn Q q .sub 3 (.tmp 66) (.const (.int .i64 1)) a12_ (.int .i64 1)) fun x14 =>
  lp (tu τ [(0, a0_), (1, a1_), (4, a4_), (11, a11_), (12, x14), (50, a11_), (51, a12_), (52, x0), (53, x0), (54, x1), (55, x2), (56, x3), (57, x4), (58, x5), (59, x6), (60, x7), (61, x8), (62, x9), (63, x11), (64, x12), (65, x13), (66, a12_), (67, x14)]) G10) (
  some ((.exit 4), clq q 90 (tu τ [(0, a0_), (1, a1_), (4, a4_), (11, a11_), (12, a12_), (50, a11_), (51, a12_), (52, x0), (53, x0), (54, x1), (55, x2), (56, x3), (57, x4), (58, x5), (59, x6), (60, x7), (61, x8), (62, x9), (63, x11), (64, x12), (65, x13)]), G10))
theorem mb168_2 {e : Ex} {E : Ev} (h : ExLe Q e E) {lp lp' : Env → GS → Option (Exit × Env × GS)} (hlp : LpLe lp lp') (τ : Env) (G : GS) : Ref (b168_2 true e lp τ G) (b168_2 false (Ex.of E) lp' τ G) := by
  unfold b168_2
  exact Ref.go
theorem l168_2 {orc : FuncId → Bool} {e : Ex} (h : ExLe Q e (E orc)) (lp : Env → GS → Option (Exit × Env × GS)) (hlp : ∀ τ G, Ref (lp τ G) (mapE ((E orc).lp (subAt [1, 1, 1, 0, 0, 0, 0, 1, 0, 0, 0] (bodyOf Tryz.f168)) (lst 90 τ) G))) (T : List Value) (G : GS) (hT : T.length = 90) : Ref (b168_2 true e lp (nth undef T) G) (mapE ((E orc).lp (subAt [1, 1, 1, 0, 0, 0, 0, 1, 0, 0, 0] (bodyOf Tryz.f168)) T G)) :=
  fun r hr => lp_sxM Q orc G hT (by kernel_rfl) (mb168_2 h ⟨hlp⟩ _ _ r hr)
/-- slices.partitionEqualCmpFunc[uint64] -/
noncomputable def s168 (q : Bool) (e : Ex) (v0 v1 v2 v3 v4 : Value) (G : GS) : Option (Value × GS) :=
  bP (ias Q q 90 1 v0 v3) fun x0 =>
  bP (ld Q q 38 x0 (G.room 16)) fun x1 =>
  bP (ias Q q 90 1 v0 v1) fun x2 =>
  bP (ld Q q 38 x2 (G.room 16)) fun x3 =>
  bP (ias Q q 90 1 v0 v1) fun x4 =>
  bP (st Q q 38 1 x4 x1 (G.room 16)) fun G5 =>
  bP (ias Q q 90 1 v0 v3) fun x6 =>
  bP (st Q q 38 1 x6 x3 G5) fun G7 =>
  bP (bn Q q .add 3 (.tmp 27) (.const (.int .i64 1)) v1 (.int .i64 1)) fun x8 =>
  bP (bn Q q .sub 3 (.tmp 29) (.const (.int .i64 1)) v2 (.int .i64 1)) fun x9 =>
  bL q e 168 0 (subAt [1, 1, 1, 0, 0, 0] (bodyOf Tryz.f168)) 90 (tu (nth undef [v0, v1, v2, v3, v4]) [(10, (.int .i64 0)), (11, x8), (12, x9), (13, v0), (14, v1), (15, v0), (16, v3), (17, v0), (18, v3), (19, x0), (20, x1), (21, v0), (22, v1), (23, x2), (24, x3), (25, x4), (26, x6), (27, v1), (28, x8), (29, v2), (30, x9)]) G7 fun e10 t11 G12 =>
  bV q (t11 11) fun t11x11_ =>
  ifE e10 (.exit 0) (
  some (t11x11_, G12)) (none)
theorem m168 {e : Ex} {E : Ev} (h : ExLe Q e E) (v0 v1 v2 v3 v4 : Value) (G : GS) : Ref (s168 true e v0 v1 v2 v3 v4 G) (s168 false (Ex.of E) v0 v1 v2 v3 v4 G) := by
  unfold s168
  exact Ref.go
theorem f168 {orc : FuncId → Bool} {e : Ex} (h : ExLe Q e (E orc)) (v0 v1 v2 v3 v4 : Value) (G : GS) : Ref (s168 true e v0 v1 v2 v3 v4 G) ((E orc).cl 168 [v0, v1, v2, v3, v4] G) :=
  fun r hr => cl_sxE_some Q orc (vs := [v0, v1, v2, v3, v4]) G Tryz.func168 (by kernel_rfl) (by kernel_rfl) (by kernel_rfl) (by kernel_rfl) (by kernel_rfl) (by kernel_rfl) (m168 h v0 v1 v2 v3 v4 G r hr)
noncomputable def b169_0 (q : Bool) (e : Ex) (lp : Env → GS → Option (Exit × Env × GS)) (τ : Env) (G : GS) : Option (Exit × Env × GS) :=
  bV q (τ 0) fun a0_ =>
  bV q (τ 1) fun a1_ =>
  bV q (τ 4) fun a4_ =>
  bV q (τ 12) fun a12_ =>
  bV q (τ 13) fun a13_ =>
  bP (bn Q q .leq 3 (.tmp 32) (.tmp 33) a12_ a13_) fun x0 =>
  bS (gd x0 true (some (a4_, (G.room 16))) (G.room 16)) fun x1 _ =>
  bS (gd x0 true (some (a0_, (G.room 16))) (G.room 16)) fun x2 _ =>
  bS (gd x0 true (some (a12_, (G.room 16))) (G.room 16)) fun x3 _ =>
  bS (gd x0 true (bP (ias Q q 90 1 x2 x3) fun y => some (y, (G.room 16))) (G.room 16)) fun x4 _ =>
  bS (gd x0 true (bP (ld Q q 38 x4 (G.room 16)) fun y => some (y, (G.room 16))) (G.room 16)) fun x5 _ =>
  bS (gd x0 true (some (a0_, (G.room 16))) (G.room 16)) fun x6 _ =>
  bS (gd x0 true (some (a1_, (G.room 16))) (G.room 16)) fun x7 _ =>
  bS (gd x0 true (bP (ias Q q 90 1 x6 x7) fun y => some (y, (G.room 16))) (G.room 16)) fun x8 _ =>
  bS (gd x0 true (bP (ld Q q 38 x8 (G.room 16)) fun y => some (y, (G.room 16))) (G.room 16)) fun x9 _ =>
  bS (gd x0 true (bS (cValue e.ev x1 [x5, x9] (G.room 16)) fun y G => some (y, G)) (G.room 16)) fun x11 G10 =>
  bS (gd x0 true (bP (bn Q q .lss 3 (.tmp 45) (.const (.int .i64 0)) x11 (.int .i64 0)) fun y => some (y, G10)) G10) fun x12 _ =>
  bP (pickV x0 x12 (.bool false)) fun x13 =>
  ifV x13 (
  bP (bn Q q .add 3 (.tmp 48) (.const (.int .i64 1)) a12_ (.int .i64 1)) fun x14 =>
  lp (tu τ [(0, a0_), (1, a1_), (4, a4_), (12, x14), (13, a13_), (32, a12_), (33, a13_), (34, x0), (35, x0), (36, x1), (37, x2), (38, x3), (39, x4), (40, x5), (41, x6), (42, x7), (43, x8), (44, x9), (45, x11), (46, x12), (47, x13), (48, a12_), (49, x14)]) G10) (
  some ((.exit 0), clq q 178 (tu τ [(0, a0_), (1, a1_), (4, a4_), (12, a12_), (13, a13_), (32, a12_), (33, a13_), (34, x0), (35, x0), (36, x1), (37, x2), (38, x3), (39, x4), (40, x5), (41, x6), (42, x7), (43, x8), (44, x9), (45, x11), (46, x12), (47, x13)]), G10))
theorem mb169_0 {e : Ex} {E : Ev} (h : ExLe Q e E) {lp lp' : Env → GS → Option (Exit × Env × GS)} (hlp : LpLe lp lp') (τ : Env) (G : GS) : Ref (b169_0 true e lp τ G) (b169_0 false (Ex.of E) lp' τ G) := by
  unfold b169_0
  exact Ref.go
set_option maxHeartbeats 8000000 in
theorem l169_0 {orc : FuncId → Bool} {e : Ex} (h : ExLe Q e (E orc)) (lp : Env → GS → Option (Exit × Env × GS)) (hlp : ∀ τ G, Ref (lp τ G) (mapE ((E orc).lp (subAt [1, 1, 1, 0, 0, 0] (bodyOf Tryz.f169)) (lst 178 τ) G))) (T : List Value) (G : GS) (hT : T.length = 178) : Ref (b169_0 true e lp (nth undef T) G) (mapE ((E orc).lp (subAt [1, 1, 1, 0, 0, 0] (bodyOf Tryz.f169)) T G)) :=
  fun r hr => lp_sxM Q orc G hT (by kernel_rfl) (mb169_0 h ⟨hlp⟩ _ _ r hr)
noncomputable def b169_1 (q : Bool) (e : Ex) (lp : Env → GS → Option (Exit × Env × GS)) (τ : Env) (G : GS) : Option (Exit × Env × GS) :=
  bV q (τ 0) fun a0_ =>
  bV q (τ 1) fun a1_ =>
  bV q (τ 4) fun a4_ =>
  bV q (τ 12) fun a12_ =>
  bV q (τ 13) fun a13_ =>
  bP (bn Q q .leq 3 (.tmp 50) (.tmp 51) a12_ a13_) fun x0 =>
  bS (gd x0 true (some (a4_, (G.room 17))) (G.room 17)) fun x1 _ =>
  bS (gd x0 true (some (a0_, (G.room 17))) (G.room 17)) fun x2 _ =>
  bS (gd x0 true (some (a13_, (G.room 17))) (G.room 17)) fun x3 _ =>
  bS (gd x0 true (bP (ias Q q 90 1 x2 x3) fun y => some (y, (G.room 17))) (G.room 17)) fun x4 _ =>
  bS (gd x0 true (bP (ld Q q 38 x4 (G.room 17)) fun y => some (y, (G.room 17))) (G.room 17)) fun x5 _ =>
  bS (gd x0 true (some (a0_, (G.room 17))) (G.room 17)) fun x6 _ =>
  bS (gd x0 true (some (a1_, (G.room 17))) (G.room 17)) fun x7 _ =>
  bS (gd x0 true (bP (ias Q q 90 1 x6 x7) fun y => some (y, (G.room 17))) (G.room 17)) fun x8 _ =>
  bS (gd x0 true (bP (ld Q q 38 x8 (G.room 17)) fun y => some (y, (G.room 17))) (G.room 17)) fun x9 _ =>
  bS (gd x0 true (bS (cValue e.ev x1 [x5, x9] (G.room 17)) fun y G => some (y, G)) (G.room 17)) fun x11 G10 =>
  bS (gd x0 true (bP (bn Q q .lss 3 (.tmp 63) (.const (.int .i64 0)) x11 (.int .i64 0)) fun y => some (y, G10)) G10) fun x12 _ =>
  bS (gd x0 true (bP (un Q q .not x12) fun y => some (y, G10)) G10) fun x13 _ =>
  bP (pickV x0 x13 (.bool false)) fun x14 =>
  ifV x14 (
  bP (bn Q q .sub 3 (.tmp 67) (.const (.int .i64 1)) a13_ (.int .i64 1)) fun x15 =>
  lp (tu τ [(0, a0_), (1, a1_), (4, a4_), (12, a12_), (13, x15), (50, a12_), (51, a13_), (52, x0), (53, x0), (54, x1), (55, x2), (56, x3), (57, x4), (58, x5), (59, x6), (60, x7), (61, x8), (62, x9), (63, x11), (64, x12), (65, x13), (66, x14), (67, a13_), (68, x15)]) G10) (
  some ((.exit 2), clq q 178 (tu τ [(0, a0_), (1, a1_), (4, a4_), (12, a12_), (13, a13_), (50, a12_), (51, a13_), (52, x0), (53, x0), (54, x1), (55, x2), (56, x3), (57, x4), (58, x5), (59, x6), (60, x7), (61, x8), (62, x9), (63, x11), (64, x12), (65, x13), (66, x14)]), G10))
theorem mb169_1 {e : Ex} {E : Ev} (h : ExLe Q e E) {lp lp' : Env → GS → Option (Exit × Env × GS)} (hlp : LpLe lp lp') (τ : Env) (G : GS) : Ref (b169_1 true e lp τ G) (b169_1 false (Ex.of E) lp' τ G) := by
  unfold b169_1
  exact Ref.go
set_option maxHeartbeats 8000000 in
theorem l169_1 {orc : FuncId → Bool} {e : Ex} (h : ExLe Q e (E orc)) (lp : Env → GS → Option (Exit × Env × GS)) (hlp : ∀ τ G, Ref (lp τ G) (mapE ((E orc).lp (subAt [1, 1, 1, 1, 0, 0, 0] (bodyOf Tryz.f169)) (lst 178 τ) G))) (T : List Value) (G : GS) (hT : T.length = 178) : Ref (b169_1 true e lp (nth undef T) G) (mapE ((E orc).lp (subAt [1, 1, 1, 1, 0, 0, 0] (bodyOf Tryz.f169)) T G)) :=
  fun r hr => lp_sxM Q orc G hT (by kernel_rfl) (mb169_1 h ⟨hlp⟩ _ _ r hr)
noncomputable def b169_2 (q : Bool) (e : Ex) (lp : Env → GS → Option (Exit × Env × GS)) (τ : Env) (G : GS) : Option (Exit × Env × GS) :=
  bL q e 169 3 (subAt [1, 1, 1, 1, 1, 1, 1, 1, 1, 0, 0, 0, 0, 0, 0, 0] (bodyOf Tryz.f169)) 178 τ G fun e0 t1 G2 =>
  ifE e0 (.exit 6) (
  bL q e 169 4 (subAt [1, 1, 1, 1, 1, 1, 1, 1, 1, 0, 0, 0, 0, 1, 0, 0, 0] (bodyOf Tryz.f169)) 178 t1 G2 fun e3 t4 G5 =>
  bV q (t4 0) fun t4x0_ =>
  bV q (t4 12) fun t4x12_ =>
  bV q (t4 13) fun t4x13_ =>
  ifE e3 (.exit 8) (
  bP (bn Q q .gtr 3 (.tmp 142) (.tmp 143) t4x12_ t4x13_) fun x6 =>
  ifV x6 (
  some ((.exit 4), clq q 178 (tu t4 [(142, t4x12_), (143, t4x13_), (144, x6)]), G5)) (
  bP (ias Q q 90 1 t4x0_ t4x13_) fun x7 =>
  bP (ld Q q 38 x7 (G5.room 16)) fun x8 =>
  bP (ias Q q 90 1 t4x0_ t4x12_) fun x9 =>
  bP (ld Q q 38 x9 (G5.room 16)) fun x10 =>
  bP (ias Q q 90 1 t4x0_ t4x12_) fun x11 =>
  bP (st Q q 38 1 x11 x8 (G5.room 16)) fun G12 =>
  bP (ias Q q 90 1 t4x0_ t4x13_) fun x13 =>
  bP (st Q q 38 1 x13 x10 G12) fun G14 =>
  bP (bn Q q .add 3 (.tmp 159) (.const (.int .i64 1)) t4x12_ (.int .i64 1)) fun x15 =>
  bP (bn Q q .sub 3 (.tmp 161) (.const (.int .i64 1)) t4x13_ (.int .i64 1)) fun x16 =>
  lp (tu t4 [(12, x15), (13, x16), (142, t4x12_), (143, t4x13_), (144, x6), (145, t4x0_), (146, t4x12_), (147, t4x0_), (148, t4x13_), (149, t4x0_), (150, t4x13_), (151, x7), (152, x8), (153, t4x0_), (154, t4x12_), (155, x9), (156, x10), (157, x11), (158, x13), (159, t4x12_), (160, x15), (161, t4x13_), (162, x16)]) G14)) (none)) (none)
theorem mb169_2 {e : Ex} {E : Ev} (h : ExLe Q e E) {lp lp' : Env → GS → Option (Exit × Env × GS)} (hlp : LpLe lp lp') (τ : Env) (G : GS) : Ref (b169_2 true e lp τ G) (b169_2 false (Ex.of E) lp' τ G) := by
  unfold b169_2
  exact Ref.go
set_option maxHeartbeats 8000000 in
theorem l169_2 {orc : FuncId → Bool} {e : Ex} (h : ExLe Q e (E orc)) (lp : Env → GS → Option (Exit × Env × GS)) (hlp : ∀ τ G, Ref (lp τ G) (mapE ((E orc).lp (subAt [1, 1, 1, 1, 1, 1, 1, 1, 1, 0, 0, 0] (bodyOf Tryz.f169)) (lst 178 τ) G))) (T : List Value) (G : GS) (hT : T.length = 178) : Ref (b169_2 true e lp (nth undef T) G) (mapE ((E orc).lp (subAt [1, 1, 1, 1, 1, 1, 1, 1, 1, 0, 0, 0] (bodyOf Tryz.f169)) T G)) :=
  fun r hr => lp_sxM Q orc G hT (by kernel_rfl) (mb169_2 h ⟨hlp⟩ _ _ r hr)
noncomputable def b169_3 (q : Bool) (e : Ex) (lp : Env → GS → Option (Exit × Env × GS)) (τ : Env) (G : GS) : Option (Exit × Env × GS) :=
  bV q (τ 0) fun a0_ =>
  bV q (τ 1) fun a1_ =>
  bV q (τ 4) fun a4_ =>
  bV q (τ 12) fun a12_ =>
  bV q (τ 13) fun a13_ =>
  bP (bn Q q .leq 3 (.tmp 105) (.tmp 106) a12_ a13_) fun x0 =>
  bS (gd x0 true (some (a4_, (G.room 16))) (G.room 16)) fun x1 _ =>
  bS (gd x0 true (some (a0_, (G.room 16))) (G.room 16)) fun x2 _ =>
  bS (gd x0 true (some (a12_, (G.room 16))) (G.room 16)) fun x3 _ =>
  bS (gd x0 true (bP (ias Q q 90 1 x2 x3) fun y => some (y, (G.room 16))) (G.room 16)) fun x4 _ =>
  bS (gd x0 true (bP (ld Q q 38 x4 (G.room 16)) fun y => some (y, (G.room 16))) (G.room 16)) fun x5 _ =>
  bS (gd x0 true (some (a0_, (G.room 16))) (G.room 16)) fun x6 _ =>
  bS (gd x0 true (some (a1_, (G.room 16))) (G.room 16)) fun x7 _ =>
  bS (gd x0 true (bP (ias Q q 90 1 x6 x7) fun y => some (y, (G.room 16))) (G.room 16)) fun x8 _ =>
  bS (gd x0 true (bP (ld Q q 38 x8 (G.room 16)) fun y => some (y, (G.room 16))) (G.room 16)) fun x9 _ =>
  bS (gd x0 true (bS (cValue e.ev x1 [x5, x9] (G.room 16)) fun y G => some (y, G)) (G.room 16)) fun x11 G10 =>
  bS (gd x0 true (bP (bn Q q .lss 3 (.tmp 118) (.const (.int .i64 0)) x11 (.int .i64 0)) fun y => some (y, G10)) G10) fun x12 _ =>
  bP (pickV x0 x12 (.bool false)) fun x13 =>
  ifV x13 (
  bP (bn Q q .add 3 (.tmp 121) (.const (.int .i64 1)) a12_ (.int .i64 1)) fun x14 =>
  lp (tu τ [(0, a0_), (1, a1_), (4, a4_), (12, x14), (13, a13_), (105, a12_), (106, a13_), (107, x0), (108, x0), (109, x1), (110, x2), (111, x3), (112, x4), (113, x5), (114, x6), (115, x7), (116, x8), (117, x9), (118, x11), (119, x12), (120, x13), (121, a12_), (122, x14)]) G10) (
  some ((.exit 6), clq q 178 (tu τ [(0, a0_), (1, a1_), (4, a4_), (12, a12_), (13, a13_), (105, a12_), (106, a13_), (107, x0), (108, x0), (109, x1), (110, x2), (111, x3), (112, x4), (113, x5), (114, x6), (115, x7), (116, x8), (117, x9), (118, x11), (119, x12), (120, x13)]), G10))
theorem mb169_3 {e : Ex} {E : Ev} (h : ExLe Q e E) {lp lp' : Env → GS → Option (Exit × Env × GS)} (hlp : LpLe lp lp') (τ : Env) (G : GS) : Ref (b169_3 true e lp τ G) (b169_3 false (Ex.of E) lp' τ G) := by
  unfold b169_3
  exact Ref.go
set_option maxHeartbeats 8000000 in
theorem l169_3 {orc : FuncId → Bool} {e : Ex} (h : ExLe Q e (E orc)) (lp : Env → GS → Option (Exit × Env × GS)) (hlp : ∀ τ G, Ref (lp τ G) (mapE ((E orc).lp (subAt [1, 1, 1, 1, 1, 1, 1, 1, 1, 0, 0, 0, 0, 0, 0, 0] (bodyOf Tryz.f169)) (lst 178 τ) G))) (T : List Value) (G : GS) (hT : T.length = 178) : Ref (b169_3 true e lp (nth undef T) G) (mapE ((E orc).lp (subAt [1, 1, 1, 1, 1, 1, 1, 1, 1, 0, 0, 0, 0, 0, 0, 0] (bodyOf Tryz.f169)) T G)) :=
  fun r hr => lp_sxM Q orc G hT (by kernel_rfl) (mb169_3 h ⟨hlp⟩ _ _ r hr)
noncomputable def b169_4 (q : Bool) (e : Ex) (lp : Env → GS → Option (Exit × Env × GS)) (τ : Env) (G : GS) : Option (Exit × Env × GS) :=
  bV q (τ 0) fun a0_ =>
  bV q (τ 1) fun a1_ =>
  bV q (τ 4) fun a4_ =>
  bV q (τ 12) fun a12_ =>
  bV q (τ 13) fun a13_ =>
  bP (bn Q q .leq 3 (.tmp 123) (.tmp 124) a12_ a13_) fun x0 =>
  bS (gd x0 true (some (a4_, (G.room 17))) (G.room 17)) fun x1 _ =>
  bS (gd x0 true (some (a0_, (G.room 17))) (G.room 17)) fun x2 _ =>
  bS (gd x0 true (some (a13_, (G.room 17))) (G.room 17)) fun x3 _ =>
  bS (gd x0 true (bP (ias Q q 90 1 x2 x3) fun y => some (y, (G.room 17))) (G.room 17)) fun x4 _ =>
  bS (gd x0 true (bP (ld Q q 38 x4 (G.room 17)) fun y => some (y, (G.room 17))) (G.room 17)) fun x5 _ =>
  bS (gd x0 true (some (a0_, (G.room 17))) (G.room 17)) fun x6 _ =>
  bS (gd x0 true (some (a1_, (G.room 17))) (G.room 17)) fun x7 _ =>
  bS (gd x0 true (bP (ias Q q 90 1 x6 x7) fun y => some (y, (G.room 17))) (G.room 17)) fun x8 _ =>
  bS (gd x0 true (bP (ld Q q 38 x8 (G.room 17)) fun y => some (y, (G.room 17))) (G.room 17)) fun x9 _ =>
  bS (gd x0 true (bS (cValue e.ev x1 [x5, x9] (G.room 17)) fun y G => some (y, G)) (G.room 17)) fun x11 G10 =>
  bS (gd x0 true (bP (bn Q q .lss 3 (.tmp 136) (.const (.int .i64 0)) x11 (.int .i64 0)) fun y => some (y, G10)) G10) fun x12 _ =>
  bS (gd x0 true (bP (un Q q .not x12) fun y => some (y, G10)) G10) fun x13 _ =>
  bP (pickV x0 x13 (.bool false)) fun x14 =>
  ifV x14 (
  bP (bn Q q .sub 3 (.tmp 140) (.const (.int .i64 1)) a13_ (.int .i64 1)) fun x15 =>
  lp (tu τ [(0, a0_), (1, a1_), (4, a4_), (12, a12_), (13, x15), (123, a12_), (124, a13_), (125, x0), (126, x0), (127, x1), (128, x2), (129, x3), (130, x4), (131, x5), (132, x6), (133, x7), (134, x8), (135, x9), (136, x11), (137, x12), (138, x13), (139, x14), (140, a13_), (141, x15)]) G10) (
  some ((.exit 8), clq q 178 (tu τ [(0, a0_), (1, a1_), (4, a4_), (12, a12_), (13, a13_), (123, a12_), (124, a13_), (125, x0), (126, x0), (127, x1), (128, x2), (129, x3), (130, x4), (131, x5), (132, x6), (133, x7), (134, x8), (135, x9), (136, x11), (137, x12), (138, x13), (139, x14)]), G10))
theorem mb169_4 {e : Ex} {E : Ev} (h : ExLe Q e E) {lp lp' : Env → GS → Option (Exit × Env × GS)} (hlp : LpLe lp lp') (τ : Env) (G : GS) : Ref (b169_4 true e lp τ G) (b169_4 false (Ex.of E) lp' τ G) := by
  unfold b169_4
  exact Ref.go
set_option maxHeartbeats 8000000 in
theorem l169_4 {orc : FuncId → Bool} {e : Ex} (h : ExLe Q e (E orc)) (lp : Env → GS → Option (Exit × Env × GS)) (hlp : ∀ τ G, Ref (lp τ G) (mapE ((E orc).lp (subAt [1, 1, 1, 1, 1, 1, 1, 1, 1, 0, 0, 0, 0, 1, 0, 0, 0] (bodyOf Tryz.f169)) (lst 178 τ) G))) (T : List Value) (G : GS) (hT : T.length = 178) : Ref (b169_4 true e lp (nth undef T) G) (mapE ((E orc).lp (subAt [1, 1, 1, 1, 1, 1, 1, 1, 1, 0, 0, 0, 0, 1, 0, 0, 0] (bodyOf Tryz.f169)) T G)) :=
  fun r hr => lp_sxM Q orc G hT (by kernel_rfl) (mb169_4 h ⟨hlp⟩ _ _ r hr)
/-- slices.partitionCmpFunc[uint64] -/
noncomputable def s169 (q : Bool) (e : Ex) (v0 v1 v2 v3 v4 : Value) (G : GS) : Option (Value × GS) :=
  bP (ias Q q 90 1 v0 v3) fun x0 =>
  bP (ld Q q 38 x0 (G.room 16)) fun x1 =>
  bP (ias Q q 90 1 v0 v1) fun x2 =>
  bP (ld Q q 38 x2 (G.room 16)) fun x3 =>
  bP (ias Q q 90 1 v0 v1) fun x4 =>
  bP (st Q q 38 1 x4 x1 (G.room 16)) fun G5 =>
  bP (ias Q q 90 1 v0 v3) fun x6 =>
  bP (st Q q 38 1 x6 x3 G5) fun G7 =>
  bP (bn Q q .add 3 (.tmp 28) (.const (.int .i64 1)) v1 (.int .i64 1)) fun x8 =>
  bP (bn Q q .sub 3 (.tmp 30) (.const (.int .i64 1)) v2 (.int .i64 1)) fun x9 =>
  bL q e 169 0 (subAt [1, 1, 1, 0, 0, 0] (bodyOf Tryz.f169)) 178 (tu (nth undef [v0, v1, v2, v3, v4]) [(10, (.int .i64 0)), (11, (.bool false)), (12, x8), (13, x9), (14, v0), (15, v1), (16, v0), (17, v3), (18, v0), (19, v3), (20, x0), (21, x1), (22, v0), (23, v1), (24, x2), (25, x3), (26, x4), (27, x6), (28, v1), (29, x8), (30, v2), (31, x9)]) G7 fun e10 t11 G12 =>
  ifE e10 (.exit 0) (
  bL q e 169 1 (subAt [1, 1, 1, 1, 0, 0, 0] (bodyOf Tryz.f169)) 178 t11 G12 fun e13 t14 G15 =>
  bV q (t14 0) fun t14x0_ =>
  bV q (t14 1) fun t14x1_ =>
  bV q (t14 12) fun t14x12_ =>
  bV q (t14 13) fun t14x13_ =>
  ifE e13 (.exit 2) (
  bP (bn Q q .gtr 3 (.tmp 69) (.tmp 70) t14x12_ t14x13_) fun x16 =>
  ifV x16 (
  bP (ias Q q 90 1 t14x0_ t14x1_) fun x17 =>
  bP (ld Q q 38 x17 (G15.room 16)) fun x18 =>
  bP (ias Q q 90 1 t14x0_ t14x13_) fun x19 =>
  bP (ld Q q 38 x19 (G15.room 16)) fun x20 =>
  bP (ias Q q 90 1 t14x0_ t14x13_) fun x21 =>
  bP (st Q q 38 1 x21 x18 (G15.room 16)) fun G22 =>
  bP (ias Q q 90 1 t14x0_ t14x1_) fun x23 =>
  bP (st Q q 38 1 x23 x20 G22) fun G24 =>
  some (.tuple #[t14x13_, (.bool true)], G24)) (
  bP (ias Q q 90 1 t14x0_ t14x13_) fun x25 =>
  bP (ld Q q 38 x25 (G15.room 16)) fun x26 =>
  bP (ias Q q 90 1 t14x0_ t14x12_) fun x27 =>
  bP (ld Q q 38 x27 (G15.room 16)) fun x28 =>
  bP (ias Q q 90 1 t14x0_ t14x12_) fun x29 =>
  bP (st Q q 38 1 x29 x26 (G15.room 16)) fun G30 =>
  bP (ias Q q 90 1 t14x0_ t14x13_) fun x31 =>
  bP (st Q q 38 1 x31 x28 G30) fun G32 =>
  bP (bn Q q .add 3 (.tmp 101) (.const (.int .i64 1)) t14x12_ (.int .i64 1)) fun x33 =>
  bP (bn Q q .sub 3 (.tmp 103) (.const (.int .i64 1)) t14x13_ (.int .i64 1)) fun x34 =>
  bL q e 169 2 (subAt [1, 1, 1, 1, 1, 1, 1, 1, 1, 0, 0, 0] (bodyOf Tryz.f169)) 178 (tu t14 [(12, x33), (13, x34), (69, t14x12_), (70, t14x13_), (71, x16), (87, t14x0_), (88, t14x12_), (89, t14x0_), (90, t14x13_), (91, t14x0_), (92, t14x13_), (93, x25), (94, x26), (95, t14x0_), (96, t14x12_), (97, x27), (98, x28), (99, x29), (100, x31), (101, t14x12_), (102, x33), (103, t14x13_), (104, x34)]) G32 fun e35 t36 G37 =>
  bV q (t36 0) fun t36x0_ =>
  bV q (t36 1) fun t36x1_ =>
  bV q (t36 13) fun t36x13_ =>
  ifE e35 (.exit 4) (
  bP (ias Q q 90 1 t36x0_ t36x1_) fun x38 =>
  bP (ld Q q 38 x38 (G37.room 16)) fun x39 =>
  bP (ias Q q 90 1 t36x0_ t36x13_) fun x40 =>
  bP (ld Q q 38 x40 (G37.room 16)) fun x41 =>
  bP (ias Q q 90 1 t36x0_ t36x13_) fun x42 =>
  bP (st Q q 38 1 x42 x39 (G37.room 16)) fun G43 =>
  bP (ias Q q 90 1 t36x0_ t36x1_) fun x44 =>
  bP (st Q q 38 1 x44 x41 G43) fun G45 =>
  some (.tuple #[t36x13_, (.bool false)], G45)) (none))) (none)) (none)
theorem m169 {e : Ex} {E : Ev} (h : ExLe Q e E) (v0 v1 v2 v3 v4 : Value) (G : GS) : Ref (s169 true e v0 v1 v2 v3 v4 G) (s169 false (Ex.of E) v0 v1 v2 v3 v4 G) := by
  unfold s169
  exact Ref.go
set_option maxHeartbeats 8000000 in
theorem f169 {orc : FuncId → Bool} {e : Ex} (h : ExLe Q e (E orc)) (v0 v1 v2 v3 v4 : Value) (G : GS) : Ref (s169 true e v0 v1 v2 v3 v4 G) ((E orc).cl 169 [v0, v1, v2, v3, v4] G) :=
  fun r hr => cl_sxE_some Q orc (vs := [v0, v1, v2, v3, v4]) G Tryz.func169 (by kernel_rfl) (by kernel_rfl) (by kernel_rfl) (by kernel_rfl) (by kernel_rfl) (by kernel_rfl) (m169 h v0 v1 v2 v3 v4 G r hr)
/-- math/bits.Len32 -/
noncomputable def s170 (q : Bool) (e : Ex) (v0 : Value) (G : GS) : Option (Value × GS) :=
  bP (bn Q q .geq 232 (.tmp 3) (.const (.int .u32 65536)) v0 (.int .u32 65536)) fun x0 =>
  ifV x0 (
  bP (bn Q q .shr 232 (.tmp 5) (.const (.int .u64 16)) v0 (.int .u64 16)) fun x1 =>
  bP (bn Q q .geq 232 (.tmp 7) (.const (.int .u32 256)) x1 (.int .u32 256)) fun x2 =>
  ifV x2 (
  bP (bn Q q .shr 232 (.tmp 9) (.const (.int .u64 8)) x1 (.int .u64 8)) fun x3 =>
  bP (bn Q q .add 3 (.tmp 11) (.const (.int .i64 8)) (.int .i64 16) (.int .i64 8)) fun x4 =>
  bP (cv Q q 232 5 .u32 .u8 x3) fun x5 =>
  bP (gIndex Q 9 (.string ⟨#[0, 1, 2, 2, 3, 3, 3, 3, 4, 4, 4, 4, 4, 4, 4, 4, 5, 5, 5, 5, 5, 5, 5, 5, 5, 5, 5, 5, 5, 5, 5, 5, 6, 6, 6, 6, 6, 6, 6, 6, 6, 6, 6, 6, 6, 6, 6, 6, 6, 6, 6, 6, 6, 6, 6, 6, 6, 6, 6, 6, 6, 6, 6, 6, 7, 7, 7, 7, 7, 7, 7, 7, 7, 7, 7, 7, 7, 7, 7, 7, 7, 7, 7, 7, 7, 7, 7, 7, 7, 7, 7, 7, 7, 7, 7, 7, 7, 7, 7, 7, 7, 7, 7, 7, 7, 7, 7, 7, 7, 7, 7, 7, 7, 7, 7, 7, 7, 7, 7, 7, 7, 7, 7, 7, 7, 7, 7, 7, 8, 8, 8, 8, 8, 8, 8, 8, 8, 8, 8, 8, 8, 8, 8, 8, 8, 8, 8, 8, 8, 8, 8, 8, 8, 8, 8, 8, 8, 8, 8, 8, 8, 8, 8, 8, 8, 8, 8, 8, 8, 8, 8, 8, 8, 8, 8, 8, 8, 8, 8, 8, 8, 8, 8, 8, 8, 8, 8, 8, 8, 8, 8, 8, 8, 8, 8, 8, 8, 8, 8, 8, 8, 8, 8, 8, 8, 8, 8, 8, 8, 8, 8, 8, 8, 8, 8, 8, 8, 8, 8, 8, 8, 8, 8, 8, 8, 8, 8, 8, 8, 8, 8, 8, 8, 8, 8, 8, 8, 8, 8, 8, 8, 8, 8, 8, 8, 8, 8, 8, 8, 8, 8, 8, 8, 8, 8, 8]⟩) x5) fun x6 =>
  bP (cv Q q 5 3 .u8 .i64 x6) fun x7 =>
  bP (bn Q q .add 3 (.tmp 13) (.tmp 17) x4 x7) fun x8 =>
  some (x8, G)) (
  bP (cv Q q 232 5 .u32 .u8 x1) fun x9 =>
  bP (gIndex Q 9 (.string ⟨#[0, 1, 2, 2, 3, 3, 3, 3, 4, 4, 4, 4, 4, 4, 4, 4, 5, 5, 5, 5, 5, 5, 5, 5, 5, 5, 5, 5, 5, 5, 5, 5, 6, 6, 6, 6, 6, 6, 6, 6, 6, 6, 6, 6, 6, 6, 6, 6, 6, 6, 6, 6, 6, 6, 6, 6, 6, 6, 6, 6, 6, 6, 6, 6, 7, 7, 7, 7, 7, 7, 7, 7, 7, 7, 7, 7, 7, 7, 7, 7, 7, 7, 7, 7, 7, 7, 7, 7, 7, 7, 7, 7, 7, 7, 7, 7, 7, 7, 7, 7, 7, 7, 7, 7, 7, 7, 7, 7, 7, 7, 7, 7, 7, 7, 7, 7, 7, 7, 7, 7, 7, 7, 7, 7, 7, 7, 7, 7, 8, 8, 8, 8, 8, 8, 8, 8, 8, 8, 8, 8, 8, 8, 8, 8, 8, 8, 8, 8, 8, 8, 8, 8, 8, 8, 8, 8, 8, 8, 8, 8, 8, 8, 8, 8, 8, 8, 8, 8, 8, 8, 8, 8, 8, 8, 8, 8, 8, 8, 8, 8, 8, 8, 8, 8, 8, 8, 8, 8, 8, 8, 8, 8, 8, 8, 8, 8, 8, 8, 8, 8, 8, 8, 8, 8, 8, 8, 8, 8, 8, 8, 8, 8, 8, 8, 8, 8, 8, 8, 8, 8, 8, 8, 8, 8, 8, 8, 8, 8, 8, 8, 8, 8, 8, 8, 8, 8, 8, 8, 8, 8, 8, 8, 8, 8, 8, 8, 8, 8, 8, 8, 8, 8, 8, 8, 8, 8]⟩) x9) fun x10 =>
  bP (cv Q q 5 3 .u8 .i64 x10) fun x11 =>
  bP (bn Q q .add 3 (.tmp 13) (.tmp 17) (.int .i64 16) x11) fun x12 =>
  some (x12, G))) (
  bP (bn Q q .geq 232 (.tmp 7) (.const (.int .u32 256)) v0 (.int .u32 256)) fun x13 =>
  ifV x13 (
  bP (bn Q q .shr 232 (.tmp 9) (.const (.int .u64 8)) v0 (.int .u64 8)) fun x14 =>
  bP (bn Q q .add 3 (.tmp 11) (.const (.int .i64 8)) (.int .i64 0) (.int .i64 8)) fun x15 =>
  bP (cv Q q 232 5 .u32 .u8 x14) fun x16 =>
  bP (gIndex Q 9 (.string ⟨#[0, 1, 2, 2, 3, 3, 3, 3, 4, 4, 4, 4, 4, 4, 4, 4, 5, 5, 5, 5, 5, 5, 5, 5, 5, 5, 5, 5, 5, 5, 5, 5, 6, 6, 6, 6, 6, 6, 6, 6, 6, 6, 6, 6, 6, 6, 6, 6, 6, 6, 6, 6, 6, 6, 6, 6, 6, 6, 6, 6, 6, 6, 6, 6, 7, 7, 7, 7, 7, 7, 7, 7, 7, 7, 7, 7, 7, 7, 7, 7, 7, 7, 7, 7, 7, 7, 7, 7, 7, 7, 7, 7, 7, 7, 7, 7, 7, 7, 7, 7, 7, 7, 7, 7, 7, 7, 7, 7, 7, 7, 7, 7, 7, 7, 7, 7, 7, 7, 7, 7, 7, 7, 7, 7, 7, 7, 7, 7, 8, 8, 8, 8, 8, 8, 8, 8, 8, 8, 8, 8, 8, 8, 8, 8, 8, 8, 8, 8, 8, 8, 8, 8, 8, 8, 8, 8, 8, 8, 8, 8, 8, 8, 8, 8, 8, 8, 8, 8, 8, 8, 8, 8, 8, 8, 8, 8, 8, 8, 8, 8, 8, 8, 8, 8, 8, 8, 8, 8, 8, 8, 8, 8, 8, 8, 8, 8, 8, 8, 8, 8, 8, 8, 8, 8, 8, 8, 8, 8, 8, 8, 8, 8, 8, 8, 8, 8, 8, 8, 8, 8, 8, 8, 8, 8, 8, 8, 8, 8, 8, 8, 8, 8, 8, 8, 8, 8, 8, 8, 8, 8, 8, 8, 8, 8, 8, 8, 8, 8, 8, 8, 8, 8, 8, 8, 8, 8]⟩) x16) fun x17 =>
  bP (cv Q q 5 3 .u8 .i64 x17) fun x18 =>
  bP (bn Q q .add 3 (.tmp 13) (.tmp 17) x15 x18) fun x19 =>
  some (x19, G)) (
  bP (cv Q q 232 5 .u32 .u8 v0) fun x20 =>
  bP (gIndex Q 9 (.string ⟨#[0, 1, 2, 2, 3, 3, 3, 3, 4, 4, 4, 4, 4, 4, 4, 4, 5, 5, 5, 5, 5, 5, 5, 5, 5, 5, 5, 5, 5, 5, 5, 5, 6, 6, 6, 6, 6, 6, 6, 6, 6, 6, 6, 6, 6, 6, 6, 6, 6, 6, 6, 6, 6, 6, 6, 6, 6, 6, 6, 6, 6, 6, 6, 6, 7, 7, 7, 7, 7, 7, 7, 7, 7, 7, 7, 7, 7, 7, 7, 7, 7, 7, 7, 7, 7, 7, 7, 7, 7, 7, 7, 7, 7, 7, 7, 7, 7, 7, 7, 7, 7, 7, 7, 7, 7, 7, 7, 7, 7, 7, 7, 7, 7, 7, 7, 7, 7, 7, 7, 7, 7, 7, 7, 7, 7, 7, 7, 7, 8, 8, 8, 8, 8, 8, 8, 8, 8, 8, 8, 8, 8, 8, 8, 8, 8, 8, 8, 8, 8, 8, 8, 8, 8, 8, 8, 8, 8, 8, 8, 8, 8, 8, 8, 8, 8, 8, 8, 8, 8, 8, 8, 8, 8, 8, 8, 8, 8, 8, 8, 8, 8, 8, 8, 8, 8, 8, 8, 8, 8, 8, 8, 8, 8, 8, 8, 8, 8, 8, 8, 8, 8, 8, 8, 8, 8, 8, 8, 8, 8, 8, 8, 8, 8, 8, 8, 8, 8, 8, 8, 8, 8, 8, 8, 8, 8, 8, 8, 8, 8, 8, 8, 8, 8, 8, 8, 8, 8, 8, 8, 8, 8, 8, 8, 8, 8, 8, 8, 8, 8, 8, 8, 8, 8, 8, 8, 8]⟩) x20) fun x21 =>
  bP (cv Q q 5 3 .u8 .i64 x21) fun x22 =>
  bP (bn Q q .add 3 (.tmp 13) (.tmp 17) (.int .i64 0) x22) fun x23 =>
  some (x23, G)))
theorem m170 {e : Ex} {E : Ev} (h : ExLe Q e E) (v0 : Value) (G : GS) : Ref (s170 true e v0 G) (s170 false (Ex.of E) v0 G) := by
  unfold s170
  exact Ref.go
theorem f170 {orc : FuncId → Bool} {e : Ex} (h : ExLe Q e (E orc)) (v0 : Value) (G : GS) : Ref (s170 true e v0 G) ((E orc).cl 170 [v0] G) :=
  fun r hr => cl_sxE_some Q orc (vs := [v0]) G Tryz.func170 (by kernel_rfl) (by kernel_rfl) (by kernel_rfl) (by kernel_rfl) (by kernel_rfl) (by kernel_rfl) (m170 h v0 G r hr)
/-- math/bits.Len64 -/
noncomputable def s171 (q : Bool) (e : Ex) (v0 : Value) (G : GS) : Option (Value × GS) :=
  bP (bn Q q .geq 38 (.tmp 3) (.const (.int .u64 4294967296)) v0 (.int .u64 4294967296)) fun x0 =>
  ifV x0 (
  bP (bn Q q .shr 38 (.tmp 5) (.const (.int .u64 32)) v0 (.int .u64 32)) fun x1 =>
  bP (bn Q q .geq 38 (.tmp 7) (.const (.int .u64 65536)) x1 (.int .u64 65536)) fun x2 =>
  ifV x2 (
  bP (bn Q q .shr 38 (.tmp 9) (.const (.int .u64 16)) x1 (.int .u64 16)) fun x3 =>
  bP (bn Q q .add 3 (.tmp 11) (.const (.int .i64 16)) (.int .i64 32) (.int .i64 16)) fun x4 =>
  bP (bn Q q .geq 38 (.tmp 13) (.const (.int .u64 256)) x3 (.int .u64 256)) fun x5 =>
  ifV x5 (
  bP (bn Q q .shr 38 (.tmp 15) (.const (.int .u64 8)) x3 (.int .u64 8)) fun x6 =>
  bP (bn Q q .add 3 (.tmp 17) (.const (.int .i64 8)) x4 (.int .i64 8)) fun x7 =>
  bP (cv Q q 38 5 .u64 .u8 x6) fun x8 =>
  bP (gIndex Q 9 (.string ⟨#[0, 1, 2, 2, 3, 3, 3, 3, 4, 4, 4, 4, 4, 4, 4, 4, 5, 5, 5, 5, 5, 5, 5, 5, 5, 5, 5, 5, 5, 5, 5, 5, 6, 6, 6, 6, 6, 6, 6, 6, 6, 6, 6, 6, 6, 6, 6, 6, 6, 6, 6, 6, 6, 6, 6, 6, 6, 6, 6, 6, 6, 6, 6, 6, 7, 7, 7, 7, 7, 7, 7, 7, 7, 7, 7, 7, 7, 7, 7, 7, 7, 7, 7, 7, 7, 7, 7, 7, 7, 7, 7, 7, 7, 7, 7, 7, 7, 7, 7, 7, 7, 7, 7, 7, 7, 7, 7, 7, 7, 7, 7, 7, 7, 7, 7, 7, 7, 7, 7, 7, 7, 7, 7, 7, 7, 7, 7, 7, 8, 8, 8, 8, 8, 8, 8, 8, 8, 8, 8, 8, 8, 8, 8, 8, 8, 8, 8, 8, 8, 8, 8, 8, 8, 8, 8, 8, 8, 8, 8, 8, 8, 8, 8, 8, 8, 8, 8, 8, 8, 8, 8, 8, 8, 8, 8, 8, 8, 8, 8, 8, 8, 8, 8, 8, 8, 8, 8, 8, 8, 8, 8, 8, 8, 8, 8, 8, 8, 8, 8, 8, 8, 8, 8, 8, 8, 8, 8, 8, 8, 8, 8, 8, 8, 8, 8, 8, 8, 8, 8, 8, 8, 8, 8, 8, 8, 8, 8, 8, 8, 8, 8, 8, 8, 8, 8, 8, 8, 8, 8, 8, 8, 8, 8, 8, 8, 8, 8, 8, 8, 8, 8, 8, 8, 8, 8, 8]⟩) x8) fun x9 =>
  bP (cv Q q 5 3 .u8 .i64 x9) fun x10 =>
  bP (bn Q q .add 3 (.tmp 19) (.tmp 23) x7 x10) fun x11 =>
  some (x11, G)) (
  bP (cv Q q 38 5 .u64 .u8 x3) fun x12 =>
  bP (gIndex Q 9 (.string ⟨#[0, 1, 2, 2, 3, 3, 3, 3, 4, 4, 4, 4, 4, 4, 4, 4, 5, 5, 5, 5, 5, 5, 5, 5, 5, 5, 5, 5, 5, 5, 5, 5, 6, 6, 6, 6, 6, 6, 6, 6, 6, 6, 6, 6, 6, 6, 6, 6, 6, 6, 6, 6, 6, 6, 6, 6, 6, 6, 6, 6, 6, 6, 6, 6, 7, 7, 7, 7, 7, 7, 7, 7, 7, 7, 7, 7, 7, 7, 7, 7, 7, 7, 7, 7, 7, 7, 7, 7, 7, 7, 7, 7, 7, 7, 7, 7, 7, 7, 7, 7, 7, 7, 7, 7, 7, 7, 7, 7, 7, 7, 7, 7, 7, 7, 7, 7, 7, 7, 7, 7, 7, 7, 7, 7, 7, 7, 7, 7, 8, 8, 8, 8, 8, 8, 8, 8, 8, 8, 8, 8, 8, 8, 8, 8, 8, 8, 8, 8, 8, 8, 8, 8, 8, 8, 8, 8, 8, 8, 8, 8, 8, 8, 8, 8, 8, 8, 8, 8, 8, 8, 8, 8, 8, 8, 8, 8, 8, 8, 8, 8, 8, 8, 8, 8, 8, 8, 8, 8, 8, 8, 8, 8, 8, 8, 8, 8, 8, 8, 8, 8, 8, 8, 8, 8, 8, 8, 8, 8, 8, 8, 8, 8, 8, 8, 8, 8, 8, 8, 8, 8, 8, 8, 8, 8, 8, 8, 8, 8, 8, 8, 8, 8, 8, 8, 8, 8, 8, 8, 8, 8, 8, 8, 8, 8, 8, 8, 8, 8, 8, 8, 8, 8, 8, 8, 8, 8]⟩) x12) fun x13 =>
  bP (cv Q q 5 3 .u8 .i64 x13) fun x14 =>
  bP (bn Q q .add 3 (.tmp 19) (.tmp 23) x4 x14) fun x15 =>
  some (x15, G))) (
  bP (bn Q q .geq 38 (.tmp 13) (.const (.int .u64 256)) x1 (.int .u64 256)) fun x16 =>
  ifV x16 (
  bP (bn Q q .shr 38 (.tmp 15) (.const (.int .u64 8)) x1 (.int .u64 8)) fun x17 =>
  bP (bn Q q .add 3 (.tmp 17) (.const (.int .i64 8)) (.int .i64 32) (.int .i64 8)) fun x18 =>
  bP (cv Q q 38 5 .u64 .u8 x17) fun x19 =>
  bP (gIndex Q 9 (.string ⟨#[0, 1, 2, 2, 3, 3, 3, 3, 4, 4, 4, 4, 4, 4, 4, 4, 5, 5, 5, 5, 5, 5, 5, 5, 5, 5, 5, 5, 5, 5, 5, 5, 6, 6, 6, 6, 6, 6, 6, 6, 6, 6, 6, 6, 6, 6, 6, 6, 6, 6, 6, 6, 6, 6, 6, 6, 6, 6, 6, 6, 6, 6, 6, 6, 7, 7, 7, 7, 7, 7, 7, 7, 7, 7, 7, 7, 7, 7, 7, 7, 7, 7, 7, 7, 7, 7, 7, 7, 7, 7, 7, 7, 7, 7, 7, 7, 7, 7, 7, 7, 7, 7, 7, 7, 7, 7, 7, 7, 7, 7, 7, 7, 7, 7, 7, 7, 7, 7, 7, 7, 7, 7, 7, 7, 7, 7, 7, 7, 8, 8, 8, 8, 8, 8, 8, 8, 8, 8, 8, 8, 8, 8, 8, 8, 8, 8, 8, 8, 8, 8, 8, 8, 8, 8, 8, 8, 8, 8, 8, 8, 8, 8, 8, 8, 8, 8, 8, 8, 8, 8, 8, 8, 8, 8, 8, 8, 8, 8, 8, 8, 8, 8, 8, 8, 8, 8, 8, 8, 8, 8, 8, 8, 8, 8, 8, 8, 8, 8, 8, 8, 8, 8, 8, 8, 8, 8, 8, 8, 8, 8, 8, 8, 8, 8, 8, 8, 8, 8, 8, 8, 8, 8, 8, 8, 8, 8, 8, 8, 8, 8, 8, 8, 8, 8, 8, 8, 8, 8, 8, 8, 8, 8, 8, 8, 8, 8, 8, 8, 8, 8, 8, 8, 8, 8, 8, 8]⟩) x19) fun x20 =>
  bP (cv Q q 5 3 .u8 .i64 x20) fun x21 =>
  bP (bn Q q .add 3 (.tmp 19) (.tmp 23) x18 x21) fun x22 =>
  some (x22, G)) (
  bP (cv Q q 38 5 .u64 .u8 x1) fun x23 =>
  bP (gIndex Q 9 (.string ⟨#[0, 1, 2, 2, 3, 3, 3, 3, 4, 4, 4, 4, 4, 4, 4, 4, 5, 5, 5, 5, 5, 5, 5, 5, 5, 5, 5, 5, 5, 5, 5, 5, 6, 6, 6, 6, 6, 6, 6, 6, 6, 6, 6, 6, 6, 6, 6, 6, 6, 6, 6, 6, 6, 6, 6, 6, 6, 6, 6, 6, 6, 6, 6, 6, 7, 7, 7, 7, 7, 7, 7, 7, 7, 7, 7, 7, 7, 7, 7, 7, 7, 7, 7, 7, 7, 7, 7, 7, 7, 7, 7, 7, 7, 7, 7, 7, 7, 7, 7, 7, 7, 7, 7, 7, 7, 7, 7, 7, 7, 7, 7, 7, 7, 7, 7, 7, 7, 7, 7, 7, 7, 7, 7, 7, 7, 7, 7, 7, 8, 8, 8, 8, 8, 8, 8, 8, 8, 8, 8, 8, 8, 8, 8, 8, 8, 8, 8, 8, 8, 8, 8, 8, 8, 8, 8, 8, 8, 8, 8, 8, 8, 8, 8, 8, 8, 8, 8, 8, 8, 8, 8, 8, 8, 8, 8, 8, 8, 8, 8, 8, 8, 8, 8, 8, 8, 8, 8, 8, 8, 8, 8, 8, 8, 8, 8, 8, 8, 8, 8, 8, 8, 8, 8, 8, 8, 8, 8, 8, 8, 8, 8, 8, 8, 8, 8, 8, 8, 8, 8, 8, 8, 8, 8, 8, 8, 8, 8, 8, 8, 8, 8, 8, 8, 8, 8, 8, 8, 8, 8, 8, 8, 8, 8, 8, 8, 8, 8, 8, 8, 8, 8, 8, 8, 8, 8, 8]⟩) x23) fun x24 =>
  bP (cv Q q 5 3 .u8 .i64 x24) fun x25 =>
  bP (bn Q q .add 3 (.tmp 19) (.tmp 23) (.int .i64 32) x25) fun x26 =>
  some (x26, G)))) (
  bP (bn Q q .geq 38 (.tmp 7) (.const (.int .u64 65536)) v0 (.int .u64 65536)) fun x27 =>
  ifV x27 (
  bP (bn Q q .shr 38 (.tmp 9) (.const (.int .u64 16)) v0 (.int .u64 16)) fun x28 =>
  bP (bn Q q .add 3 (.tmp 11) (.const (.int .i64 16)) (.int .i64 0) (.int .i64 16)) fun x29 =>
  bP (bn Q q .geq 38 (.tmp 13) (.const (.int .u64 256)) x28 (.int .u64 256)) fun x30 =>
  ifV x30 (
  bP (bn Q q .shr 38 (.tmp 15) (.const (.int .u64 8)) x28 (.int .u64 8)) fun x31 =>
  bP (bn Q q .add 3 (.tmp 17) (.const (.int .i64 8)) x29 (.int .i64 8)) fun x32 =>
  bP (cv Q q 38 5 .u64 .u8 x31) fun x33 =>
  bP (gIndex Q 9 (.string ⟨#[0, 1, 2, 2, 3, 3, 3, 3, 4, 4, 4, 4, 4, 4, 4, 4, 5, 5, 5, 5, 5, 5, 5, 5, 5, 5, 5, 5, 5, 5, 5, 5, 6, 6, 6, 6, 6, 6, 6, 6, 6, 6, 6, 6, 6, 6, 6, 6, 6, 6, 6, 6, 6, 6, 6, 6, 6, 6, 6, 6, 6, 6, 6, 6, 7, 7, 7, 7, 7, 7, 7, 7, 7, 7, 7, 7, 7, 7, 7, 7, 7, 7, 7, 7, 7, 7, 7, 7, 7, 7, 7, 7, 7, 7, 7, 7, 7, 7, 7, 7, 7, 7, 7, 7, 7, 7, 7, 7, 7, 7, 7, 7, 7, 7, 7, 7, 7, 7, 7, 7, 7, 7, 7, 7, 7, 7, 7, 7, 8, 8, 8, 8, 8, 8, 8, 8, 8, 8, 8, 8, 8, 8, 8, 8, 8, 8, 8, 8, 8, 8, 8, 8, 8, 8, 8, 8, 8, 8, 8, 8, 8, 8, 8, 8, 8, 8, 8, 8, 8, 8, 8, 8, 8, 8, 8, 8, 8, 8, 8, 8, 8, 8, 8, 8, 8, 8, 8, 8, 8, 8, 8, 8, 8, 8, 8, 8, 8, 8, 8, 8, 8, 8, 8, 8, 8, 8, 8, 8, 8, 8, 8, 8, 8, 8, 8, 8, 8, 8, 8, 8, 8, 8, 8, 8, 8, 8, 8, 8, 8, 8, 8, 8, 8, 8, 8, 8, 8, 8, 8, 8, 8, 8, 8, 8, 8, 8, 8, 8, 8, 8, 8, 8, 8, 8, 8, 8]⟩) x33) fun x34 =>
  bP (cv Q q 5 3 .u8 .i64 x34) fun x35 =>
  bP (bn Q q .add 3 (.tmp 19) (.tmp 23) x32 x35) fun x36 =>
  some (x36, G)) (
  bP (cv Q q 38 5 .u64 .u8 x28) fun x37 =>
  bP (gIndex Q 9 (.string ⟨#[0, 1, 2, 2, 3, 3, 3, 3, 4, 4, 4, 4, 4, 4, 4, 4, 5, 5, 5, 5, 5, 5, 5, 5, 5, 5, 5, 5, 5, 5, 5, 5, 6, 6, 6, 6, 6, 6, 6, 6, 6, 6, 6, 6, 6, 6, 6, 6, 6, 6, 6, 6, 6, 6, 6, 6, 6, 6, 6, 6, 6, 6, 6, 6, 7, 7, 7, 7, 7, 7, 7, 7, 7, 7, 7, 7, 7, 7, 7, 7, 7, 7, 7, 7, 7, 7, 7, 7, 7, 7, 7, 7, 7, 7, 7, 7, 7, 7, 7, 7, 7, 7, 7, 7, 7, 7, 7, 7, 7, 7, 7, 7, 7, 7, 7, 7, 7, 7, 7, 7, 7, 7, 7, 7, 7, 7, 7, 7, 8, 8, 8, 8, 8, 8, 8, 8, 8, 8, 8, 8, 8, 8, 8, 8, 8, 8, 8, 8, 8, 8, 8, 8, 8, 8, 8, 8, 8, 8, 8, 8, 8, 8, 8, 8, 8, 8, 8, 8, 8, 8, 8, 8, 8, 8, 8, 8, 8, 8, 8, 8, 8, 8, 8, 8, 8, 8, 8, 8, 8, 8, 8, 8, 8, 8, 8, 8, 8, 8, 8, 8, 8, 8, 8, 8, 8, 8, 8, 8, 8, 8, 8, 8, 8, 8, 8, 8, 8, 8, 8, 8, 8, 8, 8, 8, 8, 8, 8, 8, 8, 8, 8, 8, 8, 8, 8, 8, 8, 8, 8, 8, 8, 8, 8, 8, 8, 8, 8, 8, 8, 8, 8, 8, 8, 8, 8, 8]⟩) x37) fun x38 =>
  bP (cv Q q 5 3 .u8 .i64 x38) fun x39 =>
  bP (bn Q q .add 3 (.tmp 19) (.tmp 23) x29 x39) fun x40 =>
  some (x40, G))) (
  bP (bn Q q .geq 38 (.tmp 13) (.const (.int .u64 256)) v0 (.int .u64 256)) fun x41 =>
  ifV x41 (
  bP (bn Q q .shr 38 (.tmp 15) (.const (.int .u64 8)) v0 (.int .u64 8)) fun x42 =>
  bP (bn Q q .add 3 (.tmp 17) (.const (.int .i64 8)) (.int .i64 0) (.int .i64 8)) fun x43 =>
  bP (cv Q q 38 5 .u64 .u8 x42) fun x44 =>
  bP (gIndex Q 9 (.string ⟨#[0, 1, 2, 2, 3, 3, 3, 3, 4, 4, 4, 4, 4, 4, 4, 4, 5, 5, 5, 5, 5, 5, 5, 5, 5, 5, 5, 5, 5, 5, 5, 5, 6, 6, 6, 6, 6, 6, 6, 6, 6, 6, 6, 6, 6, 6, 6, 6, 6, 6, 6, 6, 6, 6, 6, 6, 6, 6, 6, 6, 6, 6, 6, 6, 7, 7, 7, 7, 7, 7, 7, 7, 7, 7, 7, 7, 7, 7, 7, 7, 7, 7, 7, 7, 7, 7, 7, 7, 7, 7, 7, 7, 7, 7, 7, 7, 7, 7, 7, 7, 7, 7, 7, 7, 7, 7, 7, 7, 7, 7, 7, 7, 7, 7, 7, 7, 7, 7, 7, 7, 7, 7, 7, 7, 7, 7, 7, 7, 8, 8, 8, 8, 8, 8, 8, 8, 8, 8, 8, 8, 8, 8, 8, 8, 8, 8, 8, 8, 8, 8, 8, 8, 8, 8, 8, 8, 8, 8, 8, 8, 8, 8, 8, 8, 8, 8, 8, 8, 8, 8, 8, 8, 8, 8, 8, 8, 8, 8, 8, 8, 8, 8, 8, 8, 8, 8, 8, 8, 8, 8, 8, 8, 8, 8, 8, 8, 8, 8, 8, 8, 8, 8, 8, 8, 8, 8, 8, 8, 8, 8, 8, 8, 8, 8, 8, 8, 8, 8, 8, 8, 8, 8, 8, 8, 8, 8, 8, 8, 8, 8, 8, 8, 8, 8, 8, 8, 8, 8, 8, 8, 8, 8, 8, 8, 8, 8, 8, 8, 8, 8, 8, 8, 8, 8, 8, 8]⟩) x44) fun x45 =>
  bP (cv Q q 5 3 .u8 .i64 x45) fun x46 =>
  bP (bn Q q .add 3 (.tmp 19) (.tmp 23) x43 x46) fun x47 =>
  some (x47, G)) (
  bP (cv Q q 38 5 .u64 .u8 v0) fun x48 =>
  bP (gIndex Q 9 (.string ⟨#[0, 1, 2, 2, 3, 3, 3, 3, 4, 4, 4, 4, 4, 4, 4, 4, 5, 5, 5, 5, 5, 5, 5, 5, 5, 5, 5, 5, 5, 5, 5, 5, 6, 6, 6, 6, 6, 6, 6, 6, 6, 6, 6, 6, 6, 6, 6, 6, 6, 6, 6, 6, 6, 6, 6, 6, 6, 6, 6, 6, 6, 6, 6, 6, 7, 7, 7, 7, 7, 7, 7, 7, 7, 7, 7, 7, 7, 7, 7, 7, 7, 7, 7, 7, 7, 7, 7, 7, 7, 7, 7, 7, 7, 7, 7, 7, 7, 7, 7, 7, 7, 7, 7, 7, 7, 7, 7, 7, 7, 7, 7, 7, 7, 7, 7, 7, 7, 7, 7, 7, 7, 7, 7, 7, 7, 7, 7, 7, 8, 8, 8, 8, 8, 8, 8, 8, 8, 8, 8, 8, 8, 8, 8, 8, 8, 8, 8, 8, 8, 8, 8, 8, 8, 8, 8, 8, 8, 8, 8, 8, 8, 8, 8, 8, 8, 8, 8, 8, 8, 8, 8, 8, 8, 8, 8, 8, 8, 8, 8, 8, 8, 8, 8, 8, 8, 8, 8, 8, 8, 8, 8, 8, 8, 8, 8, 8, 8, 8, 8, 8, 8, 8, 8, 8, 8, 8, 8, 8, 8, 8, 8, 8, 8, 8, 8, 8, 8, 8, 8, 8, 8, 8, 8, 8, 8, 8, 8, 8, 8, 8, 8, 8, 8, 8, 8, 8, 8, 8, 8, 8, 8, 8, 8, 8, 8, 8, 8, 8, 8, 8, 8, 8, 8, 8, 8, 8]⟩) x48) fun x49 =>
  bP (cv Q q 5 3 .u8 .i64 x49) fun x50 =>
  bP (bn Q q .add 3 (.tmp 19) (.tmp 23) (.int .i64 0) x50) fun x51 =>
  some (x51, G))))
theorem m171 {e : Ex} {E : Ev} (h : ExLe Q e E) (v0 : Value) (G : GS) : Ref (s171 true e v0 G) (s171 false (Ex.of E) v0 G) := by
  unfold s171
  exact Ref.go
theorem f171 {orc : FuncId → Bool} {e : Ex} (h : ExLe Q e (E orc)) (v0 : Value) (G : GS) : Ref (s171 true e v0 G) ((E orc).cl 171 [v0] G) :=
  fun r hr => cl_sxE_some Q orc (vs := [v0]) G Tryz.func171 (by kernel_rfl) (by kernel_rfl) (by kernel_rfl) (by kernel_rfl) (by kernel_rfl) (by kernel_rfl) (m171 h v0 G r hr)
/-- coxswain/claim.seek[struct{}] -/
noncomputable def s172 (q : Bool) (e : Ex) (v0 : Value) (G : GS) : Option (Value × GS) :=
  bS (bx q v0 G) fun x0 G1 =>
  bS (al Q q 280 z280 G1) fun x2 G3 =>
  bP (lda Q q 36 13 x0 G3) fun x4 =>
  bS (e.ev.cl 100 [x4, (.int .i64 (-1)), (.int .i64 0)] G3) fun x5 G6 =>
  bP (bn Q q .lss 3 (.tmp 4) (.const (.int .i64 0)) x5 (.int .i64 0)) fun x7 =>
  ifV x7 (
  bP (bd Q q 280 z280 [(8, 20, 1), (2, 13, 1), (9, 21, 1)] [(.bool true), (.int .i64 99), (.int .i64 2)]) fun x8 =>
  bP (st Q q 280 22 x2 x8 G6) fun G9 =>
  bP (lda Q q 280 22 x2 G9) fun x10 =>
  some (x10, G9)) (
  bP (lda Q q 36 13 x0 G6) fun x11 =>
  bP (bd Q q 280 z280 [(0, 0, 13), (8, 20, 1), (2, 13, 1)] [x11, (.bool true), (.int .i64 1)]) fun x12 =>
  bP (st Q q 280 22 x2 x12 G6) fun G13 =>
  bP (lda Q q 280 22 x2 G13) fun x14 =>
  some (x14, G13))
theorem m172 {e : Ex} {E : Ev} (h : ExLe Q e E) (v0 : Value) (G : GS) : Ref (s172 true e v0 G) (s172 false (Ex.of E) v0 G) := by
  unfold s172
  exact Ref.go
theorem f172 {orc : FuncId → Bool} {e : Ex} (h : ExLe Q e (E orc)) (v0 : Value) (G : GS) : Ref (s172 true e v0 G) ((E orc).cl 172 [v0] G) :=
  fun r hr => cl_sxE_some Q orc (vs := [v0]) G Tryz.func172 (by kernel_rfl) (by kernel_rfl) (by kernel_rfl) (by kernel_rfl) (by kernel_rfl) (by kernel_rfl) (m172 h v0 G r hr)
/-- (*coxswain/claim.seeker[struct{}]).item -/
noncomputable def s173 (q : Bool) (e : Ex) (v0 : Value) (G : GS) : Option (Value × GS) :=
  bS (al Q q 46 z46 G) fun x0 G1 =>
  bP (pNil v0) fun x2 =>
  bP (fa Q q 280 8 20 x2) fun x3 =>
  bP (ld Q q 4 x3 G1) fun x4 =>
  bP (un Q q .not x4) fun x5 =>
  ifV x5 (
  bP (bd Q q 46 z46 [] []) fun x6 =>
  bP (st Q q 46 2 x0 x6 G1) fun G7 =>
  bP (lda Q q 46 2 x0 G7) fun x8 =>
  some (.tuple #[x8, (.int .i64 1)], G7)) (
  bP (pNil v0) fun x9 =>
  bP (fa Q q 280 2 13 x9) fun x10 =>
  bP (ld Q q 3 x10 G1) fun x11 =>
  bP (bn Q q .neq 3 (.tmp 15) (.const (.int .i64 99)) x11 (.int .i64 99)) fun x12 =>
  ifV x12 (
  bP (bd Q q 46 z46 [] []) fun x13 =>
  bP (st Q q 46 2 x0 x13 G1) fun G14 =>
  bP (lda Q q 46 2 x0 G14) fun x15 =>
  some (.tuple #[x15, (.int .i64 14)], G14)) (
  bP (pNil v0) fun x16 =>
  bP (fa Q q 280 9 21 x16) fun x17 =>
  bP (ld Q q 23 x17 G1) fun x18 =>
  bP (bn Q q .neq 23 (.tmp 22) (.const (.int .i64 0)) x18 (.int .i64 0)) fun x19 =>
  ifV x19 (
  bP (bd Q q 46 z46 [] []) fun x20 =>
  bP (pNil v0) fun x21 =>
  bP (fa Q q 280 9 21 x21) fun x22 =>
  bP (ld Q q 23 x22 (G1.room 7)) fun x23 =>
  bP (st Q q 46 2 x0 x20 (G1.room 7)) fun G24 =>
  chk ((sameO (ld Q q 23 x22 G24) x23 && true)) <|
  bP (lda Q q 46 2 x0 G24) fun x25 =>
  some (.tuple #[x25, x23], G24)) (
  bP (pNil v0) fun x26 =>
  bP (fa Q q 280 6 17 x26) fun x27 =>
  bP (lda Q q 46 2 x27 G1) fun x28 =>
  bP (st Q q 46 2 x0 x28 G1) fun G29 =>
  bP (lda Q q 46 2 x0 G29) fun x30 =>
  some (.tuple #[x30, (.int .i64 0)], G29))))
theorem m173 {e : Ex} {E : Ev} (h : ExLe Q e E) (v0 : Value) (G : GS) : Ref (s173 true e v0 G) (s173 false (Ex.of E) v0 G) := by
  unfold s173
  exact Ref.go
theorem f173 {orc : FuncId → Bool} {e : Ex} (h : ExLe Q e (E orc)) (v0 : Value) (G : GS) : Ref (s173 true e v0 G) ((E orc).cl 173 [v0] G) :=
  fun r hr => cl_sxE_some Q orc (vs := [v0]) G Tryz.func173 (by kernel_rfl) (by kernel_rfl) (by kernel_rfl) (by kernel_rfl) (by kernel_rfl) (by kernel_rfl) (m173 h v0 G r hr)
/-- (*coxswain/stack.Pop).first -/
noncomputable def s174 (q : Bool) (e : Ex) (v0 v1 : Value) (G : GS) : Option (Value × GS) :=
  bP (pNil v0) fun x0 =>
  bP (fa Q q 289 1 9 x0) fun x1 =>
  bP (st Q q 287 1 x1 (.func (.func 205) #[] #[]) G) fun G2 =>
  bP (pNil v0) fun x3 =>
  bP (fa Q q 289 0 0 x3) fun x4 =>
  bS (e.ev.cl 206 [x4, v1] G2) fun x5 G6 =>
  bP (pNil v0) fun x7 =>
  bP (fa Q q 289 0 0 x7) fun x8 =>
  bP (fa Q q 286 2 4 x8) fun x9 =>
  bP (st Q q 3 1 x9 x5 G6) fun G10 =>
  bP (pNil v0) fun x11 =>
  bP (fa Q q 289 0 0 x11) fun x12 =>
  bP (fa Q q 286 2 4 x12) fun x13 =>
  bP (ld Q q 3 x13 G10) fun x14 =>
  bP (bn Q q .lss 3 (.tmp 20) (.const (.int .i64 0)) x14 (.int .i64 0)) fun x15 =>
  ifV x15 (
  bP (pNil v0) fun x16 =>
  bP (fa Q q 289 0 0 x16) fun x17 =>
  bS (e.ev.cl 207 [x17, (.int .i64 15)] G10) fun x18 G19 =>
  some (.tuple #[], G19)) (
  some (.tuple #[], G10))
theorem m174 {e : Ex} {E : Ev} (h : ExLe Q e E) (v0 v1 : Value) (G : GS) : Ref (s174 true e v0 v1 G) (s174 false (Ex.of E) v0 v1 G) := by
  unfold s174
  exact Ref.go
theorem f174 {orc : FuncId → Bool} {e : Ex} (h : ExLe Q e (E orc)) (v0 v1 : Value) (G : GS) : Ref (s174 true e v0 v1 G) ((E orc).cl 174 [v0, v1] G) :=
  fun r hr => cl_sxE_some Q orc (vs := [v0, v1]) G Tryz.func174 (by kernel_rfl) (by kernel_rfl) (by kernel_rfl) (by kernel_rfl) (by kernel_rfl) (by kernel_rfl) (m174 h v0 v1 G r hr)
/-- (*coxswain/stack.Pop).Step -/
noncomputable def s175 (q : Bool) (e : Ex) (v0 v1 : Value) (G : GS) : Option (Value × GS) :=
  bP (ep Q q false 237 (.tmp 5) (.const (.pointer none)) v0 (.pointer none)) fun x0 =>
  bS (gd x0 false (some (v0, G)) G) fun x1 G2 =>
  bS (gd x0 false (bP (pNil x1) fun y => some (y, G2)) G2) fun x3 G4 =>
  bS (gd x0 false (bP (fa Q q 289 0 0 x3) fun y => some (y, G4)) G4) fun x5 G6 =>
  bS (gd x0 false (bS (e.ev.cl 208 [x5] G6) fun y G => some (y, G)) G6) fun x7 G8 =>
  bP (pickV x0 (.bool true) x7) fun x9 =>
  ifV x9 (
  some ((.bool true), G8)) (
  bP (pNil v0) fun x10 =>
  bP (fa Q q 289 1 9 x10) fun x11 =>
  bP (ld Q q 287 x11 G8) fun x12 =>
  bS (cValue e.ev x12 [v0, v1] G8) fun x13 G14 =>
  bP (pNil v0) fun x15 =>
  bP (fa Q q 289 0 0 x15) fun x16 =>
  bP (fa Q q 286 5 7 x16) fun x17 =>
  bP (ld Q q 4 x17 G14) fun x18 =>
  some (x18, G14))
theorem m175 {e : Ex} {E : Ev} (h : ExLe Q e E) (v0 v1 : Value) (G : GS) : Ref (s175 true e v0 v1 G) (s175 false (Ex.of E) v0 v1 G) := by
  unfold s175
  exact Ref.go
theorem f175 {orc : FuncId → Bool} {e : Ex} (h : ExLe Q e (E orc)) (v0 v1 : Value) (G : GS) : Ref (s175 true e v0 v1 G) ((E orc).cl 175 [v0, v1] G) :=
  fun r hr => cl_sxE_some Q orc (vs := [v0, v1]) G Tryz.func175 (by kernel_rfl) (by kernel_rfl) (by kernel_rfl) (by kernel_rfl) (by kernel_rfl) (by kernel_rfl) (m175 h v0 v1 G r hr)
/-- (*coxswain/stack.Pop).Index -/
noncomputable def s176 (q : Bool) (e : Ex) (v0 : Value) (G : GS) : Option (Value × GS) :=
  bP (ep Q q false 237 (.tmp 4) (.const (.pointer none)) v0 (.pointer none)) fun x0 =>
  ifV x0 (
  some (.tuple #[(.int .i64 0), (.int .i64 1)], G)) (
  bP (pNil v0) fun x1 =>
  bP (fa Q q 289 0 0 x1) fun x2 =>
  bS (e.ev.cl 209 [x2] G) fun x3 G4 =>
  bP (pExtract x3 0) fun x5 =>
  bP (pExtract x3 1) fun x6 =>
  some (.tuple #[x5, x6], G4))
theorem m176 {e : Ex} {E : Ev} (h : ExLe Q e E) (v0 : Value) (G : GS) : Ref (s176 true e v0 G) (s176 false (Ex.of E) v0 G) := by
  unfold s176
  exact Ref.go
theorem f176 {orc : FuncId → Bool} {e : Ex} (h : ExLe Q e (E orc)) (v0 : Value) (G : GS) : Ref (s176 true e v0 G) ((E orc).cl 176 [v0] G) :=
  fun r hr => cl_sxE_some Q orc (vs := [v0]) G Tryz.func176 (by kernel_rfl) (by kernel_rfl) (by kernel_rfl) (by kernel_rfl) (by kernel_rfl) (by kernel_rfl) (m176 h v0 G r hr)
/-- (*coxswain/arena.Alloc).gives -/
noncomputable def s177 (q : Bool) (e : Ex) (v0 v1 : Value) (G : GS) : Option (Value × GS) :=
  bP (pNil v0) fun x0 =>
  bP (fa Q q 241 4 9 x0) fun x1 =>
  bP (ld Q q 3 x1 (G.room 26)) fun x2 =>
  bP (pNil v0) fun x3 =>
  bP (fa Q q 241 1 1 x3) fun x4 =>
  bP (fa Q q 30 1 3 x4) fun x5 =>
  bP (ld Q q 3 x5 (G.room 26)) fun x6 =>
  bP (pNil v0) fun x7 =>
  bP (fa Q q 241 4 9 x7) fun x8 =>
  bP (ld Q q 3 x8 (G.room 26)) fun x9 =>
  bP (bn Q q .add 3 (.tmp 15) (.tmp 19) x6 x9) fun x10 =>
  bS (e.ev.cl 120 [v1, x10] (G.room 26)) fun x12 G11 =>
  chk ((sameO (ld Q q 3 x1 G11) x2 && true)) <|
  bS (e.ev.cl 210 [x12] G11) fun x14 G13 =>
  chk ((sameO (ld Q q 3 x1 G13) x2 && true)) <|
  bP (bd Q q 258 z258 [(0, 0, 1), (1, 1, 1)] [x2, x14]) fun x15 =>
  bS (e.ev.cl 198 [x15] G13) fun x17 G16 =>
  bP (pExtract x17 0) fun x18 =>
  bP (pExtract x17 1) fun x19 =>
  bP (pNil v0) fun x20 =>
  bP (fa Q q 241 5 10 x20) fun x21 =>
  bP (st Q q 38 1 x21 x18 G16) fun G22 =>
  bP (pNil v0) fun x23 =>
  bP (fa Q q 241 3 8 x23) fun x24 =>
  bP (st Q q 239 1 x24 .nilFunc G22) fun G25 =>
  some (.tuple #[], G25)
theorem m177 {e : Ex} {E : Ev} (h : ExLe Q e E) (v0 v1 : Value) (G : GS) : Ref (s177 true e v0 v1 G) (s177 false (Ex.of E) v0 v1 G) := by
  unfold s177
  exact Ref.go
theorem f177 {orc : FuncId → Bool} {e : Ex} (h : ExLe Q e (E orc)) (v0 v1 : Value) (G : GS) : Ref (s177 true e v0 v1 G) ((E orc).cl 177 [v0, v1] G) :=
  fun r hr => cl_sxE_some Q orc (vs := [v0, v1]) G Tryz.func177 (by kernel_rfl) (by kernel_rfl) (by kernel_rfl) (by kernel_rfl) (by kernel_rfl) (by kernel_rfl) (m177 h v0 v1 G r hr)
/-- (*coxswain/arena.Alloc).lacks -/
noncomputable def s178 (q : Bool) (e : Ex) (v0 v1 : Value) (G : GS) : Option (Value × GS) :=
  bP (pNil v0) fun x0 =>
  bP (fa Q q 241 6 11 x0) fun x1 =>
  bP (st Q q 23 1 x1 (.int .i64 7) G) fun G2 =>
  bP (pNil v0) fun x3 =>
  bP (fa Q q 241 1 1 x3) fun x4 =>
  bP (fa Q q 30 2 4 x4) fun x5 =>
  bP (ld Q q 3 x5 (G2.room 15)) fun x6 =>
  bS (e.ev.cl 120 [v1, x6] (G2.room 15)) fun x8 G7 =>
  bP (pNil v0) fun x9 =>
  bP (fa Q q 241 1 1 x9) fun x10 =>
  bP (fa Q q 30 0 0 x10) fun x11 =>
  bP (fa Q q 28 2 2 x11) fun x12 =>
  bP (ld Q q 3 x12 G7) fun x13 =>
  chk ((sameO (ld Q q 3 x12 (G2.room 15)) x13 && true)) <|
  bP (cv Q q 3 38 .i64 .u64 x13) fun x14 =>
  bP (bn Q q .geq 38 (.tmp 13) (.tmp 20) x8 x14) fun x15 =>
  ifV x15 (
  bP (pNil v0) fun x16 =>
  bP (fa Q q 241 6 11 x16) fun x17 =>
  bP (st Q q 23 1 x17 (.int .i64 12) G7) fun G18 =>
  bP (pNil v0) fun x19 =>
  bP (fa Q q 241 3 8 x19) fun x20 =>
  bP (st Q q 239 1 x20 .nilFunc G18) fun G21 =>
  some (.tuple #[], G21)) (
  bP (pNil v0) fun x22 =>
  bP (fa Q q 241 3 8 x22) fun x23 =>
  bP (st Q q 239 1 x23 .nilFunc G7) fun G24 =>
  some (.tuple #[], G24))
theorem m178 {e : Ex} {E : Ev} (h : ExLe Q e E) (v0 v1 : Value) (G : GS) : Ref (s178 true e v0 v1 G) (s178 false (Ex.of E) v0 v1 G) := by
  unfold s178
  exact Ref.go
theorem f178 {orc : FuncId → Bool} {e : Ex} (h : ExLe Q e (E orc)) (v0 v1 : Value) (G : GS) : Ref (s178 true e v0 v1 G) ((E orc).cl 178 [v0, v1] G) :=
  fun r hr => cl_sxE_some Q orc (vs := [v0, v1]) G Tryz.func178 (by kernel_rfl) (by kernel_rfl) (by kernel_rfl) (by kernel_rfl) (by kernel_rfl) (by kernel_rfl) (m178 h v0 v1 G r hr)
/-- (*coxswain/ready.Put).lay$1 -/
noncomputable def s179 (q : Bool) (e : Ex) (v0 : Value) (G : GS) : Option (Value × GS) :=
  bP (ld Q q 26 v0 (G.room 23)) fun x0 =>
  bP (pNil x0) fun x1 =>
  bP (fa Q q 42 0 0 x1) fun x2 =>
  bP (fa Q q 40 0 0 x2) fun x3 =>
  bP (lda Q q 36 13 x3 (G.room 23)) fun x4 =>
  bP (ld Q q 26 v0 (G.room 23)) fun x5 =>
  bP (pNil x5) fun x6 =>
  bP (fa Q q 42 5 23 x6) fun x7 =>
  bP (ld Q q 38 x7 (G.room 23)) fun x8 =>
  bP (ld Q q 26 v0 (G.room 23)) fun x9 =>
  bP (pNil x9) fun x10 =>
  bP (fa Q q 42 1 19 x10) fun x11 =>
  bP (ld Q q 38 x11 (G.room 23)) fun x12 =>
  bP (ld Q q 26 v0 (G.room 23)) fun x13 =>
  bP (pNil x13) fun x14 =>
  bP (fa Q q 42 2 20 x14) fun x15 =>
  bP (ld Q q 3 x15 (G.room 23)) fun x16 =>
  bP (ld Q q 26 v0 (G.room 23)) fun x17 =>
  bP (pNil x17) fun x18 =>
  bP (fa Q q 42 3 21 x18) fun x19 =>
  bP (ld Q q 3 x19 (G.room 23)) fun x20 =>
  bS (e.ev.cl 180 [x4, x8, x12, x16, x20] (G.room 23)) fun x22 G21 =>
  some (x22, G21)
theorem m179 {e : Ex} {E : Ev} (h : ExLe Q e E) (v0 : Value) (G : GS) : Ref (s179 true e v0 G) (s179 false (Ex.of E) v0 G) := by
  unfold s179
  exact Ref.go
theorem f179 {orc : FuncId → Bool} {e : Ex} (h : ExLe Q e (E orc)) (v0 : Value) (G : GS) : Ref (s179 true e v0 G) ((E orc).cl 179 [v0] G) :=
  fun r hr => cl_sxE_some Q orc (vs := [v0]) G Tryz.func179 (by kernel_rfl) (by kernel_rfl) (by kernel_rfl) (by kernel_rfl) (by kernel_rfl) (by kernel_rfl) (m179 h v0 G r hr)
/-- coxswain/tower.NewLay -/
noncomputable def s180 (q : Bool) (e : Ex) (v0 v1 v2 v3 v4 : Value) (G : GS) : Option (Value × GS) :=
  bS (bx q v0 G) fun x0 G1 =>
  bP (lda Q q 36 13 x0 G1) fun x2 =>
  bS (e.ev.cl 211 [x2, v1, v3, v4] G1) fun x3 G4 =>
  bP (bd Q q 335 z335 [(0, 0, 1), (1, 1, 1), (4, 7, 1)] [(.bool true), v1, x3]) fun x5 =>
  bS (bx q x5 G4) fun x6 G7 =>
  bP (pNil x6) fun x8 =>
  bP (fa Q q 335 4 7 x8) fun x9 =>
  bP (ld Q q 23 x9 G7) fun x10 =>
  bP (bn Q q .neq 23 (.tmp 25) (.const (.int .i64 0)) x10 (.int .i64 0)) fun x11 =>
  ifV x11 (
  bP (pNil x6) fun x12 =>
  bP (fa Q q 335 3 6 x12) fun x13 =>
  bP (st Q q 3 1 x13 (.int .i64 4) G7) fun G14 =>
  some (x6, G14)) (
  bP (lda Q q 36 13 x0 G7) fun x15 =>
  bS (e.ev.cl 193 [x15, v1] G7) fun x16 G17 =>
  bS (al Q q 3 z3 G17) fun x18 G19 =>
  bP (st Q q 3 1 x18 x16 G19) fun G20 =>
  bS (cValue e.ev (.func (.func 212) #[] #[x0, x18]) [(.int .i64 0), v2] G20) fun x21 G22 =>
  bP (cv Q q 3 38 .i64 .u64 v3) fun x23 =>
  bS (cValue e.ev (.func (.func 212) #[] #[x0, x18]) [(.int .i64 1), x23] G22) fun x24 G25 =>
  bP (cv Q q 3 38 .i64 .u64 v4) fun x26 =>
  bS (cValue e.ev (.func (.func 212) #[] #[x0, x18]) [(.int .i64 2), x26] G25) fun x27 G28 =>
  bS (cValue e.ev (.func (.func 212) #[] #[x0, x18]) [(.int .i64 3), (.int .u64 2)] G28) fun x29 G30 =>
  bP (bd Q q 333 z333 [(0, 0, 1), (1, 1, 1), (2, 2, 1), (3, 3, 1)] [x21, x24, x27, x29]) fun x31 =>
  bP (pNil x6) fun x32 =>
  bP (fa Q q 335 2 2 x32) fun x33 =>
  bP (st Q q 333 4 x33 x31 G30) fun G34 =>
  some (x6, G34))
theorem m180 {e : Ex} {E : Ev} (h : ExLe Q e E) (v0 v1 v2 v3 v4 : Value) (G : GS) : Ref (s180 true e v0 v1 v2 v3 v4 G) (s180 false (Ex.of E) v0 v1 v2 v3 v4 G) := by
  unfold s180
  exact Ref.go
theorem f180 {orc : FuncId → Bool} {e : Ex} (h : ExLe Q e (E orc)) (v0 v1 v2 v3 v4 : Value) (G : GS) : Ref (s180 true e v0 v1 v2 v3 v4 G) ((E orc).cl 180 [v0, v1, v2, v3, v4] G) :=
  fun r hr => cl_sxE_some Q orc (vs := [v0, v1, v2, v3, v4]) G Tryz.func180 (by kernel_rfl) (by kernel_rfl) (by kernel_rfl) (by kernel_rfl) (by kernel_rfl) (by kernel_rfl) (m180 h v0 v1 v2 v3 v4 G r hr)
/-- (*coxswain/tower.Lay).By -/
noncomputable def s181 (q : Bool) (e : Ex) (v0 : Value) (G : GS) : Option (Value × GS) :=
  bP (ep Q q false 291 (.tmp 3) (.const (.pointer none)) v0 (.pointer none)) fun x0 =>
  bS (gd x0 false (some (v0, G)) G) fun x1 G2 =>
  bS (gd x0 false (bP (pNil x1) fun y => some (y, G2)) G2) fun x3 G4 =>
  bS (gd x0 false (bP (fa Q q 335 4 7 x3) fun y => some (y, G4)) G4) fun x5 G6 =>
  bS (gd x0 false (bP (ld Q q 23 x5 G6) fun y => some (y, G6)) G6) fun x7 G8 =>
  bS (gd x0 false (bP (bn Q q .neq 23 (.tmp 9) (.const (.int .i64 0)) x7 (.int .i64 0)) fun y => some (y, G8)) G8) fun x9 G10 =>
  bP (pickV x0 (.bool true) x9) fun x11 =>
  bS (gd x11 false (some (v0, G10)) G10) fun x12 G13 =>
  bS (gd x11 false (bP (pNil x12) fun y => some (y, G13)) G13) fun x14 G15 =>
  bS (gd x11 false (bP (fa Q q 335 3 6 x14) fun y => some (y, G15)) G15) fun x16 G17 =>
  bS (gd x11 false (bP (ld Q q 3 x16 G17) fun y => some (y, G17)) G17) fun x18 G19 =>
  bS (gd x11 false (bP (bn Q q .eql 3 (.tmp 16) (.const (.int .i64 0)) x18 (.int .i64 0)) fun y => some (y, G19)) G19) fun x20 G21 =>
  bP (pickV x11 (.bool true) x20) fun x22 =>
  ifV x22 (
  some ((.int .u64 0), G21)) (
  bP (pNil v0) fun x23 =>
  bP (fa Q q 335 1 1 x23) fun x24 =>
  bP (ld Q q 38 x24 G21) fun x25 =>
  some (x25, G21))
theorem m181 {e : Ex} {E : Ev} (h : ExLe Q e E) (v0 : Value) (G : GS) : Ref (s181 true e v0 G) (s181 false (Ex.of E) v0 G) := by
  unfold s181
  exact Ref.go
theorem f181 {orc : FuncId → Bool} {e : Ex} (h : ExLe Q e (E orc)) (v0 : Value) (G : GS) : Ref (s181 true e v0 G) ((E orc).cl 181 [v0] G) :=
  fun r hr => cl_sxE_some Q orc (vs := [v0]) G Tryz.func181 (by kernel_rfl) (by kernel_rfl) (by kernel_rfl) (by kernel_rfl) (by kernel_rfl) (by kernel_rfl) (m181 h v0 G r hr)
/-- (*coxswain/ready.Put).link$1 -/
noncomputable def s182 (q : Bool) (e : Ex) (v0 : Value) (G : GS) : Option (Value × GS) :=
  bP (ld Q q 26 v0 (G.room 19)) fun x0 =>
  bP (pNil x0) fun x1 =>
  bP (fa Q q 42 0 0 x1) fun x2 =>
  bP (fa Q q 40 0 0 x2) fun x3 =>
  bP (lda Q q 36 13 x3 (G.room 19)) fun x4 =>
  bP (ld Q q 26 v0 (G.room 19)) fun x5 =>
  bP (pNil x5) fun x6 =>
  bP (fa Q q 42 5 23 x6) fun x7 =>
  bP (ld Q q 38 x7 (G.room 19)) fun x8 =>
  bP (ld Q q 26 v0 (G.room 19)) fun x9 =>
  bP (pNil x9) fun x10 =>
  bP (fa Q q 42 1 19 x10) fun x11 =>
  bP (ld Q q 38 x11 (G.room 19)) fun x12 =>
  bP (ld Q q 26 v0 (G.room 19)) fun x13 =>
  bP (pNil x13) fun x14 =>
  bP (fa Q q 42 3 21 x14) fun x15 =>
  bP (ld Q q 3 x15 (G.room 19)) fun x16 =>
  bS (e.ev.cl 183 [x4, x8, x12, x16] (G.room 19)) fun x18 G17 =>
  some (x18, G17)
theorem m182 {e : Ex} {E : Ev} (h : ExLe Q e E) (v0 : Value) (G : GS) : Ref (s182 true e v0 G) (s182 false (Ex.of E) v0 G) := by
  unfold s182
  exact Ref.go
theorem f182 {orc : FuncId → Bool} {e : Ex} (h : ExLe Q e (E orc)) (v0 : Value) (G : GS) : Ref (s182 true e v0 G) ((E orc).cl 182 [v0] G) :=
  fun r hr => cl_sxE_some Q orc (vs := [v0]) G Tryz.func182 (by kernel_rfl) (by kernel_rfl) (by kernel_rfl) (by kernel_rfl) (by kernel_rfl) (by kernel_rfl) (m182 h v0 G r hr)
/-- coxswain/insert.NewInsert -/
noncomputable def s183 (q : Bool) (e : Ex) (v0 v1 v2 v3 : Value) (G : GS) : Option (Value × GS) :=
  bS (bx q v0 G) fun x0 G1 =>
  bP (lda Q q 36 13 x0 (G1.room 11)) fun x2 =>
  bP (lda Q q 36 13 x0 (G1.room 11)) fun x3 =>
  bS (e.ev.cl 214 [x3, v1, v3] (G1.room 11)) fun x5 G4 =>
  chk ((sameO (lda Q q 36 13 x0 G4) x2 && true)) <|
  bP (bd Q q 340 z340 [(0, 0, 13), (1, 13, 1), (3, 15, 1), (4, 16, 1), (6, 18, 1), (13, 25, 1)] [x2, (.bool true), v1, v2, v3, x5]) fun x6 =>
  bS (bx q x6 (G4.at' (G1.nx + 9))) fun x7 G8 =>
  bP (pNil x7) fun x9 =>
  bP (fa Q q 340 13 25 x9) fun x10 =>
  bP (ld Q q 23 x10 (G8.back G4)) fun x11 =>
  bP (bn Q q .eql 23 (.tmp 25) (.const (.int .i64 0)) x11 (.int .i64 0)) fun x12 =>
  ifV x12 (
  bS (e.ev.cl 154 [v1] (G8.back G4)) fun x13 G14 =>
  bP (pExtract x13 0) fun x15 =>
  bP (pExtract x13 1) fun x16 =>
  bS (al Q q 258 z258 G14) fun x17 G18 =>
  bP (st Q q 258 3 x17 x15 G18) fun G19 =>
  bP (fa Q q 258 0 0 x17) fun x20 =>
  bP (ld Q q 3 x20 G19) fun x21 =>
  bP (pNil x7) fun x22 =>
  bP (fa Q q 340 5 17 x22) fun x23 =>
  bP (st Q q 3 1 x23 x21 G19) fun G24 =>
  bS (e.ev.cl 215 [x7, (.int .i64 1)] G24) fun x25 G26 =>
  bP (pNil x7) fun x27 =>
  bP (fa Q q 340 7 19 x27) fun x28 =>
  bP (st Q q 338 1 x28 x25 G26) fun G29 =>
  some (x7, G29)) (
  some (x7, (G8.back G4)))
theorem m183 {e : Ex} {E : Ev} (h : ExLe Q e E) (v0 v1 v2 v3 : Value) (G : GS) : Ref (s183 true e v0 v1 v2 v3 G) (s183 false (Ex.of E) v0 v1 v2 v3 G) := by
  unfold s183
  exact Ref.go
theorem f183 {orc : FuncId → Bool} {e : Ex} (h : ExLe Q e (E orc)) (v0 v1 v2 v3 : Value) (G : GS) : Ref (s183 true e v0 v1 v2 v3 G) ((E orc).cl 183 [v0, v1, v2, v3] G) :=
  fun r hr => cl_sxE_some Q orc (vs := [v0, v1, v2, v3]) G Tryz.func183 (by kernel_rfl) (by kernel_rfl) (by kernel_rfl) (by kernel_rfl) (by kernel_rfl) (by kernel_rfl) (m183 h v0 v1 v2 v3 G r hr)
/-- (*coxswain/insert.Insert).By -/
noncomputable def s184 (q : Bool) (e : Ex) (v0 : Value) (G : GS) : Option (Value × GS) :=
  bP (ep Q q false 299 (.tmp 3) (.const (.pointer none)) v0 (.pointer none)) fun x0 =>
  ifV x0 (
  some ((.int .u64 0), G)) (
  bP (pNil v0) fun x1 =>
  bP (fa Q q 340 12 24 x1) fun x2 =>
  bP (ld Q q 38 x2 G) fun x3 =>
  some (x3, G))
theorem m184 {e : Ex} {E : Ev} (h : ExLe Q e E) (v0 : Value) (G : GS) : Ref (s184 true e v0 G) (s184 false (Ex.of E) v0 G) := by
  unfold s184
  exact Ref.go
theorem f184 {orc : FuncId → Bool} {e : Ex} (h : ExLe Q e (E orc)) (v0 : Value) (G : GS) : Ref (s184 true e v0 G) ((E orc).cl 184 [v0] G) :=
  fun r hr => cl_sxE_some Q orc (vs := [v0]) G Tryz.func184 (by kernel_rfl) (by kernel_rfl) (by kernel_rfl) (by kernel_rfl) (by kernel_rfl) (by kernel_rfl) (m184 h v0 G r hr)
/-- (*coxswain/ready.work).collect$1 -/
noncomputable def s185 (q : Bool) (e : Ex) (v0 : Value) (G : GS) : Option (Value × GS) :=
  bP (ld Q q 105 v0 (G.room 15)) fun x0 =>
  bP (pNil x0) fun x1 =>
  bP (fa Q q 40 0 0 x1) fun x2 =>
  bP (fa Q q 36 3 3 x2) fun x3 =>
  bP (lda Q q 34 10 x3 (G.room 15)) fun x4 =>
  bP (ld Q q 105 v0 (G.room 15)) fun x5 =>
  bP (pNil x5) fun x6 =>
  bP (fa Q q 40 1 13 x6) fun x7 =>
  bP (ld Q q 3 x7 (G.room 15)) fun x8 =>
  bP (ld Q q 105 v0 (G.room 15)) fun x9 =>
  bP (pNil x9) fun x10 =>
  bP (fa Q q 40 3 15 x10) fun x11 =>
  bP (ld Q q 3 x11 (G.room 15)) fun x12 =>
  bS (e.ev.cl 186 [x4, x8, x12] (G.room 15)) fun x14 G13 =>
  some (x14, G13)
theorem m185 {e : Ex} {E : Ev} (h : ExLe Q e E) (v0 : Value) (G : GS) : Ref (s185 true e v0 G) (s185 false (Ex.of E) v0 G) := by
  unfold s185
  exact Ref.go
theorem f185 {orc : FuncId → Bool} {e : Ex} (h : ExLe Q e (E orc)) (v0 : Value) (G : GS) : Ref (s185 true e v0 G) ((E orc).cl 185 [v0] G) :=
  fun r hr => cl_sxE_some Q orc (vs := [v0]) G Tryz.func185 (by kernel_rfl) (by kernel_rfl) (by kernel_rfl) (by kernel_rfl) (by kernel_rfl) (by kernel_rfl) (m185 h v0 G r hr)
/-- coxswain/limbo.NewCollect -/
noncomputable def s186 (q : Bool) (e : Ex) (v0 v1 v2 : Value) (G : GS) : Option (Value × GS) :=
  bS (bx q v0 G) fun x0 G1 =>
  bP (bd Q q 345 z345 [(1, 1, 1)] [(.bool true)]) fun x2 =>
  bP (lda Q q 34 10 x0 G1) fun x3 =>
  bP (bd Q q 352 z352 [(0, 0, 3), (1, 3, 10)] [x2, x3]) fun x4 =>
  bS (bx q x4 G1) fun x5 G6 =>
  bP (bn Q q .lss 3 (.tmp 12) (.const (.int .i64 0)) v1 (.int .i64 0)) fun x7 =>
  bS (gd x7 false (some (v1, G6)) G6) fun x8 G9 =>
  bS (gd x7 false (bP (fa Q q 34 1 6 x0) fun y => some (y, G9)) G9) fun x10 G11 =>
  bS (gd x7 false (bP (fa Q q 32 2 2 x10) fun y => some (y, G11)) G11) fun x12 G13 =>
  bS (gd x7 false (bP (ld Q q 3 x12 G13) fun y => some (y, G13)) G13) fun x14 G15 =>
  bS (gd x7 false (bP (bn Q q .geq 3 (.tmp 15) (.tmp 18) x8 x14) fun y => some (y, G15)) G15) fun x16 G17 =>
  bP (pickV x7 (.bool true) x16) fun x18 =>
  bS (gd x18 false (some (v2, G17)) G17) fun x19 G20 =>
  bS (gd x18 false (bP (bn Q q .lss 3 (.tmp 22) (.const (.int .i64 0)) x19 (.int .i64 0)) fun y => some (y, G20)) G20) fun x21 G22 =>
  bP (pickV x18 (.bool true) x21) fun x23 =>
  ifV x23 (
  bP (pNil x5) fun x24 =>
  bP (fa Q q 352 0 0 x24) fun x25 =>
  bP (fa Q q 345 2 2 x25) fun x26 =>
  bP (st Q q 23 1 x26 (.int .i64 3) G22) fun G27 =>
  some (x5, G27)) (
  bP (fa Q q 34 1 6 x0) fun x28 =>
  bP (lda Q q 32 3 x28 (G22.room 20)) fun x29 =>
  bS (e.ev.cl 216 [x29, v1, v2] (G22.room 20)) fun x31 G30 =>
  bP (bn Q q .rem 3 (.tmp 37) (.const (.int .i64 3)) v2 (.int .i64 3)) fun x32 =>
  bP (bn Q q .add 3 (.tmp 38) (.const (.int .i64 2)) x32 (.int .i64 2)) fun x33 =>
  bP (bn Q q .rem 3 (.tmp 39) (.const (.int .i64 3)) x33 (.int .i64 3)) fun x34 =>
  bP (lda Q q 34 10 x0 G30) fun x35 =>
  chk ((sameO (lda Q q 34 10 x0 (G22.room 20)) x35 && true)) <|
  bS (e.ev.cl 149 [x34, x35] G30) fun x37 G36 =>
  bS (e.ev.cl 217 [x37] G36) fun x39 G38 =>
  bP (pNil x5) fun x40 =>
  bP (fa Q q 352 2 13 x40) fun x41 =>
  bP (st Q q 346 1 x41 x31 G38) fun G42 =>
  bP (pNil x5) fun x43 =>
  bP (fa Q q 352 3 14 x43) fun x44 =>
  bP (st Q q 347 1 x44 x39 G42) fun G45 =>
  bP (pNil x5) fun x46 =>
  bP (fa Q q 352 0 0 x46) fun x47 =>
  bP (fa Q q 345 0 0 x47) fun x48 =>
  bP (st Q q 343 1 x48 (.func (.func 218) #[x5] #[]) G45) fun G49 =>
  some (x5, G49))
theorem m186 {e : Ex} {E : Ev} (h : ExLe Q e E) (v0 v1 v2 : Value) (G : GS) : Ref (s186 true e v0 v1 v2 G) (s186 false (Ex.of E) v0 v1 v2 G) := by
  unfold s186
  exact Ref.go
theorem f186 {orc : FuncId → Bool} {e : Ex} (h : ExLe Q e (E orc)) (v0 v1 v2 : Value) (G : GS) : Ref (s186 true e v0 v1 v2 G) ((E orc).cl 186 [v0, v1, v2] G) :=
  fun r hr => cl_sxE_some Q orc (vs := [v0, v1, v2]) G Tryz.func186 (by kernel_rfl) (by kernel_rfl) (by kernel_rfl) (by kernel_rfl) (by kernel_rfl) (by kernel_rfl) (m186 h v0 v1 v2 G r hr)
/-- coxswain/arena.sized -/
noncomputable def s187 (q : Bool) (e : Ex) (v0 : Value) (G : GS) : Option (Value × GS) :=
  bS (bx q v0 G) fun x0 G1 =>
  bP (fa Q q 30 0 0 x0) fun x2 =>
  bP (fa Q q 28 2 2 x2) fun x3 =>
  bP (ld Q q 3 x3 G1) fun x4 =>
  bP (bn Q q .geq 3 (.tmp 5) (.const (.int .i64 1)) x4 (.int .i64 1)) fun x5 =>
  bS (gd x5 true (bP (fa Q q 30 0 0 x0) fun y => some (y, G1)) G1) fun x6 G7 =>
  bS (gd x5 true (bP (fa Q q 28 2 2 x6) fun y => some (y, G7)) G7) fun x8 G9 =>
  bS (gd x5 true (bP (ld Q q 3 x8 G9) fun y => some (y, G9)) G9) fun x10 G11 =>
  bS (gd x5 true (bP (bn Q q .leq 3 (.tmp 10) (.const (.int .i64 4096)) x10 (.int .i64 4096)) fun y => some (y, G11)) G11) fun x12 G13 =>
  bP (pickV x5 x12 (.bool false)) fun x14 =>
  some (x14, G13)
theorem m187 {e : Ex} {E : Ev} (h : ExLe Q e E) (v0 : Value) (G : GS) : Ref (s187 true e v0 G) (s187 false (Ex.of E) v0 G) := by
  unfold s187
  exact Ref.go
theorem f187 {orc : FuncId → Bool} {e : Ex} (h : ExLe Q e (E orc)) (v0 : Value) (G : GS) : Ref (s187 true e v0 G) ((E orc).cl 187 [v0] G) :=
  fun r hr => cl_sxE_some Q orc (vs := [v0]) G Tryz.func187 (by kernel_rfl) (by kernel_rfl) (by kernel_rfl) (by kernel_rfl) (by kernel_rfl) (by kernel_rfl) (m187 h v0 G r hr)
noncomputable def b188_0 (q : Bool) (e : Ex) (lp : Env → GS → Option (Exit × Env × GS)) (τ : Env) (G : GS) : Option (Exit × Env × GS) :=
  bV q (τ 1) fun a1_ =>
  bV q (τ 2) fun a2_ =>
  bV q (τ 15) fun a15_ =>
  bV q (τ 16) fun a16_ =>
  bP (bn Q q .lss 3 (.tmp 16) (.tmp 15) a16_ a15_) fun x0 =>
  ifV x0 (
  bP (bn Q q .add 3 (.tmp 19) (.const (.int .i64 1)) a16_ (.int .i64 1)) fun x1 =>
  bP (fa Q q 28 2 2 a2_) fun x2 =>
  bP (ld Q q 3 x2 G) fun x3 =>
  bP (bn Q q .eql 3 (.tmp 21) (.tmp 23) x1 x3) fun x4 =>
  ifV x4 (
  bP (fa Q q 28 1 1 a2_) fun x5 =>
  bP (ld Q q 3 x5 (G.room 8)) fun x6 =>
  bP (bn Q q .add 3 (.tmp 27) (.tmp 28) x6 a16_) fun x7 =>
  bS (e.ev.cl 220 [(.int .i64 (-1))] (G.room 8)) fun x9 G8 =>
  chk ((sameO (ld Q q 3 x5 G8) x6 && true)) <|
  bS (e.ev.cl 29 [a1_, x7, x9] G8) fun x11 G10 =>
  bP (bn Q q .add 3 (.tmp 16) (.const (.int .i64 1)) a16_ (.int .i64 1)) fun x12 =>
  lp (tu τ [(1, a1_), (2, a2_), (15, a15_), (16, x12), (4, a16_), (5, (.int .i64 (-1))), (17, x0), (18, a16_), (19, a16_), (20, x1), (21, x1), (22, x2), (23, x3), (24, x4), (25, a1_), (26, x5), (27, x6), (28, a16_), (29, x7), (30, (.int .i64 (-1))), (31, x9), (32, x11), (33, x12)]) G10) (
  bP (fa Q q 28 1 1 a2_) fun x13 =>
  bP (ld Q q 3 x13 (G.room 8)) fun x14 =>
  bP (bn Q q .add 3 (.tmp 27) (.tmp 28) x14 a16_) fun x15 =>
  bS (e.ev.cl 220 [x1] (G.room 8)) fun x17 G16 =>
  chk ((sameO (ld Q q 3 x13 G16) x14 && true)) <|
  bS (e.ev.cl 29 [a1_, x15, x17] G16) fun x19 G18 =>
  bP (bn Q q .add 3 (.tmp 16) (.const (.int .i64 1)) a16_ (.int .i64 1)) fun x20 =>
  lp (tu τ [(1, a1_), (2, a2_), (15, a15_), (16, x20), (4, a16_), (5, x1), (17, x0), (18, a16_), (19, a16_), (20, x1), (21, x1), (22, x2), (23, x3), (24, x4), (25, a1_), (26, x13), (27, x14), (28, a16_), (29, x15), (30, x1), (31, x17), (32, x19), (33, x20)]) G18)) (
  some ((.exit 0), clq q 34 (tu τ [(1, a1_), (2, a2_), (15, a15_), (16, a16_), (17, x0)]), G))
theorem mb188_0 {e : Ex} {E : Ev} (h : ExLe Q e E) {lp lp' : Env → GS → Option (Exit × Env × GS)} (hlp : LpLe lp lp') (τ : Env) (G : GS) : Ref (b188_0 true e lp τ G) (b188_0 false (Ex.of E) lp' τ G) := by
  unfold b188_0
  exact Ref.go
theorem l188_0 {orc : FuncId → Bool} {e : Ex} (h : ExLe Q e (E orc)) (lp : Env → GS → Option (Exit × Env × GS)) (hlp : ∀ τ G, Ref (lp τ G) (mapE ((E orc).lp (subAt [1, 1, 1, 1, 0, 0] (bodyOf Tryz.f188)) (lst 34 τ) G))) (T : List Value) (G : GS) (hT : T.length = 34) : Ref (b188_0 true e lp (nth undef T) G) (mapE ((E orc).lp (subAt [1, 1, 1, 1, 0, 0] (bodyOf Tryz.f188)) T G)) :=
  fun r hr => lp_sxM Q orc G hT (by kernel_rfl) (mb188_0 h ⟨hlp⟩ _ _ r hr)
/-- coxswain/stack.Fill -/
noncomputable def s188 (q : Bool) (e : Ex) (v0 v1 : Value) (G : GS) : Option (Value × GS) :=
  bS (bx q v0 G) fun x0 G1 =>
  bP (lda Q q 28 3 x0 G1) fun x2 =>
  bS (e.ev.cl 219 [x2] G1) fun x3 G4 =>
  bP (un Q q .not x3) fun x5 =>
  ifV x5 (
  some (.tuple #[], G4)) (
  bP (fa Q q 28 0 0 x0) fun x6 =>
  bP (ld Q q 3 x6 (G4.room 5)) fun x7 =>
  bS (e.ev.cl 220 [(.int .i64 0)] (G4.room 5)) fun x9 G8 =>
  chk ((sameO (ld Q q 3 x6 G8) x7 && true)) <|
  bS (e.ev.cl 29 [v1, x7, x9] G8) fun x11 G10 =>
  bP (fa Q q 28 2 2 x0) fun x12 =>
  bP (ld Q q 3 x12 G10) fun x13 =>
  bL q e 188 0 (subAt [1, 1, 1, 1, 0, 0] (bodyOf Tryz.f188)) 34 (tu (nth undef [v0, v1]) [(2, x0), (6, x2), (7, x3), (8, x5), (9, v1), (10, x6), (11, x7), (12, x9), (13, x11), (14, x12), (15, x13), (16, (.int .i64 0))]) G10 fun e14 t15 G16 =>
  ifE e14 (.exit 0) (
  some (.tuple #[], G16)) (none))
theorem m188 {e : Ex} {E : Ev} (h : ExLe Q e E) (v0 v1 : Value) (G : GS) : Ref (s188 true e v0 v1 G) (s188 false (Ex.of E) v0 v1 G) := by
  unfold s188
  exact Ref.go
theorem f188 {orc : FuncId → Bool} {e : Ex} (h : ExLe Q e (E orc)) (v0 v1 : Value) (G : GS) : Ref (s188 true e v0 v1 G) ((E orc).cl 188 [v0, v1] G) :=
  fun r hr => cl_sxE_some Q orc (vs := [v0, v1]) G Tryz.func188 (by kernel_rfl) (by kernel_rfl) (by kernel_rfl) (by kernel_rfl) (by kernel_rfl) (by kernel_rfl) (m188 h v0 v1 G r hr)
/-- coxswain/stack.read -/
noncomputable def s191 (q : Bool) (e : Ex) (v0 v1 : Value) (G : GS) : Option (Value × GS) :=
  bS (bx q v0 G) fun x0 G1 =>
  bS (e.ev.cl 221 [v1] G1) fun x2 G3 =>
  bP (pExtract x2 0) fun x4 =>
  bP (pExtract x2 1) fun x5 =>
  bS (al Q q 357 z357 G3) fun x6 G7 =>
  bP (st Q q 357 2 x6 x4 G7) fun G8 =>
  bP (fa Q q 357 0 0 x6) fun x9 =>
  bP (ld Q q 3 x9 G8) fun x10 =>
  bP (fa Q q 28 2 2 x0) fun x11 =>
  bP (ld Q q 3 x11 G8) fun x12 =>
  bP (bn Q q .geq 3 (.tmp 13) (.tmp 15) x10 x12) fun x13 =>
  ifV x13 (
  some ((.int .i64 (-1)), G8)) (
  bP (fa Q q 357 0 0 x6) fun x14 =>
  bP (ld Q q 3 x14 G8) fun x15 =>
  some (x15, G8))
theorem m191 {e : Ex} {E : Ev} (h : ExLe Q e E) (v0 v1 : Value) (G : GS) : Ref (s191 true e v0 v1 G) (s191 false (Ex.of E) v0 v1 G) := by
  unfold s191
  exact Ref.go
theorem f191 {orc : FuncId → Bool} {e : Ex} (h : ExLe Q e (E orc)) (v0 v1 : Value) (G : GS) : Ref (s191 true e v0 v1 G) ((E orc).cl 191 [v0, v1] G) :=
  fun r hr => cl_sxE_some Q orc (vs := [v0, v1]) G Tryz.func191 (by kernel_rfl) (by kernel_rfl) (by kernel_rfl) (by kernel_rfl) (by kernel_rfl) (by kernel_rfl) (m191 h v0 v1 G r hr)
/-- coxswain/tower.index -/
noncomputable def s193 (q : Bool) (e : Ex) (v0 v1 : Value) (G : GS) : Option (Value × GS) :=
  bS (bx q v0 G) fun x0 G1 =>
  bS (e.ev.cl 221 [v1] G1) fun x2 G3 =>
  bP (pExtract x2 0) fun x4 =>
  bP (pExtract x2 1) fun x5 =>
  bS (al Q q 357 z357 G3) fun x6 G7 =>
  bP (st Q q 357 2 x6 x4 G7) fun G8 =>
  bP (fa Q q 357 0 0 x6) fun x9 =>
  bP (ld Q q 3 x9 G8) fun x10 =>
  bP (fa Q q 36 3 3 x0) fun x11 =>
  bP (fa Q q 34 0 0 x11) fun x12 =>
  bP (fa Q q 30 0 0 x12) fun x13 =>
  bP (fa Q q 28 2 2 x13) fun x14 =>
  bP (ld Q q 3 x14 G8) fun x15 =>
  bP (bn Q q .geq 3 (.tmp 13) (.tmp 18) x10 x15) fun x16 =>
  ifV x16 (
  some ((.int .i64 (-1)), G8)) (
  bP (fa Q q 357 0 0 x6) fun x17 =>
  bP (ld Q q 3 x17 G8) fun x18 =>
  some (x18, G8))
theorem m193 {e : Ex} {E : Ev} (h : ExLe Q e E) (v0 v1 : Value) (G : GS) : Ref (s193 true e v0 v1 G) (s193 false (Ex.of E) v0 v1 G) := by
  unfold s193
  exact Ref.go
theorem f193 {orc : FuncId → Bool} {e : Ex} (h : ExLe Q e (E orc)) (v0 v1 : Value) (G : GS) : Ref (s193 true e v0 v1 G) ((E orc).cl 193 [v0, v1] G) :=
  fun r hr => cl_sxE_some Q orc (vs := [v0, v1]) G Tryz.func193 (by kernel_rfl) (by kernel_rfl) (by kernel_rfl) (by kernel_rfl) (by kernel_rfl) (by kernel_rfl) (m193 h v0 v1 G r hr)
/-- coxswain/word.refs -/
noncomputable def s195 (q : Bool) (e : Ex) (G : GS) : Option (Value × GS) :=
  bS (al Q q 320 z320 G) fun x0 G1 =>
  bP (bd Q q 319 z319 [(0, 0, 1), (1, 1, 1)] [(.int .i64 0), (.int .i64 16)]) fun x2 =>
  bP (bd Q q 319 z319 [(0, 0, 1), (1, 1, 1)] [(.int .i64 16), (.int .i64 32)]) fun x3 =>
  bP (bd Q q 320 z320 [(0, 0, 2), (1, 2, 2)] [x2, x3]) fun x4 =>
  bP (st Q q 320 4 x0 x4 G1) fun G5 =>
  bP (lda Q q 320 4 x0 G5) fun x6 =>
  some (x6, G5)
theorem m195 {e : Ex} {E : Ev} (h : ExLe Q e E) (G : GS) : Ref (s195 true e  G) (s195 false (Ex.of E)  G) := by
  unfold s195
  exact Ref.go
theorem f195 {orc : FuncId → Bool} {e : Ex} (h : ExLe Q e (E orc)) (ho : orc 195 = false) (G : GS) : Ref (s195 true e  G) ((E orc).cl 195 [] G) :=
  fun r hr => cl_sxE_some Q orc (vs := []) G Tryz.func195 (by kernel_rfl) (by kernel_rfl) ho (by kernel_rfl) (by kernel_rfl) (by kernel_rfl) (m195 h  G r hr)
/-- (coxswain/word.raw).take -/
noncomputable def s196 (q : Bool) (e : Ex) (v0 v1 : Value) (G : GS) : Option (Value × GS) :=
  bS (bx q v1 G) fun x0 G1 =>
  bP (fa Q q 319 0 0 x0) fun x2 =>
  bP (ld Q q 3 x2 (G1.room 11)) fun x3 =>
  bP (bn Q q .shr 38 (.tmp 5) (.tmp 7) v0 x3) fun x4 =>
  bP (fa Q q 319 1 1 x0) fun x5 =>
  bP (ld Q q 3 x5 (G1.room 11)) fun x6 =>
  bP (bn Q q .shl 38 (.const (.int .u64 1)) (.tmp 10) (.int .u64 1) x6) fun x7 =>
  bP (bn Q q .sub 38 (.tmp 11) (.const (.int .u64 1)) x7 (.int .u64 1)) fun x8 =>
  bP (bn Q q .and 38 (.tmp 8) (.tmp 12) x4 x8) fun x9 =>
  bP (cv Q q 38 3 .u64 .i64 x9) fun x10 =>
  some (x10, (G1.room 11))
theorem m196 {e : Ex} {E : Ev} (h : ExLe Q e E) (v0 v1 : Value) (G : GS) : Ref (s196 true e v0 v1 G) (s196 false (Ex.of E) v0 v1 G) := by
  unfold s196
  exact Ref.go
theorem f196 {orc : FuncId → Bool} {e : Ex} (h : ExLe Q e (E orc)) (v0 v1 : Value) (G : GS) : Ref (s196 true e v0 v1 G) ((E orc).cl 196 [v0, v1] G) :=
  fun r hr => cl_sxE_some Q orc (vs := [v0, v1]) G Tryz.func196 (by kernel_rfl) (by kernel_rfl) (by kernel_rfl) (by kernel_rfl) (by kernel_rfl) (by kernel_rfl) (m196 h v0 v1 G r hr)
/-- coxswain/word.Marked -/
noncomputable def s197 (q : Bool) (e : Ex) (v0 : Value) (G : GS) : Option (Value × GS) :=
  bP (bn Q q .shr 38 (.tmp 3) (.const (.int .u64 63)) v0 (.int .u64 63)) fun x0 =>
  bP (bn Q q .eql 38 (.tmp 4) (.const (.int .u64 1)) x0 (.int .u64 1)) fun x1 =>
  some (x1, G)
theorem m197 {e : Ex} {E : Ev} (h : ExLe Q e E) (v0 : Value) (G : GS) : Ref (s197 true e v0 G) (s197 false (Ex.of E) v0 G) := by
  unfold s197
  exact Ref.go
theorem f197 {orc : FuncId → Bool} {e : Ex} (h : ExLe Q e (E orc)) (v0 : Value) (G : GS) : Ref (s197 true e v0 G) ((E orc).cl 197 [v0] G) :=
  fun r hr => cl_sxE_some Q orc (vs := [v0]) G Tryz.func197 (by kernel_rfl) (by kernel_rfl) (by kernel_rfl) (by kernel_rfl) (by kernel_rfl) (by kernel_rfl) (m197 h v0 G r hr)
/-- coxswain/word.PutRef -/
noncomputable def s198 (q : Bool) (e : Ex) (v0 : Value) (G : GS) : Option (Value × GS) :=
  bS (bx q v0 G) fun x0 G1 =>
  bP (fa Q q 258 0 0 x0) fun x2 =>
  bP (ld Q q 3 x2 G1) fun x3 =>
  bP (bd Q q 362 z362 [(0, 0, 1), (1, 1, 1), (2, 2, 1)] [x3, (.int .i64 (-1)), (.int .i64 65534)]) fun x4 =>
  bP (fa Q q 258 1 1 x0) fun x5 =>
  bP (ld Q q 3 x5 G1) fun x6 =>
  bP (bd Q q 362 z362 [(0, 0, 1), (1, 1, 1), (2, 2, 1)] [x6, (.int .i64 0), (.int .i64 4294967295)]) fun x7 =>
  bS (bs Q q 377 2 (rep z362 2) 3 [(0, 0, 3), (1, 3, 3)] [x4, x7] G1) fun x8 G9 =>
  bS (e.ev.cl 222 [x8] G9) fun x10 G11 =>
  bP (un Q q .not x10) fun x12 =>
  ifV x12 (
  some (.tuple #[(.int .u64 0), (.int .i64 3)], G11)) (
  bP (fa Q q 258 0 0 x0) fun x13 =>
  bP (ld Q q 3 x13 G11) fun x14 =>
  bP (bn Q q .eql 3 (.tmp 17) (.const (.int .i64 (-1))) x14 (.int .i64 (-1))) fun x15 =>
  bS (gd x15 true (bP (fa Q q 258 1 1 x0) fun y => some (y, G11)) G11) fun x16 G17 =>
  bS (gd x15 true (bP (ld Q q 3 x16 G17) fun y => some (y, G17)) G17) fun x18 G19 =>
  bS (gd x15 true (bP (bn Q q .neq 3 (.tmp 21) (.const (.int .i64 0)) x18 (.int .i64 0)) fun y => some (y, G19)) G19) fun x20 G21 =>
  bP (pickV x15 x20 (.bool false)) fun x22 =>
  ifV x22 (
  some (.tuple #[(.int .u64 0), (.int .i64 5)], G21)) (
  bS (e.ev.cl 195 [] G21) fun x23 G24 =>
  bS (al Q q 320 z320 G24) fun x25 G26 =>
  bP (st Q q 320 4 x25 x23 G26) fun G27 =>
  bP (sla Q q 320 2 2 x25 none none none (G27.room 13)) fun x28 =>
  bP (fa Q q 258 0 0 x0) fun x29 =>
  bP (ld Q q 3 x29 (G27.room 13)) fun x30 =>
  bP (bn Q q .add 3 (.tmp 27) (.const (.int .i64 1)) x30 (.int .i64 1)) fun x31 =>
  bP (fa Q q 258 1 1 x0) fun x32 =>
  bP (ld Q q 3 x32 (G27.room 13)) fun x33 =>
  bS (bs Q q 139 2 (rep z3 2) 1 [(0, 0, 1), (1, 1, 1)] [x31, x33] ((G27.room 13).at' (G27.nx + 6))) fun x34 G35 =>
  bS (e.ev.cl 224 [x28, x34] (G35.back (G27.room 13))) fun x37 G36 =>
  bP (fa Q q 258 2 2 x0) fun x38 =>
  bP (ld Q q 4 x38 G36) fun x39 =>
  chk ((sameO (ld Q q 4 x38 (G35.back (G27.room 13))) x39 && true)) <|
  bS (e.ev.cl 223 [x37, x39] G36) fun x41 G40 =>
  some (.tuple #[x41, (.int .i64 0)], G40)))
theorem m198 {e : Ex} {E : Ev} (h : ExLe Q e E) (v0 : Value) (G : GS) : Ref (s198 true e v0 G) (s198 false (Ex.of E) v0 G) := by
  unfold s198
  exact Ref.go
theorem f198 {orc : FuncId → Bool} {e : Ex} (h : ExLe Q e (E orc)) (v0 : Value) (G : GS) : Ref (s198 true e v0 G) ((E orc).cl 198 [v0] G) :=
  fun r hr => cl_sxE_some Q orc (vs := [v0]) G Tryz.func198 (by kernel_rfl) (by kernel_rfl) (by kernel_rfl) (by kernel_rfl) (by kernel_rfl) (by kernel_rfl) (m198 h v0 G r hr)
noncomputable def b199_0 (q : Bool) (e : Ex) (lp : Env → GS → Option (Exit × Env × GS)) (τ : Env) (G : GS) : Option (Exit × Env × GS) :=
  bV q (τ 0) fun a0_ =>
  bV q (τ 1) fun a1_ =>
  bV q (τ 5) fun a5_ =>
  bV q (τ 6) fun a6_ =>
  bP (bn Q q .lss 3 (.tmp 6) (.tmp 5) a6_ a5_) fun x0 =>
  ifV x0 (
  bP (fa Q q 32 1 1 a1_) fun x1 =>
  bP (ld Q q 3 x1 G) fun x2 =>
  bP (bn Q q .add 3 (.tmp 12) (.tmp 13) x2 a6_) fun x3 =>
  bS (cValue e.ev a0_ [a6_, x3] G) fun x4 G5 =>
  bP (un Q q .not x4) fun x6 =>
  ifV x6 (
  some (.ret, clq q 18 (tu τ [(0, a0_), (1, a1_), (5, a5_), (6, a6_), (3, a6_), (7, x0), (8, a6_), (9, a0_), (10, a6_), (11, x1), (12, x2), (13, a6_), (14, x3), (15, x4), (16, x6)]), G5)) (
  bP (bn Q q .add 3 (.tmp 6) (.const (.int .i64 1)) a6_ (.int .i64 1)) fun x7 =>
  lp (tu τ [(0, a0_), (1, a1_), (5, a5_), (6, x7), (3, a6_), (7, x0), (8, a6_), (9, a0_), (10, a6_), (11, x1), (12, x2), (13, a6_), (14, x3), (15, x4), (16, x6), (17, x7)]) G5)) (
  some ((.exit 0), clq q 18 (tu τ [(0, a0_), (1, a1_), (5, a5_), (6, a6_), (7, x0)]), G))
theorem mb199_0 {e : Ex} {E : Ev} (h : ExLe Q e E) {lp lp' : Env → GS → Option (Exit × Env × GS)} (hlp : LpLe lp lp') (τ : Env) (G : GS) : Ref (b199_0 true e lp τ G) (b199_0 false (Ex.of E) lp' τ G) := by
  unfold b199_0
  exact Ref.go
theorem l199_0 {orc : FuncId → Bool} {e : Ex} (h : ExLe Q e (E orc)) (lp : Env → GS → Option (Exit × Env × GS)) (hlp : ∀ τ G, Ref (lp τ G) (mapE ((E orc).lp (subAt [1, 0, 0] (bodyOf Tryz.f199)) (lst 18 τ) G))) (T : List Value) (G : GS) (hT : T.length = 18) : Ref (b199_0 true e lp (nth undef T) G) (mapE ((E orc).lp (subAt [1, 0, 0] (bodyOf Tryz.f199)) T G)) :=
  fun r hr => lp_sxM Q orc G hT (by kernel_rfl) (mb199_0 h ⟨hlp⟩ _ _ r hr)
/-- coxswain/epoch.pins$1 -/
noncomputable def s199 (q : Bool) (e : Ex) (v0 v1 : Value) (G : GS) : Option (Value × GS) :=
  bP (fa Q q 32 2 2 v1) fun x0 =>
  bP (ld Q q 3 x0 G) fun x1 =>
  bL q e 199 0 (subAt [1, 0, 0] (bodyOf Tryz.f199)) 18 (tu (nth undef [v0, v1]) [(4, x0), (5, x1), (6, (.int .i64 0))]) G fun e2 t3 G4 =>
  ifE e2 (.exit 0) (
  some (.tuple #[], G4)) (ifE e2 .ret (
  some (.tuple #[], G4)) (none))
theorem m199 {e : Ex} {E : Ev} (h : ExLe Q e E) (v0 v1 : Value) (G : GS) : Ref (s199 true e v0 v1 G) (s199 false (Ex.of E) v0 v1 G) := by
  unfold s199
  exact Ref.go
theorem f199 {orc : FuncId → Bool} {e : Ex} (h : ExLe Q e (E orc)) (v0 v1 : Value) (G : GS) : Ref (s199 true e v0 v1 G) ((E orc).cl 199 [v0, v1] G) :=
  fun r hr => cl_sxE_some Q orc (vs := [v0, v1]) G Tryz.func199 (by kernel_rfl) (by kernel_rfl) (by kernel_rfl) (by kernel_rfl) (by kernel_rfl) (by kernel_rfl) (m199 h v0 v1 G r hr)
noncomputable def b200_0 (q : Bool) (e : Ex) (lp : Env → GS → Option (Exit × Env × GS)) (τ : Env) (G : GS) : Option (Exit × Env × GS) :=
  bV q (τ 0) fun a0_ =>
  bV q (τ 2) fun a2_ =>
  bV q (τ 3) fun a3_ =>
  bV q (τ 4) fun a4_ =>
  bV q (τ 10) fun a10_ =>
  bP (bn Q q .mul 3 (.const (.int .i64 2)) (.tmp 13) (.int .i64 2) a10_) fun x0 =>
  bP (bn Q q .add 3 (.tmp 14) (.const (.int .i64 1)) x0 (.int .i64 1)) fun x1 =>
  bP (bn Q q .geq 3 (.tmp 16) (.tmp 17) x1 a2_) fun x2 =>
  ifV x2 (
  some ((.exit 0), clq q 82 (tu τ [(0, a0_), (2, a2_), (3, a3_), (4, a4_), (10, a10_), (11, x1), (13, a10_), (14, x0), (15, x1), (16, x1), (17, a2_), (18, x2)]), G)) (
  bP (bn Q q .add 3 (.tmp 19) (.const (.int .i64 1)) x1 (.int .i64 1)) fun x3 =>
  bP (bn Q q .lss 3 (.tmp 20) (.tmp 21) x3 a2_) fun x4 =>
  bS (gd x4 true (some (a4_, (G.room 22))) (G.room 22)) fun x5 _ =>
  bS (gd x4 true (some (a0_, (G.room 22))) (G.room 22)) fun x6 _ =>
  bS (gd x4 true (some (a3_, (G.room 22))) (G.room 22)) fun x7 _ =>
  bS (gd x4 true (some (x1, (G.room 22))) (G.room 22)) fun x8 _ =>
  bS (gd x4 true (bP (bn Q q .add 3 (.tmp 26) (.tmp 27) x7 x8) fun y => some (y, (G.room 22))) (G.room 22)) fun x9 _ =>
  bS (gd x4 true (bP (ias Q q 90 1 x6 x9) fun y => some (y, (G.room 22))) (G.room 22)) fun x10 _ =>
  bS (gd x4 true (bP (ld Q q 38 x10 (G.room 22)) fun y => some (y, (G.room 22))) (G.room 22)) fun x11 _ =>
  bS (gd x4 true (some (a0_, (G.room 22))) (G.room 22)) fun x12 _ =>
  bS (gd x4 true (some (a3_, (G.room 22))) (G.room 22)) fun x13 _ =>
  bS (gd x4 true (some (x1, (G.room 22))) (G.room 22)) fun x14 _ =>
  bS (gd x4 true (bP (bn Q q .add 3 (.tmp 32) (.tmp 33) x13 x14) fun y => some (y, (G.room 22))) (G.room 22)) fun x15 _ =>
  bS (gd x4 true (bP (bn Q q .add 3 (.tmp 34) (.const (.int .i64 1)) x15 (.int .i64 1)) fun y => some (y, (G.room 22))) (G.room 22)) fun x16 _ =>
  bS (gd x4 true (bP (ias Q q 90 1 x12 x16) fun y => some (y, (G.room 22))) (G.room 22)) fun x17 _ =>
  bS (gd x4 true (bP (ld Q q 38 x17 (G.room 22)) fun y => some (y, (G.room 22))) (G.room 22)) fun x18 _ =>
  bS (gd x4 true (bS (cValue e.ev x5 [x11, x18] (G.room 22)) fun y G => some (y, G)) (G.room 22)) fun x20 G19 =>
  bS (gd x4 true (bP (bn Q q .lss 3 (.tmp 38) (.const (.int .i64 0)) x20 (.int .i64 0)) fun y => some (y, G19)) G19) fun x21 _ =>
  bP (pickV x4 x21 (.bool false)) fun x22 =>
  ifV x22 (
  bP (bn Q q .add 3 (.tmp 41) (.const (.int .i64 1)) x1 (.int .i64 1)) fun x23 =>
  bP (bn Q q .add 3 (.tmp 45) (.tmp 46) a3_ a10_) fun x24 =>
  bP (ias Q q 90 1 a0_ x24) fun x25 =>
  bP (ld Q q 38 x25 (G19.room 16)) fun x26 =>
  bP (bn Q q .add 3 (.tmp 51) (.tmp 52) a3_ x23) fun x27 =>
  bP (ias Q q 90 1 a0_ x27) fun x28 =>
  bP (ld Q q 38 x28 (G19.room 16)) fun x29 =>
  bS (cValue e.ev a4_ [x26, x29] (G19.room 16)) fun x31 G30 =>
  bP (bn Q q .lss 3 (.tmp 56) (.const (.int .i64 0)) x31 (.int .i64 0)) fun x32 =>
  bP (un Q q .not x32) fun x33 =>
  ifV x33 (
  some (.ret, clq q 82 (tu τ [(0, a0_), (2, a2_), (3, a3_), (4, a4_), (10, a10_), (11, x23), (13, a10_), (14, x0), (15, x1), (16, x1), (17, a2_), (18, x2), (19, x1), (20, x3), (21, a2_), (22, x4), (23, x4), (24, x5), (25, x6), (26, x7), (27, x8), (28, x9), (29, x10), (30, x11), (31, x12), (32, x13), (33, x14), (34, x15), (35, x16), (36, x17), (37, x18), (38, x20), (39, x21), (40, x22), (41, x1), (42, x23), (43, a4_), (44, a0_), (45, a3_), (46, a10_), (47, x24), (48, x25), (49, x26), (50, a0_), (51, a3_), (52, x23), (53, x27), (54, x28), (55, x29), (56, x31), (57, x32), (58, x33)]), G30)) (
  bP (bn Q q .add 3 (.tmp 60) (.tmp 61) a3_ a10_) fun x34 =>
  bP (bn Q q .add 3 (.tmp 64) (.tmp 65) a3_ x23) fun x35 =>
  bP (bn Q q .add 3 (.tmp 68) (.tmp 69) a3_ x23) fun x36 =>
  bP (ias Q q 90 1 a0_ x36) fun x37 =>
  bP (ld Q q 38 x37 (G30.room 24)) fun x38 =>
  bP (bn Q q .add 3 (.tmp 74) (.tmp 75) a3_ a10_) fun x39 =>
  bP (ias Q q 90 1 a0_ x39) fun x40 =>
  bP (ld Q q 38 x40 (G30.room 24)) fun x41 =>
  bP (ias Q q 90 1 a0_ x34) fun x42 =>
  bP (st Q q 38 1 x42 x38 (G30.room 24)) fun G43 =>
  bP (ias Q q 90 1 a0_ x35) fun x44 =>
  bP (st Q q 38 1 x44 x41 G43) fun G45 =>
  lp (tu τ [(0, a0_), (2, a2_), (3, a3_), (4, a4_), (10, x23), (11, x23), (13, a10_), (14, x0), (15, x1), (16, x1), (17, a2_), (18, x2), (19, x1), (20, x3), (21, a2_), (22, x4), (23, x4), (24, x5), (25, x6), (26, x7), (27, x8), (28, x9), (29, x10), (30, x11), (31, x12), (32, x13), (33, x14), (34, x15), (35, x16), (36, x17), (37, x18), (38, x20), (39, x21), (40, x22), (41, x1), (42, x23), (43, a4_), (44, a0_), (45, a3_), (46, a10_), (47, x24), (48, x25), (49, x26), (50, a0_), (51, a3_), (52, x23), (53, x27), (54, x28), (55, x29), (56, x31), (57, x32), (58, x33), (59, a0_), (60, a3_), (61, a10_), (62, x34), (63, a0_), (64, a3_), (65, x23), (66, x35), (67, a0_), (68, a3_), (69, x23), (70, x36), (71, x37), (72, x38), (73, a0_), (74, a3_), (75, a10_), (76, x39), (77, x40), (78, x41), (79, x42), (80, x44), (81, x23)]) G45)) (
  bP (bn Q q .add 3 (.tmp 45) (.tmp 46) a3_ a10_) fun x46 =>
  bP (ias Q q 90 1 a0_ x46) fun x47 =>
  bP (ld Q q 38 x47 (G19.room 16)) fun x48 =>
  bP (bn Q q .add 3 (.tmp 51) (.tmp 52) a3_ x1) fun x49 =>
  bP (ias Q q 90 1 a0_ x49) fun x50 =>
  bP (ld Q q 38 x50 (G19.room 16)) fun x51 =>
  bS (cValue e.ev a4_ [x48, x51] (G19.room 16)) fun x53 G52 =>
  bP (bn Q q .lss 3 (.tmp 56) (.const (.int .i64 0)) x53 (.int .i64 0)) fun x54 =>
  bP (un Q q .not x54) fun x55 =>
  ifV x55 (
  some (.ret, clq q 82 (tu τ [(0, a0_), (2, a2_), (3, a3_), (4, a4_), (10, a10_), (11, x1), (13, a10_), (14, x0), (15, x1), (16, x1), (17, a2_), (18, x2), (19, x1), (20, x3), (21, a2_), (22, x4), (23, x4), (24, x5), (25, x6), (26, x7), (27, x8), (28, x9), (29, x10), (30, x11), (31, x12), (32, x13), (33, x14), (34, x15), (35, x16), (36, x17), (37, x18), (38, x20), (39, x21), (40, x22), (43, a4_), (44, a0_), (45, a3_), (46, a10_), (47, x46), (48, x47), (49, x48), (50, a0_), (51, a3_), (52, x1), (53, x49), (54, x50), (55, x51), (56, x53), (57, x54), (58, x55)]), G52)) (
  bP (bn Q q .add 3 (.tmp 60) (.tmp 61) a3_ a10_) fun x56 =>
  bP (bn Q q .add 3 (.tmp 64) (.tmp 65) a3_ x1) fun x57 =>
  bP (bn Q q .add 3 (.tmp 68) (.tmp 69) a3_ x1) fun x58 =>
  bP (ias Q q 90 1 a0_ x58) fun x59 =>
  bP (ld Q q 38 x59 (G52.room 24)) fun x60 =>
  bP (bn Q q .add 3 (.tmp 74) (.tmp 75) a3_ a10_) fun x61 =>
  bP (ias Q q 90 1 a0_ x61) fun x62 =>
  bP (ld Q q 38 x62 (G52.room 24)) fun x63 =>
  bP (ias Q q 90 1 a0_ x56) fun x64 =>
  bP (st Q q 38 1 x64 x60 (G52.room 24)) fun G65 =>
  bP (ias Q q 90 1 a0_ x57) fun x66 =>
  bP (st Q q 38 1 x66 x63 G65) fun G67 =>
  lp (tu τ [(0, a0_), (2, a2_), (3, a3_), (4, a4_), (10, x1), (11, x1), (13, a10_), (14, x0), (15, x1), (16, x1), (17, a2_), (18, x2), (19, x1), (20, x3), (21, a2_), (22, x4), (23, x4), (24, x5), (25, x6), (26, x7), (27, x8), (28, x9), (29, x10), (30, x11), (31, x12), (32, x13), (33, x14), (34, x15), (35, x16), (36, x17), (37, x18), (38, x20), (39, x21), (40, x22), (43, a4_), (44, a0_), (45, a3_), (46, a10_), (47, x46), (48, x47), (49, x48), (50, a0_), (51, a3_), (52, x1), (53, x49), (54, x50), (55, x51), (56, x53), (57, x54), (58, x55), (59, a0_), (60, a3_), (61, a10_), (62, x56), (63, a0_), (64, a3_), (65, x1), (66, x57), (67, a0_), (68, a3_), (69, x1), (70, x58), (71, x59), (72, x60), (73, a0_), (74, a3_), (75, a10_), (76, x61), (77, x62), (78, x63), (79, x64), (80, x66), (81, x1)]) G67)))
theorem mb200_0 {e : Ex} {E : Ev} (h : ExLe Q e E) {lp lp' : Env → GS → Option (Exit × Env × GS)} (hlp : LpLe lp lp') (τ : Env) (G : GS) : Ref (b200_0 true e lp τ G) (b200_0 false (Ex.of E) lp' τ G) := by
  unfold b200_0
  exact Ref.go
theorem l200_0 {orc : FuncId → Bool} {e : Ex} (h : ExLe Q e (E orc)) (lp : Env → GS → Option (Exit × Env × GS)) (hlp : ∀ τ G, Ref (lp τ G) (mapE ((E orc).lp (subAt [1, 0, 0] (bodyOf Tryz.f200)) (lst 82 τ) G))) (T : List Value) (G : GS) (hT : T.length = 82) : Ref (b200_0 true e lp (nth undef T) G) (mapE ((E orc).lp (subAt [1, 0, 0] (bodyOf Tryz.f200)) T G)) :=
  fun r hr => lp_sxM Q orc G hT (by kernel_rfl) (mb200_0 h ⟨hlp⟩ _ _ r hr)
/-- slices.siftDownCmpFunc[uint64] -/
noncomputable def s200 (q : Bool) (e : Ex) (v0 v1 v2 v3 v4 : Value) (G : GS) : Option (Value × GS) :=
  bL q e 200 0 (subAt [1, 0, 0] (bodyOf Tryz.f200)) 82 (tu (nth undef [v0, v1, v2, v3, v4]) [(10, v1), (12, v1)]) G fun e0 t1 G2 =>
  ifE e0 (.exit 0) (
  some (.tuple #[], G2)) (ifE e0 .ret (
  some (.tuple #[], G2)) (none))
theorem m200 {e : Ex} {E : Ev} (h : ExLe Q e E) (v0 v1 v2 v3 v4 : Value) (G : GS) : Ref (s200 true e v0 v1 v2 v3 v4 G) (s200 false (Ex.of E) v0 v1 v2 v3 v4 G) := by
  unfold s200
  exact Ref.go
theorem f200 {orc : FuncId → Bool} {e : Ex} (h : ExLe Q e (E orc)) (v0 v1 v2 v3 v4 : Value) (G : GS) : Ref (s200 true e v0 v1 v2 v3 v4 G) ((E orc).cl 200 [v0, v1, v2, v3, v4] G) :=
  fun r hr => cl_sxE_some Q orc (vs := [v0, v1, v2, v3, v4]) G Tryz.func200 (by kernel_rfl) (by kernel_rfl) (by kernel_rfl) (by kernel_rfl) (by kernel_rfl) (by kernel_rfl) (m200 h v0 v1 v2 v3 v4 G r hr)
/-- slices.nextPowerOfTwo -/
noncomputable def s201 (q : Bool) (e : Ex) (v0 : Value) (G : GS) : Option (Value × GS) :=
  bP (cv Q q 3 212 .i64 .u64 v0) fun x0 =>
  bS (e.ev.cl 124 [x0] G) fun x1 G2 =>
  bP (bn Q q .shl 212 (.const (.int .u64 1)) (.tmp 5) (.int .u64 1) x1) fun x3 =>
  some (x3, G2)
theorem m201 {e : Ex} {E : Ev} (h : ExLe Q e E) (v0 : Value) (G : GS) : Ref (s201 true e v0 G) (s201 false (Ex.of E) v0 G) := by
  unfold s201
  exact Ref.go
theorem f201 {orc : FuncId → Bool} {e : Ex} (h : ExLe Q e (E orc)) (v0 : Value) (G : GS) : Ref (s201 true e v0 G) ((E orc).cl 201 [v0] G) :=
  fun r hr => cl_sxE_some Q orc (vs := [v0]) G Tryz.func201 (by kernel_rfl) (by kernel_rfl) (by kernel_rfl) (by kernel_rfl) (by kernel_rfl) (by kernel_rfl) (m201 h v0 G r hr)
/-- (*slices.xorshift).Next -/
noncomputable def s202 (q : Bool) (e : Ex) (v0 : Value) (G : GS) : Option (Value × GS) :=
  bP (pNil v0) fun x0 =>
  bP (ld Q q 325 x0 (G.room 10)) fun x1 =>
  bP (pNil v0) fun x2 =>
  bP (ld Q q 325 x2 (G.room 10)) fun x3 =>
  bP (bn Q q .shl 325 (.tmp 8) (.const (.int .u64 13)) x3 (.int .u64 13)) fun x4 =>
  bP (bn Q q .xor 325 (.tmp 5) (.tmp 9) x1 x4) fun x5 =>
  bP (pNil v0) fun x6 =>
  bP (st Q q 325 1 x6 x5 (G.room 10)) fun G7 =>
  bP (pNil v0) fun x8 =>
  bP (ld Q q 325 x8 (G7.room 10)) fun x9 =>
  bP (pNil v0) fun x10 =>
  bP (ld Q q 325 x10 (G7.room 10)) fun x11 =>
  bP (bn Q q .shr 325 (.tmp 17) (.const (.int .u64 7)) x11 (.int .u64 7)) fun x12 =>
  bP (bn Q q .xor 325 (.tmp 14) (.tmp 18) x9 x12) fun x13 =>
  bP (pNil v0) fun x14 =>
  bP (st Q q 325 1 x14 x13 (G7.room 10)) fun G15 =>
  bP (pNil v0) fun x16 =>
  bP (ld Q q 325 x16 (G15.room 10)) fun x17 =>
  bP (pNil v0) fun x18 =>
  bP (ld Q q 325 x18 (G15.room 10)) fun x19 =>
  bP (bn Q q .shl 325 (.tmp 26) (.const (.int .u64 17)) x19 (.int .u64 17)) fun x20 =>
  bP (bn Q q .xor 325 (.tmp 23) (.tmp 27) x17 x20) fun x21 =>
  bP (pNil v0) fun x22 =>
  bP (st Q q 325 1 x22 x21 (G15.room 10)) fun G23 =>
  bP (pNil v0) fun x24 =>
  bP (ld Q q 325 x24 G23) fun x25 =>
  some (x25, G23)
theorem m202 {e : Ex} {E : Ev} (h : ExLe Q e E) (v0 : Value) (G : GS) : Ref (s202 true e v0 G) (s202 false (Ex.of E) v0 G) := by
  unfold s202
  exact Ref.go
theorem f202 {orc : FuncId → Bool} {e : Ex} (h : ExLe Q e (E orc)) (v0 : Value) (G : GS) : Ref (s202 true e v0 G) ((E orc).cl 202 [v0] G) :=
  fun r hr => cl_sxE_some Q orc (vs := [v0]) G Tryz.func202 (by kernel_rfl) (by kernel_rfl) (by kernel_rfl) (by kernel_rfl) (by kernel_rfl) (by kernel_rfl) (m202 h v0 G r hr)
/-- slices.medianAdjacentCmpFunc[uint64] -/
noncomputable def s203 (q : Bool) (e : Ex) (v0 v1 v2 v3 : Value) (G : GS) : Option (Value × GS) :=
  bP (bn Q q .sub 3 (.tmp 10) (.const (.int .i64 1)) v1 (.int .i64 1)) fun x0 =>
  bP (bn Q q .add 3 (.tmp 13) (.const (.int .i64 1)) v1 (.int .i64 1)) fun x1 =>
  bS (e.ev.cl 204 [v0, x0, v1, x1, v2, v3] G) fun x2 G3 =>
  some (x2, G3)
theorem m203 {e : Ex} {E : Ev} (h : ExLe Q e E) (v0 v1 v2 v3 : Value) (G : GS) : Ref (s203 true e v0 v1 v2 v3 G) (s203 false (Ex.of E) v0 v1 v2 v3 G) := by
  unfold s203
  exact Ref.go
theorem f203 {orc : FuncId → Bool} {e : Ex} (h : ExLe Q e (E orc)) (v0 v1 v2 v3 : Value) (G : GS) : Ref (s203 true e v0 v1 v2 v3 G) ((E orc).cl 203 [v0, v1, v2, v3] G) :=
  fun r hr => cl_sxE_some Q orc (vs := [v0, v1, v2, v3]) G Tryz.func203 (by kernel_rfl) (by kernel_rfl) (by kernel_rfl) (by kernel_rfl) (by kernel_rfl) (by kernel_rfl) (m203 h v0 v1 v2 v3 G r hr)
/-- slices.medianCmpFunc[uint64] -/
noncomputable def s204 (q : Bool) (e : Ex) (v0 v1 v2 v3 v4 v5 : Value) (G : GS) : Option (Value × GS) :=
  bS (e.ev.cl 225 [v0, v1, v2, v4, v5] G) fun x0 G1 =>
  bP (pExtract x0 0) fun x2 =>
  bP (pExtract x0 1) fun x3 =>
  bS (e.ev.cl 225 [v0, x3, v3, v4, v5] G1) fun x4 G5 =>
  bP (pExtract x4 0) fun x6 =>
  bP (pExtract x4 1) fun x7 =>
  bS (e.ev.cl 225 [v0, x2, x6, v4, v5] G5) fun x8 G9 =>
  bP (pExtract x8 0) fun x10 =>
  bP (pExtract x8 1) fun x11 =>
  some (x11, G9)
theorem m204 {e : Ex} {E : Ev} (h : ExLe Q e E) (v0 v1 v2 v3 v4 v5 : Value) (G : GS) : Ref (s204 true e v0 v1 v2 v3 v4 v5 G) (s204 false (Ex.of E) v0 v1 v2 v3 v4 v5 G) := by
  unfold s204
  exact Ref.go
theorem f204 {orc : FuncId → Bool} {e : Ex} (h : ExLe Q e (E orc)) (v0 v1 v2 v3 v4 v5 : Value) (G : GS) : Ref (s204 true e v0 v1 v2 v3 v4 v5 G) ((E orc).cl 204 [v0, v1, v2, v3, v4, v5] G) :=
  fun r hr => cl_sxE_some Q orc (vs := [v0, v1, v2, v3, v4, v5]) G Tryz.func204 (by kernel_rfl) (by kernel_rfl) (by kernel_rfl) (by kernel_rfl) (by kernel_rfl) (by kernel_rfl) (m204 h v0 v1 v2 v3 v4 v5 G r hr)
/-- (*coxswain/stack.Pop).second -/
noncomputable def s205 (q : Bool) (e : Ex) (v0 v1 : Value) (G : GS) : Option (Value × GS) :=
  bP (pNil v0) fun x0 =>
  bP (fa Q q 289 0 0 x0) fun x1 =>
  bP (fa Q q 286 0 0 x1) fun x2 =>
  bP (lda Q q 28 3 x2 (G.room 25)) fun x3 =>
  bP (pNil v0) fun x4 =>
  bP (fa Q q 289 0 0 x4) fun x5 =>
  bP (fa Q q 286 0 0 x5) fun x6 =>
  bP (fa Q q 28 1 1 x6) fun x7 =>
  bP (ld Q q 3 x7 (G.room 25)) fun x8 =>
  bP (pNil v0) fun x9 =>
  bP (fa Q q 289 0 0 x9) fun x10 =>
  bP (fa Q q 286 2 4 x10) fun x11 =>
  bP (ld Q q 3 x11 (G.room 25)) fun x12 =>
  bP (bn Q q .add 3 (.tmp 16) (.tmp 21) x8 x12) fun x13 =>
  bS (e.ev.cl 120 [v1, x13] (G.room 25)) fun x15 G14 =>
  chk ((sameO (lda Q q 28 3 x2 G14) x3 && true)) <|
  bS (e.ev.cl 191 [x3, x15] G14) fun x17 G16 =>
  bP (pNil v0) fun x18 =>
  bP (fa Q q 289 0 0 x18) fun x19 =>
  bP (fa Q q 286 3 5 x19) fun x20 =>
  bP (st Q q 3 1 x20 x17 G16) fun G21 =>
  bP (pNil v0) fun x22 =>
  bP (fa Q q 289 1 9 x22) fun x23 =>
  bP (st Q q 287 1 x23 (.func (.func 226) #[] #[]) G21) fun G24 =>
  some (.tuple #[], G24)
theorem m205 {e : Ex} {E : Ev} (h : ExLe Q e E) (v0 v1 : Value) (G : GS) : Ref (s205 true e v0 v1 G) (s205 false (Ex.of E) v0 v1 G) := by
  unfold s205
  exact Ref.go
theorem f205 {orc : FuncId → Bool} {e : Ex} (h : ExLe Q e (E orc)) (v0 v1 : Value) (G : GS) : Ref (s205 true e v0 v1 G) ((E orc).cl 205 [v0, v1] G) :=
  fun r hr => cl_sxE_some Q orc (vs := [v0, v1]) G Tryz.func205 (by kernel_rfl) (by kernel_rfl) (by kernel_rfl) (by kernel_rfl) (by kernel_rfl) (by kernel_rfl) (m205 h v0 v1 G r hr)
/-- (*coxswain/stack.held).load -/
noncomputable def s206 (q : Bool) (e : Ex) (v0 v1 : Value) (G : GS) : Option (Value × GS) :=
  bP (pNil v0) fun x0 =>
  bP (fa Q q 286 0 0 x0) fun x1 =>
  bP (fa Q q 28 0 0 x1) fun x2 =>
  bP (ld Q q 3 x2 G) fun x3 =>
  bS (e.ev.cl 120 [v1, x3] G) fun x4 G5 =>
  bP (pNil v0) fun x6 =>
  bP (fa Q q 286 1 3 x6) fun x7 =>
  bP (st Q q 38 1 x7 x4 G5) fun G8 =>
  bP (pNil v0) fun x9 =>
  bP (fa Q q 286 0 0 x9) fun x10 =>
  bP (lda Q q 28 3 x10 (G8.room 10)) fun x11 =>
  bP (pNil v0) fun x12 =>
  bP (fa Q q 286 1 3 x12) fun x13 =>
  bP (ld Q q 38 x13 (G8.room 10)) fun x14 =>
  bS (e.ev.cl 191 [x11, x14] (G8.room 10)) fun x16 G15 =>
  some (x16, G15)
theorem m206 {e : Ex} {E : Ev} (h : ExLe Q e E) (v0 v1 : Value) (G : GS) : Ref (s206 true e v0 v1 G) (s206 false (Ex.of E) v0 v1 G) := by
  unfold s206
  exact Ref.go
theorem f206 {orc : FuncId → Bool} {e : Ex} (h : ExLe Q e (E orc)) (v0 v1 : Value) (G : GS) : Ref (s206 true e v0 v1 G) ((E orc).cl 206 [v0, v1] G) :=
  fun r hr => cl_sxE_some Q orc (vs := [v0, v1]) G Tryz.func206 (by kernel_rfl) (by kernel_rfl) (by kernel_rfl) (by kernel_rfl) (by kernel_rfl) (by kernel_rfl) (m206 h v0 v1 G r hr)
/-- (*coxswain/stack.held).ends -/
noncomputable def s207 (q : Bool) (e : Ex) (v0 v1 : Value) (G : GS) : Option (Value × GS) :=
  bP (pNil v0) fun x0 =>
  bP (fa Q q 286 5 7 x0) fun x1 =>
  bP (st Q q 4 1 x1 (.bool true) G) fun G2 =>
  bP (pNil v0) fun x3 =>
  bP (fa Q q 286 6 8 x3) fun x4 =>
  bP (st Q q 23 1 x4 v1 G2) fun G5 =>
  some (.tuple #[], G5)
theorem m207 {e : Ex} {E : Ev} (h : ExLe Q e E) (v0 v1 : Value) (G : GS) : Ref (s207 true e v0 v1 G) (s207 false (Ex.of E) v0 v1 G) := by
  unfold s207
  exact Ref.go
theorem f207 {orc : FuncId → Bool} {e : Ex} (h : ExLe Q e (E orc)) (v0 v1 : Value) (G : GS) : Ref (s207 true e v0 v1 G) ((E orc).cl 207 [v0, v1] G) :=
  fun r hr => cl_sxE_some Q orc (vs := [v0, v1]) G Tryz.func207 (by kernel_rfl) (by kernel_rfl) (by kernel_rfl) (by kernel_rfl) (by kernel_rfl) (by kernel_rfl) (m207 h v0 v1 G r hr)
/-- (*coxswain/stack.held).over -/
noncomputable def s208 (q : Bool) (e : Ex) (v0 : Value) (G : GS) : Option (Value × GS) :=
  bP (ep Q q false 369 (.tmp 3) (.const (.pointer none)) v0 (.pointer none)) fun x0 =>
  bS (gd x0 false (some (v0, G)) G) fun x1 G2 =>
  bS (gd x0 false (bP (pNil x1) fun y => some (y, G2)) G2) fun x3 G4 =>
  bS (gd x0 false (bP (fa Q q 286 4 6 x3) fun y => some (y, G4)) G4) fun x5 G6 =>
  bS (gd x0 false (bP (ld Q q 4 x5 G6) fun y => some (y, G6)) G6) fun x7 G8 =>
  bS (gd x0 false (bP (un Q q .not x7) fun y => some (y, G8)) G8) fun x9 G10 =>
  bP (pickV x0 (.bool true) x9) fun x11 =>
  bS (gd x11 false (some (v0, G10)) G10) fun x12 G13 =>
  bS (gd x11 false (bP (pNil x12) fun y => some (y, G13)) G13) fun x14 G15 =>
  bS (gd x11 false (bP (fa Q q 286 5 7 x14) fun y => some (y, G15)) G15) fun x16 G17 =>
  bS (gd x11 false (bP (ld Q q 4 x16 G17) fun y => some (y, G17)) G17) fun x18 G19 =>
  bP (pickV x11 (.bool true) x18) fun x20 =>
  some (x20, G19)
theorem m208 {e : Ex} {E : Ev} (h : ExLe Q e E) (v0 : Value) (G : GS) : Ref (s208 true e v0 G) (s208 false (Ex.of E) v0 G) := by
  unfold s208
  exact Ref.go
theorem f208 {orc : FuncId → Bool} {e : Ex} (h : ExLe Q e (E orc)) (v0 : Value) (G : GS) : Ref (s208 true e v0 G) ((E orc).cl 208 [v0] G) :=
  fun r hr => cl_sxE_some Q orc (vs := [v0]) G Tryz.func208 (by kernel_rfl) (by kernel_rfl) (by kernel_rfl) (by kernel_rfl) (by kernel_rfl) (by kernel_rfl) (m208 h v0 G r hr)
/-- (*coxswain/stack.held).index -/
noncomputable def s209 (q : Bool) (e : Ex) (v0 : Value) (G : GS) : Option (Value × GS) :=
  bS (e.ev.cl 227 [v0] G) fun x0 G1 =>
  bP (bn Q q .neq 23 (.tmp 7) (.const (.int .i64 0)) x0 (.int .i64 0)) fun x2 =>
  ifV x2 (
  some (.tuple #[(.int .i64 0), x0], G1)) (
  bP (pNil v0) fun x3 =>
  bP (fa Q q 286 2 4 x3) fun x4 =>
  bP (ld Q q 3 x4 G1) fun x5 =>
  some (.tuple #[x5, (.int .i64 0)], G1))
theorem m209 {e : Ex} {E : Ev} (h : ExLe Q e E) (v0 : Value) (G : GS) : Ref (s209 true e v0 G) (s209 false (Ex.of E) v0 G) := by
  unfold s209
  exact Ref.go
theorem f209 {orc : FuncId → Bool} {e : Ex} (h : ExLe Q e (E orc)) (v0 : Value) (G : GS) : Ref (s209 true e v0 G) ((E orc).cl 209 [v0] G) :=
  fun r hr => cl_sxE_some Q orc (vs := [v0]) G Tryz.func209 (by kernel_rfl) (by kernel_rfl) (by kernel_rfl) (by kernel_rfl) (by kernel_rfl) (by kernel_rfl) (m209 h v0 G r hr)
/-- coxswain/arena.gen -/
noncomputable def s210 (q : Bool) (e : Ex) (v0 : Value) (G : GS) : Option (Value × GS) :=
  bP (bn Q q .and 38 (.tmp 3) (.const (.int .u64 4294967295)) v0 (.int .u64 4294967295)) fun x0 =>
  bP (cv Q q 38 3 .u64 .i64 x0) fun x1 =>
  some (x1, G)
theorem m210 {e : Ex} {E : Ev} (h : ExLe Q e E) (v0 : Value) (G : GS) : Ref (s210 true e v0 G) (s210 false (Ex.of E) v0 G) := by
  unfold s210
  exact Ref.go
theorem f210 {orc : FuncId → Bool} {e : Ex} (h : ExLe Q e (E orc)) (v0 : Value) (G : GS) : Ref (s210 true e v0 G) ((E orc).cl 210 [v0] G) :=
  fun r hr => cl_sxE_some Q orc (vs := [v0]) G Tryz.func210 (by kernel_rfl) (by kernel_rfl) (by kernel_rfl) (by kernel_rfl) (by kernel_rfl) (by kernel_rfl) (m210 h v0 G r hr)
/-- coxswain/tower.refused -/
noncomputable def s211 (q : Bool) (e : Ex) (v0 v1 v2 v3 : Value) (G : GS) : Option (Value × GS) :=
  bS (bx q v0 G) fun x0 G1 =>
  bP (lda Q q 36 13 x0 G1) fun x2 =>
  bS (e.ev.cl 98 [x2] G1) fun x3 G4 =>
  bP (un Q q .not x3) fun x5 =>
  ifV x5 (
  some ((.int .i64 2), G4)) (
  bS (e.ev.cl 154 [v1] G4) fun x6 G7 =>
  bP (pExtract x6 0) fun x8 =>
  bP (pExtract x6 1) fun x9 =>
  bS (al Q q 258 z258 G7) fun x10 G11 =>
  bP (st Q q 258 3 x10 x8 G11) fun G12 =>
  bP (bn Q q .neq 23 (.tmp 20) (.const (.int .i64 0)) x9 (.int .i64 0)) fun x13 =>
  ifV x13 (
  some ((.int .i64 5), G12)) (
  bP (fa Q q 258 0 0 x10) fun x14 =>
  bP (ld Q q 3 x14 G12) fun x15 =>
  bP (bn Q q .lss 3 (.tmp 24) (.const (.int .i64 0)) x15 (.int .i64 0)) fun x16 =>
  bS (gd x16 false (bP (fa Q q 258 2 2 x10) fun y => some (y, G12)) G12) fun x17 G18 =>
  bS (gd x16 false (bP (ld Q q 4 x17 G18) fun y => some (y, G18)) G18) fun x19 G20 =>
  bP (pickV x16 (.bool true) x19) fun x21 =>
  bS (gd x21 false (bP (fa Q q 258 0 0 x10) fun y => some (y, G20)) G20) fun x22 G23 =>
  bS (gd x21 false (bP (ld Q q 3 x22 G23) fun y => some (y, G23)) G23) fun x24 G25 =>
  bS (gd x21 false (bP (fa Q q 36 3 3 x0) fun y => some (y, G25)) G25) fun x26 G27 =>
  bS (gd x21 false (bP (fa Q q 34 0 0 x26) fun y => some (y, G27)) G27) fun x28 G29 =>
  bS (gd x21 false (bP (fa Q q 30 0 0 x28) fun y => some (y, G29)) G29) fun x30 G31 =>
  bS (gd x21 false (bP (fa Q q 28 2 2 x30) fun y => some (y, G31)) G31) fun x32 G33 =>
  bS (gd x21 false (bP (ld Q q 3 x32 G33) fun y => some (y, G33)) G33) fun x34 G35 =>
  bS (gd x21 false (bP (bn Q q .geq 3 (.tmp 32) (.tmp 37) x24 x34) fun y => some (y, G35)) G35) fun x36 G37 =>
  bP (pickV x21 (.bool true) x36) fun x38 =>
  bS (gd x38 false (some (v2, G37)) G37) fun x39 G40 =>
  bS (gd x38 false (bP (bn Q q .lss 3 (.tmp 41) (.const (.int .i64 0)) x39 (.int .i64 0)) fun y => some (y, G40)) G40) fun x41 G42 =>
  bP (pickV x38 (.bool true) x41) fun x43 =>
  bS (gd x43 false (some (v2, G42)) G42) fun x44 G45 =>
  bS (gd x43 false (bP (bn Q q .gtr 3 (.tmp 45) (.const (.int .i64 65534)) x44 (.int .i64 65534)) fun y => some (y, G45)) G45) fun x46 G47 =>
  bP (pickV x43 (.bool true) x46) fun x48 =>
  bS (gd x48 false (some (v3, G47)) G47) fun x49 G50 =>
  bS (gd x48 false (bP (bn Q q .lss 3 (.tmp 49) (.const (.int .i64 1)) x49 (.int .i64 1)) fun y => some (y, G50)) G50) fun x51 G52 =>
  bP (pickV x48 (.bool true) x51) fun x53 =>
  bS (gd x53 false (some (v3, G52)) G52) fun x54 G55 =>
  bS (gd x53 false (bP (fa Q q 36 2 2 x0) fun y => some (y, G55)) G55) fun x56 G57 =>
  bS (gd x53 false (bP (ld Q q 3 x56 G57) fun y => some (y, G57)) G57) fun x58 G59 =>
  bS (gd x53 false (bP (bn Q q .gtr 3 (.tmp 53) (.tmp 55) x54 x58) fun y => some (y, G59)) G59) fun x60 G61 =>
  bP (pickV x53 (.bool true) x60) fun x62 =>
  ifV x62 (
  some ((.int .i64 3), G61)) (
  some ((.int .i64 0), G61))))
theorem m211 {e : Ex} {E : Ev} (h : ExLe Q e E) (v0 v1 v2 v3 : Value) (G : GS) : Ref (s211 true e v0 v1 v2 v3 G) (s211 false (Ex.of E) v0 v1 v2 v3 G) := by
  unfold s211
  exact Ref.go
theorem f211 {orc : FuncId → Bool} {e : Ex} (h : ExLe Q e (E orc)) (v0 v1 v2 v3 : Value) (G : GS) : Ref (s211 true e v0 v1 v2 v3 G) ((E orc).cl 211 [v0, v1, v2, v3] G) :=
  fun r hr => cl_sxE_some Q orc (vs := [v0, v1, v2, v3]) G Tryz.func211 (by kernel_rfl) (by kernel_rfl) (by kernel_rfl) (by kernel_rfl) (by kernel_rfl) (by kernel_rfl) (m211 h v0 v1 v2 v3 G r hr)
/-- coxswain/tower.NewLay$1 -/
noncomputable def s212 (q : Bool) (e : Ex) (v0 v1 v2 v3 : Value) (G : GS) : Option (Value × GS) :=
  bS (bx q v0 G) fun x0 G1 =>
  bS (bx q v1 G1) fun x2 G3 =>
  some ((.func (.func 213) #[] #[v2, v3, x0, x2]), G3)
theorem m212 {e : Ex} {E : Ev} (h : ExLe Q e E) (v0 v1 v2 v3 : Value) (G : GS) : Ref (s212 true e v0 v1 v2 v3 G) (s212 false (Ex.of E) v0 v1 v2 v3 G) := by
  unfold s212
  exact Ref.go
theorem f212 {orc : FuncId → Bool} {e : Ex} (h : ExLe Q e (E orc)) (v0 v1 v2 v3 : Value) (G : GS) : Ref (s212 true e v0 v1 v2 v3 G) ((E orc).cl 212 [v0, v1, v2, v3] G) :=
  fun r hr => cl_sxE_some Q orc (vs := [v0, v1, v2, v3]) G Tryz.func212 (by kernel_rfl) (by kernel_rfl) (by kernel_rfl) (by kernel_rfl) (by kernel_rfl) (by kernel_rfl) (m212 h v0 v1 v2 v3 G r hr)
/-- coxswain/tower.NewLay$1$1 -/
noncomputable def s213 (q : Bool) (e : Ex) (v0 v1 v2 v3 v4 : Value) (G : GS) : Option (Value × GS) :=
  bP (lda Q q 36 13 v1 (G.room 7)) fun x0 =>
  bP (ld Q q 3 v2 (G.room 7)) fun x1 =>
  bP (ld Q q 3 v3 (G.room 7)) fun x2 =>
  bS (e.ev.cl 87 [x0, x1, x2] (G.room 7)) fun x4 G3 =>
  bP (ld Q q 38 v4 G3) fun x5 =>
  chk ((sameO (ld Q q 38 v4 (G.room 7)) x5 && true)) <|
  bS (e.ev.cl 29 [v0, x4, x5] G3) fun x7 G6 =>
  some (.tuple #[], G6)
theorem m213 {e : Ex} {E : Ev} (h : ExLe Q e E) (v0 v1 v2 v3 v4 : Value) (G : GS) : Ref (s213 true e v0 v1 v2 v3 v4 G) (s213 false (Ex.of E) v0 v1 v2 v3 v4 G) := by
  unfold s213
  exact Ref.go
theorem f213 {orc : FuncId → Bool} {e : Ex} (h : ExLe Q e (E orc)) (v0 v1 v2 v3 v4 : Value) (G : GS) : Ref (s213 true e v0 v1 v2 v3 v4 G) ((E orc).cl 213 [v0, v1, v2, v3, v4] G) :=
  fun r hr => cl_sxE_some Q orc (vs := [v0, v1, v2, v3, v4]) G Tryz.func213 (by kernel_rfl) (by kernel_rfl) (by kernel_rfl) (by kernel_rfl) (by kernel_rfl) (by kernel_rfl) (m213 h v0 v1 v2 v3 v4 G r hr)
/-- coxswain/insert.refused -/
noncomputable def s214 (q : Bool) (e : Ex) (v0 v1 v2 : Value) (G : GS) : Option (Value × GS) :=
  bS (bx q v0 G) fun x0 G1 =>
  bP (lda Q q 36 13 x0 G1) fun x2 =>
  bS (e.ev.cl 87 [x2, (.int .i64 0), (.int .i64 0)] G1) fun x3 G4 =>
  bP (bn Q q .lss 3 (.tmp 10) (.const (.int .i64 0)) x3 (.int .i64 0)) fun x5 =>
  ifV x5 (
  some ((.int .i64 2), G4)) (
  bS (e.ev.cl 154 [v1] G4) fun x6 G7 =>
  bP (pExtract x6 0) fun x8 =>
  bP (pExtract x6 1) fun x9 =>
  bS (al Q q 258 z258 G7) fun x10 G11 =>
  bP (st Q q 258 3 x10 x8 G11) fun G12 =>
  bP (bn Q q .neq 23 (.tmp 18) (.const (.int .i64 0)) x9 (.int .i64 0)) fun x13 =>
  ifV x13 (
  some ((.int .i64 5), G12)) (
  bP (fa Q q 258 0 0 x10) fun x14 =>
  bP (ld Q q 3 x14 G12) fun x15 =>
  bP (bn Q q .lss 3 (.tmp 22) (.const (.int .i64 0)) x15 (.int .i64 0)) fun x16 =>
  bS (gd x16 false (bP (fa Q q 258 2 2 x10) fun y => some (y, G12)) G12) fun x17 G18 =>
  bS (gd x16 false (bP (ld Q q 4 x17 G18) fun y => some (y, G18)) G18) fun x19 G20 =>
  bP (pickV x16 (.bool true) x19) fun x21 =>
  bS (gd x21 false (bP (fa Q q 258 0 0 x10) fun y => some (y, G20)) G20) fun x22 G23 =>
  bS (gd x21 false (bP (ld Q q 3 x22 G23) fun y => some (y, G23)) G23) fun x24 G25 =>
  bS (gd x21 false (bP (fa Q q 36 3 3 x0) fun y => some (y, G25)) G25) fun x26 G27 =>
  bS (gd x21 false (bP (fa Q q 34 0 0 x26) fun y => some (y, G27)) G27) fun x28 G29 =>
  bS (gd x21 false (bP (fa Q q 30 0 0 x28) fun y => some (y, G29)) G29) fun x30 G31 =>
  bS (gd x21 false (bP (fa Q q 28 2 2 x30) fun y => some (y, G31)) G31) fun x32 G33 =>
  bS (gd x21 false (bP (ld Q q 3 x32 G33) fun y => some (y, G33)) G33) fun x34 G35 =>
  bS (gd x21 false (bP (bn Q q .geq 3 (.tmp 30) (.tmp 35) x24 x34) fun y => some (y, G35)) G35) fun x36 G37 =>
  bP (pickV x21 (.bool true) x36) fun x38 =>
  bS (gd x38 false (some (v2, G37)) G37) fun x39 G40 =>
  bS (gd x38 false (bP (bn Q q .lss 3 (.tmp 39) (.const (.int .i64 1)) x39 (.int .i64 1)) fun y => some (y, G40)) G40) fun x41 G42 =>
  bP (pickV x38 (.bool true) x41) fun x43 =>
  bS (gd x43 false (some (v2, G42)) G42) fun x44 G45 =>
  bS (gd x43 false (bP (fa Q q 36 2 2 x0) fun y => some (y, G45)) G45) fun x46 G47 =>
  bS (gd x43 false (bP (ld Q q 3 x46 G47) fun y => some (y, G47)) G47) fun x48 G49 =>
  bS (gd x43 false (bP (bn Q q .gtr 3 (.tmp 43) (.tmp 45) x44 x48) fun y => some (y, G49)) G49) fun x50 G51 =>
  bP (pickV x43 (.bool true) x50) fun x52 =>
  ifV x52 (
  some ((.int .i64 3), G51)) (
  some ((.int .i64 0), G51))))
theorem m214 {e : Ex} {E : Ev} (h : ExLe Q e E) (v0 v1 v2 : Value) (G : GS) : Ref (s214 true e v0 v1 v2 G) (s214 false (Ex.of E) v0 v1 v2 G) := by
  unfold s214
  exact Ref.go
theorem f214 {orc : FuncId → Bool} {e : Ex} (h : ExLe Q e (E orc)) (v0 v1 v2 : Value) (G : GS) : Ref (s214 true e v0 v1 v2 G) ((E orc).cl 214 [v0, v1, v2] G) :=
  fun r hr => cl_sxE_some Q orc (vs := [v0, v1, v2]) G Tryz.func214 (by kernel_rfl) (by kernel_rfl) (by kernel_rfl) (by kernel_rfl) (by kernel_rfl) (by kernel_rfl) (m214 h v0 v1 v2 G r hr)
/-- (*coxswain/insert.Insert).anew -/
noncomputable def s215 (q : Bool) (e : Ex) (v0 v1 : Value) (G : GS) : Option (Value × GS) :=
  bP (pNil v0) fun x0 =>
  bP (fa Q q 340 0 0 x0) fun x1 =>
  bP (lda Q q 36 13 x1 (G.room 13)) fun x2 =>
  bP (pNil v0) fun x3 =>
  bP (fa Q q 340 4 16 x3) fun x4 =>
  bP (ld Q q 38 x4 (G.room 13)) fun x5 =>
  bS (e.ev.cl 228 [x2, x5] (G.room 13)) fun x7 G6 =>
  bP (pNil v0) fun x8 =>
  bP (fa Q q 340 10 22 x8) fun x9 =>
  bP (st Q q 184 1 x9 x7 G6) fun G10 =>
  some (v1, G10)
theorem m215 {e : Ex} {E : Ev} (h : ExLe Q e E) (v0 v1 : Value) (G : GS) : Ref (s215 true e v0 v1 G) (s215 false (Ex.of E) v0 v1 G) := by
  unfold s215
  exact Ref.go
theorem f215 {orc : FuncId → Bool} {e : Ex} (h : ExLe Q e (E orc)) (v0 v1 : Value) (G : GS) : Ref (s215 true e v0 v1 G) ((E orc).cl 215 [v0, v1] G) :=
  fun r hr => cl_sxE_some Q orc (vs := [v0, v1]) G Tryz.func215 (by kernel_rfl) (by kernel_rfl) (by kernel_rfl) (by kernel_rfl) (by kernel_rfl) (by kernel_rfl) (m215 h v0 v1 G r hr)
/-- coxswain/epoch.NewAdvance -/
noncomputable def s216 (q : Bool) (e : Ex) (v0 v1 v2 : Value) (G : GS) : Option (Value × GS) :=
  bS (bx q v0 G) fun x0 G1 =>
  bP (bd Q q 231 z231 [(2, 4, 1)] [(.bool true)]) fun x2 =>
  bP (lda Q q 32 3 x0 G1) fun x3 =>
  bP (bd Q q 372 z372 [(0, 0, 6), (1, 6, 3), (2, 9, 1), (3, 10, 1)] [x2, x3, v1, v2]) fun x4 =>
  bS (bx q x4 G1) fun x5 G6 =>
  bP (lda Q q 32 3 x0 G6) fun x7 =>
  bS (e.ev.cl 134 [x7, v1] G6) fun x8 G9 =>
  ifV x8 (
  bP (pNil x5) fun x10 =>
  bP (fa Q q 372 0 0 x10) fun x11 =>
  bS (e.ev.cl 135 [x11, (.int .i64 3)] G9) fun x12 G13 =>
  some (x5, G13)) (
  bP (bd Q q 229 z229 [(0, 0, 1), (1, 1, 1), (2, 2, 1)] [(.func (.func 229) #[x5] #[]), (.func (.func 230) #[x5] #[]), (.func (.func 231) #[x5] #[])]) fun x14 =>
  bP (pNil x5) fun x15 =>
  bP (fa Q q 372 0 0 x15) fun x16 =>
  bP (fa Q q 231 0 0 x16) fun x17 =>
  bP (st Q q 229 3 x17 x14 G9) fun G18 =>
  some (x5, G18))
theorem m216 {e : Ex} {E : Ev} (h : ExLe Q e E) (v0 v1 v2 : Value) (G : GS) : Ref (s216 true e v0 v1 v2 G) (s216 false (Ex.of E) v0 v1 v2 G) := by
  unfold s216
  exact Ref.go
theorem f216 {orc : FuncId → Bool} {e : Ex} (h : ExLe Q e (E orc)) (v0 v1 v2 : Value) (G : GS) : Ref (s216 true e v0 v1 v2 G) ((E orc).cl 216 [v0, v1, v2] G) :=
  fun r hr => cl_sxE_some Q orc (vs := [v0, v1, v2]) G Tryz.func216 (by kernel_rfl) (by kernel_rfl) (by kernel_rfl) (by kernel_rfl) (by kernel_rfl) (by kernel_rfl) (m216 h v0 v1 v2 G r hr)
/-- coxswain/stack.NewAll -/
noncomputable def s217 (q : Bool) (e : Ex) (v0 : Value) (G : GS) : Option (Value × GS) :=
  bS (bx q v0 G) fun x0 G1 =>
  bP (lda Q q 28 3 x0 G1) fun x2 =>
  bP (bd Q q 286 z286 [(0, 0, 3), (4, 6, 1)] [x2, (.bool true)]) fun x3 =>
  bP (bd Q q 375 z375 [(0, 0, 9), (1, 9, 1)] [x3, (.func (.func 232) #[] #[])]) fun x4 =>
  bS (bx q x4 G1) fun x5 G6 =>
  some (x5, G6)
theorem m217 {e : Ex} {E : Ev} (h : ExLe Q e E) (v0 : Value) (G : GS) : Ref (s217 true e v0 G) (s217 false (Ex.of E) v0 G) := by
  unfold s217
  exact Ref.go
theorem f217 {orc : FuncId → Bool} {e : Ex} (h : ExLe Q e (E orc)) (v0 : Value) (G : GS) : Ref (s217 true e v0 G) ((E orc).cl 217 [v0] G) :=
  fun r hr => cl_sxE_some Q orc (vs := [v0]) G Tryz.func217 (by kernel_rfl) (by kernel_rfl) (by kernel_rfl) (by kernel_rfl) (by kernel_rfl) (by kernel_rfl) (m217 h v0 G r hr)
/-- (*coxswain/limbo.Collect).advances -/
noncomputable def s218 (q : Bool) (e : Ex) (v0 v1 : Value) (G : GS) : Option (Value × GS) :=
  bP (pNil v0) fun x0 =>
  bP (fa Q q 352 2 13 x0) fun x1 =>
  bP (ld Q q 346 x1 G) fun x2 =>
  bS (e.ev.cl 233 [x2, v1] G) fun x3 G4 =>
  bP (un Q q .not x3) fun x5 =>
  ifV x5 (
  some ((.func (.func 218) #[v0] #[]), G4)) (
  bP (pNil v0) fun x6 =>
  bP (fa Q q 352 2 13 x6) fun x7 =>
  bP (ld Q q 346 x7 G4) fun x8 =>
  bS (e.ev.cl 234 [x8] G4) fun x9 G10 =>
  bP (pNil v0) fun x11 =>
  bP (fa Q q 352 0 0 x11) fun x12 =>
  bP (fa Q q 345 2 2 x12) fun x13 =>
  bP (st Q q 23 1 x13 x9 G10) fun G14 =>
  bP (pNil v0) fun x15 =>
  bP (fa Q q 352 0 0 x15) fun x16 =>
  bP (fa Q q 345 2 2 x16) fun x17 =>
  bP (ld Q q 23 x17 G14) fun x18 =>
  bP (bn Q q .neq 23 (.tmp 27) (.const (.int .i64 0)) x18 (.int .i64 0)) fun x19 =>
  ifV x19 (
  some (.nilFunc, G14)) (
  some ((.func (.func 235) #[v0] #[]), G14)))
theorem m218 {e : Ex} {E : Ev} (h : ExLe Q e E) (v0 v1 : Value) (G : GS) : Ref (s218 true e v0 v1 G) (s218 false (Ex.of E) v0 v1 G) := by
  unfold s218
  exact Ref.go
theorem f218 {orc : FuncId → Bool} {e : Ex} (h : ExLe Q e (E orc)) (v0 v1 : Value) (G : GS) : Ref (s218 true e v0 v1 G) ((E orc).cl 218 [v0, v1] G) :=
  fun r hr => cl_sxE_some Q orc (vs := [v0, v1]) G Tryz.func218 (by kernel_rfl) (by kernel_rfl) (by kernel_rfl) (by kernel_rfl) (by kernel_rfl) (by kernel_rfl) (m218 h v0 v1 G r hr)
/-- coxswain/stack.sized -/
noncomputable def s219 (q : Bool) (e : Ex) (v0 : Value) (G : GS) : Option (Value × GS) :=
  bS (bx q v0 G) fun x0 G1 =>
  bP (fa Q q 28 2 2 x0) fun x2 =>
  bP (ld Q q 3 x2 G1) fun x3 =>
  bP (bn Q q .geq 3 (.tmp 4) (.const (.int .i64 1)) x3 (.int .i64 1)) fun x4 =>
  bS (gd x4 true (bP (fa Q q 28 2 2 x0) fun y => some (y, G1)) G1) fun x5 G6 =>
  bS (gd x4 true (bP (ld Q q 3 x5 G6) fun y => some (y, G6)) G6) fun x7 G8 =>
  bS (gd x4 true (bP (bn Q q .leq 3 (.tmp 8) (.const (.int .i64 4096)) x7 (.int .i64 4096)) fun y => some (y, G8)) G8) fun x9 G10 =>
  bP (pickV x4 x9 (.bool false)) fun x11 =>
  some (x11, G10)
theorem m219 {e : Ex} {E : Ev} (h : ExLe Q e E) (v0 : Value) (G : GS) : Ref (s219 true e v0 G) (s219 false (Ex.of E) v0 G) := by
  unfold s219
  exact Ref.go
theorem f219 {orc : FuncId → Bool} {e : Ex} (h : ExLe Q e (E orc)) (v0 : Value) (G : GS) : Ref (s219 true e v0 G) ((E orc).cl 219 [v0] G) :=
  fun r hr => cl_sxE_some Q orc (vs := [v0]) G Tryz.func219 (by kernel_rfl) (by kernel_rfl) (by kernel_rfl) (by kernel_rfl) (by kernel_rfl) (by kernel_rfl) (m219 h v0 G r hr)
/-- coxswain/stack.link -/
noncomputable def s220 (q : Bool) (e : Ex) (v0 : Value) (G : GS) : Option (Value × GS) :=
  bP (bd Q q 357 z357 [(0, 0, 1)] [v0]) fun x0 =>
  bS (e.ev.cl 236 [x0] G) fun x1 G2 =>
  bP (pExtract x1 0) fun x3 =>
  bP (pExtract x1 1) fun x4 =>
  some (x3, G2)
theorem m220 {e : Ex} {E : Ev} (h : ExLe Q e E) (v0 : Value) (G : GS) : Ref (s220 true e v0 G) (s220 false (Ex.of E) v0 G) := by
  unfold s220
  exact Ref.go
theorem f220 {orc : FuncId → Bool} {e : Ex} (h : ExLe Q e (E orc)) (v0 : Value) (G : GS) : Ref (s220 true e v0 G) ((E orc).cl 220 [v0] G) :=
  fun r hr => cl_sxE_some Q orc (vs := [v0]) G Tryz.func220 (by kernel_rfl) (by kernel_rfl) (by kernel_rfl) (by kernel_rfl) (by kernel_rfl) (by kernel_rfl) (m220 h v0 G r hr)
/-- coxswain/word.GetTop -/
noncomputable def s221 (q : Bool) (e : Ex) (v0 : Value) (G : GS) : Option (Value × GS) :=
  bS (al Q q 357 z357 G) fun x0 G1 =>
  bS (e.ev.cl 237 [] G1) fun x2 G3 =>
  bS (al Q q 320 z320 G3) fun x4 G5 =>
  bP (st Q q 320 4 x4 x2 G5) fun G6 =>
  bP (iaa Q q 320 2 2 x4 (.int .i64 0)) fun x7 =>
  bP (lda Q q 319 2 x7 (G6.room 12)) fun x8 =>
  bS (e.ev.cl 196 [v0, x8] (G6.room 12)) fun x10 G9 =>
  bP (bn Q q .sub 3 (.tmp 9) (.const (.int .i64 1)) x10 (.int .i64 1)) fun x11 =>
  bP (iaa Q q 320 2 2 x4 (.int .i64 1)) fun x12 =>
  bP (lda Q q 319 2 x12 G9) fun x13 =>
  chk ((sameO (lda Q q 319 2 x12 (G6.room 12)) x13 && true)) <|
  bS (e.ev.cl 196 [v0, x13] G9) fun x15 G14 =>
  bP (bd Q q 357 z357 [(0, 0, 1), (1, 1, 1)] [x11, x15]) fun x16 =>
  bP (st Q q 357 2 x0 x16 G14) fun G17 =>
  bP (lda Q q 357 2 x0 G17) fun x18 =>
  some (.tuple #[x18, (.int .i64 0)], G17)
theorem m221 {e : Ex} {E : Ev} (h : ExLe Q e E) (v0 : Value) (G : GS) : Ref (s221 true e v0 G) (s221 false (Ex.of E) v0 G) := by
  unfold s221
  exact Ref.go
theorem f221 {orc : FuncId → Bool} {e : Ex} (h : ExLe Q e (E orc)) (v0 : Value) (G : GS) : Ref (s221 true e v0 G) ((E orc).cl 221 [v0] G) :=
  fun r hr => cl_sxE_some Q orc (vs := [v0]) G Tryz.func221 (by kernel_rfl) (by kernel_rfl) (by kernel_rfl) (by kernel_rfl) (by kernel_rfl) (by kernel_rfl) (m221 h v0 G r hr)
noncomputable def b222_0 (q : Bool) (e : Ex) (lp : Env → GS → Option (Exit × Env × GS)) (τ : Env) (G : GS) : Option (Exit × Env × GS) :=
  bV q (τ 5) fun a5_ =>
  bV q (τ 6) fun a6_ =>
  bV q (τ 7) fun a7_ =>
  bP (bn Q q .lss 3 (.tmp 7) (.tmp 6) a7_ a6_) fun x0 =>
  ifV x0 (
  bP (ias Q q 377 3 a5_ a7_) fun x1 =>
  bP (lda Q q 362 3 x1 G) fun x2 =>
  bS (al Q q 362 z362 G) fun x3 G4 =>
  bP (st Q q 362 3 x3 x2 G4) fun G5 =>
  bP (fa Q q 362 0 0 x3) fun x6 =>
  bP (ld Q q 3 x6 G5) fun x7 =>
  bP (fa Q q 362 1 1 x3) fun x8 =>
  bP (ld Q q 3 x8 G5) fun x9 =>
  bP (bn Q q .lss 3 (.tmp 12) (.tmp 14) x7 x9) fun x10 =>
  bS (gd x10 false (bP (fa Q q 362 0 0 x3) fun y => some (y, G5)) G5) fun x11 G12 =>
  bS (gd x10 false (bP (ld Q q 3 x11 G12) fun y => some (y, G12)) G12) fun x13 G14 =>
  bS (gd x10 false (bP (fa Q q 362 2 2 x3) fun y => some (y, G14)) G14) fun x15 G16 =>
  bS (gd x10 false (bP (ld Q q 3 x15 G16) fun y => some (y, G16)) G16) fun x17 G18 =>
  bS (gd x10 false (bP (bn Q q .gtr 3 (.tmp 18) (.tmp 20) x13 x17) fun y => some (y, G18)) G18) fun x19 G20 =>
  bP (pickV x10 (.bool true) x19) fun x21 =>
  ifV x21 (
  some (.ret, clq q 24 (tu τ [(5, a5_), (6, a6_), (7, a7_), (2, (.bool false)), (4, x3), (8, x0), (9, x1), (10, x2), (11, x6), (12, x7), (13, x8), (14, x9), (15, x10), (16, x10), (17, x11), (18, x13), (19, x15), (20, x17), (21, x19), (22, x21)]), G20)) (
  bP (bn Q q .add 3 (.tmp 7) (.const (.int .i64 1)) a7_ (.int .i64 1)) fun x22 =>
  lp (tu τ [(5, a5_), (6, a6_), (7, x22), (4, x3), (8, x0), (9, x1), (10, x2), (11, x6), (12, x7), (13, x8), (14, x9), (15, x10), (16, x10), (17, x11), (18, x13), (19, x15), (20, x17), (21, x19), (22, x21), (23, x22)]) G20)) (
  some ((.exit 0), clq q 24 (tu τ [(5, a5_), (6, a6_), (7, a7_), (8, x0)]), G))
theorem mb222_0 {e : Ex} {E : Ev} (h : ExLe Q e E) {lp lp' : Env → GS → Option (Exit × Env × GS)} (hlp : LpLe lp lp') (τ : Env) (G : GS) : Ref (b222_0 true e lp τ G) (b222_0 false (Ex.of E) lp' τ G) := by
  unfold b222_0
  exact Ref.go
theorem l222_0 {orc : FuncId → Bool} {e : Ex} (h : ExLe Q e (E orc)) (lp : Env → GS → Option (Exit × Env × GS)) (hlp : ∀ τ G, Ref (lp τ G) (mapE ((E orc).lp (subAt [1, 0, 1, 0, 0] (bodyOf Tryz.f222)) (lst 24 τ) G))) (T : List Value) (G : GS) (hT : T.length = 24) : Ref (b222_0 true e lp (nth undef T) G) (mapE ((E orc).lp (subAt [1, 0, 1, 0, 0] (bodyOf Tryz.f222)) T G)) :=
  fun r hr => lp_sxM Q orc G hT (by kernel_rfl) (mb222_0 h ⟨hlp⟩ _ _ r hr)
/-- coxswain/word.within -/
noncomputable def s222 (q : Bool) (e : Ex) (v0 : Value) (G : GS) : Option (Value × GS) :=
  bP (ln Q q 377 v0) fun x0 =>
  bL q e 222 0 (subAt [1, 0, 1, 0, 0] (bodyOf Tryz.f222)) 24 (tu (nth undef [v0]) [(2, (.bool false)), (5, v0), (6, x0), (7, (.int .i64 0))]) G fun e1 t2 G3 =>
  bV q (t2 2) fun t2x2_ =>
  ifE e1 (.exit 0) (
  some ((.bool true), G3)) (ifE e1 .ret (
  some (t2x2_, G3)) (none))
theorem m222 {e : Ex} {E : Ev} (h : ExLe Q e E) (v0 : Value) (G : GS) : Ref (s222 true e v0 G) (s222 false (Ex.of E) v0 G) := by
  unfold s222
  exact Ref.go
theorem f222 {orc : FuncId → Bool} {e : Ex} (h : ExLe Q e (E orc)) (v0 : Value) (G : GS) : Ref (s222 true e v0 G) ((E orc).cl 222 [v0] G) :=
  fun r hr => cl_sxE_some Q orc (vs := [v0]) G Tryz.func222 (by kernel_rfl) (by kernel_rfl) (by kernel_rfl) (by kernel_rfl) (by kernel_rfl) (by kernel_rfl) (m222 h v0 G r hr)
/-- coxswain/word.Marks -/
noncomputable def s223 (q : Bool) (e : Ex) (v0 v1 : Value) (G : GS) : Option (Value × GS) :=
  ifV v1 (
  bP (bn Q q .or 38 (.tmp 6) (.const (.int .u64 9223372036854775808)) v0 (.int .u64 9223372036854775808)) fun x0 =>
  some (x0, G)) (
  bP (bn Q q .andNot 38 (.tmp 8) (.const (.int .u64 9223372036854775808)) v0 (.int .u64 9223372036854775808)) fun x1 =>
  some (x1, G))
theorem m223 {e : Ex} {E : Ev} (h : ExLe Q e E) (v0 v1 : Value) (G : GS) : Ref (s223 true e v0 v1 G) (s223 false (Ex.of E) v0 v1 G) := by
  unfold s223
  exact Ref.go
theorem f223 {orc : FuncId → Bool} {e : Ex} (h : ExLe Q e (E orc)) (v0 v1 : Value) (G : GS) : Ref (s223 true e v0 v1 G) ((E orc).cl 223 [v0, v1] G) :=
  fun r hr => cl_sxE_some Q orc (vs := [v0, v1]) G Tryz.func223 (by kernel_rfl) (by kernel_rfl) (by kernel_rfl) (by kernel_rfl) (by kernel_rfl) (by kernel_rfl) (m223 h v0 v1 G r hr)
noncomputable def b224_0 (q : Bool) (e : Ex) (lp : Env → GS → Option (Exit × Env × GS)) (τ : Env) (G : GS) : Option (Exit × Env × GS) :=
  bV q (τ 1) fun a1_ =>
  bV q (τ 5) fun a5_ =>
  bV q (τ 8) fun a8_ =>
  bV q (τ 9) fun a9_ =>
  bV q (τ 10) fun a10_ =>
  bP (bn Q q .lss 3 (.tmp 10) (.tmp 9) a10_ a9_) fun x0 =>
  ifV x0 (
  bP (ias Q q 365 2 a8_ a10_) fun x1 =>
  bP (lda Q q 319 2 x1 G) fun x2 =>
  bS (al Q q 319 z319 G) fun x3 G4 =>
  bP (st Q q 319 2 x3 x2 G4) fun G5 =>
  bP (lda Q q 319 2 x3 (G5.room 8)) fun x6 =>
  bP (ias Q q 139 1 a1_ a10_) fun x7 =>
  bP (ld Q q 3 x7 (G5.room 8)) fun x8 =>
  bS (e.ev.cl 238 [a5_, x6, x8] (G5.room 8)) fun x10 G9 =>
  bP (bn Q q .add 3 (.tmp 10) (.const (.int .i64 1)) a10_ (.int .i64 1)) fun x11 =>
  lp (tu τ [(1, a1_), (5, x10), (8, a8_), (9, a9_), (10, x11), (6, a10_), (7, x3), (11, x0), (12, a10_), (13, x1), (14, x2), (15, a5_), (16, x6), (17, a1_), (18, a10_), (19, x7), (20, x8), (21, x10), (22, x11)]) G9) (
  some ((.exit 0), clq q 24 (tu τ [(1, a1_), (5, a5_), (8, a8_), (9, a9_), (10, a10_), (11, x0)]), G))
theorem mb224_0 {e : Ex} {E : Ev} (h : ExLe Q e E) {lp lp' : Env → GS → Option (Exit × Env × GS)} (hlp : LpLe lp lp') (τ : Env) (G : GS) : Ref (b224_0 true e lp τ G) (b224_0 false (Ex.of E) lp' τ G) := by
  unfold b224_0
  exact Ref.go
theorem l224_0 {orc : FuncId → Bool} {e : Ex} (h : ExLe Q e (E orc)) (lp : Env → GS → Option (Exit × Env × GS)) (hlp : ∀ τ G, Ref (lp τ G) (mapE ((E orc).lp (subAt [1, 1, 0, 1, 0, 0] (bodyOf Tryz.f224)) (lst 24 τ) G))) (T : List Value) (G : GS) (hT : T.length = 24) : Ref (b224_0 true e lp (nth undef T) G) (mapE ((E orc).lp (subAt [1, 1, 0, 1, 0, 0] (bodyOf Tryz.f224)) T G)) :=
  fun r hr => lp_sxM Q orc G hT (by kernel_rfl) (mb224_0 h ⟨hlp⟩ _ _ r hr)
/-- coxswain/word.lay -/
noncomputable def s224 (q : Bool) (e : Ex) (v0 v1 : Value) (G : GS) : Option (Value × GS) :=
  bP (ln Q q 365 v0) fun x0 =>
  bL q e 224 0 (subAt [1, 1, 0, 1, 0, 0] (bodyOf Tryz.f224)) 24 (tu (nth undef [v0, v1]) [(4, (.int .u64 0)), (5, (.int .u64 0)), (8, v0), (9, x0), (10, (.int .i64 0))]) G fun e1 t2 G3 =>
  bV q (t2 5) fun t2x5_ =>
  ifE e1 (.exit 0) (
  some (t2x5_, G3)) (none)
theorem m224 {e : Ex} {E : Ev} (h : ExLe Q e E) (v0 v1 : Value) (G : GS) : Ref (s224 true e v0 v1 G) (s224 false (Ex.of E) v0 v1 G) := by
  unfold s224
  exact Ref.go
theorem f224 {orc : FuncId → Bool} {e : Ex} (h : ExLe Q e (E orc)) (v0 v1 : Value) (G : GS) : Ref (s224 true e v0 v1 G) ((E orc).cl 224 [v0, v1] G) :=
  fun r hr => cl_sxE_some Q orc (vs := [v0, v1]) G Tryz.func224 (by kernel_rfl) (by kernel_rfl) (by kernel_rfl) (by kernel_rfl) (by kernel_rfl) (by kernel_rfl) (m224 h v0 v1 G r hr)
/-- slices.order2CmpFunc[uint64] -/
noncomputable def s225 (q : Bool) (e : Ex) (v0 v1 v2 v3 v4 : Value) (G : GS) : Option (Value × GS) :=
  bP (ias Q q 90 1 v0 v2) fun x0 =>
  bP (ld Q q 38 x0 (G.room 11)) fun x1 =>
  bP (ias Q q 90 1 v0 v1) fun x2 =>
  bP (ld Q q 38 x2 (G.room 11)) fun x3 =>
  bS (cValue e.ev v4 [x1, x3] (G.room 11)) fun x5 G4 =>
  bP (bn Q q .lss 3 (.tmp 21) (.const (.int .i64 0)) x5 (.int .i64 0)) fun x6 =>
  ifV x6 (
  bP (pNil v3) fun x7 =>
  bP (ld Q q 3 x7 G4) fun x8 =>
  bP (bn Q q .add 3 (.tmp 25) (.const (.int .i64 1)) x8 (.int .i64 1)) fun x9 =>
  bP (pNil v3) fun x10 =>
  bP (st Q q 3 1 x10 x9 G4) fun G11 =>
  some (.tuple #[v2, v1], G11)) (
  some (.tuple #[v1, v2], G4))
theorem m225 {e : Ex} {E : Ev} (h : ExLe Q e E) (v0 v1 v2 v3 v4 : Value) (G : GS) : Ref (s225 true e v0 v1 v2 v3 v4 G) (s225 false (Ex.of E) v0 v1 v2 v3 v4 G) := by
  unfold s225
  exact Ref.go
theorem f225 {orc : FuncId → Bool} {e : Ex} (h : ExLe Q e (E orc)) (v0 v1 v2 v3 v4 : Value) (G : GS) : Ref (s225 true e v0 v1 v2 v3 v4 G) ((E orc).cl 225 [v0, v1, v2, v3, v4] G) :=
  fun r hr => cl_sxE_some Q orc (vs := [v0, v1, v2, v3, v4]) G Tryz.func225 (by kernel_rfl) (by kernel_rfl) (by kernel_rfl) (by kernel_rfl) (by kernel_rfl) (by kernel_rfl) (m225 h v0 v1 v2 v3 v4 G r hr)
/-- (*coxswain/stack.Pop).third -/
noncomputable def s226 (q : Bool) (e : Ex) (v0 v1 : Value) (G : GS) : Option (Value × GS) :=
  bP (pNil v0) fun x0 =>
  bP (fa Q q 289 1 9 x0) fun x1 =>
  bP (st Q q 287 1 x1 (.func (.func 174) #[] #[]) G) fun G2 =>
  bP (pNil v0) fun x3 =>
  bP (fa Q q 289 0 0 x3) fun x4 =>
  bP (pNil v0) fun x5 =>
  bP (fa Q q 289 0 0 x5) fun x6 =>
  bP (fa Q q 286 3 5 x6) fun x7 =>
  bP (ld Q q 3 x7 (G2.room 10)) fun x8 =>
  bS (e.ev.cl 239 [x4, v1, x8] (G2.room 10)) fun x10 G9 =>
  ifV x10 (
  bP (pNil v0) fun x11 =>
  bP (fa Q q 289 0 0 x11) fun x12 =>
  bS (e.ev.cl 207 [x12, (.int .i64 0)] G9) fun x13 G14 =>
  some (.tuple #[], G14)) (
  some (.tuple #[], G9))
theorem m226 {e : Ex} {E : Ev} (h : ExLe Q e E) (v0 v1 : Value) (G : GS) : Ref (s226 true e v0 v1 G) (s226 false (Ex.of E) v0 v1 G) := by
  unfold s226
  exact Ref.go
theorem f226 {orc : FuncId → Bool} {e : Ex} (h : ExLe Q e (E orc)) (v0 v1 : Value) (G : GS) : Ref (s226 true e v0 v1 G) ((E orc).cl 226 [v0, v1] G) :=
  fun r hr => cl_sxE_some Q orc (vs := [v0, v1]) G Tryz.func226 (by kernel_rfl) (by kernel_rfl) (by kernel_rfl) (by kernel_rfl) (by kernel_rfl) (by kernel_rfl) (m226 h v0 v1 G r hr)
/-- (*coxswain/stack.held).told -/
noncomputable def s227 (q : Bool) (e : Ex) (v0 : Value) (G : GS) : Option (Value × GS) :=
  bP (ep Q q false 369 (.tmp 4) (.const (.pointer none)) v0 (.pointer none)) fun x0 =>
  bS (gd x0 false (some (v0, G)) G) fun x1 G2 =>
  bS (gd x0 false (bP (pNil x1) fun y => some (y, G2)) G2) fun x3 G4 =>
  bS (gd x0 false (bP (fa Q q 286 4 6 x3) fun y => some (y, G4)) G4) fun x5 G6 =>
  bS (gd x0 false (bP (ld Q q 4 x5 G6) fun y => some (y, G6)) G6) fun x7 G8 =>
  bS (gd x0 false (bP (un Q q .not x7) fun y => some (y, G8)) G8) fun x9 G10 =>
  bP (pickV x0 (.bool true) x9) fun x11 =>
  ifV x11 (
  some ((.int .i64 1), G10)) (
  bP (pNil v0) fun x12 =>
  bP (fa Q q 286 5 7 x12) fun x13 =>
  bP (ld Q q 4 x13 G10) fun x14 =>
  bP (un Q q .not x14) fun x15 =>
  ifV x15 (
  some ((.int .i64 14), G10)) (
  bP (pNil v0) fun x16 =>
  bP (fa Q q 286 6 8 x16) fun x17 =>
  bP (ld Q q 23 x17 G10) fun x18 =>
  some (x18, G10)))
theorem m227 {e : Ex} {E : Ev} (h : ExLe Q e E) (v0 : Value) (G : GS) : Ref (s227 true e v0 G) (s227 false (Ex.of E) v0 G) := by
  unfold s227
  exact Ref.go
theorem f227 {orc : FuncId → Bool} {e : Ex} (h : ExLe Q e (E orc)) (v0 : Value) (G : GS) : Ref (s227 true e v0 G) ((E orc).cl 227 [v0] G) :=
  fun r hr => cl_sxE_some Q orc (vs := [v0]) G Tryz.func227 (by kernel_rfl) (by kernel_rfl) (by kernel_rfl) (by kernel_rfl) (by kernel_rfl) (by kernel_rfl) (m227 h v0 G r hr)
/-- coxswain/find.NewFind -/
noncomputable def s228 (q : Bool) (e : Ex) (v0 v1 : Value) (G : GS) : Option (Value × GS) :=
  bS (bx q v0 G) fun x0 G1 =>
  bP (lda Q q 36 13 x0 G1) fun x2 =>
  bP (bd Q q 384 z384 [(0, 0, 13), (1, 13, 1), (7, 22, 1)] [x2, v1, (.bool true)]) fun x3 =>
  bS (bx q x3 G1) fun x4 G5 =>
  bP (lda Q q 36 13 x0 G5) fun x6 =>
  bS (e.ev.cl 100 [x6, (.int .i64 (-1)), (.int .i64 0)] G5) fun x7 G8 =>
  bP (bn Q q .lss 3 (.tmp 11) (.const (.int .i64 0)) x7 (.int .i64 0)) fun x9 =>
  ifV x9 (
  bP (pNil x4) fun x10 =>
  bP (fa Q q 384 2 14 x10) fun x11 =>
  bP (st Q q 3 1 x11 (.int .i64 9) G8) fun G12 =>
  bP (pNil x4) fun x13 =>
  bP (fa Q q 384 8 23 x13) fun x14 =>
  bP (st Q q 23 1 x14 (.int .i64 2) G12) fun G15 =>
  some (x4, G15)) (
  bP (fa Q q 36 2 2 x0) fun x16 =>
  bP (ld Q q 3 x16 G8) fun x17 =>
  bS (mk Q q 382 4 32 z381 x17 x17 G8) fun x18 G19 =>
  bP (pNil x4) fun x20 =>
  bP (fa Q q 384 5 20 x20) fun x21 =>
  bP (st Q q 382 1 x21 x18 G19) fun G22 =>
  bS (e.ev.cl 240 [x4] G22) fun x23 G24 =>
  some (x4, G24))
theorem m228 {e : Ex} {E : Ev} (h : ExLe Q e E) (v0 v1 : Value) (G : GS) : Ref (s228 true e v0 v1 G) (s228 false (Ex.of E) v0 v1 G) := by
  unfold s228
  exact Ref.go
theorem f228 {orc : FuncId → Bool} {e : Ex} (h : ExLe Q e (E orc)) (v0 v1 : Value) (G : GS) : Ref (s228 true e v0 v1 G) ((E orc).cl 228 [v0, v1] G) :=
  fun r hr => cl_sxE_some Q orc (vs := [v0, v1]) G Tryz.func228 (by kernel_rfl) (by kernel_rfl) (by kernel_rfl) (by kernel_rfl) (by kernel_rfl) (by kernel_rfl) (m228 h v0 v1 G r hr)
/-- (*coxswain/epoch.Advance).load -/
noncomputable def s229 (q : Bool) (e : Ex) (v0 v1 : Value) (G : GS) : Option (Value × GS) :=
  bP (pNil v0) fun x0 =>
  bP (fa Q q 372 1 6 x0) fun x1 =>
  bP (fa Q q 32 0 0 x1) fun x2 =>
  bP (ld Q q 3 x2 G) fun x3 =>
  bS (e.ev.cl 120 [v1, x3] G) fun x4 G5 =>
  bP (pNil v0) fun x6 =>
  bP (fa Q q 372 4 11 x6) fun x7 =>
  bP (st Q q 38 1 x7 x4 G5) fun G8 =>
  bP (pNil v0) fun x9 =>
  bP (fa Q q 372 4 11 x9) fun x10 =>
  bP (ld Q q 38 x10 (G8.room 11)) fun x11 =>
  bP (cv Q q 38 233 .u64 .u32 x11) fun x12 =>
  bP (cv Q q 233 3 .u32 .i64 x12) fun x13 =>
  bP (pNil v0) fun x14 =>
  bP (fa Q q 372 3 10 x14) fun x15 =>
  bP (ld Q q 3 x15 (G8.room 11)) fun x16 =>
  bP (bn Q q .neq 3 (.tmp 19) (.tmp 23) x13 x16) fun x17 =>
  ifV x17 (
  bP (pNil v0) fun x18 =>
  bP (fa Q q 372 0 0 x18) fun x19 =>
  bS (e.ev.cl 135 [x19, (.int .i64 14)] (G8.room 11)) fun x20 G21 =>
  some (.tuple #[], G21)) (
  bS (e.ev.cl 241 [v0, (.int .i64 0)] (G8.room 11)) fun x22 G23 =>
  some (.tuple #[], G23))
theorem m229 {e : Ex} {E : Ev} (h : ExLe Q e E) (v0 v1 : Value) (G : GS) : Ref (s229 true e v0 v1 G) (s229 false (Ex.of E) v0 v1 G) := by
  unfold s229
  exact Ref.go
theorem f229 {orc : FuncId → Bool} {e : Ex} (h : ExLe Q e (E orc)) (v0 v1 : Value) (G : GS) : Ref (s229 true e v0 v1 G) ((E orc).cl 229 [v0, v1] G) :=
  fun r hr => cl_sxE_some Q orc (vs := [v0, v1]) G Tryz.func229 (by kernel_rfl) (by kernel_rfl) (by kernel_rfl) (by kernel_rfl) (by kernel_rfl) (by kernel_rfl) (m229 h v0 v1 G r hr)
/-- (*coxswain/epoch.Advance).look -/
noncomputable def s230 (q : Bool) (e : Ex) (v0 v1 : Value) (G : GS) : Option (Value × GS) :=
  bP (pNil v0) fun x0 =>
  bP (fa Q q 372 1 6 x0) fun x1 =>
  bP (fa Q q 32 1 1 x1) fun x2 =>
  bP (ld Q q 3 x2 (G.room 13)) fun x3 =>
  bP (pNil v0) fun x4 =>
  bP (fa Q q 372 5 12 x4) fun x5 =>
  bP (ld Q q 3 x5 (G.room 13)) fun x6 =>
  bP (bn Q q .add 3 (.tmp 10) (.tmp 14) x3 x6) fun x7 =>
  bS (e.ev.cl 120 [v1, x7] (G.room 13)) fun x9 G8 =>
  bP (bn Q q .neq 38 (.tmp 17) (.const (.int .u64 0)) x9 (.int .u64 0)) fun x10 =>
  bS (gd x10 true (some (x9, G8)) G8) fun x11 G12 =>
  bS (gd x10 true (some (v0, G12)) G12) fun x13 G14 =>
  bS (gd x10 true (bP (pNil x13) fun y => some (y, G14)) G14) fun x15 G16 =>
  bS (gd x10 true (bP (fa Q q 372 4 11 x15) fun y => some (y, G16)) G16) fun x17 G18 =>
  bS (gd x10 true (bP (ld Q q 38 x17 G18) fun y => some (y, G18)) G18) fun x19 G20 =>
  bS (gd x10 true (bP (cv Q q 38 233 .u64 .u32 x19) fun y => some (y, G20)) G20) fun x21 G22 =>
  bS (gd x10 true (bP (cv Q q 233 38 .u32 .u64 x21) fun y => some (y, G22)) G22) fun x23 G24 =>
  bS (gd x10 true (bP (bn Q q .add 38 (.tmp 26) (.const (.int .u64 1)) x23 (.int .u64 1)) fun y => some (y, G24)) G24) fun x25 G26 =>
  bS (gd x10 true (bP (bn Q q .neq 38 (.tmp 20) (.tmp 27) x11 x25) fun y => some (y, G26)) G26) fun x27 G28 =>
  bP (pickV x10 x27 (.bool false)) fun x29 =>
  ifV x29 (
  bP (pNil v0) fun x30 =>
  bP (fa Q q 372 0 0 x30) fun x31 =>
  bS (e.ev.cl 135 [x31, (.int .i64 14)] G28) fun x32 G33 =>
  some (.tuple #[], G33)) (
  bP (pNil v0) fun x34 =>
  bP (fa Q q 372 5 12 x34) fun x35 =>
  bP (ld Q q 3 x35 G28) fun x36 =>
  bP (bn Q q .add 3 (.tmp 38) (.const (.int .i64 1)) x36 (.int .i64 1)) fun x37 =>
  bS (e.ev.cl 241 [v0, x37] G28) fun x38 G39 =>
  some (.tuple #[], G39))
theorem m230 {e : Ex} {E : Ev} (h : ExLe Q e E) (v0 v1 : Value) (G : GS) : Ref (s230 true e v0 v1 G) (s230 false (Ex.of E) v0 v1 G) := by
  unfold s230
  exact Ref.go
theorem f230 {orc : FuncId → Bool} {e : Ex} (h : ExLe Q e (E orc)) (v0 v1 : Value) (G : GS) : Ref (s230 true e v0 v1 G) ((E orc).cl 230 [v0, v1] G) :=
  fun r hr => cl_sxE_some Q orc (vs := [v0, v1]) G Tryz.func230 (by kernel_rfl) (by kernel_rfl) (by kernel_rfl) (by kernel_rfl) (by kernel_rfl) (by kernel_rfl) (m230 h v0 v1 G r hr)
/-- (*coxswain/epoch.Advance).swap -/
noncomputable def s231 (q : Bool) (e : Ex) (v0 v1 : Value) (G : GS) : Option (Value × GS) :=
  bP (pNil v0) fun x0 =>
  bP (fa Q q 372 0 0 x0) fun x1 =>
  bS (e.ev.cl 135 [x1, (.int .i64 14)] G) fun x2 G3 =>
  bP (pNil v0) fun x4 =>
  bP (fa Q q 372 1 6 x4) fun x5 =>
  bP (fa Q q 32 0 0 x5) fun x6 =>
  bP (ld Q q 3 x6 (G3.room 18)) fun x7 =>
  bP (pNil v0) fun x8 =>
  bP (fa Q q 372 4 11 x8) fun x9 =>
  bP (ld Q q 38 x9 (G3.room 18)) fun x10 =>
  bP (pNil v0) fun x11 =>
  bP (fa Q q 372 4 11 x11) fun x12 =>
  bP (ld Q q 38 x12 (G3.room 18)) fun x13 =>
  bP (cv Q q 38 233 .u64 .u32 x13) fun x14 =>
  bP (cv Q q 233 38 .u32 .u64 x14) fun x15 =>
  bP (bn Q q .add 38 (.tmp 23) (.const (.int .u64 1)) x15 (.int .u64 1)) fun x16 =>
  bS (e.ev.cl 242 [v1, x7, x10, x16] (G3.room 18)) fun x18 G17 =>
  ifV x18 (
  bP (pNil v0) fun x19 =>
  bP (fa Q q 372 0 0 x19) fun x20 =>
  bS (e.ev.cl 135 [x20, (.int .i64 0)] G17) fun x21 G22 =>
  some (.tuple #[], G22)) (
  some (.tuple #[], G17))
theorem m231 {e : Ex} {E : Ev} (h : ExLe Q e E) (v0 v1 : Value) (G : GS) : Ref (s231 true e v0 v1 G) (s231 false (Ex.of E) v0 v1 G) := by
  unfold s231
  exact Ref.go
theorem f231 {orc : FuncId → Bool} {e : Ex} (h : ExLe Q e (E orc)) (v0 v1 : Value) (G : GS) : Ref (s231 true e v0 v1 G) ((E orc).cl 231 [v0, v1] G) :=
  fun r hr => cl_sxE_some Q orc (vs := [v0, v1]) G Tryz.func231 (by kernel_rfl) (by kernel_rfl) (by kernel_rfl) (by kernel_rfl) (by kernel_rfl) (by kernel_rfl) (m231 h v0 v1 G r hr)
/-- (*coxswain/stack.All).first -/
noncomputable def s232 (q : Bool) (e : Ex) (v0 v1 : Value) (G : GS) : Option (Value × GS) :=
  bP (pNil v0) fun x0 =>
  bP (fa Q q 375 1 9 x0) fun x1 =>
  bP (st Q q 373 1 x1 (.func (.func 243) #[] #[]) G) fun G2 =>
  bP (pNil v0) fun x3 =>
  bP (fa Q q 375 0 0 x3) fun x4 =>
  bS (e.ev.cl 206 [x4, v1] G2) fun x5 G6 =>
  bP (pNil v0) fun x7 =>
  bP (fa Q q 375 0 0 x7) fun x8 =>
  bP (fa Q q 286 2 4 x8) fun x9 =>
  bP (st Q q 3 1 x9 x5 G6) fun G10 =>
  bP (pNil v0) fun x11 =>
  bP (fa Q q 375 0 0 x11) fun x12 =>
  bP (fa Q q 286 2 4 x12) fun x13 =>
  bP (ld Q q 3 x13 G10) fun x14 =>
  bP (bn Q q .lss 3 (.tmp 20) (.const (.int .i64 0)) x14 (.int .i64 0)) fun x15 =>
  ifV x15 (
  bP (pNil v0) fun x16 =>
  bP (fa Q q 375 0 0 x16) fun x17 =>
  bS (e.ev.cl 207 [x17, (.int .i64 15)] G10) fun x18 G19 =>
  some (.tuple #[], G19)) (
  some (.tuple #[], G10))
theorem m232 {e : Ex} {E : Ev} (h : ExLe Q e E) (v0 v1 : Value) (G : GS) : Ref (s232 true e v0 v1 G) (s232 false (Ex.of E) v0 v1 G) := by
  unfold s232
  exact Ref.go
theorem f232 {orc : FuncId → Bool} {e : Ex} (h : ExLe Q e (E orc)) (v0 v1 : Value) (G : GS) : Ref (s232 true e v0 v1 G) ((E orc).cl 232 [v0, v1] G) :=
  fun r hr => cl_sxE_some Q orc (vs := [v0, v1]) G Tryz.func232 (by kernel_rfl) (by kernel_rfl) (by kernel_rfl) (by kernel_rfl) (by kernel_rfl) (by kernel_rfl) (m232 h v0 v1 G r hr)
/-- (*coxswain/epoch.Advance).Step -/
noncomputable def s233 (q : Bool) (e : Ex) (v0 v1 : Value) (G : GS) : Option (Value × GS) :=
  bP (ep Q q false 346 (.tmp 5) (.const (.pointer none)) v0 (.pointer none)) fun x0 =>
  bS (gd x0 false (some (v0, G)) G) fun x1 G2 =>
  bS (gd x0 false (bP (pNil x1) fun y => some (y, G2)) G2) fun x3 G4 =>
  bS (gd x0 false (bP (fa Q q 372 0 0 x3) fun y => some (y, G4)) G4) fun x5 G6 =>
  bS (gd x0 false (some (v1, G6)) G6) fun x7 G8 =>
  bS (gd x0 false (bS (e.ev.cl 244 [x5, x7] G8) fun y G => some (y, G)) G8) fun x9 G10 =>
  bP (pickV x0 (.bool true) x9) fun x11 =>
  some (x11, G10)
theorem m233 {e : Ex} {E : Ev} (h : ExLe Q e E) (v0 v1 : Value) (G : GS) : Ref (s233 true e v0 v1 G) (s233 false (Ex.of E) v0 v1 G) := by
  unfold s233
  exact Ref.go
theorem f233 {orc : FuncId → Bool} {e : Ex} (h : ExLe Q e (E orc)) (v0 v1 : Value) (G : GS) : Ref (s233 true e v0 v1 G) ((E orc).cl 233 [v0, v1] G) :=
  fun r hr => cl_sxE_some Q orc (vs := [v0, v1]) G Tryz.func233 (by kernel_rfl) (by kernel_rfl) (by kernel_rfl) (by kernel_rfl) (by kernel_rfl) (by kernel_rfl) (m233 h v0 v1 G r hr)
/-- (*coxswain/epoch.Advance).Err -/
noncomputable def s234 (q : Bool) (e : Ex) (v0 : Value) (G : GS) : Option (Value × GS) :=
  bP (ep Q q false 346 (.tmp 3) (.const (.pointer none)) v0 (.pointer none)) fun x0 =>
  ifV x0 (
  some ((.int .i64 1), G)) (
  bP (pNil v0) fun x1 =>
  bP (fa Q q 372 0 0 x1) fun x2 =>
  bS (e.ev.cl 139 [x2] G) fun x3 G4 =>
  some (x3, G4))
theorem m234 {e : Ex} {E : Ev} (h : ExLe Q e E) (v0 : Value) (G : GS) : Ref (s234 true e v0 G) (s234 false (Ex.of E) v0 G) := by
  unfold s234
  exact Ref.go
theorem f234 {orc : FuncId → Bool} {e : Ex} (h : ExLe Q e (E orc)) (v0 : Value) (G : GS) : Ref (s234 true e v0 G) ((E orc).cl 234 [v0] G) :=
  fun r hr => cl_sxE_some Q orc (vs := [v0]) G Tryz.func234 (by kernel_rfl) (by kernel_rfl) (by kernel_rfl) (by kernel_rfl) (by kernel_rfl) (by kernel_rfl) (m234 h v0 G r hr)
/-- (*coxswain/limbo.Collect).takes -/
noncomputable def s235 (q : Bool) (e : Ex) (v0 v1 : Value) (G : GS) : Option (Value × GS) :=
  bP (pNil v0) fun x0 =>
  bP (fa Q q 352 3 14 x0) fun x1 =>
  bP (ld Q q 347 x1 G) fun x2 =>
  bS (e.ev.cl 245 [x2, v1] G) fun x3 G4 =>
  bP (un Q q .not x3) fun x5 =>
  ifV x5 (
  some ((.func (.func 235) #[v0] #[]), G4)) (
  bP (pNil v0) fun x6 =>
  bP (fa Q q 352 3 14 x6) fun x7 =>
  bP (ld Q q 347 x7 G4) fun x8 =>
  bS (e.ev.cl 246 [x8] G4) fun x9 G10 =>
  bP (pExtract x9 0) fun x11 =>
  bP (pExtract x9 1) fun x12 =>
  bP (bn Q q .neq 23 (.tmp 24) (.const (.int .i64 0)) x12 (.int .i64 0)) fun x13 =>
  ifV x13 (
  some (.nilFunc, G10)) (
  bP (pNil v0) fun x14 =>
  bP (fa Q q 352 4 15 x14) fun x15 =>
  bP (st Q q 3 1 x15 x11 G10) fun G16 =>
  some ((.func (.func 247) #[v0] #[]), G16)))
theorem m235 {e : Ex} {E : Ev} (h : ExLe Q e E) (v0 v1 : Value) (G : GS) : Ref (s235 true e v0 v1 G) (s235 false (Ex.of E) v0 v1 G) := by
  unfold s235
  exact Ref.go
theorem f235 {orc : FuncId → Bool} {e : Ex} (h : ExLe Q e (E orc)) (v0 v1 : Value) (G : GS) : Ref (s235 true e v0 v1 G) ((E orc).cl 235 [v0, v1] G) :=
  fun r hr => cl_sxE_some Q orc (vs := [v0, v1]) G Tryz.func235 (by kernel_rfl) (by kernel_rfl) (by kernel_rfl) (by kernel_rfl) (by kernel_rfl) (by kernel_rfl) (m235 h v0 v1 G r hr)
/-- coxswain/word.PutTop -/
noncomputable def s236 (q : Bool) (e : Ex) (v0 : Value) (G : GS) : Option (Value × GS) :=
  bS (bx q v0 G) fun x0 G1 =>
  bP (fa Q q 357 0 0 x0) fun x2 =>
  bP (ld Q q 3 x2 G1) fun x3 =>
  bP (bd Q q 362 z362 [(0, 0, 1), (1, 1, 1), (2, 2, 1)] [x3, (.int .i64 (-1)), (.int .i64 65534)]) fun x4 =>
  bP (fa Q q 357 1 1 x0) fun x5 =>
  bP (ld Q q 3 x5 G1) fun x6 =>
  bP (bd Q q 362 z362 [(0, 0, 1), (1, 1, 1), (2, 2, 1)] [x6, (.int .i64 0), (.int .i64 281474976710655)]) fun x7 =>
  bS (bs Q q 377 2 (rep z362 2) 3 [(0, 0, 3), (1, 3, 3)] [x4, x7] G1) fun x8 G9 =>
  bS (e.ev.cl 222 [x8] G9) fun x10 G11 =>
  bP (un Q q .not x10) fun x12 =>
  ifV x12 (
  some (.tuple #[(.int .u64 0), (.int .i64 3)], G11)) (
  bS (e.ev.cl 237 [] G11) fun x13 G14 =>
  bS (al Q q 320 z320 G14) fun x15 G16 =>
  bP (st Q q 320 4 x15 x13 G16) fun G17 =>
  bP (sla Q q 320 2 2 x15 none none none (G17.room 10)) fun x18 =>
  bP (fa Q q 357 0 0 x0) fun x19 =>
  bP (ld Q q 3 x19 (G17.room 10)) fun x20 =>
  bP (bn Q q .add 3 (.tmp 17) (.const (.int .i64 1)) x20 (.int .i64 1)) fun x21 =>
  bP (fa Q q 357 1 1 x0) fun x22 =>
  bP (ld Q q 3 x22 (G17.room 10)) fun x23 =>
  bS (bs Q q 139 2 (rep z3 2) 1 [(0, 0, 1), (1, 1, 1)] [x21, x23] ((G17.room 10).at' (G17.nx + 6))) fun x24 G25 =>
  bS (e.ev.cl 224 [x18, x24] (G25.back (G17.room 10))) fun x27 G26 =>
  some (.tuple #[x27, (.int .i64 0)], G26))
theorem m236 {e : Ex} {E : Ev} (h : ExLe Q e E) (v0 : Value) (G : GS) : Ref (s236 true e v0 G) (s236 false (Ex.of E) v0 G) := by
  unfold s236
  exact Ref.go
theorem f236 {orc : FuncId → Bool} {e : Ex} (h : ExLe Q e (E orc)) (v0 : Value) (G : GS) : Ref (s236 true e v0 G) ((E orc).cl 236 [v0] G) :=
  fun r hr => cl_sxE_some Q orc (vs := [v0]) G Tryz.func236 (by kernel_rfl) (by kernel_rfl) (by kernel_rfl) (by kernel_rfl) (by kernel_rfl) (by kernel_rfl) (m236 h v0 G r hr)
/-- coxswain/word.tops -/
noncomputable def s237 (q : Bool) (e : Ex) (G : GS) : Option (Value × GS) :=
  bS (al Q q 320 z320 G) fun x0 G1 =>
  bP (bd Q q 319 z319 [(0, 0, 1), (1, 1, 1)] [(.int .i64 0), (.int .i64 16)]) fun x2 =>
  bP (bd Q q 319 z319 [(0, 0, 1), (1, 1, 1)] [(.int .i64 16), (.int .i64 48)]) fun x3 =>
  bP (bd Q q 320 z320 [(0, 0, 2), (1, 2, 2)] [x2, x3]) fun x4 =>
  bP (st Q q 320 4 x0 x4 G1) fun G5 =>
  bP (lda Q q 320 4 x0 G5) fun x6 =>
  some (x6, G5)
theorem m237 {e : Ex} {E : Ev} (h : ExLe Q e E) (G : GS) : Ref (s237 true e  G) (s237 false (Ex.of E)  G) := by
  unfold s237
  exact Ref.go
theorem f237 {orc : FuncId → Bool} {e : Ex} (h : ExLe Q e (E orc)) (ho : orc 237 = false) (G : GS) : Ref (s237 true e  G) ((E orc).cl 237 [] G) :=
  fun r hr => cl_sxE_some Q orc (vs := []) G Tryz.func237 (by kernel_rfl) (by kernel_rfl) ho (by kernel_rfl) (by kernel_rfl) (by kernel_rfl) (m237 h  G r hr)
/-- (coxswain/word.raw).with -/
noncomputable def s238 (q : Bool) (e : Ex) (v0 v1 v2 : Value) (G : GS) : Option (Value × GS) :=
  bS (bx q v1 G) fun x0 G1 =>
  bP (cv Q q 3 38 .i64 .u64 v2) fun x2 =>
  bP (fa Q q 319 0 0 x0) fun x3 =>
  bP (ld Q q 3 x3 G1) fun x4 =>
  bP (bn Q q .shl 38 (.tmp 9) (.tmp 11) x2 x4) fun x5 =>
  bP (bn Q q .or 322 (.tmp 7) (.tmp 12) v0 x5) fun x6 =>
  some (x6, G1)
theorem m238 {e : Ex} {E : Ev} (h : ExLe Q e E) (v0 v1 v2 : Value) (G : GS) : Ref (s238 true e v0 v1 v2 G) (s238 false (Ex.of E) v0 v1 v2 G) := by
  unfold s238
  exact Ref.go
theorem f238 {orc : FuncId → Bool} {e : Ex} (h : ExLe Q e (E orc)) (v0 v1 v2 : Value) (G : GS) : Ref (s238 true e v0 v1 v2 G) ((E orc).cl 238 [v0, v1, v2] G) :=
  fun r hr => cl_sxE_some Q orc (vs := [v0, v1, v2]) G Tryz.func238 (by kernel_rfl) (by kernel_rfl) (by kernel_rfl) (by kernel_rfl) (by kernel_rfl) (by kernel_rfl) (m238 h v0 v1 v2 G r hr)
/-- (*coxswain/stack.held).swap -/
noncomputable def s239 (q : Bool) (e : Ex) (v0 v1 v2 : Value) (G : GS) : Option (Value × GS) :=
  bP (pNil v0) fun x0 =>
  bP (fa Q q 286 1 3 x0) fun x1 =>
  bP (ld Q q 38 x1 G) fun x2 =>
  bS (e.ev.cl 221 [x2] G) fun x3 G4 =>
  bP (pExtract x3 0) fun x5 =>
  bP (pExtract x3 1) fun x6 =>
  bS (al Q q 357 z357 G4) fun x7 G8 =>
  bP (st Q q 357 2 x7 x5 G8) fun G9 =>
  bP (fa Q q 357 1 1 x7) fun x10 =>
  bP (ld Q q 3 x10 G9) fun x11 =>
  bP (bn Q q .add 3 (.tmp 22) (.const (.int .i64 1)) x11 (.int .i64 1)) fun x12 =>
  bP (bn Q q .and 3 (.tmp 23) (.const (.int .i64 281474976710655)) x12 (.int .i64 281474976710655)) fun x13 =>
  bP (bd Q q 357 z357 [(0, 0, 1), (1, 1, 1)] [v2, x13]) fun x14 =>
  bS (e.ev.cl 236 [x14] G9) fun x15 G16 =>
  bP (pExtract x15 0) fun x17 =>
  bP (pExtract x15 1) fun x18 =>
  bP (pNil v0) fun x19 =>
  bP (fa Q q 286 0 0 x19) fun x20 =>
  bP (fa Q q 28 0 0 x20) fun x21 =>
  bP (ld Q q 3 x21 (G16.room 13)) fun x22 =>
  bP (pNil v0) fun x23 =>
  bP (fa Q q 286 1 3 x23) fun x24 =>
  bP (ld Q q 38 x24 (G16.room 13)) fun x25 =>
  bS (e.ev.cl 242 [v1, x22, x25, x17] (G16.room 13)) fun x27 G26 =>
  some (x27, G26)
theorem m239 {e : Ex} {E : Ev} (h : ExLe Q e E) (v0 v1 v2 : Value) (G : GS) : Ref (s239 true e v0 v1 v2 G) (s239 false (Ex.of E) v0 v1 v2 G) := by
  unfold s239
  exact Ref.go
theorem f239 {orc : FuncId → Bool} {e : Ex} (h : ExLe Q e (E orc)) (v0 v1 v2 : Value) (G : GS) : Ref (s239 true e v0 v1 v2 G) ((E orc).cl 239 [v0, v1, v2] G) :=
  fun r hr => cl_sxE_some Q orc (vs := [v0, v1, v2]) G Tryz.func239 (by kernel_rfl) (by kernel_rfl) (by kernel_rfl) (by kernel_rfl) (by kernel_rfl) (by kernel_rfl) (m239 h v0 v1 v2 G r hr)
/-- (*coxswain/find.Find).anew -/
noncomputable def s240 (q : Bool) (e : Ex) (v0 : Value) (G : GS) : Option (Value × GS) :=
  bP (pNil v0) fun x0 =>
  bP (fa Q q 384 0 0 x0) fun x1 =>
  bP (fa Q q 36 2 2 x1) fun x2 =>
  bP (ld Q q 3 x2 G) fun x3 =>
  bP (bn Q q .sub 3 (.tmp 7) (.const (.int .i64 1)) x3 (.int .i64 1)) fun x4 =>
  bS (e.ev.cl 248 [v0, x4] G) fun x5 G6 =>
  some (.tuple #[], G6)
theorem m240 {e : Ex} {E : Ev} (h : ExLe Q e E) (v0 : Value) (G : GS) : Ref (s240 true e v0 G) (s240 false (Ex.of E) v0 G) := by
  unfold s240
  exact Ref.go
theorem f240 {orc : FuncId → Bool} {e : Ex} (h : ExLe Q e (E orc)) (v0 : Value) (G : GS) : Ref (s240 true e v0 G) ((E orc).cl 240 [v0] G) :=
  fun r hr => cl_sxE_some Q orc (vs := [v0]) G Tryz.func240 (by kernel_rfl) (by kernel_rfl) (by kernel_rfl) (by kernel_rfl) (by kernel_rfl) (by kernel_rfl) (m240 h v0 G r hr)
/-- (*coxswain/epoch.Advance).turn -/
noncomputable def s241 (q : Bool) (e : Ex) (v0 v1 : Value) (G : GS) : Option (Value × GS) :=
  bS (bx q v0 G) fun x0 G1 =>
  bS (bx q v1 G1) fun x2 G3 =>
  bP (ld Q q 346 x0 G3) fun x4 =>
  bP (pNil x4) fun x5 =>
  bP (fa Q q 372 0 0 x5) fun x6 =>
  bP (fa Q q 231 1 3 x6) fun x7 =>
  bP (st Q q 3 1 x7 (.int .i64 2) G3) fun G8 =>
  bP (ld Q q 346 x0 G8) fun x9 =>
  bP (pNil x9) fun x10 =>
  bP (fa Q q 372 1 6 x10) fun x11 =>
  bP (lda Q q 32 3 x11 G8) fun x12 =>
  bS (e.ev.cl 158 [x12] G8) fun x13 G14 =>
  bX (xRange e.ev x13 #[14, 15] (subAt [1, 1, 1, 0, 0] (bodyOf Tryz.f241)) (subAt [1, 1, 1, 0, 1] (bodyOf Tryz.f241)) (lst 35 (tu (nth undef [v0, v1]) [(2, x0), (3, x2), (5, x4), (6, x5), (7, x6), (8, x7), (9, x9), (10, x10), (11, x11), (12, x12), (13, x13)])) G14) fun e15 T16 G17 =>
  ifE e15 .normal (
  some (.tuple #[], G17)) (ifE e15 .ret (
  some (.tuple #[], G17)) (none))
theorem m241 {e : Ex} {E : Ev} (h : ExLe Q e E) (v0 v1 : Value) (G : GS) : Ref (s241 true e v0 v1 G) (s241 false (Ex.of E) v0 v1 G) := by
  unfold s241
  exact Ref.go
theorem f241 {orc : FuncId → Bool} {e : Ex} (h : ExLe Q e (E orc)) (v0 v1 : Value) (G : GS) : Ref (s241 true e v0 v1 G) ((E orc).cl 241 [v0, v1] G) :=
  fun r hr => cl_sxE_some Q orc (vs := [v0, v1]) G Tryz.func241 (by kernel_rfl) (by kernel_rfl) (by kernel_rfl) (by kernel_rfl) (by kernel_rfl) (by kernel_rfl) (m241 h v0 v1 G r hr)
/-- (*coxswain/cells.Mem).CAS -/
noncomputable def s242 (q : Bool) (e : Ex) (v0 v1 v2 v3 : Value) (G : GS) : Option (Value × GS) :=
  bS (e.ev.cl 72 [v0, v1] G) fun x0 G1 =>
  bP (bd Q q 135 z135 [(0, 0, 1), (1, 1, 1), (2, 2, 1)] [x0, v2, v3]) fun x2 =>
  bS (al Q q 135 z135 G1) fun x3 G4 =>
  bP (st Q q 135 3 x3 x2 G4) fun G5 =>
  bP (fa Q q 135 0 0 x3) fun x6 =>
  bP (ld Q q 132 x6 G5) fun x7 =>
  bP (lda Q q 135 3 x3 G5) fun x8 =>
  bS (e.ev.cl 73 [v0, (.int .i64 3), v1, x7, (.func (.func 249) #[x8] #[])] G5) fun x9 G10 =>
  bP (fd Q q 101 4 4 x9) fun x11 =>
  some (x11, G10)
theorem m242 {e : Ex} {E : Ev} (h : ExLe Q e E) (v0 v1 v2 v3 : Value) (G : GS) : Ref (s242 true e v0 v1 v2 v3 G) (s242 false (Ex.of E) v0 v1 v2 v3 G) := by
  unfold s242
  exact Ref.go
theorem f242 {orc : FuncId → Bool} {e : Ex} (h : ExLe Q e (E orc)) (v0 v1 v2 v3 : Value) (G : GS) : Ref (s242 true e v0 v1 v2 v3 G) ((E orc).cl 242 [v0, v1, v2, v3] G) :=
  fun r hr => cl_sxE_some Q orc (vs := [v0, v1, v2, v3]) G Tryz.func242 (by kernel_rfl) (by kernel_rfl) (by kernel_rfl) (by kernel_rfl) (by kernel_rfl) (by kernel_rfl) (m242 h v0 v1 v2 v3 G r hr)
/-- (*coxswain/stack.All).second -/
noncomputable def s243 (q : Bool) (e : Ex) (v0 v1 : Value) (G : GS) : Option (Value × GS) :=
  bP (pNil v0) fun x0 =>
  bP (fa Q q 375 1 9 x0) fun x1 =>
  bP (st Q q 373 1 x1 (.func (.func 232) #[] #[]) G) fun G2 =>
  bP (pNil v0) fun x3 =>
  bP (fa Q q 375 0 0 x3) fun x4 =>
  bS (e.ev.cl 239 [x4, v1, (.int .i64 (-1))] G2) fun x5 G6 =>
  ifV x5 (
  bP (pNil v0) fun x7 =>
  bP (fa Q q 375 0 0 x7) fun x8 =>
  bS (e.ev.cl 207 [x8, (.int .i64 0)] G6) fun x9 G10 =>
  some (.tuple #[], G10)) (
  some (.tuple #[], G6))
theorem m243 {e : Ex} {E : Ev} (h : ExLe Q e E) (v0 v1 : Value) (G : GS) : Ref (s243 true e v0 v1 G) (s243 false (Ex.of E) v0 v1 G) := by
  unfold s243
  exact Ref.go
theorem f243 {orc : FuncId → Bool} {e : Ex} (h : ExLe Q e (E orc)) (v0 v1 : Value) (G : GS) : Ref (s243 true e v0 v1 G) ((E orc).cl 243 [v0, v1] G) :=
  fun r hr => cl_sxE_some Q orc (vs := [v0, v1]) G Tryz.func243 (by kernel_rfl) (by kernel_rfl) (by kernel_rfl) (by kernel_rfl) (by kernel_rfl) (by kernel_rfl) (m243 h v0 v1 G r hr)
/-- (*coxswain/epoch.lines).step -/
noncomputable def s244 (q : Bool) (e : Ex) (v0 v1 : Value) (G : GS) : Option (Value × GS) :=
  bP (pNil v0) fun x0 =>
  bP (fa Q q 231 2 4 x0) fun x1 =>
  bP (ld Q q 4 x1 G) fun x2 =>
  bP (un Q q .not x2) fun x3 =>
  bS (gd x3 false (some (v0, G)) G) fun x4 G5 =>
  bS (gd x3 false (bP (pNil x4) fun y => some (y, G5)) G5) fun x6 G7 =>
  bS (gd x3 false (bP (fa Q q 231 1 3 x6) fun y => some (y, G7)) G7) fun x8 G9 =>
  bS (gd x3 false (bP (ld Q q 3 x8 G9) fun y => some (y, G9)) G9) fun x10 G11 =>
  bS (gd x3 false (bP (bn Q q .eql 3 (.tmp 14) (.const (.int .i64 (-1))) x10 (.int .i64 (-1))) fun y => some (y, G11)) G11) fun x12 G13 =>
  bP (pickV x3 (.bool true) x12) fun x14 =>
  ifV x14 (
  some ((.bool true), G13)) (
  bP (pNil v0) fun x15 =>
  bP (fa Q q 231 1 3 x15) fun x16 =>
  bP (ld Q q 3 x16 (G13.room 11)) fun x17 =>
  bP (pNil v0) fun x18 =>
  bP (fa Q q 231 0 0 x18) fun x19 =>
  bP (iaa Q q 229 3 1 x19 x17) fun x20 =>
  bP (ld Q q 206 x20 (G13.room 11)) fun x21 =>
  bS (cValue e.ev x21 [v1] (G13.room 11)) fun x23 G22 =>
  bP (pNil v0) fun x24 =>
  bP (fa Q q 231 1 3 x24) fun x25 =>
  bP (ld Q q 3 x25 G22) fun x26 =>
  bP (bn Q q .eql 3 (.tmp 31) (.const (.int .i64 (-1))) x26 (.int .i64 (-1))) fun x27 =>
  some (x27, G22))
theorem m244 {e : Ex} {E : Ev} (h : ExLe Q e E) (v0 v1 : Value) (G : GS) : Ref (s244 true e v0 v1 G) (s244 false (Ex.of E) v0 v1 G) := by
  unfold s244
  exact Ref.go
theorem f244 {orc : FuncId → Bool} {e : Ex} (h : ExLe Q e (E orc)) (v0 v1 : Value) (G : GS) : Ref (s244 true e v0 v1 G) ((E orc).cl 244 [v0, v1] G) :=
  fun r hr => cl_sxE_some Q orc (vs := [v0, v1]) G Tryz.func244 (by kernel_rfl) (by kernel_rfl) (by kernel_rfl) (by kernel_rfl) (by kernel_rfl) (by kernel_rfl) (m244 h v0 v1 G r hr)
/-- (*coxswain/stack.All).Step -/
noncomputable def s245 (q : Bool) (e : Ex) (v0 v1 : Value) (G : GS) : Option (Value × GS) :=
  bP (ep Q q false 347 (.tmp 5) (.const (.pointer none)) v0 (.pointer none)) fun x0 =>
  bS (gd x0 false (some (v0, G)) G) fun x1 G2 =>
  bS (gd x0 false (bP (pNil x1) fun y => some (y, G2)) G2) fun x3 G4 =>
  bS (gd x0 false (bP (fa Q q 375 0 0 x3) fun y => some (y, G4)) G4) fun x5 G6 =>
  bS (gd x0 false (bS (e.ev.cl 208 [x5] G6) fun y G => some (y, G)) G6) fun x7 G8 =>
  bP (pickV x0 (.bool true) x7) fun x9 =>
  ifV x9 (
  some ((.bool true), G8)) (
  bP (pNil v0) fun x10 =>
  bP (fa Q q 375 1 9 x10) fun x11 =>
  bP (ld Q q 373 x11 G8) fun x12 =>
  bS (cValue e.ev x12 [v0, v1] G8) fun x13 G14 =>
  bP (pNil v0) fun x15 =>
  bP (fa Q q 375 0 0 x15) fun x16 =>
  bP (fa Q q 286 5 7 x16) fun x17 =>
  bP (ld Q q 4 x17 G14) fun x18 =>
  some (x18, G14))
theorem m245 {e : Ex} {E : Ev} (h : ExLe Q e E) (v0 v1 : Value) (G : GS) : Ref (s245 true e v0 v1 G) (s245 false (Ex.of E) v0 v1 G) := by
  unfold s245
  exact Ref.go
theorem f245 {orc : FuncId → Bool} {e : Ex} (h : ExLe Q e (E orc)) (v0 v1 : Value) (G : GS) : Ref (s245 true e v0 v1 G) ((E orc).cl 245 [v0, v1] G) :=
  fun r hr => cl_sxE_some Q orc (vs := [v0, v1]) G Tryz.func245 (by kernel_rfl) (by kernel_rfl) (by kernel_rfl) (by kernel_rfl) (by kernel_rfl) (by kernel_rfl) (m245 h v0 v1 G r hr)
/-- (*coxswain/stack.All).Index -/
noncomputable def s246 (q : Bool) (e : Ex) (v0 : Value) (G : GS) : Option (Value × GS) :=
  bP (ep Q q false 347 (.tmp 4) (.const (.pointer none)) v0 (.pointer none)) fun x0 =>
  ifV x0 (
  some (.tuple #[(.int .i64 0), (.int .i64 1)], G)) (
  bP (pNil v0) fun x1 =>
  bP (fa Q q 375 0 0 x1) fun x2 =>
  bS (e.ev.cl 209 [x2] G) fun x3 G4 =>
  bP (pExtract x3 0) fun x5 =>
  bP (pExtract x3 1) fun x6 =>
  some (.tuple #[x5, x6], G4))
theorem m246 {e : Ex} {E : Ev} (h : ExLe Q e E) (v0 : Value) (G : GS) : Ref (s246 true e v0 G) (s246 false (Ex.of E) v0 G) := by
  unfold s246
  exact Ref.go
theorem f246 {orc : FuncId → Bool} {e : Ex} (h : ExLe Q e (E orc)) (v0 : Value) (G : GS) : Ref (s246 true e v0 G) ((E orc).cl 246 [v0] G) :=
  fun r hr => cl_sxE_some Q orc (vs := [v0]) G Tryz.func246 (by kernel_rfl) (by kernel_rfl) (by kernel_rfl) (by kernel_rfl) (by kernel_rfl) (by kernel_rfl) (m246 h v0 G r hr)
/-- (*coxswain/limbo.Collect).links -/
noncomputable def s247 (q : Bool) (e : Ex) (v0 v1 : Value) (G : GS) : Option (Value × GS) :=
  bP (pNil v0) fun x0 =>
  bP (fa Q q 352 1 3 x0) fun x1 =>
  bP (fa Q q 34 0 0 x1) fun x2 =>
  bP (fa Q q 30 0 0 x2) fun x3 =>
  bP (fa Q q 28 1 1 x3) fun x4 =>
  bP (ld Q q 3 x4 (G.room 21)) fun x5 =>
  bP (pNil v0) fun x6 =>
  bP (fa Q q 352 4 15 x6) fun x7 =>
  bP (ld Q q 3 x7 (G.room 21)) fun x8 =>
  bP (bn Q q .add 3 (.tmp 15) (.tmp 19) x5 x8) fun x9 =>
  bS (e.ev.cl 120 [v1, x9] (G.room 21)) fun x11 G10 =>
  bS (e.ev.cl 221 [x11] G10) fun x13 G12 =>
  bP (pExtract x13 0) fun x14 =>
  bP (pExtract x13 1) fun x15 =>
  bS (al Q q 357 z357 (G12.at' (G.nx + 18))) fun x16 G17 =>
  bP (st Q q 357 2 x16 x14 (G17.back G12)) fun G18 =>
  bP (pNil v0) fun x19 =>
  bP (fa Q q 352 1 3 x19) fun x20 =>
  bP (fa Q q 34 0 0 x20) fun x21 =>
  bP (lda Q q 30 6 x21 (G18.room 17)) fun x22 =>
  bP (pNil v0) fun x23 =>
  bP (fa Q q 352 4 15 x23) fun x24 =>
  bP (ld Q q 3 x24 (G18.room 17)) fun x25 =>
  bS (e.ev.cl 250 [x22, x25] (G18.room 17)) fun x27 G26 =>
  bP (fa Q q 357 0 0 x16) fun x28 =>
  bP (ld Q q 3 x28 G26) fun x29 =>
  chk ((sameO (ld Q q 3 x28 (G18.room 17)) x29 && true)) <|
  bP (bd Q q 350 z350 [(0, 0, 1), (1, 1, 1)] [x27, x29]) fun x30 =>
  bP (pNil v0) fun x31 =>
  bP (fa Q q 352 5 16 x31) fun x32 =>
  bP (st Q q 350 2 x32 x30 G26) fun G33 =>
  some ((.func (.func 251) #[v0] #[]), G33)
theorem m247 {e : Ex} {E : Ev} (h : ExLe Q e E) (v0 v1 : Value) (G : GS) : Ref (s247 true e v0 v1 G) (s247 false (Ex.of E) v0 v1 G) := by
  unfold s247
  exact Ref.go
theorem f247 {orc : FuncId → Bool} {e : Ex} (h : ExLe Q e (E orc)) (v0 v1 : Value) (G : GS) : Ref (s247 true e v0 v1 G) ((E orc).cl 247 [v0, v1] G) :=
  fun r hr => cl_sxE_some Q orc (vs := [v0, v1]) G Tryz.func247 (by kernel_rfl) (by kernel_rfl) (by kernel_rfl) (by kernel_rfl) (by kernel_rfl) (by kernel_rfl) (m247 h v0 v1 G r hr)
/-- (*coxswain/find.Find).begin -/
noncomputable def s248 (q : Bool) (e : Ex) (v0 v1 : Value) (G : GS) : Option (Value × GS) :=
  bS (bx q v0 G) fun x0 G1 =>
  bS (bx q v1 G1) fun x2 G3 =>
  bP (ld Q q 184 x0 (G3.room 10)) fun x4 =>
  bP (pNil x4) fun x5 =>
  bP (fa Q q 384 0 0 x5) fun x6 =>
  bP (fa Q q 36 2 2 x6) fun x7 =>
  bP (ld Q q 3 x7 (G3.room 10)) fun x8 =>
  bP (ld Q q 184 x0 (G3.room 10)) fun x9 =>
  bP (pNil x9) fun x10 =>
  bP (fa Q q 384 5 20 x10) fun x11 =>
  bP (ld Q q 382 x11 (G3.room 10)) fun x12 =>
  bS (e.ev.cl 252 [x8, x12] (G3.room 10)) fun x14 G13 =>
  bX (xRange e.ev x14 #[16, 17] (subAt [1, 0, 1, 0, 0] (bodyOf Tryz.f248)) (subAt [1, 0, 1, 0, 1] (bodyOf Tryz.f248)) (lst 31 (tu (nth undef [v0, v1]) [(2, x0), (3, x2), (6, x4), (7, x5), (8, x6), (9, x7), (10, x8), (11, x9), (12, x10), (13, x11), (14, x12), (15, x14)])) G13) fun e15 T16 G17 =>
  bV q (nth undef T16 2) fun T16x2_ =>
  ifE e15 .normal (
  bP (ld Q q 184 T16x2_ G17) fun x18 =>
  bP (pNil x18) fun x19 =>
  bP (fa Q q 384 2 14 x19) fun x20 =>
  bP (st Q q 3 1 x20 (.int .i64 9) G17) fun G21 =>
  some (.tuple #[], G21)) (ifE e15 .ret (
  some (.tuple #[], G17)) (none))
theorem m248 {e : Ex} {E : Ev} (h : ExLe Q e E) (v0 v1 : Value) (G : GS) : Ref (s248 true e v0 v1 G) (s248 false (Ex.of E) v0 v1 G) := by
  unfold s248
  exact Ref.go
theorem f248 {orc : FuncId → Bool} {e : Ex} (h : ExLe Q e (E orc)) (v0 v1 : Value) (G : GS) : Ref (s248 true e v0 v1 G) ((E orc).cl 248 [v0, v1] G) :=
  fun r hr => cl_sxE_some Q orc (vs := [v0, v1]) G Tryz.func248 (by kernel_rfl) (by kernel_rfl) (by kernel_rfl) (by kernel_rfl) (by kernel_rfl) (by kernel_rfl) (m248 h v0 v1 G r hr)
/-- (coxswain/cells.deed).swap -/
noncomputable def s249 (q : Bool) (e : Ex) (v0 : Value) (G : GS) : Option (Value × GS) :=
  bS (bx q v0 G) fun x0 G1 =>
  bP (fa Q q 135 0 0 x0) fun x2 =>
  bP (ld Q q 132 x2 (G1.room 7)) fun x3 =>
  bP (pNil x3) fun x4 =>
  bP (ld Q q 97 x4 (G1.room 7)) fun x5 =>
  bP (fa Q q 135 1 1 x0) fun x6 =>
  bP (ld Q q 38 x6 (G1.room 7)) fun x7 =>
  bP (bn Q q .neq 38 (.tmp 7) (.tmp 9) x5 x7) fun x8 =>
  ifV x8 (
  bP (fa Q q 135 0 0 x0) fun x9 =>
  bP (ld Q q 132 x9 (G1.room 7)) fun x10 =>
  bP (pNil x10) fun x11 =>
  bP (ld Q q 97 x11 (G1.room 7)) fun x12 =>
  some (.tuple #[x12, (.bool false)], (G1.room 7))) (
  bP (fa Q q 135 2 2 x0) fun x13 =>
  bP (ld Q q 38 x13 (G1.room 7)) fun x14 =>
  some (.tuple #[x14, (.bool true)], (G1.room 7)))
theorem m249 {e : Ex} {E : Ev} (h : ExLe Q e E) (v0 : Value) (G : GS) : Ref (s249 true e v0 G) (s249 false (Ex.of E) v0 G) := by
  unfold s249
  exact Ref.go
theorem f249 {orc : FuncId → Bool} {e : Ex} (h : ExLe Q e (E orc)) (v0 : Value) (G : GS) : Ref (s249 true e v0 G) ((E orc).cl 249 [v0] G) :=
  fun r hr => cl_sxE_some Q orc (vs := [v0]) G Tryz.func249 (by kernel_rfl) (by kernel_rfl) (by kernel_rfl) (by kernel_rfl) (by kernel_rfl) (by kernel_rfl) (m249 h v0 G r hr)
/-- coxswain/arena.NewFree -/
noncomputable def s250 (q : Bool) (e : Ex) (v0 v1 : Value) (G : GS) : Option (Value × GS) :=
  bS (bx q v0 G) fun x0 G1 =>
  bP (fa Q q 30 0 0 x0) fun x2 =>
  bP (lda Q q 28 3 x2 (G1.room 9)) fun x3 =>
  bS (e.ev.cl 253 [x3, v1] (G1.room 9)) fun x5 G4 =>
  bP (lda Q q 30 6 x0 G4) fun x6 =>
  chk ((sameO (lda Q q 30 6 x0 (G1.room 9)) x6 && true)) <|
  bP (bd Q q 395 z395 [(0, 0, 1), (1, 1, 6), (2, 7, 1), (4, 9, 1)] [x5, x6, (.bool true), v1]) fun x7 =>
  bS (bx q x7 (G4.at' (G1.nx + 7))) fun x8 G9 =>
  bP (bn Q q .lss 3 (.tmp 14) (.const (.int .i64 0)) v1 (.int .i64 0)) fun x10 =>
  bS (gd x10 false (some (v1, (G9.back G4))) (G9.back G4)) fun x11 G12 =>
  bS (gd x10 false (bP (fa Q q 30 0 0 x0) fun y => some (y, G12)) G12) fun x13 G14 =>
  bS (gd x10 false (bP (fa Q q 28 2 2 x13) fun y => some (y, G14)) G14) fun x15 G16 =>
  bS (gd x10 false (bP (ld Q q 3 x15 G16) fun y => some (y, G16)) G16) fun x17 G18 =>
  bS (gd x10 false (bP (bn Q q .geq 3 (.tmp 17) (.tmp 20) x11 x17) fun y => some (y, G18)) G18) fun x19 G20 =>
  bP (pickV x10 (.bool true) x19) fun x21 =>
  ifV x21 (
  bP (pNil x8) fun x22 =>
  bP (fa Q q 395 6 11 x22) fun x23 =>
  bP (st Q q 23 1 x23 (.int .i64 3) G20) fun G24 =>
  some (x8, G24)) (
  bP (pNil x8) fun x25 =>
  bP (fa Q q 395 3 8 x25) fun x26 =>
  bP (st Q q 393 1 x26 (.func (.func 254) #[] #[]) G20) fun G27 =>
  some (x8, G27))
theorem m250 {e : Ex} {E : Ev} (h : ExLe Q e E) (v0 v1 : Value) (G : GS) : Ref (s250 true e v0 v1 G) (s250 false (Ex.of E) v0 v1 G) := by
  unfold s250
  exact Ref.go
theorem f250 {orc : FuncId → Bool} {e : Ex} (h : ExLe Q e (E orc)) (v0 v1 : Value) (G : GS) : Ref (s250 true e v0 v1 G) ((E orc).cl 250 [v0, v1] G) :=
  fun r hr => cl_sxE_some Q orc (vs := [v0, v1]) G Tryz.func250 (by kernel_rfl) (by kernel_rfl) (by kernel_rfl) (by kernel_rfl) (by kernel_rfl) (by kernel_rfl) (m250 h v0 v1 G r hr)
/-- (*coxswain/limbo.Collect).gives -/
noncomputable def s251 (q : Bool) (e : Ex) (v0 v1 : Value) (G : GS) : Option (Value × GS) :=
  bP (pNil v0) fun x0 =>
  bP (fa Q q 352 5 16 x0) fun x1 =>
  bP (fa Q q 350 0 0 x1) fun x2 =>
  bP (ld Q q 348 x2 G) fun x3 =>
  bS (e.ev.cl 255 [x3, v1] G) fun x4 G5 =>
  bP (un Q q .not x4) fun x6 =>
  ifV x6 (
  some ((.func (.func 251) #[v0] #[]), G5)) (
  bP (pNil v0) fun x7 =>
  bP (fa Q q 352 6 18 x7) fun x8 =>
  bP (ld Q q 3 x8 G5) fun x9 =>
  bP (bn Q q .add 3 (.tmp 18) (.const (.int .i64 1)) x9 (.int .i64 1)) fun x10 =>
  bP (pNil v0) fun x11 =>
  bP (fa Q q 352 6 18 x11) fun x12 =>
  bP (st Q q 3 1 x12 x10 G5) fun G13 =>
  bP (pNil v0) fun x14 =>
  bP (fa Q q 352 5 16 x14) fun x15 =>
  bP (fa Q q 350 1 1 x15) fun x16 =>
  bP (ld Q q 3 x16 G13) fun x17 =>
  bP (pNil v0) fun x18 =>
  bP (fa Q q 352 4 15 x18) fun x19 =>
  bP (st Q q 3 1 x19 x17 G13) fun G20 =>
  bP (pNil v0) fun x21 =>
  bP (fa Q q 352 4 15 x21) fun x22 =>
  bP (ld Q q 3 x22 (G20.room 33)) fun x23 =>
  bP (bn Q q .lss 3 (.tmp 33) (.const (.int .i64 0)) x23 (.int .i64 0)) fun x24 =>
  bS (gd x24 false (some (v0, (G20.room 33))) (G20.room 33)) fun x25 _ =>
  bS (gd x24 false (bP (pNil x25) fun y => some (y, (G20.room 33))) (G20.room 33)) fun x26 _ =>
  bS (gd x24 false (bP (fa Q q 352 4 15 x26) fun y => some (y, (G20.room 33))) (G20.room 33)) fun x27 _ =>
  bS (gd x24 false (bP (ld Q q 3 x27 (G20.room 33)) fun y => some (y, (G20.room 33))) (G20.room 33)) fun x28 _ =>
  bS (gd x24 false (some (v0, (G20.room 33))) (G20.room 33)) fun x29 _ =>
  bS (gd x24 false (bP (pNil x29) fun y => some (y, (G20.room 33))) (G20.room 33)) fun x30 _ =>
  bS (gd x24 false (bP (fa Q q 352 1 3 x30) fun y => some (y, (G20.room 33))) (G20.room 33)) fun x31 _ =>
  bS (gd x24 false (bP (fa Q q 34 0 0 x31) fun y => some (y, (G20.room 33))) (G20.room 33)) fun x32 _ =>
  bS (gd x24 false (bP (fa Q q 30 0 0 x32) fun y => some (y, (G20.room 33))) (G20.room 33)) fun x33 _ =>
  bS (gd x24 false (bP (fa Q q 28 2 2 x33) fun y => some (y, (G20.room 33))) (G20.room 33)) fun x34 _ =>
  bS (gd x24 false (bP (ld Q q 3 x34 (G20.room 33)) fun y => some (y, (G20.room 33))) (G20.room 33)) fun x35 _ =>
  bS (gd x24 false (bP (bn Q q .geq 3 (.tmp 39) (.tmp 46) x28 x35) fun y => some (y, (G20.room 33))) (G20.room 33)) fun x36 _ =>
  bP (pickV x24 (.bool true) x36) fun x37 =>
  bS (gd x37 false (some (v0, (G20.room 33))) (G20.room 33)) fun x38 _ =>
  bS (gd x37 false (bP (pNil x38) fun y => some (y, (G20.room 33))) (G20.room 33)) fun x39 _ =>
  bS (gd x37 false (bP (fa Q q 352 6 18 x39) fun y => some (y, (G20.room 33))) (G20.room 33)) fun x40 _ =>
  bS (gd x37 false (bP (ld Q q 3 x40 (G20.room 33)) fun y => some (y, (G20.room 33))) (G20.room 33)) fun x41 _ =>
  bS (gd x37 false (some (v0, (G20.room 33))) (G20.room 33)) fun x42 _ =>
  bS (gd x37 false (bP (pNil x42) fun y => some (y, (G20.room 33))) (G20.room 33)) fun x43 _ =>
  bS (gd x37 false (bP (fa Q q 352 1 3 x43) fun y => some (y, (G20.room 33))) (G20.room 33)) fun x44 _ =>
  bS (gd x37 false (bP (fa Q q 34 0 0 x44) fun y => some (y, (G20.room 33))) (G20.room 33)) fun x45 _ =>
  bS (gd x37 false (bP (fa Q q 30 0 0 x45) fun y => some (y, (G20.room 33))) (G20.room 33)) fun x46 _ =>
  bS (gd x37 false (bP (fa Q q 28 2 2 x46) fun y => some (y, (G20.room 33))) (G20.room 33)) fun x47 _ =>
  bS (gd x37 false (bP (ld Q q 3 x47 (G20.room 33)) fun y => some (y, (G20.room 33))) (G20.room 33)) fun x48 _ =>
  bS (gd x37 false (bP (bn Q q .geq 3 (.tmp 53) (.tmp 60) x41 x48) fun y => some (y, (G20.room 33))) (G20.room 33)) fun x49 _ =>
  bP (pickV x37 (.bool true) x49) fun x50 =>
  ifV x50 (
  some (.nilFunc, (G20.room 33))) (
  some ((.func (.func 247) #[v0] #[]), (G20.room 33))))
theorem m251 {e : Ex} {E : Ev} (h : ExLe Q e E) (v0 v1 : Value) (G : GS) : Ref (s251 true e v0 v1 G) (s251 false (Ex.of E) v0 v1 G) := by
  unfold s251
  exact Ref.go
theorem f251 {orc : FuncId → Bool} {e : Ex} (h : ExLe Q e (E orc)) (v0 v1 : Value) (G : GS) : Ref (s251 true e v0 v1 G) ((E orc).cl 251 [v0, v1] G) :=
  fun r hr => cl_sxE_some Q orc (vs := [v0, v1]) G Tryz.func251 (by kernel_rfl) (by kernel_rfl) (by kernel_rfl) (by kernel_rfl) (by kernel_rfl) (by kernel_rfl) (m251 h v0 v1 G r hr)
/-- coxswain/find.down -/
noncomputable def s252 (q : Bool) (e : Ex) (v0 v1 : Value) (G : GS) : Option (Value × GS) :=
  bS (bx q v0 G) fun x0 G1 =>
  bS (bx q v1 G1) fun x2 G3 =>
  some ((.func (.func 256) #[] #[x0, x2]), G3)
theorem m252 {e : Ex} {E : Ev} (h : ExLe Q e E) (v0 v1 : Value) (G : GS) : Ref (s252 true e v0 v1 G) (s252 false (Ex.of E) v0 v1 G) := by
  unfold s252
  exact Ref.go
theorem f252 {orc : FuncId → Bool} {e : Ex} (h : ExLe Q e (E orc)) (v0 v1 : Value) (G : GS) : Ref (s252 true e v0 v1 G) ((E orc).cl 252 [v0, v1] G) :=
  fun r hr => cl_sxE_some Q orc (vs := [v0, v1]) G Tryz.func252 (by kernel_rfl) (by kernel_rfl) (by kernel_rfl) (by kernel_rfl) (by kernel_rfl) (by kernel_rfl) (m252 h v0 v1 G r hr)
/-- coxswain/stack.NewPush -/
noncomputable def s253 (q : Bool) (e : Ex) (v0 v1 : Value) (G : GS) : Option (Value × GS) :=
  bS (bx q v0 G) fun x0 G1 =>
  bP (lda Q q 28 3 x0 G1) fun x2 =>
  bP (bd Q q 286 z286 [(0, 0, 3), (2, 4, 1), (4, 6, 1)] [x2, v1, (.bool true)]) fun x3 =>
  bP (bd Q q 399 z399 [(0, 0, 9), (1, 9, 1)] [x3, (.func (.func 257) #[] #[])]) fun x4 =>
  bS (bx q x4 G1) fun x5 G6 =>
  bP (bn Q q .lss 3 (.tmp 11) (.const (.int .i64 0)) v1 (.int .i64 0)) fun x7 =>
  bS (gd x7 false (some (v1, G6)) G6) fun x8 G9 =>
  bS (gd x7 false (bP (fa Q q 28 2 2 x0) fun y => some (y, G9)) G9) fun x10 G11 =>
  bS (gd x7 false (bP (ld Q q 3 x10 G11) fun y => some (y, G11)) G11) fun x12 G13 =>
  bS (gd x7 false (bP (bn Q q .geq 3 (.tmp 14) (.tmp 16) x8 x12) fun y => some (y, G13)) G13) fun x14 G15 =>
  bP (pickV x7 (.bool true) x14) fun x16 =>
  ifV x16 (
  bP (pNil x5) fun x17 =>
  bP (fa Q q 399 0 0 x17) fun x18 =>
  bS (e.ev.cl 207 [x18, (.int .i64 3)] G15) fun x19 G20 =>
  some (x5, G20)) (
  some (x5, G15))
theorem m253 {e : Ex} {E : Ev} (h : ExLe Q e E) (v0 v1 : Value) (G : GS) : Ref (s253 true e v0 v1 G) (s253 false (Ex.of E) v0 v1 G) := by
  unfold s253
  exact Ref.go
theorem f253 {orc : FuncId → Bool} {e : Ex} (h : ExLe Q e (E orc)) (v0 v1 : Value) (G : GS) : Ref (s253 true e v0 v1 G) ((E orc).cl 253 [v0, v1] G) :=
  fun r hr => cl_sxE_some Q orc (vs := [v0, v1]) G Tryz.func253 (by kernel_rfl) (by kernel_rfl) (by kernel_rfl) (by kernel_rfl) (by kernel_rfl) (by kernel_rfl) (m253 h v0 v1 G r hr)
/-- (*coxswain/arena.Free).looks -/
noncomputable def s254 (q : Bool) (e : Ex) (v0 v1 : Value) (G : GS) : Option (Value × GS) :=
  bP (pNil v0) fun x0 =>
  bP (fa Q q 395 1 1 x0) fun x1 =>
  bP (fa Q q 30 1 3 x1) fun x2 =>
  bP (ld Q q 3 x2 (G.room 16)) fun x3 =>
  bP (pNil v0) fun x4 =>
  bP (fa Q q 395 4 9 x4) fun x5 =>
  bP (ld Q q 3 x5 (G.room 16)) fun x6 =>
  bP (bn Q q .add 3 (.tmp 10) (.tmp 14) x3 x6) fun x7 =>
  bS (e.ev.cl 120 [v1, x7] (G.room 16)) fun x9 G8 =>
  bP (pNil v0) fun x10 =>
  bP (fa Q q 395 5 10 x10) fun x11 =>
  bP (st Q q 38 1 x11 x9 G8) fun G12 =>
  bP (pNil v0) fun x13 =>
  bP (fa Q q 395 3 8 x13) fun x14 =>
  bP (st Q q 393 1 x14 (.func (.func 258) #[] #[]) G12) fun G15 =>
  bP (pNil v0) fun x16 =>
  bP (fa Q q 395 5 10 x16) fun x17 =>
  bP (ld Q q 38 x17 (G15.room 11)) fun x18 =>
  bS (e.ev.cl 210 [x18] (G15.room 11)) fun x20 G19 =>
  bP (pNil v0) fun x21 =>
  bP (fa Q q 395 1 1 x21) fun x22 =>
  bP (fa Q q 30 3 5 x22) fun x23 =>
  bP (ld Q q 3 x23 G19) fun x24 =>
  chk ((sameO (ld Q q 3 x23 (G15.room 11)) x24 && true)) <|
  bP (bn Q q .geq 3 (.tmp 26) (.tmp 31) x20 x24) fun x25 =>
  ifV x25 (
  bP (pNil v0) fun x26 =>
  bP (fa Q q 395 3 8 x26) fun x27 =>
  bP (st Q q 393 1 x27 (.func (.func 259) #[] #[]) G19) fun G28 =>
  some (.tuple #[], G28)) (
  some (.tuple #[], G19))
theorem m254 {e : Ex} {E : Ev} (h : ExLe Q e E) (v0 v1 : Value) (G : GS) : Ref (s254 true e v0 v1 G) (s254 false (Ex.of E) v0 v1 G) := by
  unfold s254
  exact Ref.go
theorem f254 {orc : FuncId → Bool} {e : Ex} (h : ExLe Q e (E orc)) (v0 v1 : Value) (G : GS) : Ref (s254 true e v0 v1 G) ((E orc).cl 254 [v0, v1] G) :=
  fun r hr => cl_sxE_some Q orc (vs := [v0, v1]) G Tryz.func254 (by kernel_rfl) (by kernel_rfl) (by kernel_rfl) (by kernel_rfl) (by kernel_rfl) (by kernel_rfl) (m254 h v0 v1 G r hr)
/-- (*coxswain/arena.Free).Step -/
noncomputable def s255 (q : Bool) (e : Ex) (v0 v1 : Value) (G : GS) : Option (Value × GS) :=
  bP (ep Q q false 348 (.tmp 5) (.const (.pointer none)) v0 (.pointer none)) fun x0 =>
  bS (gd x0 false (some (v0, G)) G) fun x1 G2 =>
  bS (gd x0 false (bP (pNil x1) fun y => some (y, G2)) G2) fun x3 G4 =>
  bS (gd x0 false (bP (fa Q q 395 3 8 x3) fun y => some (y, G4)) G4) fun x5 G6 =>
  bS (gd x0 false (bP (ld Q q 393 x5 G6) fun y => some (y, G6)) G6) fun x7 G8 =>
  bS (gd x0 false (bP (ef Q q false 393 (.tmp 11) (.const .nilFunc) x7 .nilFunc) fun y => some (y, G8)) G8) fun x9 G10 =>
  bP (pickV x0 (.bool true) x9) fun x11 =>
  ifV x11 (
  some ((.bool true), G10)) (
  bP (pNil v0) fun x12 =>
  bP (fa Q q 395 3 8 x12) fun x13 =>
  bP (ld Q q 393 x13 G10) fun x14 =>
  bS (cValue e.ev x14 [v0, v1] G10) fun x15 G16 =>
  bP (pNil v0) fun x17 =>
  bP (fa Q q 395 3 8 x17) fun x18 =>
  bP (ld Q q 393 x18 G16) fun x19 =>
  bP (ef Q q false 393 (.tmp 24) (.const .nilFunc) x19 .nilFunc) fun x20 =>
  some (x20, G16))
theorem m255 {e : Ex} {E : Ev} (h : ExLe Q e E) (v0 v1 : Value) (G : GS) : Ref (s255 true e v0 v1 G) (s255 false (Ex.of E) v0 v1 G) := by
  unfold s255
  exact Ref.go
theorem f255 {orc : FuncId → Bool} {e : Ex} (h : ExLe Q e (E orc)) (v0 v1 : Value) (G : GS) : Ref (s255 true e v0 v1 G) ((E orc).cl 255 [v0, v1] G) :=
  fun r hr => cl_sxE_some Q orc (vs := [v0, v1]) G Tryz.func255 (by kernel_rfl) (by kernel_rfl) (by kernel_rfl) (by kernel_rfl) (by kernel_rfl) (by kernel_rfl) (m255 h v0 v1 G r hr)
noncomputable def b256_0 (q : Bool) (e : Ex) (lp : Env → GS → Option (Exit × Env × GS)) (τ : Env) (G : GS) : Option (Exit × Env × GS) :=
  bV q (τ 0) fun a0_ =>
  bV q (τ 2) fun a2_ =>
  bV q (τ 4) fun a4_ =>
  bV q (τ 5) fun a5_ =>
  bP (bn Q q .geq 3 (.tmp 9) (.const (.int .i64 0)) a5_ (.int .i64 0)) fun x0 =>
  ifV x0 (
  bP (fa Q q 381 0 0 a4_) fun x1 =>
  bP (st Q q 3 1 x1 a5_ G) fun G2 =>
  bP (fa Q q 381 3 3 a4_) fun x3 =>
  bP (st Q q 38 1 x3 (.int .u64 0) G2) fun G4 =>
  bP (lda Q q 381 4 a4_ G4) fun x5 =>
  bS (cValue e.ev a0_ [a5_, x5] G4) fun x6 G7 =>
  bP (un Q q .not x6) fun x8 =>
  ifV x8 (
  some (.ret, clq q 25 (tu τ [(0, a0_), (2, a2_), (4, a4_), (5, a5_), (9, a5_), (10, x0), (13, a5_), (14, x1), (15, x3), (16, a0_), (17, a5_), (18, x5), (19, x6), (20, x8)]), G7)) (
  bP (ld Q q 382 a2_ G7) fun x9 =>
  bP (ias Q q 382 4 x9 a5_) fun x10 =>
  bP (lda Q q 381 4 x10 G7) fun x11 =>
  bP (st Q q 381 4 a4_ x11 G7) fun G12 =>
  bP (bn Q q .sub 3 (.tmp 11) (.const (.int .i64 1)) a5_ (.int .i64 1)) fun x13 =>
  lp (tu τ [(0, a0_), (2, a2_), (4, a4_), (5, x13), (9, a5_), (10, x0), (11, a5_), (12, x13), (13, a5_), (14, x1), (15, x3), (16, a0_), (17, a5_), (18, x5), (19, x6), (20, x8), (21, x9), (22, a5_), (23, x10), (24, x11)]) G12)) (
  some ((.exit 0), clq q 25 (tu τ [(0, a0_), (2, a2_), (4, a4_), (5, a5_), (9, a5_), (10, x0)]), G))
theorem mb256_0 {e : Ex} {E : Ev} (h : ExLe Q e E) {lp lp' : Env → GS → Option (Exit × Env × GS)} (hlp : LpLe lp lp') (τ : Env) (G : GS) : Ref (b256_0 true e lp τ G) (b256_0 false (Ex.of E) lp' τ G) := by
  unfold b256_0
  exact Ref.go
theorem l256_0 {orc : FuncId → Bool} {e : Ex} (h : ExLe Q e (E orc)) (lp : Env → GS → Option (Exit × Env × GS)) (hlp : ∀ τ G, Ref (lp τ G) (mapE ((E orc).lp (subAt [1, 1, 0, 0] (bodyOf Tryz.f256)) (lst 25 τ) G))) (T : List Value) (G : GS) (hT : T.length = 25) : Ref (b256_0 true e lp (nth undef T) G) (mapE ((E orc).lp (subAt [1, 1, 0, 0] (bodyOf Tryz.f256)) T G)) :=
  fun r hr => lp_sxM Q orc G hT (by kernel_rfl) (mb256_0 h ⟨hlp⟩ _ _ r hr)
/-- coxswain/find.down$1 -/
noncomputable def s256 (q : Bool) (e : Ex) (v0 v1 v2 : Value) (G : GS) : Option (Value × GS) :=
  bP (bd Q q 381 z381 [(1, 1, 1)] [(.int .i64 (-1))]) fun x0 =>
  bS (al Q q 381 z381 G) fun x1 G2 =>
  bP (st Q q 381 4 x1 x0 G2) fun G3 =>
  bP (ld Q q 3 v1 G3) fun x4 =>
  bP (bn Q q .sub 3 (.tmp 7) (.const (.int .i64 1)) x4 (.int .i64 1)) fun x5 =>
  bL q e 256 0 (subAt [1, 1, 0, 0] (bodyOf Tryz.f256)) 25 (tu (nth undef [v0, v1, v2]) [(4, x1), (5, x5), (6, x0), (7, x4), (8, x5)]) G3 fun e6 t7 G8 =>
  ifE e6 (.exit 0) (
  some (.tuple #[], G8)) (ifE e6 .ret (
  some (.tuple #[], G8)) (none))
theorem m256 {e : Ex} {E : Ev} (h : ExLe Q e E) (v0 v1 v2 : Value) (G : GS) : Ref (s256 true e v0 v1 v2 G) (s256 false (Ex.of E) v0 v1 v2 G) := by
  unfold s256
  exact Ref.go
theorem f256 {orc : FuncId → Bool} {e : Ex} (h : ExLe Q e (E orc)) (v0 v1 v2 : Value) (G : GS) : Ref (s256 true e v0 v1 v2 G) ((E orc).cl 256 [v0, v1, v2] G) :=
  fun r hr => cl_sxE_some Q orc (vs := [v0, v1, v2]) G Tryz.func256 (by kernel_rfl) (by kernel_rfl) (by kernel_rfl) (by kernel_rfl) (by kernel_rfl) (by kernel_rfl) (m256 h v0 v1 v2 G r hr)
/-- (*coxswain/stack.Push).first -/
noncomputable def s257 (q : Bool) (e : Ex) (v0 v1 : Value) (G : GS) : Option (Value × GS) :=
  bP (pNil v0) fun x0 =>
  bP (fa Q q 399 0 0 x0) fun x1 =>
  bS (e.ev.cl 206 [x1, v1] G) fun x2 G3 =>
  bP (pNil v0) fun x4 =>
  bP (fa Q q 399 0 0 x4) fun x5 =>
  bP (fa Q q 286 3 5 x5) fun x6 =>
  bP (st Q q 3 1 x6 x2 G3) fun G7 =>
  bP (pNil v0) fun x8 =>
  bP (fa Q q 399 1 9 x8) fun x9 =>
  bP (st Q q 397 1 x9 (.func (.func 260) #[] #[]) G7) fun G10 =>
  some (.tuple #[], G10)
theorem m257 {e : Ex} {E : Ev} (h : ExLe Q e E) (v0 v1 : Value) (G : GS) : Ref (s257 true e v0 v1 G) (s257 false (Ex.of E) v0 v1 G) := by
  unfold s257
  exact Ref.go
theorem f257 {orc : FuncId → Bool} {e : Ex} (h : ExLe Q e (E orc)) (v0 v1 : Value) (G : GS) : Ref (s257 true e v0 v1 G) ((E orc).cl 257 [v0, v1] G) :=
  fun r hr => cl_sxE_some Q orc (vs := [v0, v1]) G Tryz.func257 (by kernel_rfl) (by kernel_rfl) (by kernel_rfl) (by kernel_rfl) (by kernel_rfl) (by kernel_rfl) (m257 h v0 v1 G r hr)
/-- (*coxswain/arena.Free).raises -/
noncomputable def s258 (q : Bool) (e : Ex) (v0 v1 : Value) (G : GS) : Option (Value × GS) :=
  bP (pNil v0) fun x0 =>
  bP (fa Q q 395 1 1 x0) fun x1 =>
  bP (fa Q q 30 1 3 x1) fun x2 =>
  bP (ld Q q 3 x2 (G.room 17)) fun x3 =>
  bP (pNil v0) fun x4 =>
  bP (fa Q q 395 4 9 x4) fun x5 =>
  bP (ld Q q 3 x5 (G.room 17)) fun x6 =>
  bP (bn Q q .add 3 (.tmp 9) (.tmp 13) x3 x6) fun x7 =>
  bP (pNil v0) fun x8 =>
  bP (fa Q q 395 5 10 x8) fun x9 =>
  bP (ld Q q 38 x9 (G.room 17)) fun x10 =>
  bP (bn Q q .add 38 (.tmp 18) (.const (.int .u64 1)) x10 (.int .u64 1)) fun x11 =>
  bS (e.ev.cl 29 [v1, x7, x11] (G.room 17)) fun x13 G12 =>
  bP (pNil v0) fun x14 =>
  bP (fa Q q 395 3 8 x14) fun x15 =>
  bP (st Q q 393 1 x15 (.func (.func 261) #[] #[]) G12) fun G16 =>
  some (.tuple #[], G16)
theorem m258 {e : Ex} {E : Ev} (h : ExLe Q e E) (v0 v1 : Value) (G : GS) : Ref (s258 true e v0 v1 G) (s258 false (Ex.of E) v0 v1 G) := by
  unfold s258
  exact Ref.go
theorem f258 {orc : FuncId → Bool} {e : Ex} (h : ExLe Q e (E orc)) (v0 v1 : Value) (G : GS) : Ref (s258 true e v0 v1 G) ((E orc).cl 258 [v0, v1] G) :=
  fun r hr => cl_sxE_some Q orc (vs := [v0, v1]) G Tryz.func258 (by kernel_rfl) (by kernel_rfl) (by kernel_rfl) (by kernel_rfl) (by kernel_rfl) (by kernel_rfl) (m258 h v0 v1 G r hr)
/-- (*coxswain/arena.Free).wears -/
noncomputable def s259 (q : Bool) (e : Ex) (v0 v1 : Value) (G : GS) : Option (Value × GS) :=
  bP (pNil v0) fun x0 =>
  bP (fa Q q 395 1 1 x0) fun x1 =>
  bP (fa Q q 30 2 4 x1) fun x2 =>
  bP (ld Q q 3 x2 G) fun x3 =>
  bS (e.ev.cl 262 [v1, x3, (.int .u64 1)] G) fun x4 G5 =>
  bP (pNil v0) fun x6 =>
  bP (fa Q q 395 3 8 x6) fun x7 =>
  bP (st Q q 393 1 x7 .nilFunc G5) fun G8 =>
  some (.tuple #[], G8)
theorem m259 {e : Ex} {E : Ev} (h : ExLe Q e E) (v0 v1 : Value) (G : GS) : Ref (s259 true e v0 v1 G) (s259 false (Ex.of E) v0 v1 G) := by
  unfold s259
  exact Ref.go
theorem f259 {orc : FuncId → Bool} {e : Ex} (h : ExLe Q e (E orc)) (v0 v1 : Value) (G : GS) : Ref (s259 true e v0 v1 G) ((E orc).cl 259 [v0, v1] G) :=
  fun r hr => cl_sxE_some Q orc (vs := [v0, v1]) G Tryz.func259 (by kernel_rfl) (by kernel_rfl) (by kernel_rfl) (by kernel_rfl) (by kernel_rfl) (by kernel_rfl) (m259 h v0 v1 G r hr)
/-- (*coxswain/stack.Push).second -/
noncomputable def s260 (q : Bool) (e : Ex) (v0 v1 : Value) (G : GS) : Option (Value × GS) :=
  bP (pNil v0) fun x0 =>
  bP (fa Q q 399 0 0 x0) fun x1 =>
  bP (fa Q q 286 0 0 x1) fun x2 =>
  bP (fa Q q 28 1 1 x2) fun x3 =>
  bP (ld Q q 3 x3 (G.room 20)) fun x4 =>
  bP (pNil v0) fun x5 =>
  bP (fa Q q 399 0 0 x5) fun x6 =>
  bP (fa Q q 286 2 4 x6) fun x7 =>
  bP (ld Q q 3 x7 (G.room 20)) fun x8 =>
  bP (bn Q q .add 3 (.tmp 10) (.tmp 15) x4 x8) fun x9 =>
  bP (pNil v0) fun x10 =>
  bP (fa Q q 399 0 0 x10) fun x11 =>
  bP (fa Q q 286 3 5 x11) fun x12 =>
  bP (ld Q q 3 x12 (G.room 20)) fun x13 =>
  bS (e.ev.cl 220 [x13] (G.room 20)) fun x15 G14 =>
  chk ((sameO (ld Q q 3 x7 G14) x8 && (sameO (ld Q q 3 x3 G14) x4 && true))) <|
  bS (e.ev.cl 29 [v1, x9, x15] G14) fun x17 G16 =>
  bP (pNil v0) fun x18 =>
  bP (fa Q q 399 1 9 x18) fun x19 =>
  bP (st Q q 397 1 x19 (.func (.func 263) #[] #[]) G16) fun G20 =>
  some (.tuple #[], G20)
theorem m260 {e : Ex} {E : Ev} (h : ExLe Q e E) (v0 v1 : Value) (G : GS) : Ref (s260 true e v0 v1 G) (s260 false (Ex.of E) v0 v1 G) := by
  unfold s260
  exact Ref.go
theorem f260 {orc : FuncId → Bool} {e : Ex} (h : ExLe Q e (E orc)) (v0 v1 : Value) (G : GS) : Ref (s260 true e v0 v1 G) ((E orc).cl 260 [v0, v1] G) :=
  fun r hr => cl_sxE_some Q orc (vs := [v0, v1]) G Tryz.func260 (by kernel_rfl) (by kernel_rfl) (by kernel_rfl) (by kernel_rfl) (by kernel_rfl) (by kernel_rfl) (m260 h v0 v1 G r hr)
/-- (*coxswain/arena.Free).push -/
noncomputable def s261 (q : Bool) (e : Ex) (v0 v1 : Value) (G : GS) : Option (Value × GS) :=
  bP (pNil v0) fun x0 =>
  bP (fa Q q 395 0 0 x0) fun x1 =>
  bP (ld Q q 391 x1 G) fun x2 =>
  bS (e.ev.cl 264 [x2, v1] G) fun x3 G4 =>
  ifV x3 (
  bP (pNil v0) fun x5 =>
  bP (fa Q q 395 3 8 x5) fun x6 =>
  bP (st Q q 393 1 x6 .nilFunc G4) fun G7 =>
  some (.tuple #[], G7)) (
  some (.tuple #[], G4))
theorem m261 {e : Ex} {E : Ev} (h : ExLe Q e E) (v0 v1 : Value) (G : GS) : Ref (s261 true e v0 v1 G) (s261 false (Ex.of E) v0 v1 G) := by
  unfold s261
  exact Ref.go
theorem f261 {orc : FuncId → Bool} {e : Ex} (h : ExLe Q e (E orc)) (v0 v1 : Value) (G : GS) : Ref (s261 true e v0 v1 G) ((E orc).cl 261 [v0, v1] G) :=
  fun r hr => cl_sxE_some Q orc (vs := [v0, v1]) G Tryz.func261 (by kernel_rfl) (by kernel_rfl) (by kernel_rfl) (by kernel_rfl) (by kernel_rfl) (by kernel_rfl) (m261 h v0 v1 G r hr)
/-- (*coxswain/cells.Mem).Add -/
noncomputable def s262 (q : Bool) (e : Ex) (v0 v1 v2 : Value) (G : GS) : Option (Value × GS) :=
  bS (e.ev.cl 72 [v0, v1] G) fun x0 G1 =>
  bP (bd Q q 135 z135 [(0, 0, 1), (1, 1, 1)] [x0, v2]) fun x2 =>
  bS (al Q q 135 z135 G1) fun x3 G4 =>
  bP (st Q q 135 3 x3 x2 G4) fun G5 =>
  bP (fa Q q 135 0 0 x3) fun x6 =>
  bP (ld Q q 132 x6 G5) fun x7 =>
  bP (lda Q q 135 3 x3 G5) fun x8 =>
  bS (e.ev.cl 73 [v0, (.int .i64 4), v1, x7, (.func (.func 265) #[x8] #[])] G5) fun x9 G10 =>
  bP (fd Q q 101 3 3 x9) fun x11 =>
  some (x11, G10)
theorem m262 {e : Ex} {E : Ev} (h : ExLe Q e E) (v0 v1 v2 : Value) (G : GS) : Ref (s262 true e v0 v1 v2 G) (s262 false (Ex.of E) v0 v1 v2 G) := by
  unfold s262
  exact Ref.go
theorem f262 {orc : FuncId → Bool} {e : Ex} (h : ExLe Q e (E orc)) (v0 v1 v2 : Value) (G : GS) : Ref (s262 true e v0 v1 v2 G) ((E orc).cl 262 [v0, v1, v2] G) :=
  fun r hr => cl_sxE_some Q orc (vs := [v0, v1, v2]) G Tryz.func262 (by kernel_rfl) (by kernel_rfl) (by kernel_rfl) (by kernel_rfl) (by kernel_rfl) (by kernel_rfl) (m262 h v0 v1 v2 G r hr)
/-- (*coxswain/stack.Push).third -/
noncomputable def s263 (q : Bool) (e : Ex) (v0 v1 : Value) (G : GS) : Option (Value × GS) :=
  bP (pNil v0) fun x0 =>
  bP (fa Q q 399 1 9 x0) fun x1 =>
  bP (st Q q 397 1 x1 (.func (.func 257) #[] #[]) G) fun G2 =>
  bP (pNil v0) fun x3 =>
  bP (fa Q q 399 0 0 x3) fun x4 =>
  bP (pNil v0) fun x5 =>
  bP (fa Q q 399 0 0 x5) fun x6 =>
  bP (fa Q q 286 2 4 x6) fun x7 =>
  bP (ld Q q 3 x7 (G2.room 10)) fun x8 =>
  bS (e.ev.cl 239 [x4, v1, x8] (G2.room 10)) fun x10 G9 =>
  ifV x10 (
  bP (pNil v0) fun x11 =>
  bP (fa Q q 399 0 0 x11) fun x12 =>
  bS (e.ev.cl 207 [x12, (.int .i64 0)] G9) fun x13 G14 =>
  some (.tuple #[], G14)) (
  some (.tuple #[], G9))
theorem m263 {e : Ex} {E : Ev} (h : ExLe Q e E) (v0 v1 : Value) (G : GS) : Ref (s263 true e v0 v1 G) (s263 false (Ex.of E) v0 v1 G) := by
  unfold s263
  exact Ref.go
theorem f263 {orc : FuncId → Bool} {e : Ex} (h : ExLe Q e (E orc)) (v0 v1 : Value) (G : GS) : Ref (s263 true e v0 v1 G) ((E orc).cl 263 [v0, v1] G) :=
  fun r hr => cl_sxE_some Q orc (vs := [v0, v1]) G Tryz.func263 (by kernel_rfl) (by kernel_rfl) (by kernel_rfl) (by kernel_rfl) (by kernel_rfl) (by kernel_rfl) (m263 h v0 v1 G r hr)
/-- (*coxswain/stack.Push).Step -/
noncomputable def s264 (q : Bool) (e : Ex) (v0 v1 : Value) (G : GS) : Option (Value × GS) :=
  bP (ep Q q false 391 (.tmp 5) (.const (.pointer none)) v0 (.pointer none)) fun x0 =>
  bS (gd x0 false (some (v0, G)) G) fun x1 G2 =>
  bS (gd x0 false (bP (pNil x1) fun y => some (y, G2)) G2) fun x3 G4 =>
  bS (gd x0 false (bP (fa Q q 399 0 0 x3) fun y => some (y, G4)) G4) fun x5 G6 =>
  bS (gd x0 false (bS (e.ev.cl 208 [x5] G6) fun y G => some (y, G)) G6) fun x7 G8 =>
  bP (pickV x0 (.bool true) x7) fun x9 =>
  ifV x9 (
  some ((.bool true), G8)) (
  bP (pNil v0) fun x10 =>
  bP (fa Q q 399 1 9 x10) fun x11 =>
  bP (ld Q q 397 x11 G8) fun x12 =>
  bS (cValue e.ev x12 [v0, v1] G8) fun x13 G14 =>
  bP (pNil v0) fun x15 =>
  bP (fa Q q 399 0 0 x15) fun x16 =>
  bP (fa Q q 286 5 7 x16) fun x17 =>
  bP (ld Q q 4 x17 G14) fun x18 =>
  some (x18, G14))
theorem m264 {e : Ex} {E : Ev} (h : ExLe Q e E) (v0 v1 : Value) (G : GS) : Ref (s264 true e v0 v1 G) (s264 false (Ex.of E) v0 v1 G) := by
  unfold s264
  exact Ref.go
theorem f264 {orc : FuncId → Bool} {e : Ex} (h : ExLe Q e (E orc)) (v0 v1 : Value) (G : GS) : Ref (s264 true e v0 v1 G) ((E orc).cl 264 [v0, v1] G) :=
  fun r hr => cl_sxE_some Q orc (vs := [v0, v1]) G Tryz.func264 (by kernel_rfl) (by kernel_rfl) (by kernel_rfl) (by kernel_rfl) (by kernel_rfl) (by kernel_rfl) (m264 h v0 v1 G r hr)
/-- (coxswain/cells.deed).add -/
noncomputable def s265 (q : Bool) (e : Ex) (v0 : Value) (G : GS) : Option (Value × GS) :=
  bS (bx q v0 G) fun x0 G1 =>
  bP (fa Q q 135 0 0 x0) fun x2 =>
  bP (ld Q q 132 x2 (G1.room 9)) fun x3 =>
  bP (pNil x3) fun x4 =>
  bP (ld Q q 97 x4 (G1.room 9)) fun x5 =>
  bP (fa Q q 135 1 1 x0) fun x6 =>
  bP (ld Q q 38 x6 (G1.room 9)) fun x7 =>
  bP (bn Q q .add 38 (.tmp 7) (.tmp 9) x5 x7) fun x8 =>
  some (.tuple #[x8, (.bool true)], (G1.room 9))
theorem m265 {e : Ex} {E : Ev} (h : ExLe Q e E) (v0 : Value) (G : GS) : Ref (s265 true e v0 G) (s265 false (Ex.of E) v0 G) := by
  unfold s265
  exact Ref.go
theorem f265 {orc : FuncId → Bool} {e : Ex} (h : ExLe Q e (E orc)) (v0 : Value) (G : GS) : Ref (s265 true e v0 G) ((E orc).cl 265 [v0] G) :=
  fun r hr => cl_sxE_some Q orc (vs := [v0]) G Tryz.func265 (by kernel_rfl) (by kernel_rfl) (by kernel_rfl) (by kernel_rfl) (by kernel_rfl) (by kernel_rfl) (m265 h v0 G r hr)
/-- (*coxswain/ready.part[*coxswain/claim.Claim]).run -/
noncomputable def s283 (q : Bool) (e : Ex) (v0 v1 : Value) (G : GS) : Option (Value × GS) :=
  bP (pNil v0) fun x0 =>
  bP (fa Q q 129 4 4 x0) fun x1 =>
  bP (ld Q q 4 x1 G) fun x2 =>
  bP (un Q q .not x2) fun x3 =>
  ifV x3 (
  bP (pNil v0) fun x4 =>
  bP (fa Q q 129 0 0 x4) fun x5 =>
  bP (ld Q q 125 x5 G) fun x6 =>
  bS (cValue e.ev x6 [] G) fun x7 G8 =>
  bP (pNil v0) fun x9 =>
  bP (fa Q q 129 3 3 x9) fun x10 =>
  bP (st Q q 123 1 x10 x7 G8) fun G11 =>
  bP (pNil v0) fun x12 =>
  bP (fa Q q 129 4 4 x12) fun x13 =>
  bP (st Q q 4 1 x13 (.bool true) G11) fun G14 =>
  bP (pNil v0) fun x15 =>
  bP (fa Q q 129 3 3 x15) fun x16 =>
  bP (ld Q q 123 x16 G14) fun x17 =>
  bP (ifc Q q 123 x17) fun x18 =>
  bS (cInvoke Q e.ev x18 "Step" [v1] G14) fun x19 G20 =>
  bP (pNil v0) fun x21 =>
  bP (fa Q q 129 1 1 x21) fun x22 =>
  bP (ld Q q 126 x22 G20) fun x23 =>
  bP (ef Q q true 126 (.tmp 34) (.const .nilFunc) x23 .nilFunc) fun x24 =>
  ifV x24 (
  bP (pNil v0) fun x25 =>
  bP (fa Q q 129 1 1 x25) fun x26 =>
  bP (ld Q q 126 x26 (G20.room 10)) fun x27 =>
  bP (pNil v0) fun x28 =>
  bP (fa Q q 129 3 3 x28) fun x29 =>
  bP (ld Q q 123 x29 (G20.room 10)) fun x30 =>
  bS (cValue e.ev x27 [x30] (G20.room 10)) fun x32 G31 =>
  bS (gd x19 true (some (v0, G31)) G31) fun x33 G34 =>
  bS (gd x19 true (bP (pNil x33) fun y => some (y, G34)) G34) fun x35 G36 =>
  bS (gd x19 true (bP (fa Q q 129 2 2 x35) fun y => some (y, G36)) G36) fun x37 G38 =>
  bS (gd x19 true (bP (ld Q q 127 x37 G38) fun y => some (y, G38)) G38) fun x39 G40 =>
  bS (gd x19 true (bP (ef Q q true 127 (.tmp 50) (.const .nilFunc) x39 .nilFunc) fun y => some (y, G40)) G40) fun x41 G42 =>
  bP (pickV x19 x41 (.bool false)) fun x43 =>
  ifV x43 (
  bP (pNil v0) fun x44 =>
  bP (fa Q q 129 2 2 x44) fun x45 =>
  bP (ld Q q 127 x45 (G42.room 9)) fun x46 =>
  bP (pNil v0) fun x47 =>
  bP (fa Q q 129 3 3 x47) fun x48 =>
  bP (ld Q q 123 x48 (G42.room 9)) fun x49 =>
  bS (cValue e.ev x46 [x49] (G42.room 9)) fun x51 G50 =>
  some (.tuple #[x19, x32], G50)) (
  some (.tuple #[x19, x32], G42))) (
  bS (gd x19 true (some (v0, G20)) G20) fun x52 G53 =>
  bS (gd x19 true (bP (pNil x52) fun y => some (y, G53)) G53) fun x54 G55 =>
  bS (gd x19 true (bP (fa Q q 129 2 2 x54) fun y => some (y, G55)) G55) fun x56 G57 =>
  bS (gd x19 true (bP (ld Q q 127 x56 G57) fun y => some (y, G57)) G57) fun x58 G59 =>
  bS (gd x19 true (bP (ef Q q true 127 (.tmp 50) (.const .nilFunc) x58 .nilFunc) fun y => some (y, G59)) G59) fun x60 G61 =>
  bP (pickV x19 x60 (.bool false)) fun x62 =>
  ifV x62 (
  bP (pNil v0) fun x63 =>
  bP (fa Q q 129 2 2 x63) fun x64 =>
  bP (ld Q q 127 x64 (G61.room 9)) fun x65 =>
  bP (pNil v0) fun x66 =>
  bP (fa Q q 129 3 3 x66) fun x67 =>
  bP (ld Q q 123 x67 (G61.room 9)) fun x68 =>
  bS (cValue e.ev x65 [x68] (G61.room 9)) fun x70 G69 =>
  some (.tuple #[x19, (.int .u64 0)], G69)) (
  some (.tuple #[x19, (.int .u64 0)], G61)))) (
  bP (pNil v0) fun x71 =>
  bP (fa Q q 129 3 3 x71) fun x72 =>
  bP (ld Q q 123 x72 G) fun x73 =>
  bP (ifc Q q 123 x73) fun x74 =>
  bS (cInvoke Q e.ev x74 "Step" [v1] G) fun x75 G76 =>
  bP (pNil v0) fun x77 =>
  bP (fa Q q 129 1 1 x77) fun x78 =>
  bP (ld Q q 126 x78 G76) fun x79 =>
  bP (ef Q q true 126 (.tmp 34) (.const .nilFunc) x79 .nilFunc) fun x80 =>
  ifV x80 (
  bP (pNil v0) fun x81 =>
  bP (fa Q q 129 1 1 x81) fun x82 =>
  bP (ld Q q 126 x82 (G76.room 10)) fun x83 =>
  bP (pNil v0) fun x84 =>
  bP (fa Q q 129 3 3 x84) fun x85 =>
  bP (ld Q q 123 x85 (G76.room 10)) fun x86 =>
  bS (cValue e.ev x83 [x86] (G76.room 10)) fun x88 G87 =>
  bS (gd x75 true (some (v0, G87)) G87) fun x89 G90 =>
  bS (gd x75 true (bP (pNil x89) fun y => some (y, G90)) G90) fun x91 G92 =>
  bS (gd x75 true (bP (fa Q q 129 2 2 x91) fun y => some (y, G92)) G92) fun x93 G94 =>
  bS (gd x75 true (bP (ld Q q 127 x93 G94) fun y => some (y, G94)) G94) fun x95 G96 =>
  bS (gd x75 true (bP (ef Q q true 127 (.tmp 50) (.const .nilFunc) x95 .nilFunc) fun y => some (y, G96)) G96) fun x97 G98 =>
  bP (pickV x75 x97 (.bool false)) fun x99 =>
  ifV x99 (
  bP (pNil v0) fun x100 =>
  bP (fa Q q 129 2 2 x100) fun x101 =>
  bP (ld Q q 127 x101 (G98.room 9)) fun x102 =>
  bP (pNil v0) fun x103 =>
  bP (fa Q q 129 3 3 x103) fun x104 =>
  bP (ld Q q 123 x104 (G98.room 9)) fun x105 =>
  bS (cValue e.ev x102 [x105] (G98.room 9)) fun x107 G106 =>
  some (.tuple #[x75, x88], G106)) (
  some (.tuple #[x75, x88], G98))) (
  bS (gd x75 true (some (v0, G76)) G76) fun x108 G109 =>
  bS (gd x75 true (bP (pNil x108) fun y => some (y, G109)) G109) fun x110 G111 =>
  bS (gd x75 true (bP (fa Q q 129 2 2 x110) fun y => some (y, G111)) G111) fun x112 G113 =>
  bS (gd x75 true (bP (ld Q q 127 x112 G113) fun y => some (y, G113)) G113) fun x114 G115 =>
  bS (gd x75 true (bP (ef Q q true 127 (.tmp 50) (.const .nilFunc) x114 .nilFunc) fun y => some (y, G115)) G115) fun x116 G117 =>
  bP (pickV x75 x116 (.bool false)) fun x118 =>
  ifV x118 (
  bP (pNil v0) fun x119 =>
  bP (fa Q q 129 2 2 x119) fun x120 =>
  bP (ld Q q 127 x120 (G117.room 9)) fun x121 =>
  bP (pNil v0) fun x122 =>
  bP (fa Q q 129 3 3 x122) fun x123 =>
  bP (ld Q q 123 x123 (G117.room 9)) fun x124 =>
  bS (cValue e.ev x121 [x124] (G117.room 9)) fun x126 G125 =>
  some (.tuple #[x75, (.int .u64 0)], G125)) (
  some (.tuple #[x75, (.int .u64 0)], G117))))
theorem m283 {e : Ex} {E : Ev} (h : ExLe Q e E) (v0 v1 : Value) (G : GS) : Ref (s283 true e v0 v1 G) (s283 false (Ex.of E) v0 v1 G) := by
  unfold s283
  exact Ref.go
theorem f283 {orc : FuncId → Bool} {e : Ex} (h : ExLe Q e (E orc)) (v0 v1 : Value) (G : GS) : Ref (s283 true e v0 v1 G) ((E orc).cl 283 [v0, v1] G) :=
  fun r hr => cl_sxE_some Q orc (vs := [v0, v1]) G Tryz.func283 (by kernel_rfl) (by kernel_rfl) (by kernel_rfl) (by kernel_rfl) (by kernel_rfl) (by kernel_rfl) (m283 h v0 v1 G r hr)
end Go.Proofs.YtmdocnigniefnaaGreat.Lift
