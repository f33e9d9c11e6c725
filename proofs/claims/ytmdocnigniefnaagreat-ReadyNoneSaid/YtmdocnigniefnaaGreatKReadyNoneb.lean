/- the program's code, spelled out by a program of ours (lift2.lean) -/
import Derived.Test.YtmdocnigniefnaaGreatKReadyNonea
namespace Go.Proofs.YtmdocnigniefnaaGreat.Lift
open Go Go.Proofs.YtmdocnigniefnaaGreat.Gh Go.Proofs
set_option linter.unusedVariables false
set_option maxRecDepth 100000
/-- (*coxswain/stack.held).index -/
noncomputable def s209 (q : Bool) (e : Ex) (v0 : Value) (G : GS) : Option (Value × GS) :=
  bS (e.ev.cl 227 [v0] G) fun x0 G1 =>
  bP (bn Q q .neq 23 (.tmp 7) (.const (.int .i64 0)) x0 (.int .i64 0)) fun x2 =>
  ifV x2 (
  some (.tuple #[(.int .i64 0), x0], G1)) (
  bP (pNil v0) fun x3 =>
  bP (fa Q q 286 2 4 x3) fun x4 =>
  bP (ld Q q 3 x4 G1) fun x5 =>
  some (.tuple #[x5, (.int .i64 0)], G1))
theorem m209 {e : Ex} {E : Ev} (h : ExLe Q e E) (v0 : Value) (G : GS) : Ref (s209 true e v0 G) (s209 false (Ex.of E) v0 G) := by
  unfold s209
  exact Ref.go
theorem f209 {orc : FuncId → Bool} {e : Ex} (h : ExLe Q e (E orc)) (v0 : Value) (G : GS) : Ref (s209 true e v0 G) ((E orc).cl 209 [v0] G) :=
  fun r hr => cl_sxE_some Q orc (vs := [v0]) G Tryz.func209 (by kernel_rfl) (by kernel_rfl) (by kernel_rfl) (by kernel_rfl) (by kernel_rfl) (by kernel_rfl) (m209 h v0 G r hr)
/-- coxswain/arena.gen -/
noncomputable def s210 (q : Bool) (e : Ex) (v0 : Value) (G : GS) : Option (Value × GS) :=
  bP (bn Q q .and 38 (.tmp 3) (.const (.int .u64 4294967295)) v0 (.int .u64 4294967295)) fun x0 =>
  bP (cv Q q 38 3 .u64 .i64 x0) fun x1 =>
  some (x1, G)
theorem m210 {e : Ex} {E : Ev} (h : ExLe Q e E) (v0 : Value) (G : GS) : Ref (s210 true e v0 G) (s210 false (Ex.of E) v0 G) := by
  unfold s210
  exact Ref.go
theorem f210 {orc : FuncId → Bool} {e : Ex} (h : ExLe Q e (E orc)) (v0 : Value) (G : GS) : Ref (s210 true e v0 G) ((E orc).cl 210 [v0] G) :=
  fun r hr => cl_sxE_some Q orc (vs := [v0]) G Tryz.func210 (by kernel_rfl) (by kernel_rfl) (by kernel_rfl) (by kernel_rfl) (by kernel_rfl) (by kernel_rfl) (m210 h v0 G r hr)
/-- coxswain/tower.refused -/
noncomputable def s211 (q : Bool) (e : Ex) (v0 v1 v2 v3 : Value) (G : GS) : Option (Value × GS) :=
  bS (bx q v0 G) fun x0 G1 =>
  bP (lda Q q 36 13 x0 G1) fun x2 =>
  bS (e.ev.cl 98 [x2] G1) fun x3 G4 =>
  bP (un Q q .not x3) fun x5 =>
  ifV x5 (
  some ((.int .i64 2), G4)) (
  bS (e.ev.cl 154 [v1] G4) fun x6 G7 =>
  bP (pExtract x6 0) fun x8 =>
  bP (pExtract x6 1) fun x9 =>
  bS (al Q q 258 z258 G7) fun x10 G11 =>
  bP (st Q q 258 3 x10 x8 G11) fun G12 =>
  bP (bn Q q .neq 23 (.tmp 20) (.const (.int .i64 0)) x9 (.int .i64 0)) fun x13 =>
  ifV x13 (
  some ((.int .i64 5), G12)) (
  bP (fa Q q 258 0 0 x10) fun x14 =>
  bP (ld Q q 3 x14 G12) fun x15 =>
  bP (bn Q q .lss 3 (.tmp 24) (.const (.int .i64 0)) x15 (.int .i64 0)) fun x16 =>
  bS (gd x16 false (bP (fa Q q 258 2 2 x10) fun y => some (y, G12)) G12) fun x17 G18 =>
  bS (gd x16 false (bP (ld Q q 4 x17 G18) fun y => some (y, G18)) G18) fun x19 G20 =>
  bP (pickV x16 (.bool true) x19) fun x21 =>
  bS (gd x21 false (bP (fa Q q 258 0 0 x10) fun y => some (y, G20)) G20) fun x22 G23 =>
  bS (gd x21 false (bP (ld Q q 3 x22 G23) fun y => some (y, G23)) G23) fun x24 G25 =>
  bS (gd x21 false (bP (fa Q q 36 3 3 x0) fun y => some (y, G25)) G25) fun x26 G27 =>
  bS (gd x21 false (bP (fa Q q 34 0 0 x26) fun y => some (y, G27)) G27) fun x28 G29 =>
  bS (gd x21 false (bP (fa Q q 30 0 0 x28) fun y => some (y, G29)) G29) fun x30 G31 =>
  bS (gd x21 false (bP (fa Q q 28 2 2 x30) fun y => some (y, G31)) G31) fun x32 G33 =>
  bS (gd x21 false (bP (ld Q q 3 x32 G33) fun y => some (y, G33)) G33) fun x34 G35 =>
  bS (gd x21 false (bP (bn Q q .geq 3 (.tmp 32) (.tmp 37) x24 x34) fun y => some (y, G35)) G35) fun x36 G37 =>
  bP (pickV x21 (.bool true) x36) fun x38 =>
  bS (gd x38 false (some (v2, G37)) G37) fun x39 G40 =>
  bS (gd x38 false (bP (bn Q q .lss 3 (.tmp 41) (.const (.int .i64 0)) x39 (.int .i64 0)) fun y => some (y, G40)) G40) fun x41 G42 =>
  bP (pickV x38 (.bool true) x41) fun x43 =>
  bS (gd x43 false (some (v2, G42)) G42) fun x44 G45 =>
  bS (gd x43 false (bP (bn Q q .gtr 3 (.tmp 45) (.const (.int .i64 65534)) x44 (.int .i64 65534)) fun y => some (y, G45)) G45) fun x46 G47 =>
  bP (pickV x43 (.bool true) x46) fun x48 =>
  bS (gd x48 false (some (v3, G47)) G47) fun x49 G50 =>
  bS (gd x48 false (bP (bn Q q .lss 3 (.tmp 49) (.const (.int .i64 1)) x49 (.int .i64 1)) fun y => some (y, G50)) G50) fun x51 G52 =>
  bP (pickV x48 (.bool true) x51) fun x53 =>
  bS (gd x53 false (some (v3, G52)) G52) fun x54 G55 =>
  bS (gd x53 false (bP (fa Q q 36 2 2 x0) fun y => some (y, G55)) G55) fun x56 G57 =>
  bS (gd x53 false (bP (ld Q q 3 x56 G57) fun y => some (y, G57)) G57) fun x58 G59 =>
  bS (gd x53 false (bP (bn Q q .gtr 3 (.tmp 53) (.tmp 55) x54 x58) fun y => some (y, G59)) G59) fun x60 G61 =>
  bP (pickV x53 (.bool true) x60) fun x62 =>
  ifV x62 (
  some ((.int .i64 3), G61)) (
  some ((.int .i64 0), G61))))
theorem m211 {e : Ex} {E : Ev} (h : ExLe Q e E) (v0 v1 v2 v3 : Value) (G : GS) : Ref (s211 true e v0 v1 v2 v3 G) (s211 false (Ex.of E) v0 v1 v2 v3 G) := by
  unfold s211
  exact Ref.go
theorem f211 {orc : FuncId → Bool} {e : Ex} (h : ExLe Q e (E orc)) (v0 v1 v2 v3 : Value) (G : GS) : Ref (s211 true e v0 v1 v2 v3 G) ((E orc).cl 211 [v0, v1, v2, v3] G) :=
  fun r hr => cl_sxE_some Q orc (vs := [v0, v1, v2, v3]) G Tryz.func211 (by kernel_rfl) (by kernel_rfl) (by kernel_rfl) (by kernel_rfl) (by kernel_rfl) (by kernel_rfl) (m211 h v0 v1 v2 v3 G r hr)
/-- coxswain/tower.NewLay$1 -/
noncomputable def s212 (q : Bool) (e : Ex) (v0 v1 v2 v3 : Value) (G : GS) : Option (Value × GS) :=
  bS (bx q v0 G) fun x0 G1 =>
  bS (bx q v1 G1) fun x2 G3 =>
  some ((.func (.func 213) #[] #[v2, v3, x0, x2]), G3)
theorem m212 {e : Ex} {E : Ev} (h : ExLe Q e E) (v0 v1 v2 v3 : Value) (G : GS) : Ref (s212 true e v0 v1 v2 v3 G) (s212 false (Ex.of E) v0 v1 v2 v3 G) := by
  unfold s212
  exact Ref.go
theorem f212 {orc : FuncId → Bool} {e : Ex} (h : ExLe Q e (E orc)) (v0 v1 v2 v3 : Value) (G : GS) : Ref (s212 true e v0 v1 v2 v3 G) ((E orc).cl 212 [v0, v1, v2, v3] G) :=
  fun r hr => cl_sxE_some Q orc (vs := [v0, v1, v2, v3]) G Tryz.func212 (by kernel_rfl) (by kernel_rfl) (by kernel_rfl) (by kernel_rfl) (by kernel_rfl) (by kernel_rfl) (m212 h v0 v1 v2 v3 G r hr)
/-- coxswain/tower.NewLay$1$1 -/
noncomputable def s213 (q : Bool) (e : Ex) (v0 v1 v2 v3 v4 : Value) (G : GS) : Option (Value × GS) :=
  bP (lda Q q 36 13 v1 (G.room 7)) fun x0 =>
  bP (ld Q q 3 v2 (G.room 7)) fun x1 =>
  bP (ld Q q 3 v3 (G.room 7)) fun x2 =>
  bS (e.ev.cl 87 [x0, x1, x2] (G.room 7)) fun x4 G3 =>
  bP (ld Q q 38 v4 G3) fun x5 =>
  chk ((sameO (ld Q q 38 v4 (G.room 7)) x5 && true)) <|
  bS (e.ev.cl 29 [v0, x4, x5] G3) fun x7 G6 =>
  some (.tuple #[], G6)
theorem m213 {e : Ex} {E : Ev} (h : ExLe Q e E) (v0 v1 v2 v3 v4 : Value) (G : GS) : Ref (s213 true e v0 v1 v2 v3 v4 G) (s213 false (Ex.of E) v0 v1 v2 v3 v4 G) := by
  unfold s213
  exact Ref.go
theorem f213 {orc : FuncId → Bool} {e : Ex} (h : ExLe Q e (E orc)) (v0 v1 v2 v3 v4 : Value) (G : GS) : Ref (s213 true e v0 v1 v2 v3 v4 G) ((E orc).cl 213 [v0, v1, v2, v3, v4] G) :=
  fun r hr => cl_sxE_some Q orc (vs := [v0, v1, v2, v3, v4]) G Tryz.func213 (by kernel_rfl) (by kernel_rfl) (by kernel_rfl) (by kernel_rfl) (by kernel_rfl) (by kernel_rfl) (m213 h v0 v1 v2 v3 v4 G r hr)
/-- coxswain/insert.refused -/
noncomputable def s214 (q : Bool) (e : Ex) (v0 v1 v2 : Value) (G : GS) : Option (Value × GS) :=
  bS (bx q v0 G) fun x0 G1 =>
  bP (lda Q q 36 13 x0 G1) fun x2 =>
  bS (e.ev.cl 87 [x2, (.int .i64 0), (.int .i64 0)] G1) fun x3 G4 =>
  bP (bn Q q .lss 3 (.tmp 10) (.const (.int .i64 0)) x3 (.int .i64 0)) fun x5 =>
  ifV x5 (
  some ((.int .i64 2), G4)) (
  bS (e.ev.cl 154 [v1] G4) fun x6 G7 =>
  bP (pExtract x6 0) fun x8 =>
  bP (pExtract x6 1) fun x9 =>
  bS (al Q q 258 z258 G7) fun x10 G11 =>
  bP (st Q q 258 3 x10 x8 G11) fun G12 =>
  bP (bn Q q .neq 23 (.tmp 18) (.const (.int .i64 0)) x9 (.int .i64 0)) fun x13 =>
  ifV x13 (
  some ((.int .i64 5), G12)) (
  bP (fa Q q 258 0 0 x10) fun x14 =>
  bP (ld Q q 3 x14 G12) fun x15 =>
  bP (bn Q q .lss 3 (.tmp 22) (.const (.int .i64 0)) x15 (.int .i64 0)) fun x16 =>
  bS (gd x16 false (bP (fa Q q 258 2 2 x10) fun y => some (y, G12)) G12) fun x17 G18 =>
  bS (gd x16 false (bP (ld Q q 4 x17 G18) fun y => some (y, G18)) G18) fun x19 G20 =>
  bP (pickV x16 (.bool true) x19) fun x21 =>
  bS (gd x21 false (bP (fa Q q 258 0 0 x10) fun y => some (y, G20)) G20) fun x22 G23 =>
  bS (gd x21 false (bP (ld Q q 3 x22 G23) fun y => some (y, G23)) G23) fun x24 G25 =>
  bS (gd x21 false (bP (fa Q q 36 3 3 x0) fun y => some (y, G25)) G25) fun x26 G27 =>
  bS (gd x21 false (bP (fa Q q 34 0 0 x26) fun y => some (y, G27)) G27) fun x28 G29 =>
  bS (gd x21 false (bP (fa Q q 30 0 0 x28) fun y => some (y, G29)) G29) fun x30 G31 =>
  bS (gd x21 false (bP (fa Q q 28 2 2 x30) fun y => some (y, G31)) G31) fun x32 G33 =>
  bS (gd x21 false (bP (ld Q q 3 x32 G33) fun y => some (y, G33)) G33) fun x34 G35 =>
  bS (gd x21 false (bP (bn Q q .geq 3 (.tmp 30) (.tmp 35) x24 x34) fun y => some (y, G35)) G35) fun x36 G37 =>
  bP (pickV x21 (.bool true) x36) fun x38 =>
  bS (gd x38 false (some (v2, G37)) G37) fun x39 G40 =>
  bS (gd x38 false (bP (bn Q q .lss 3 (.tmp 39) (.const (.int .i64 1)) x39 (.int .i64 1)) fun y => some (y, G40)) G40) fun x41 G42 =>
  bP (pickV x38 (.bool true) x41) fun x43 =>
  bS (gd x43 false (some (v2, G42)) G42) fun x44 G45 =>
  bS (gd x43 false (bP (fa Q q 36 2 2 x0) fun y => some (y, G45)) G45) fun x46 G47 =>
  bS (gd x43 false (bP (ld Q q 3 x46 G47) fun y => some (y, G47)) G47) fun x48 G49 =>
  bS (gd x43 false (bP (bn Q q .gtr 3 (.tmp 43) (.tmp 45) x44 x48) fun y => some (y, G49)) G49) fun x50 G51 =>
  bP (pickV x43 (.bool true) x50) fun x52 =>
  ifV x52 (
  some ((.int .i64 3), G51)) (
  some ((.int .i64 0), G51))))
theorem m214 {e : Ex} {E : Ev} (h : ExLe Q e E) (v0 v1 v2 : Value) (G : GS) : Ref (s214 true e v0 v1 v2 G) (s214 false (Ex.of E) v0 v1 v2 G) := by
  unfold s214
  exact Ref.go
theorem f214 {orc : FuncId → Bool} {e : Ex} (h : ExLe Q e (E orc)) (v0 v1 v2 : Value) (G : GS) : Ref (s214 true e v0 v1 v2 G) ((E orc).cl 214 [v0, v1, v2] G) :=
  fun r hr => cl_sxE_some Q orc (vs := [v0, v1, v2]) G Tryz.func214 (by kernel_rfl) (by kernel_rfl) (by kernel_rfl) (by kernel_rfl) (by kernel_rfl) (by kernel_rfl) (m214 h v0 v1 v2 G r hr)
/-- (*coxswain/insert.Insert).anew -/
noncomputable def s215 (q : Bool) (e : Ex) (v0 v1 : Value) (G : GS) : Option (Value × GS) :=
  bP (pNil v0) fun x0 =>
  bP (fa Q q 340 0 0 x0) fun x1 =>
  bP (lda Q q 36 13 x1 (G.room 13)) fun x2 =>
  bP (pNil v0) fun x3 =>
  bP (fa Q q 340 4 16 x3) fun x4 =>
  bP (ld Q q 38 x4 (G.room 13)) fun x5 =>
  bS (e.ev.cl 228 [x2, x5] (G.room 13)) fun x7 G6 =>
  bP (pNil v0) fun x8 =>
  bP (fa Q q 340 10 22 x8) fun x9 =>
  bP (st Q q 184 1 x9 x7 G6) fun G10 =>
  some (v1, G10)
theorem m215 {e : Ex} {E : Ev} (h : ExLe Q e E) (v0 v1 : Value) (G : GS) : Ref (s215 true e v0 v1 G) (s215 false (Ex.of E) v0 v1 G) := by
  unfold s215
  exact Ref.go
theorem f215 {orc : FuncId → Bool} {e : Ex} (h : ExLe Q e (E orc)) (v0 v1 : Value) (G : GS) : Ref (s215 true e v0 v1 G) ((E orc).cl 215 [v0, v1] G) :=
  fun r hr => cl_sxE_some Q orc (vs := [v0, v1]) G Tryz.func215 (by kernel_rfl) (by kernel_rfl) (by kernel_rfl) (by kernel_rfl) (by kernel_rfl) (by kernel_rfl) (m215 h v0 v1 G r hr)
/-- coxswain/epoch.NewAdvance -/
noncomputable def s216 (q : Bool) (e : Ex) (v0 v1 v2 : Value) (G : GS) : Option (Value × GS) :=
  bS (bx q v0 G) fun x0 G1 =>
  bP (bd Q q 231 z231 [(2, 4, 1)] [(.bool true)]) fun x2 =>
  bP (lda Q q 32 3 x0 G1) fun x3 =>
  bP (bd Q q 372 z372 [(0, 0, 6), (1, 6, 3), (2, 9, 1), (3, 10, 1)] [x2, x3, v1, v2]) fun x4 =>
  bS (bx q x4 G1) fun x5 G6 =>
  bP (lda Q q 32 3 x0 G6) fun x7 =>
  bS (e.ev.cl 134 [x7, v1] G6) fun x8 G9 =>
  ifV x8 (
  bP (pNil x5) fun x10 =>
  bP (fa Q q 372 0 0 x10) fun x11 =>
  bS (e.ev.cl 135 [x11, (.int .i64 3)] G9) fun x12 G13 =>
  some (x5, G13)) (
  bP (bd Q q 229 z229 [(0, 0, 1), (1, 1, 1), (2, 2, 1)] [(.func (.func 229) #[x5] #[]), (.func (.func 230) #[x5] #[]), (.func (.func 231) #[x5] #[])]) fun x14 =>
  bP (pNil x5) fun x15 =>
  bP (fa Q q 372 0 0 x15) fun x16 =>
  bP (fa Q q 231 0 0 x16) fun x17 =>
  bP (st Q q 229 3 x17 x14 G9) fun G18 =>
  some (x5, G18))
theorem m216 {e : Ex} {E : Ev} (h : ExLe Q e E) (v0 v1 v2 : Value) (G : GS) : Ref (s216 true e v0 v1 v2 G) (s216 false (Ex.of E) v0 v1 v2 G) := by
  unfold s216
  exact Ref.go
theorem f216 {orc : FuncId → Bool} {e : Ex} (h : ExLe Q e (E orc)) (v0 v1 v2 : Value) (G : GS) : Ref (s216 true e v0 v1 v2 G) ((E orc).cl 216 [v0, v1, v2] G) :=
  fun r hr => cl_sxE_some Q orc (vs := [v0, v1, v2]) G Tryz.func216 (by kernel_rfl) (by kernel_rfl) (by kernel_rfl) (by kernel_rfl) (by kernel_rfl) (by kernel_rfl) (m216 h v0 v1 v2 G r hr)
/-- coxswain/stack.NewAll -/
noncomputable def s217 (q : Bool) (e : Ex) (v0 : Value) (G : GS) : Option (Value × GS) :=
  bS (bx q v0 G) fun x0 G1 =>
  bP (lda Q q 28 3 x0 G1) fun x2 =>
  bP (bd Q q 286 z286 [(0, 0, 3), (4, 6, 1)] [x2, (.bool true)]) fun x3 =>
  bP (bd Q q 375 z375 [(0, 0, 9), (1, 9, 1)] [x3, (.func (.func 232) #[] #[])]) fun x4 =>
  bS (bx q x4 G1) fun x5 G6 =>
  some (x5, G6)
theorem m217 {e : Ex} {E : Ev} (h : ExLe Q e E) (v0 : Value) (G : GS) : Ref (s217 true e v0 G) (s217 false (Ex.of E) v0 G) := by
  unfold s217
  exact Ref.go
theorem f217 {orc : FuncId → Bool} {e : Ex} (h : ExLe Q e (E orc)) (v0 : Value) (G : GS) : Ref (s217 true e v0 G) ((E orc).cl 217 [v0] G) :=
  fun r hr => cl_sxE_some Q orc (vs := [v0]) G Tryz.func217 (by kernel_rfl) (by kernel_rfl) (by kernel_rfl) (by kernel_rfl) (by kernel_rfl) (by kernel_rfl) (m217 h v0 G r hr)
/-- (*coxswain/limbo.Collect).advances -/
noncomputable def s218 (q : Bool) (e : Ex) (v0 v1 : Value) (G : GS) : Option (Value × GS) :=
  bP (pNil v0) fun x0 =>
  bP (fa Q q 352 2 13 x0) fun x1 =>
  bP (ld Q q 346 x1 G) fun x2 =>
  bS (e.ev.cl 233 [x2, v1] G) fun x3 G4 =>
  bP (un Q q .not x3) fun x5 =>
  ifV x5 (
  some ((.func (.func 218) #[v0] #[]), G4)) (
  bP (pNil v0) fun x6 =>
  bP (fa Q q 352 2 13 x6) fun x7 =>
  bP (ld Q q 346 x7 G4) fun x8 =>
  bS (e.ev.cl 234 [x8] G4) fun x9 G10 =>
  bP (pNil v0) fun x11 =>
  bP (fa Q q 352 0 0 x11) fun x12 =>
  bP (fa Q q 345 2 2 x12) fun x13 =>
  bP (st Q q 23 1 x13 x9 G10) fun G14 =>
  bP (pNil v0) fun x15 =>
  bP (fa Q q 352 0 0 x15) fun x16 =>
  bP (fa Q q 345 2 2 x16) fun x17 =>
  bP (ld Q q 23 x17 G14) fun x18 =>
  bP (bn Q q .neq 23 (.tmp 27) (.const (.int .i64 0)) x18 (.int .i64 0)) fun x19 =>
  ifV x19 (
  some (.nilFunc, G14)) (
  some ((.func (.func 235) #[v0] #[]), G14)))
theorem m218 {e : Ex} {E : Ev} (h : ExLe Q e E) (v0 v1 : Value) (G : GS) : Ref (s218 true e v0 v1 G) (s218 false (Ex.of E) v0 v1 G) := by
  unfold s218
  exact Ref.go
theorem f218 {orc : FuncId → Bool} {e : Ex} (h : ExLe Q e (E orc)) (v0 v1 : Value) (G : GS) : Ref (s218 true e v0 v1 G) ((E orc).cl 218 [v0, v1] G) :=
  fun r hr => cl_sxE_some Q orc (vs := [v0, v1]) G Tryz.func218 (by kernel_rfl) (by kernel_rfl) (by kernel_rfl) (by kernel_rfl) (by kernel_rfl) (by kernel_rfl) (m218 h v0 v1 G r hr)
/-- coxswain/stack.sized -/
noncomputable def s219 (q : Bool) (e : Ex) (v0 : Value) (G : GS) : Option (Value × GS) :=
  bS (bx q v0 G) fun x0 G1 =>
  bP (fa Q q 28 2 2 x0) fun x2 =>
  bP (ld Q q 3 x2 G1) fun x3 =>
  bP (bn Q q .geq 3 (.tmp 4) (.const (.int .i64 1)) x3 (.int .i64 1)) fun x4 =>
  bS (gd x4 true (bP (fa Q q 28 2 2 x0) fun y => some (y, G1)) G1) fun x5 G6 =>
  bS (gd x4 true (bP (ld Q q 3 x5 G6) fun y => some (y, G6)) G6) fun x7 G8 =>
  bS (gd x4 true (bP (bn Q q .leq 3 (.tmp 8) (.const (.int .i64 4096)) x7 (.int .i64 4096)) fun y => some (y, G8)) G8) fun x9 G10 =>
  bP (pickV x4 x9 (.bool false)) fun x11 =>
  some (x11, G10)
theorem m219 {e : Ex} {E : Ev} (h : ExLe Q e E) (v0 : Value) (G : GS) : Ref (s219 true e v0 G) (s219 false (Ex.of E) v0 G) := by
  unfold s219
  exact Ref.go
theorem f219 {orc : FuncId → Bool} {e : Ex} (h : ExLe Q e (E orc)) (v0 : Value) (G : GS) : Ref (s219 true e v0 G) ((E orc).cl 219 [v0] G) :=
  fun r hr => cl_sxE_some Q orc (vs := [v0]) G Tryz.func219 (by kernel_rfl) (by kernel_rfl) (by kernel_rfl) (by kernel_rfl) (by kernel_rfl) (by kernel_rfl) (m219 h v0 G r hr)
/-- coxswain/stack.link -/
noncomputable def s220 (q : Bool) (e : Ex) (v0 : Value) (G : GS) : Option (Value × GS) :=
  bP (bd Q q 357 z357 [(0, 0, 1)] [v0]) fun x0 =>
  bS (e.ev.cl 236 [x0] G) fun x1 G2 =>
  bP (pExtract x1 0) fun x3 =>
  bP (pExtract x1 1) fun x4 =>
  some (x3, G2)
theorem m220 {e : Ex} {E : Ev} (h : ExLe Q e E) (v0 : Value) (G : GS) : Ref (s220 true e v0 G) (s220 false (Ex.of E) v0 G) := by
  unfold s220
  exact Ref.go
theorem f220 {orc : FuncId → Bool} {e : Ex} (h : ExLe Q e (E orc)) (v0 : Value) (G : GS) : Ref (s220 true e v0 G) ((E orc).cl 220 [v0] G) :=
  fun r hr => cl_sxE_some Q orc (vs := [v0]) G Tryz.func220 (by kernel_rfl) (by kernel_rfl) (by kernel_rfl) (by kernel_rfl) (by kernel_rfl) (by kernel_rfl) (m220 h v0 G r hr)
/-- coxswain/word.GetTop -/
noncomputable def s221 (q : Bool) (e : Ex) (v0 : Value) (G : GS) : Option (Value × GS) :=
  bS (al Q q 357 z357 G) fun x0 G1 =>
  bS (e.ev.cl 237 [] G1) fun x2 G3 =>
  bS (al Q q 320 z320 G3) fun x4 G5 =>
  bP (st Q q 320 4 x4 x2 G5) fun G6 =>
  bP (iaa Q q 320 2 2 x4 (.int .i64 0)) fun x7 =>
  bP (lda Q q 319 2 x7 (G6.room 12)) fun x8 =>
  bS (e.ev.cl 196 [v0, x8] (G6.room 12)) fun x10 G9 =>
  bP (bn Q q .sub 3 (.tmp 9) (.const (.int .i64 1)) x10 (.int .i64 1)) fun x11 =>
  bP (iaa Q q 320 2 2 x4 (.int .i64 1)) fun x12 =>
  bP (lda Q q 319 2 x12 G9) fun x13 =>
  chk ((sameO (lda Q q 319 2 x12 (G6.room 12)) x13 && true)) <|
  bS (e.ev.cl 196 [v0, x13] G9) fun x15 G14 =>
  bP (bd Q q 357 z357 [(0, 0, 1), (1, 1, 1)] [x11, x15]) fun x16 =>
  bP (st Q q 357 2 x0 x16 G14) fun G17 =>
  bP (lda Q q 357 2 x0 G17) fun x18 =>
  some (.tuple #[x18, (.int .i64 0)], G17)
theorem m221 {e : Ex} {E : Ev} (h : ExLe Q e E) (v0 : Value) (G : GS) : Ref (s221 true e v0 G) (s221 false (Ex.of E) v0 G) := by
  unfold s221
  exact Ref.go
theorem f221 {orc : FuncId → Bool} {e : Ex} (h : ExLe Q e (E orc)) (v0 : Value) (G : GS) : Ref (s221 true e v0 G) ((E orc).cl 221 [v0] G) :=
  fun r hr => cl_sxE_some Q orc (vs := [v0]) G Tryz.func221 (by kernel_rfl) (by kernel_rfl) (by kernel_rfl) (by kernel_rfl) (by kernel_rfl) (by kernel_rfl) (m221 h v0 G r hr)
noncomputable def b222_0 (q : Bool) (e : Ex) (lp : Env → GS → Option (Exit × Env × GS)) (τ : Env) (G : GS) : Option (Exit × Env × GS) :=
  bV q (τ 5) fun a5_ =>
  bV q (τ 6) fun a6_ =>
  bV q (τ 7) fun a7_ =>
  bP (bn Q q .lss 3 (.tmp 7) (.tmp 6) a7_ a6_) fun x0 =>
  ifV x0 (
  bP (ias Q q 377 3 a5_ a7_) fun x1 =>
  bP (lda Q q 362 3 x1 G) fun x2 =>
  bS (al Q q 362 z362 G) fun x3 G4 =>
  bP (st Q q 362 3 x3 x2 G4) fun G5 =>
  bP (fa Q q 362 0 0 x3) fun x6 =>
  bP (ld Q q 3 x6 G5) fun x7 =>
  bP (fa Q q 362 1 1 x3) fun x8 =>
  bP (ld Q q 3 x8 G5) fun x9 =>
  bP (bn Q q .lss 3 (.tmp 12) (.tmp 14) x7 x9) fun x10 =>
  bS (gd x10 false (bP (fa Q q 362 0 0 x3) fun y => some (y, G5)) G5) fun x11 G12 =>
  bS (gd x10 false (bP (ld Q q 3 x11 G12) fun y => some (y, G12)) G12) fun x13 G14 =>
  bS (gd x10 false (bP (fa Q q 362 2 2 x3) fun y => some (y, G14)) G14) fun x15 G16 =>
  bS (gd x10 false (bP (ld Q q 3 x15 G16) fun y => some (y, G16)) G16) fun x17 G18 =>
  bS (gd x10 false (bP (bn Q q .gtr 3 (.tmp 18) (.tmp 20) x13 x17) fun y => some (y, G18)) G18) fun x19 G20 =>
  bP (pickV x10 (.bool true) x19) fun x21 =>
  ifV x21 (
  some (.ret, clq q 24 (tu τ [(5, a5_), (6, a6_), (7, a7_), (2, (.bool false)), (4, x3), (8, x0), (9, x1), (10, x2), (11, x6), (12, x7), (13, x8), (14, x9), (15, x10), (16, x10), (17, x11), (18, x13), (19, x15), (20, x17), (21, x19), (22, x21)]), G20)) (
  bP (bn Q q .add 3 (.tmp 7) (.const (.int .i64 1)) a7_ (.int .i64 1)) fun x22 =>
  lp (tu τ [(5, a5_), (6, a6_), (7, x22), (4, x3), (8, x0), (9, x1), (10, x2), (11, x6), (12, x7), (13, x8), (14, x9), (15, x10), (16, x10), (17, x11), (18, x13), (19, x15), (20, x17), (21, x19), (22, x21), (23, x22)]) G20)) (
  some ((.exit 0), clq q 24 (tu τ [(5, a5_), (6, a6_), (7, a7_), (8, x0)]), G))
theorem mb222_0 {e : Ex} {E : Ev} (h : ExLe Q e E) {lp lp' : Env → GS → Option (Exit × Env × GS)} (hlp : LpLe lp lp') (τ : Env) (G : GS) : Ref (b222_0 true e lp τ G) (b222_0 false (Ex.of E) lp' τ G) := by
  unfold b222_0
  exact Ref.go
theorem l222_0 {orc : FuncId → Bool} {e : Ex} (h : ExLe Q e (E orc)) (lp : Env → GS → Option (Exit × Env × GS)) (hlp : ∀ τ G, Ref (lp τ G) (mapE ((E orc).lp (subAt [1, 0, 1, 0, 0] (bodyOf Tryz.f222)) (lst 24 τ) G))) (T : List Value) (G : GS) (hT : T.length = 24) : Ref (b222_0 true e lp (nth undef T) G) (mapE ((E orc).lp (subAt [1, 0, 1, 0, 0] (bodyOf Tryz.f222)) T G)) :=
  fun r hr => lp_sxM Q orc G hT (by kernel_rfl) (mb222_0 h ⟨hlp⟩ _ _ r hr)
/-- coxswain/word.within -/
noncomputable def s222 (q : Bool) (e : Ex) (v0 : Value) (G : GS) : Option (Value × GS) :=
  bP (ln Q q 377 v0) fun x0 =>
  bL q e 222 0 (subAt [1, 0, 1, 0, 0] (bodyOf Tryz.f222)) 24 (tu (nth undef [v0]) [(2, (.bool false)), (5, v0), (6, x0), (7, (.int .i64 0))]) G fun e1 t2 G3 =>
  bV q (t2 2) fun t2x2_ =>
  ifE e1 (.exit 0) (
  some ((.bool true), G3)) (ifE e1 .ret (
  some (t2x2_, G3)) (none))
theorem m222 {e : Ex} {E : Ev} (h : ExLe Q e E) (v0 : Value) (G : GS) : Ref (s222 true e v0 G) (s222 false (Ex.of E) v0 G) := by
  unfold s222
  exact Ref.go
theorem f222 {orc : FuncId → Bool} {e : Ex} (h : ExLe Q e (E orc)) (v0 : Value) (G : GS) : Ref (s222 true e v0 G) ((E orc).cl 222 [v0] G) :=
  fun r hr => cl_sxE_some Q orc (vs := [v0]) G Tryz.func222 (by kernel_rfl) (by kernel_rfl) (by kernel_rfl) (by kernel_rfl) (by kernel_rfl) (by kernel_rfl) (m222 h v0 G r hr)
/-- coxswain/word.Marks -/
noncomputable def s223 (q : Bool) (e : Ex) (v0 v1 : Value) (G : GS) : Option (Value × GS) :=
  ifV v1 (
  bP (bn Q q .or 38 (.tmp 6) (.const (.int .u64 9223372036854775808)) v0 (.int .u64 9223372036854775808)) fun x0 =>
  some (x0, G)) (
  bP (bn Q q .andNot 38 (.tmp 8) (.const (.int .u64 9223372036854775808)) v0 (.int .u64 9223372036854775808)) fun x1 =>
  some (x1, G))
theorem m223 {e : Ex} {E : Ev} (h : ExLe Q e E) (v0 v1 : Value) (G : GS) : Ref (s223 true e v0 v1 G) (s223 false (Ex.of E) v0 v1 G) := by
  unfold s223
  exact Ref.go
theorem f223 {orc : FuncId → Bool} {e : Ex} (h : ExLe Q e (E orc)) (v0 v1 : Value) (G : GS) : Ref (s223 true e v0 v1 G) ((E orc).cl 223 [v0, v1] G) :=
  fun r hr => cl_sxE_some Q orc (vs := [v0, v1]) G Tryz.func223 (by kernel_rfl) (by kernel_rfl) (by kernel_rfl) (by kernel_rfl) (by kernel_rfl) (by kernel_rfl) (m223 h v0 v1 G r hr)
noncomputable def b224_0 (q : Bool) (e : Ex) (lp : Env → GS → Option (Exit × Env × GS)) (τ : Env) (G : GS) : Option (Exit × Env × GS) :=
  bV q (τ 1) fun a1_ =>
  bV q (τ 5) fun a5_ =>
  bV q (τ 8) fun a8_ =>
  bV q (τ 9) fun a9_ =>
  bV q (τ 10) fun a10_ =>
  bP (bn Q q .lss 3 (.tmp 10) (.tmp 9) a10_ a9_) fun x0 =>
  ifV x0 (
  bP (ias Q q 365 2 a8_ a10_) fun x1 =>
  bP (lda Q q 319 2 x1 G) fun x2 =>
  bS (al Q q 319 z319 G) fun x3 G4 =>
  bP (st Q q 319 2 x3 x2 G4) fun G5 =>
  bP (lda Q q 319 2 x3 (G5.room 8)) fun x6 =>
  bP (ias Q q 139 1 a1_ a10_) fun x7 =>
  bP (ld Q q 3 x7 (G5.room 8)) fun x8 =>
  bS (e.ev.cl 238 [a5_, x6, x8] (G5.room 8)) fun x10 G9 =>
  bP (bn Q q .add 3 (.tmp 10) (.const (.int .i64 1)) a10_ (.int .i64 1)) fun x11 =>
  lp (tu τ [(1, a1_), (5, x10), (8, a8_), (9, a9_), (10, x11), (6, a10_), (7, x3), (11, x0), (12, a10_), (13, x1), (14, x2), (15, a5_), (16, x6), (17, a1_), (18, a10_), (19, x7), (20, x8), (21, x10), (22, x11)]) G9) (
  some ((.exit 0), clq q 24 (tu τ [(1, a1_), (5, a5_), (8, a8_), (9, a9_), (10, a10_), (11, x0)]), G))
theorem mb224_0 {e : Ex} {E : Ev} (h : ExLe Q e E) {lp lp' : Env → GS → Option (Exit × Env × GS)} (hlp : LpLe lp lp') (τ : Env) (G : GS) : Ref (b224_0 true e lp τ G) (b224_0 false (Ex.of E) lp' τ G) := by
  unfold b224_0
  exact Ref.go
theorem l224_0 {orc : FuncId → Bool} {e : Ex} (h : ExLe Q e (E orc)) (lp : Env → GS → Option (Exit × Env × GS)) (hlp : ∀ τ G, Ref (lp τ G) (mapE ((E orc).lp (subAt [1, 1, 0, 1, 0, 0] (bodyOf Tryz.f224)) (lst 24 τ) G))) (T : List Value) (G : GS) (hT : T.length = 24) : Ref (b224_0 true e lp (nth undef T) G) (mapE ((E orc).lp (subAt [1, 1, 0, 1, 0, 0] (bodyOf Tryz.f224)) T G)) :=
  fun r hr => lp_sxM Q orc G hT (by kernel_rfl) (mb224_0 h ⟨hlp⟩ _ _ r hr)
/-- coxswain/word.lay -/
noncomputable def s224 (q : Bool) (e : Ex) (v0 v1 : Value) (G : GS) : Option (Value × GS) :=
  bP (ln Q q 365 v0) fun x0 =>
  bL q e 224 0 (subAt [1, 1, 0, 1, 0, 0] (bodyOf Tryz.f224)) 24 (tu (nth undef [v0, v1]) [(4, (.int .u64 0)), (5, (.int .u64 0)), (8, v0), (9, x0), (10, (.int .i64 0))]) G fun e1 t2 G3 =>
  bV q (t2 5) fun t2x5_ =>
  ifE e1 (.exit 0) (
  some (t2x5_, G3)) (none)
theorem m224 {e : Ex} {E : Ev} (h : ExLe Q e E) (v0 v1 : Value) (G : GS) : Ref (s224 true e v0 v1 G) (s224 false (Ex.of E) v0 v1 G) := by
  unfold s224
  exact Ref.go
theorem f224 {orc : FuncId → Bool} {e : Ex} (h : ExLe Q e (E orc)) (v0 v1 : Value) (G : GS) : Ref (s224 true e v0 v1 G) ((E orc).cl 224 [v0, v1] G) :=
  fun r hr => cl_sxE_some Q orc (vs := [v0, v1]) G Tryz.func224 (by kernel_rfl) (by kernel_rfl) (by kernel_rfl) (by kernel_rfl) (by kernel_rfl) (by kernel_rfl) (m224 h v0 v1 G r hr)
/-- (*coxswain/stack.Pop).third -/
noncomputable def s226 (q : Bool) (e : Ex) (v0 v1 : Value) (G : GS) : Option (Value × GS) :=
  bP (pNil v0) fun x0 =>
  bP (fa Q q 289 1 9 x0) fun x1 =>
  bP (st Q q 287 1 x1 (.func (.func 174) #[] #[]) G) fun G2 =>
  bP (pNil v0) fun x3 =>
  bP (fa Q q 289 0 0 x3) fun x4 =>
  bP (pNil v0) fun x5 =>
  bP (fa Q q 289 0 0 x5) fun x6 =>
  bP (fa Q q 286 3 5 x6) fun x7 =>
  bP (ld Q q 3 x7 (G2.room 10)) fun x8 =>
  bS (e.ev.cl 239 [x4, v1, x8] (G2.room 10)) fun x10 G9 =>
  ifV x10 (
  bP (pNil v0) fun x11 =>
  bP (fa Q q 289 0 0 x11) fun x12 =>
  bS (e.ev.cl 207 [x12, (.int .i64 0)] G9) fun x13 G14 =>
  some (.tuple #[], G14)) (
  some (.tuple #[], G9))
theorem m226 {e : Ex} {E : Ev} (h : ExLe Q e E) (v0 v1 : Value) (G : GS) : Ref (s226 true e v0 v1 G) (s226 false (Ex.of E) v0 v1 G) := by
  unfold s226
  exact Ref.go
theorem f226 {orc : FuncId → Bool} {e : Ex} (h : ExLe Q e (E orc)) (v0 v1 : Value) (G : GS) : Ref (s226 true e v0 v1 G) ((E orc).cl 226 [v0, v1] G) :=
  fun r hr => cl_sxE_some Q orc (vs := [v0, v1]) G Tryz.func226 (by kernel_rfl) (by kernel_rfl) (by kernel_rfl) (by kernel_rfl) (by kernel_rfl) (by kernel_rfl) (m226 h v0 v1 G r hr)
/-- (*coxswain/stack.held).told -/
noncomputable def s227 (q : Bool) (e : Ex) (v0 : Value) (G : GS) : Option (Value × GS) :=
  bP (ep Q q false 369 (.tmp 4) (.const (.pointer none)) v0 (.pointer none)) fun x0 =>
  bS (gd x0 false (some (v0, G)) G) fun x1 G2 =>
  bS (gd x0 false (bP (pNil x1) fun y => some (y, G2)) G2) fun x3 G4 =>
  bS (gd x0 false (bP (fa Q q 286 4 6 x3) fun y => some (y, G4)) G4) fun x5 G6 =>
  bS (gd x0 false (bP (ld Q q 4 x5 G6) fun y => some (y, G6)) G6) fun x7 G8 =>
  bS (gd x0 false (bP (un Q q .not x7) fun y => some (y, G8)) G8) fun x9 G10 =>
  bP (pickV x0 (.bool true) x9) fun x11 =>
  ifV x11 (
  some ((.int .i64 1), G10)) (
  bP (pNil v0) fun x12 =>
  bP (fa Q q 286 5 7 x12) fun x13 =>
  bP (ld Q q 4 x13 G10) fun x14 =>
  bP (un Q q .not x14) fun x15 =>
  ifV x15 (
  some ((.int .i64 14), G10)) (
  bP (pNil v0) fun x16 =>
  bP (fa Q q 286 6 8 x16) fun x17 =>
  bP (ld Q q 23 x17 G10) fun x18 =>
  some (x18, G10)))
theorem m227 {e : Ex} {E : Ev} (h : ExLe Q e E) (v0 : Value) (G : GS) : Ref (s227 true e v0 G) (s227 false (Ex.of E) v0 G) := by
  unfold s227
  exact Ref.go
theorem f227 {orc : FuncId → Bool} {e : Ex} (h : ExLe Q e (E orc)) (v0 : Value) (G : GS) : Ref (s227 true e v0 G) ((E orc).cl 227 [v0] G) :=
  fun r hr => cl_sxE_some Q orc (vs := [v0]) G Tryz.func227 (by kernel_rfl) (by kernel_rfl) (by kernel_rfl) (by kernel_rfl) (by kernel_rfl) (by kernel_rfl) (m227 h v0 G r hr)
/-- coxswain/find.NewFind -/
noncomputable def s228 (q : Bool) (e : Ex) (v0 v1 : Value) (G : GS) : Option (Value × GS) :=
  bS (bx q v0 G) fun x0 G1 =>
  bP (lda Q q 36 13 x0 G1) fun x2 =>
  bP (bd Q q 384 z384 [(0, 0, 13), (1, 13, 1), (7, 22, 1)] [x2, v1, (.bool true)]) fun x3 =>
  bS (bx q x3 G1) fun x4 G5 =>
  bP (lda Q q 36 13 x0 G5) fun x6 =>
  bS (e.ev.cl 100 [x6, (.int .i64 (-1)), (.int .i64 0)] G5) fun x7 G8 =>
  bP (bn Q q .lss 3 (.tmp 11) (.const (.int .i64 0)) x7 (.int .i64 0)) fun x9 =>
  ifV x9 (
  bP (pNil x4) fun x10 =>
  bP (fa Q q 384 2 14 x10) fun x11 =>
  bP (st Q q 3 1 x11 (.int .i64 9) G8) fun G12 =>
  bP (pNil x4) fun x13 =>
  bP (fa Q q 384 8 23 x13) fun x14 =>
  bP (st Q q 23 1 x14 (.int .i64 2) G12) fun G15 =>
  some (x4, G15)) (
  bP (fa Q q 36 2 2 x0) fun x16 =>
  bP (ld Q q 3 x16 G8) fun x17 =>
  bS (mk Q q 382 4 32 z381 x17 x17 G8) fun x18 G19 =>
  bP (pNil x4) fun x20 =>
  bP (fa Q q 384 5 20 x20) fun x21 =>
  bP (st Q q 382 1 x21 x18 G19) fun G22 =>
  bS (e.ev.cl 240 [x4] G22) fun x23 G24 =>
  some (x4, G24))
theorem m228 {e : Ex} {E : Ev} (h : ExLe Q e E) (v0 v1 : Value) (G : GS) : Ref (s228 true e v0 v1 G) (s228 false (Ex.of E) v0 v1 G) := by
  unfold s228
  exact Ref.go
theorem f228 {orc : FuncId → Bool} {e : Ex} (h : ExLe Q e (E orc)) (v0 v1 : Value) (G : GS) : Ref (s228 true e v0 v1 G) ((E orc).cl 228 [v0, v1] G) :=
  fun r hr => cl_sxE_some Q orc (vs := [v0, v1]) G Tryz.func228 (by kernel_rfl) (by kernel_rfl) (by kernel_rfl) (by kernel_rfl) (by kernel_rfl) (by kernel_rfl) (m228 h v0 v1 G r hr)
/-- (*coxswain/epoch.Advance).load -/
noncomputable def s229 (q : Bool) (e : Ex) (v0 v1 : Value) (G : GS) : Option (Value × GS) :=
  bP (pNil v0) fun x0 =>
  bP (fa Q q 372 1 6 x0) fun x1 =>
  bP (fa Q q 32 0 0 x1) fun x2 =>
  bP (ld Q q 3 x2 G) fun x3 =>
  bS (e.ev.cl 120 [v1, x3] G) fun x4 G5 =>
  bP (pNil v0) fun x6 =>
  bP (fa Q q 372 4 11 x6) fun x7 =>
  bP (st Q q 38 1 x7 x4 G5) fun G8 =>
  bP (pNil v0) fun x9 =>
  bP (fa Q q 372 4 11 x9) fun x10 =>
  bP (ld Q q 38 x10 (G8.room 11)) fun x11 =>
  bP (cv Q q 38 233 .u64 .u32 x11) fun x12 =>
  bP (cv Q q 233 3 .u32 .i64 x12) fun x13 =>
  bP (pNil v0) fun x14 =>
  bP (fa Q q 372 3 10 x14) fun x15 =>
  bP (ld Q q 3 x15 (G8.room 11)) fun x16 =>
  bP (bn Q q .neq 3 (.tmp 19) (.tmp 23) x13 x16) fun x17 =>
  ifV x17 (
  bP (pNil v0) fun x18 =>
  bP (fa Q q 372 0 0 x18) fun x19 =>
  bS (e.ev.cl 135 [x19, (.int .i64 14)] (G8.room 11)) fun x20 G21 =>
  some (.tuple #[], G21)) (
  bS (e.ev.cl 241 [v0, (.int .i64 0)] (G8.room 11)) fun x22 G23 =>
  some (.tuple #[], G23))
theorem m229 {e : Ex} {E : Ev} (h : ExLe Q e E) (v0 v1 : Value) (G : GS) : Ref (s229 true e v0 v1 G) (s229 false (Ex.of E) v0 v1 G) := by
  unfold s229
  exact Ref.go
theorem f229 {orc : FuncId → Bool} {e : Ex} (h : ExLe Q e (E orc)) (v0 v1 : Value) (G : GS) : Ref (s229 true e v0 v1 G) ((E orc).cl 229 [v0, v1] G) :=
  fun r hr => cl_sxE_some Q orc (vs := [v0, v1]) G Tryz.func229 (by kernel_rfl) (by kernel_rfl) (by kernel_rfl) (by kernel_rfl) (by kernel_rfl) (by kernel_rfl) (m229 h v0 v1 G r hr)
/-- (*coxswain/epoch.Advance).look -/
noncomputable def s230 (q : Bool) (e : Ex) (v0 v1 : Value) (G : GS) : Option (Value × GS) :=
  bP (pNil v0) fun x0 =>
  bP (fa Q q 372 1 6 x0) fun x1 =>
  bP (fa Q q 32 1 1 x1) fun x2 =>
  bP (ld Q q 3 x2 (G.room 13)) fun x3 =>
  bP (pNil v0) fun x4 =>
  bP (fa Q q 372 5 12 x4) fun x5 =>
  bP (ld Q q 3 x5 (G.room 13)) fun x6 =>
  bP (bn Q q .add 3 (.tmp 10) (.tmp 14) x3 x6) fun x7 =>
  bS (e.ev.cl 120 [v1, x7] (G.room 13)) fun x9 G8 =>
  bP (bn Q q .neq 38 (.tmp 17) (.const (.int .u64 0)) x9 (.int .u64 0)) fun x10 =>
  bS (gd x10 true (some (x9, G8)) G8) fun x11 G12 =>
  bS (gd x10 true (some (v0, G12)) G12) fun x13 G14 =>
  bS (gd x10 true (bP (pNil x13) fun y => some (y, G14)) G14) fun x15 G16 =>
  bS (gd x10 true (bP (fa Q q 372 4 11 x15) fun y => some (y, G16)) G16) fun x17 G18 =>
  bS (gd x10 true (bP (ld Q q 38 x17 G18) fun y => some (y, G18)) G18) fun x19 G20 =>
  bS (gd x10 true (bP (cv Q q 38 233 .u64 .u32 x19) fun y => some (y, G20)) G20) fun x21 G22 =>
  bS (gd x10 true (bP (cv Q q 233 38 .u32 .u64 x21) fun y => some (y, G22)) G22) fun x23 G24 =>
  bS (gd x10 true (bP (bn Q q .add 38 (.tmp 26) (.const (.int .u64 1)) x23 (.int .u64 1)) fun y => some (y, G24)) G24) fun x25 G26 =>
  bS (gd x10 true (bP (bn Q q .neq 38 (.tmp 20) (.tmp 27) x11 x25) fun y => some (y, G26)) G26) fun x27 G28 =>
  bP (pickV x10 x27 (.bool false)) fun x29 =>
  ifV x29 (
  bP (pNil v0) fun x30 =>
  bP (fa Q q 372 0 0 x30) fun x31 =>
  bS (e.ev.cl 135 [x31, (.int .i64 14)] G28) fun x32 G33 =>
  some (.tuple #[], G33)) (
  bP (pNil v0) fun x34 =>
  bP (fa Q q 372 5 12 x34) fun x35 =>
  bP (ld Q q 3 x35 G28) fun x36 =>
  bP (bn Q q .add 3 (.tmp 38) (.const (.int .i64 1)) x36 (.int .i64 1)) fun x37 =>
  bS (e.ev.cl 241 [v0, x37] G28) fun x38 G39 =>
  some (.tuple #[], G39))
theorem m230 {e : Ex} {E : Ev} (h : ExLe Q e E) (v0 v1 : Value) (G : GS) : Ref (s230 true e v0 v1 G) (s230 false (Ex.of E) v0 v1 G) := by
  unfold s230
  exact Ref.go
theorem f230 {orc : FuncId → Bool} {e : Ex} (h : ExLe Q e (E orc)) (v0 v1 : Value) (G : GS) : Ref (s230 true e v0 v1 G) ((E orc).cl 230 [v0, v1] G) :=
  fun r hr => cl_sxE_some Q orc (vs := [v0, v1]) G Tryz.func230 (by kernel_rfl) (by kernel_rfl) (by kernel_rfl) (by kernel_rfl) (by kernel_rfl) (by kernel_rfl) (m230 h v0 v1 G r hr)
/-- (*coxswain/epoch.Advance).swap -/
noncomputable def s231 (q : Bool) (e : Ex) (v0 v1 : Value) (G : GS) : Option (Value × GS) :=
  bP (pNil v0) fun x0 =>
  bP (fa Q q 372 0 0 x0) fun x1 =>
  bS (e.ev.cl 135 [x1, (.int .i64 14)] G) fun x2 G3 =>
  bP (pNil v0) fun x4 =>
  bP (fa Q q 372 1 6 x4) fun x5 =>
  bP (fa Q q 32 0 0 x5) fun x6 =>
  bP (ld Q q 3 x6 (G3.room 18)) fun x7 =>
  bP (pNil v0) fun x8 =>
  bP (fa Q q 372 4 11 x8) fun x9 =>
  bP (ld Q q 38 x9 (G3.room 18)) fun x10 =>
  bP (pNil v0) fun x11 =>
  bP (fa Q q 372 4 11 x11) fun x12 =>
  bP (ld Q q 38 x12 (G3.room 18)) fun x13 =>
  bP (cv Q q 38 233 .u64 .u32 x13) fun x14 =>
  bP (cv Q q 233 38 .u32 .u64 x14) fun x15 =>
  bP (bn Q q .add 38 (.tmp 23) (.const (.int .u64 1)) x15 (.int .u64 1)) fun x16 =>
  bS (e.ev.cl 242 [v1, x7, x10, x16] (G3.room 18)) fun x18 G17 =>
  ifV x18 (
  bP (pNil v0) fun x19 =>
  bP (fa Q q 372 0 0 x19) fun x20 =>
  bS (e.ev.cl 135 [x20, (.int .i64 0)] G17) fun x21 G22 =>
  some (.tuple #[], G22)) (
  some (.tuple #[], G17))
theorem m231 {e : Ex} {E : Ev} (h : ExLe Q e E) (v0 v1 : Value) (G : GS) : Ref (s231 true e v0 v1 G) (s231 false (Ex.of E) v0 v1 G) := by
  unfold s231
  exact Ref.go
theorem f231 {orc : FuncId → Bool} {e : Ex} (h : ExLe Q e (E orc)) (v0 v1 : Value) (G : GS) : Ref (s231 true e v0 v1 G) ((E orc).cl 231 [v0, v1] G) :=
  fun r hr => cl_sxE_some Q orc (vs := [v0, v1]) G Tryz.func231 (by kernel_rfl) (by kernel_rfl) (by kernel_rfl) (by kernel_rfl) (by kernel_rfl) (by kernel_rfl) (m231 h v0 v1 G r hr)
/-- (*coxswain/stack.All).first -/
noncomputable def s232 (q : Bool) (e : Ex) (v0 v1 : Value) (G : GS) : Option (Value × GS) :=
  bP (pNil v0) fun x0 =>
  bP (fa Q q 375 1 9 x0) fun x1 =>
  bP (st Q q 373 1 x1 (.func (.func 243) #[] #[]) G) fun G2 =>
  bP (pNil v0) fun x3 =>
  bP (fa Q q 375 0 0 x3) fun x4 =>
  bS (e.ev.cl 206 [x4, v1] G2) fun x5 G6 =>
  bP (pNil v0) fun x7 =>
  bP (fa Q q 375 0 0 x7) fun x8 =>
  bP (fa Q q 286 2 4 x8) fun x9 =>
  bP (st Q q 3 1 x9 x5 G6) fun G10 =>
  bP (pNil v0) fun x11 =>
  bP (fa Q q 375 0 0 x11) fun x12 =>
  bP (fa Q q 286 2 4 x12) fun x13 =>
  bP (ld Q q 3 x13 G10) fun x14 =>
  bP (bn Q q .lss 3 (.tmp 20) (.const (.int .i64 0)) x14 (.int .i64 0)) fun x15 =>
  ifV x15 (
  bP (pNil v0) fun x16 =>
  bP (fa Q q 375 0 0 x16) fun x17 =>
  bS (e.ev.cl 207 [x17, (.int .i64 15)] G10) fun x18 G19 =>
  some (.tuple #[], G19)) (
  some (.tuple #[], G10))
theorem m232 {e : Ex} {E : Ev} (h : ExLe Q e E) (v0 v1 : Value) (G : GS) : Ref (s232 true e v0 v1 G) (s232 false (Ex.of E) v0 v1 G) := by
  unfold s232
  exact Ref.go
theorem f232 {orc : FuncId → Bool} {e : Ex} (h : ExLe Q e (E orc)) (v0 v1 : Value) (G : GS) : Ref (s232 true e v0 v1 G) ((E orc).cl 232 [v0, v1] G) :=
  fun r hr => cl_sxE_some Q orc (vs := [v0, v1]) G Tryz.func232 (by kernel_rfl) (by kernel_rfl) (by kernel_rfl) (by kernel_rfl) (by kernel_rfl) (by kernel_rfl) (m232 h v0 v1 G r hr)
/-- (*coxswain/epoch.Advance).Step -/
noncomputable def s233 (q : Bool) (e : Ex) (v0 v1 : Value) (G : GS) : Option (Value × GS) :=
  bP (ep Q q false 346 (.tmp 5) (.const (.pointer none)) v0 (.pointer none)) fun x0 =>
  bS (gd x0 false (some (v0, G)) G) fun x1 G2 =>
  bS (gd x0 false (bP (pNil x1) fun y => some (y, G2)) G2) fun x3 G4 =>
  bS (gd x0 false (bP (fa Q q 372 0 0 x3) fun y => some (y, G4)) G4) fun x5 G6 =>
  bS (gd x0 false (some (v1, G6)) G6) fun x7 G8 =>
  bS (gd x0 false (bS (e.ev.cl 244 [x5, x7] G8) fun y G => some (y, G)) G8) fun x9 G10 =>
  bP (pickV x0 (.bool true) x9) fun x11 =>
  some (x11, G10)
theorem m233 {e : Ex} {E : Ev} (h : ExLe Q e E) (v0 v1 : Value) (G : GS) : Ref (s233 true e v0 v1 G) (s233 false (Ex.of E) v0 v1 G) := by
  unfold s233
  exact Ref.go
theorem f233 {orc : FuncId → Bool} {e : Ex} (h : ExLe Q e (E orc)) (v0 v1 : Value) (G : GS) : Ref (s233 true e v0 v1 G) ((E orc).cl 233 [v0, v1] G) :=
  fun r hr => cl_sxE_some Q orc (vs := [v0, v1]) G Tryz.func233 (by kernel_rfl) (by kernel_rfl) (by kernel_rfl) (by kernel_rfl) (by kernel_rfl) (by kernel_rfl) (m233 h v0 v1 G r hr)
/-- (*coxswain/epoch.Advance).Err -/
noncomputable def s234 (q : Bool) (e : Ex) (v0 : Value) (G : GS) : Option (Value × GS) :=
  bP (ep Q q false 346 (.tmp 3) (.const (.pointer none)) v0 (.pointer none)) fun x0 =>
  ifV x0 (
  some ((.int .i64 1), G)) (
  bP (pNil v0) fun x1 =>
  bP (fa Q q 372 0 0 x1) fun x2 =>
  bS (e.ev.cl 139 [x2] G) fun x3 G4 =>
  some (x3, G4))
theorem m234 {e : Ex} {E : Ev} (h : ExLe Q e E) (v0 : Value) (G : GS) : Ref (s234 true e v0 G) (s234 false (Ex.of E) v0 G) := by
  unfold s234
  exact Ref.go
theorem f234 {orc : FuncId → Bool} {e : Ex} (h : ExLe Q e (E orc)) (v0 : Value) (G : GS) : Ref (s234 true e v0 G) ((E orc).cl 234 [v0] G) :=
  fun r hr => cl_sxE_some Q orc (vs := [v0]) G Tryz.func234 (by kernel_rfl) (by kernel_rfl) (by kernel_rfl) (by kernel_rfl) (by kernel_rfl) (by kernel_rfl) (m234 h v0 G r hr)
/-- (*coxswain/limbo.Collect).takes -/
noncomputable def s235 (q : Bool) (e : Ex) (v0 v1 : Value) (G : GS) : Option (Value × GS) :=
  bP (pNil v0) fun x0 =>
  bP (fa Q q 352 3 14 x0) fun x1 =>
  bP (ld Q q 347 x1 G) fun x2 =>
  bS (e.ev.cl 245 [x2, v1] G) fun x3 G4 =>
  bP (un Q q .not x3) fun x5 =>
  ifV x5 (
  some ((.func (.func 235) #[v0] #[]), G4)) (
  bP (pNil v0) fun x6 =>
  bP (fa Q q 352 3 14 x6) fun x7 =>
  bP (ld Q q 347 x7 G4) fun x8 =>
  bS (e.ev.cl 246 [x8] G4) fun x9 G10 =>
  bP (pExtract x9 0) fun x11 =>
  bP (pExtract x9 1) fun x12 =>
  bP (bn Q q .neq 23 (.tmp 24) (.const (.int .i64 0)) x12 (.int .i64 0)) fun x13 =>
  ifV x13 (
  some (.nilFunc, G10)) (
  bP (pNil v0) fun x14 =>
  bP (fa Q q 352 4 15 x14) fun x15 =>
  bP (st Q q 3 1 x15 x11 G10) fun G16 =>
  some ((.func (.func 247) #[v0] #[]), G16)))
theorem m235 {e : Ex} {E : Ev} (h : ExLe Q e E) (v0 v1 : Value) (G : GS) : Ref (s235 true e v0 v1 G) (s235 false (Ex.of E) v0 v1 G) := by
  unfold s235
  exact Ref.go
theorem f235 {orc : FuncId → Bool} {e : Ex} (h : ExLe Q e (E orc)) (v0 v1 : Value) (G : GS) : Ref (s235 true e v0 v1 G) ((E orc).cl 235 [v0, v1] G) :=
  fun r hr => cl_sxE_some Q orc (vs := [v0, v1]) G Tryz.func235 (by kernel_rfl) (by kernel_rfl) (by kernel_rfl) (by kernel_rfl) (by kernel_rfl) (by kernel_rfl) (m235 h v0 v1 G r hr)
/-- coxswain/word.PutTop -/
noncomputable def s236 (q : Bool) (e : Ex) (v0 : Value) (G : GS) : Option (Value × GS) :=
  bS (bx q v0 G) fun x0 G1 =>
  bP (fa Q q 357 0 0 x0) fun x2 =>
  bP (ld Q q 3 x2 G1) fun x3 =>
  bP (bd Q q 362 z362 [(0, 0, 1), (1, 1, 1), (2, 2, 1)] [x3, (.int .i64 (-1)), (.int .i64 65534)]) fun x4 =>
  bP (fa Q q 357 1 1 x0) fun x5 =>
  bP (ld Q q 3 x5 G1) fun x6 =>
  bP (bd Q q 362 z362 [(0, 0, 1), (1, 1, 1), (2, 2, 1)] [x6, (.int .i64 0), (.int .i64 281474976710655)]) fun x7 =>
  bS (bs Q q 377 2 (rep z362 2) 3 [(0, 0, 3), (1, 3, 3)] [x4, x7] G1) fun x8 G9 =>
  bS (e.ev.cl 222 [x8] G9) fun x10 G11 =>
  bP (un Q q .not x10) fun x12 =>
  ifV x12 (
  some (.tuple #[(.int .u64 0), (.int .i64 3)], G11)) (
  bS (e.ev.cl 237 [] G11) fun x13 G14 =>
  bS (al Q q 320 z320 G14) fun x15 G16 =>
  bP (st Q q 320 4 x15 x13 G16) fun G17 =>
  bP (sla Q q 320 2 2 x15 none none none (G17.room 10)) fun x18 =>
  bP (fa Q q 357 0 0 x0) fun x19 =>
  bP (ld Q q 3 x19 (G17.room 10)) fun x20 =>
  bP (bn Q q .add 3 (.tmp 17) (.const (.int .i64 1)) x20 (.int .i64 1)) fun x21 =>
  bP (fa Q q 357 1 1 x0) fun x22 =>
  bP (ld Q q 3 x22 (G17.room 10)) fun x23 =>
  bS (bs Q q 139 2 (rep z3 2) 1 [(0, 0, 1), (1, 1, 1)] [x21, x23] ((G17.room 10).at' (G17.nx + 6))) fun x24 G25 =>
  bS (e.ev.cl 224 [x18, x24] (G25.back (G17.room 10))) fun x27 G26 =>
  some (.tuple #[x27, (.int .i64 0)], G26))
theorem m236 {e : Ex} {E : Ev} (h : ExLe Q e E) (v0 : Value) (G : GS) : Ref (s236 true e v0 G) (s236 false (Ex.of E) v0 G) := by
  unfold s236
  exact Ref.go
theorem f236 {orc : FuncId → Bool} {e : Ex} (h : ExLe Q e (E orc)) (v0 : Value) (G : GS) : Ref (s236 true e v0 G) ((E orc).cl 236 [v0] G) :=
  fun r hr => cl_sxE_some Q orc (vs := [v0]) G Tryz.func236 (by kernel_rfl) (by kernel_rfl) (by kernel_rfl) (by kernel_rfl) (by kernel_rfl) (by kernel_rfl) (m236 h v0 G r hr)
/-- coxswain/word.tops -/
noncomputable def s237 (q : Bool) (e : Ex) (G : GS) : Option (Value × GS) :=
  bS (al Q q 320 z320 G) fun x0 G1 =>
  bP (bd Q q 319 z319 [(0, 0, 1), (1, 1, 1)] [(.int .i64 0), (.int .i64 16)]) fun x2 =>
  bP (bd Q q 319 z319 [(0, 0, 1), (1, 1, 1)] [(.int .i64 16), (.int .i64 48)]) fun x3 =>
  bP (bd Q q 320 z320 [(0, 0, 2), (1, 2, 2)] [x2, x3]) fun x4 =>
  bP (st Q q 320 4 x0 x4 G1) fun G5 =>
  bP (lda Q q 320 4 x0 G5) fun x6 =>
  some (x6, G5)
theorem m237 {e : Ex} {E : Ev} (h : ExLe Q e E) (G : GS) : Ref (s237 true e  G) (s237 false (Ex.of E)  G) := by
  unfold s237
  exact Ref.go
theorem f237 {orc : FuncId → Bool} {e : Ex} (h : ExLe Q e (E orc)) (ho : orc 237 = false) (G : GS) : Ref (s237 true e  G) ((E orc).cl 237 [] G) :=
  fun r hr => cl_sxE_some Q orc (vs := []) G Tryz.func237 (by kernel_rfl) (by kernel_rfl) ho (by kernel_rfl) (by kernel_rfl) (by kernel_rfl) (m237 h  G r hr)
/-- (coxswain/word.raw).with -/
noncomputable def s238 (q : Bool) (e : Ex) (v0 v1 v2 : Value) (G : GS) : Option (Value × GS) :=
  bS (bx q v1 G) fun x0 G1 =>
  bP (cv Q q 3 38 .i64 .u64 v2) fun x2 =>
  bP (fa Q q 319 0 0 x0) fun x3 =>
  bP (ld Q q 3 x3 G1) fun x4 =>
  bP (bn Q q .shl 38 (.tmp 9) (.tmp 11) x2 x4) fun x5 =>
  bP (bn Q q .or 322 (.tmp 7) (.tmp 12) v0 x5) fun x6 =>
  some (x6, G1)
theorem m238 {e : Ex} {E : Ev} (h : ExLe Q e E) (v0 v1 v2 : Value) (G : GS) : Ref (s238 true e v0 v1 v2 G) (s238 false (Ex.of E) v0 v1 v2 G) := by
  unfold s238
  exact Ref.go
theorem f238 {orc : FuncId → Bool} {e : Ex} (h : ExLe Q e (E orc)) (v0 v1 v2 : Value) (G : GS) : Ref (s238 true e v0 v1 v2 G) ((E orc).cl 238 [v0, v1, v2] G) :=
  fun r hr => cl_sxE_some Q orc (vs := [v0, v1, v2]) G Tryz.func238 (by kernel_rfl) (by kernel_rfl) (by kernel_rfl) (by kernel_rfl) (by kernel_rfl) (by kernel_rfl) (m238 h v0 v1 v2 G r hr)
/-- (*coxswain/stack.held).swap -/
noncomputable def s239 (q : Bool) (e : Ex) (v0 v1 v2 : Value) (G : GS) : Option (Value × GS) :=
  bP (pNil v0) fun x0 =>
  bP (fa Q q 286 1 3 x0) fun x1 =>
  bP (ld Q q 38 x1 G) fun x2 =>
  bS (e.ev.cl 221 [x2] G) fun x3 G4 =>
  bP (pExtract x3 0) fun x5 =>
  bP (pExtract x3 1) fun x6 =>
  bS (al Q q 357 z357 G4) fun x7 G8 =>
  bP (st Q q 357 2 x7 x5 G8) fun G9 =>
  bP (fa Q q 357 1 1 x7) fun x10 =>
  bP (ld Q q 3 x10 G9) fun x11 =>
  bP (bn Q q .add 3 (.tmp 22) (.const (.int .i64 1)) x11 (.int .i64 1)) fun x12 =>
  bP (bn Q q .and 3 (.tmp 23) (.const (.int .i64 281474976710655)) x12 (.int .i64 281474976710655)) fun x13 =>
  bP (bd Q q 357 z357 [(0, 0, 1), (1, 1, 1)] [v2, x13]) fun x14 =>
  bS (e.ev.cl 236 [x14] G9) fun x15 G16 =>
  bP (pExtract x15 0) fun x17 =>
  bP (pExtract x15 1) fun x18 =>
  bP (pNil v0) fun x19 =>
  bP (fa Q q 286 0 0 x19) fun x20 =>
  bP (fa Q q 28 0 0 x20) fun x21 =>
  bP (ld Q q 3 x21 (G16.room 13)) fun x22 =>
  bP (pNil v0) fun x23 =>
  bP (fa Q q 286 1 3 x23) fun x24 =>
  bP (ld Q q 38 x24 (G16.room 13)) fun x25 =>
  bS (e.ev.cl 242 [v1, x22, x25, x17] (G16.room 13)) fun x27 G26 =>
  some (x27, G26)
theorem m239 {e : Ex} {E : Ev} (h : ExLe Q e E) (v0 v1 v2 : Value) (G : GS) : Ref (s239 true e v0 v1 v2 G) (s239 false (Ex.of E) v0 v1 v2 G) := by
  unfold s239
  exact Ref.go
theorem f239 {orc : FuncId → Bool} {e : Ex} (h : ExLe Q e (E orc)) (v0 v1 v2 : Value) (G : GS) : Ref (s239 true e v0 v1 v2 G) ((E orc).cl 239 [v0, v1, v2] G) :=
  fun r hr => cl_sxE_some Q orc (vs := [v0, v1, v2]) G Tryz.func239 (by kernel_rfl) (by kernel_rfl) (by kernel_rfl) (by kernel_rfl) (by kernel_rfl) (by kernel_rfl) (m239 h v0 v1 v2 G r hr)
/-- (*coxswain/find.Find).anew -/
noncomputable def s240 (q : Bool) (e : Ex) (v0 : Value) (G : GS) : Option (Value × GS) :=
  bP (pNil v0) fun x0 =>
  bP (fa Q q 384 0 0 x0) fun x1 =>
  bP (fa Q q 36 2 2 x1) fun x2 =>
  bP (ld Q q 3 x2 G) fun x3 =>
  bP (bn Q q .sub 3 (.tmp 7) (.const (.int .i64 1)) x3 (.int .i64 1)) fun x4 =>
  bS (e.ev.cl 248 [v0, x4] G) fun x5 G6 =>
  some (.tuple #[], G6)
theorem m240 {e : Ex} {E : Ev} (h : ExLe Q e E) (v0 : Value) (G : GS) : Ref (s240 true e v0 G) (s240 false (Ex.of E) v0 G) := by
  unfold s240
  exact Ref.go
theorem f240 {orc : FuncId → Bool} {e : Ex} (h : ExLe Q e (E orc)) (v0 : Value) (G : GS) : Ref (s240 true e v0 G) ((E orc).cl 240 [v0] G) :=
  fun r hr => cl_sxE_some Q orc (vs := [v0]) G Tryz.func240 (by kernel_rfl) (by kernel_rfl) (by kernel_rfl) (by kernel_rfl) (by kernel_rfl) (by kernel_rfl) (m240 h v0 G r hr)
/-- (*coxswain/epoch.Advance).turn -/
noncomputable def s241 (q : Bool) (e : Ex) (v0 v1 : Value) (G : GS) : Option (Value × GS) :=
  bS (bx q v0 G) fun x0 G1 =>
  bS (bx q v1 G1) fun x2 G3 =>
  bP (ld Q q 346 x0 G3) fun x4 =>
  bP (pNil x4) fun x5 =>
  bP (fa Q q 372 0 0 x5) fun x6 =>
  bP (fa Q q 231 1 3 x6) fun x7 =>
  bP (st Q q 3 1 x7 (.int .i64 2) G3) fun G8 =>
  bP (ld Q q 346 x0 G8) fun x9 =>
  bP (pNil x9) fun x10 =>
  bP (fa Q q 372 1 6 x10) fun x11 =>
  bP (lda Q q 32 3 x11 G8) fun x12 =>
  bS (e.ev.cl 158 [x12] G8) fun x13 G14 =>
  bX (xRange e.ev x13 #[14, 15] (subAt [1, 1, 1, 0, 0] (bodyOf Tryz.f241)) (subAt [1, 1, 1, 0, 1] (bodyOf Tryz.f241)) (lst 35 (tu (nth undef [v0, v1]) [(2, x0), (3, x2), (5, x4), (6, x5), (7, x6), (8, x7), (9, x9), (10, x10), (11, x11), (12, x12), (13, x13)])) G14) fun e15 T16 G17 =>
  ifE e15 .normal (
  some (.tuple #[], G17)) (ifE e15 .ret (
  some (.tuple #[], G17)) (none))
theorem m241 {e : Ex} {E : Ev} (h : ExLe Q e E) (v0 v1 : Value) (G : GS) : Ref (s241 true e v0 v1 G) (s241 false (Ex.of E) v0 v1 G) := by
  unfold s241
  exact Ref.go
theorem f241 {orc : FuncId → Bool} {e : Ex} (h : ExLe Q e (E orc)) (v0 v1 : Value) (G : GS) : Ref (s241 true e v0 v1 G) ((E orc).cl 241 [v0, v1] G) :=
  fun r hr => cl_sxE_some Q orc (vs := [v0, v1]) G Tryz.func241 (by kernel_rfl) (by kernel_rfl) (by kernel_rfl) (by kernel_rfl) (by kernel_rfl) (by kernel_rfl) (m241 h v0 v1 G r hr)
/-- (*coxswain/cells.Mem).CAS -/
noncomputable def s242 (q : Bool) (e : Ex) (v0 v1 v2 v3 : Value) (G : GS) : Option (Value × GS) :=
  bS (e.ev.cl 72 [v0, v1] G) fun x0 G1 =>
  bP (bd Q q 135 z135 [(0, 0, 1), (1, 1, 1), (2, 2, 1)] [x0, v2, v3]) fun x2 =>
  bS (al Q q 135 z135 G1) fun x3 G4 =>
  bP (st Q q 135 3 x3 x2 G4) fun G5 =>
  bP (fa Q q 135 0 0 x3) fun x6 =>
  bP (ld Q q 132 x6 G5) fun x7 =>
  bP (lda Q q 135 3 x3 G5) fun x8 =>
  bS (e.ev.cl 73 [v0, (.int .i64 3), v1, x7, (.func (.func 249) #[x8] #[])] G5) fun x9 G10 =>
  bP (fd Q q 101 4 4 x9) fun x11 =>
  some (x11, G10)
theorem m242 {e : Ex} {E : Ev} (h : ExLe Q e E) (v0 v1 v2 v3 : Value) (G : GS) : Ref (s242 true e v0 v1 v2 v3 G) (s242 false (Ex.of E) v0 v1 v2 v3 G) := by
  unfold s242
  exact Ref.go
theorem f242 {orc : FuncId → Bool} {e : Ex} (h : ExLe Q e (E orc)) (v0 v1 v2 v3 : Value) (G : GS) : Ref (s242 true e v0 v1 v2 v3 G) ((E orc).cl 242 [v0, v1, v2, v3] G) :=
  fun r hr => cl_sxE_some Q orc (vs := [v0, v1, v2, v3]) G Tryz.func242 (by kernel_rfl) (by kernel_rfl) (by kernel_rfl) (by kernel_rfl) (by kernel_rfl) (by kernel_rfl) (m242 h v0 v1 v2 v3 G r hr)
/-- (*coxswain/stack.All).second -/
noncomputable def s243 (q : Bool) (e : Ex) (v0 v1 : Value) (G : GS) : Option (Value × GS) :=
  bP (pNil v0) fun x0 =>
  bP (fa Q q 375 1 9 x0) fun x1 =>
  bP (st Q q 373 1 x1 (.func (.func 232) #[] #[]) G) fun G2 =>
  bP (pNil v0) fun x3 =>
  bP (fa Q q 375 0 0 x3) fun x4 =>
  bS (e.ev.cl 239 [x4, v1, (.int .i64 (-1))] G2) fun x5 G6 =>
  ifV x5 (
  bP (pNil v0) fun x7 =>
  bP (fa Q q 375 0 0 x7) fun x8 =>
  bS (e.ev.cl 207 [x8, (.int .i64 0)] G6) fun x9 G10 =>
  some (.tuple #[], G10)) (
  some (.tuple #[], G6))
theorem m243 {e : Ex} {E : Ev} (h : ExLe Q e E) (v0 v1 : Value) (G : GS) : Ref (s243 true e v0 v1 G) (s243 false (Ex.of E) v0 v1 G) := by
  unfold s243
  exact Ref.go
theorem f243 {orc : FuncId → Bool} {e : Ex} (h : ExLe Q e (E orc)) (v0 v1 : Value) (G : GS) : Ref (s243 true e v0 v1 G) ((E orc).cl 243 [v0, v1] G) :=
  fun r hr => cl_sxE_some Q orc (vs := [v0, v1]) G Tryz.func243 (by kernel_rfl) (by kernel_rfl) (by kernel_rfl) (by kernel_rfl) (by kernel_rfl) (by kernel_rfl) (m243 h v0 v1 G r hr)
/-- (*coxswain/epoch.lines).step -/
noncomputable def s244 (q : Bool) (e : Ex) (v0 v1 : Value) (G : GS) : Option (Value × GS) :=
  bP (pNil v0) fun x0 =>
  bP (fa Q q 231 2 4 x0) fun x1 =>
  bP (ld Q q 4 x1 G) fun x2 =>
  bP (un Q q .not x2) fun x3 =>
  bS (gd x3 false (some (v0, G)) G) fun x4 G5 =>
  bS (gd x3 false (bP (pNil x4) fun y => some (y, G5)) G5) fun x6 G7 =>
  bS (gd x3 false (bP (fa Q q 231 1 3 x6) fun y => some (y, G7)) G7) fun x8 G9 =>
  bS (gd x3 false (bP (ld Q q 3 x8 G9) fun y => some (y, G9)) G9) fun x10 G11 =>
  bS (gd x3 false (bP (bn Q q .eql 3 (.tmp 14) (.const (.int .i64 (-1))) x10 (.int .i64 (-1))) fun y => some (y, G11)) G11) fun x12 G13 =>
  bP (pickV x3 (.bool true) x12) fun x14 =>
  ifV x14 (
  some ((.bool true), G13)) (
  bP (pNil v0) fun x15 =>
  bP (fa Q q 231 1 3 x15) fun x16 =>
  bP (ld Q q 3 x16 (G13.room 11)) fun x17 =>
  bP (pNil v0) fun x18 =>
  bP (fa Q q 231 0 0 x18) fun x19 =>
  bP (iaa Q q 229 3 1 x19 x17) fun x20 =>
  bP (ld Q q 206 x20 (G13.room 11)) fun x21 =>
  bS (cValue e.ev x21 [v1] (G13.room 11)) fun x23 G22 =>
  bP (pNil v0) fun x24 =>
  bP (fa Q q 231 1 3 x24) fun x25 =>
  bP (ld Q q 3 x25 G22) fun x26 =>
  bP (bn Q q .eql 3 (.tmp 31) (.const (.int .i64 (-1))) x26 (.int .i64 (-1))) fun x27 =>
  some (x27, G22))
theorem m244 {e : Ex} {E : Ev} (h : ExLe Q e E) (v0 v1 : Value) (G : GS) : Ref (s244 true e v0 v1 G) (s244 false (Ex.of E) v0 v1 G) := by
  unfold s244
  exact Ref.go
theorem f244 {orc : FuncId → Bool} {e : Ex} (h : ExLe Q e (E orc)) (v0 v1 : Value) (G : GS) : Ref (s244 true e v0 v1 G) ((E orc).cl 244 [v0, v1] G) :=
  fun r hr => cl_sxE_some Q orc (vs := [v0, v1]) G Tryz.func244 (by kernel_rfl) (by kernel_rfl) (by kernel_rfl) (by kernel_rfl) (by kernel_rfl) (by kernel_rfl) (m244 h v0 v1 G r hr)
/-- (*coxswain/stack.All).Step -/
noncomputable def s245 (q : Bool) (e : Ex) (v0 v1 : Value) (G : GS) : Option (Value × GS) :=
  bP (ep Q q false 347 (.tmp 5) (.const (.pointer none)) v0 (.pointer none)) fun x0 =>
  bS (gd x0 false (some (v0, G)) G) fun x1 G2 =>
  bS (gd x0 false (bP (pNil x1) fun y => some (y, G2)) G2) fun x3 G4 =>
  bS (gd x0 false (bP (fa Q q 375 0 0 x3) fun y => some (y, G4)) G4) fun x5 G6 =>
  bS (gd x0 false (bS (e.ev.cl 208 [x5] G6) fun y G => some (y, G)) G6) fun x7 G8 =>
  bP (pickV x0 (.bool true) x7) fun x9 =>
  ifV x9 (
  some ((.bool true), G8)) (
  bP (pNil v0) fun x10 =>
  bP (fa Q q 375 1 9 x10) fun x11 =>
  bP (ld Q q 373 x11 G8) fun x12 =>
  bS (cValue e.ev x12 [v0, v1] G8) fun x13 G14 =>
  bP (pNil v0) fun x15 =>
  bP (fa Q q 375 0 0 x15) fun x16 =>
  bP (fa Q q 286 5 7 x16) fun x17 =>
  bP (ld Q q 4 x17 G14) fun x18 =>
  some (x18, G14))
theorem m245 {e : Ex} {E : Ev} (h : ExLe Q e E) (v0 v1 : Value) (G : GS) : Ref (s245 true e v0 v1 G) (s245 false (Ex.of E) v0 v1 G) := by
  unfold s245
  exact Ref.go
theorem f245 {orc : FuncId → Bool} {e : Ex} (h : ExLe Q e (E orc)) (v0 v1 : Value) (G : GS) : Ref (s245 true e v0 v1 G) ((E orc).cl 245 [v0, v1] G) :=
  fun r hr => cl_sxE_some Q orc (vs := [v0, v1]) G Tryz.func245 (by kernel_rfl) (by kernel_rfl) (by kernel_rfl) (by kernel_rfl) (by kernel_rfl) (by kernel_rfl) (m245 h v0 v1 G r hr)
/-- (*coxswain/stack.All).Index -/
noncomputable def s246 (q : Bool) (e : Ex) (v0 : Value) (G : GS) : Option (Value × GS) :=
  bP (ep Q q false 347 (.tmp 4) (.const (.pointer none)) v0 (.pointer none)) fun x0 =>
  ifV x0 (
  some (.tuple #[(.int .i64 0), (.int .i64 1)], G)) (
  bP (pNil v0) fun x1 =>
  bP (fa Q q 375 0 0 x1) fun x2 =>
  bS (e.ev.cl 209 [x2] G) fun x3 G4 =>
  bP (pExtract x3 0) fun x5 =>
  bP (pExtract x3 1) fun x6 =>
  some (.tuple #[x5, x6], G4))
theorem m246 {e : Ex} {E : Ev} (h : ExLe Q e E) (v0 : Value) (G : GS) : Ref (s246 true e v0 G) (s246 false (Ex.of E) v0 G) := by
  unfold s246
  exact Ref.go
theorem f246 {orc : FuncId → Bool} {e : Ex} (h : ExLe Q e (E orc)) (v0 : Value) (G : GS) : Ref (s246 true e v0 G) ((E orc).cl 246 [v0] G) :=
  fun r hr => cl_sxE_some Q orc (vs := [v0]) G Tryz.func246 (by kernel_rfl) (by kernel_rfl) (by kernel_rfl) (by kernel_rfl) (by kernel_rfl) (by kernel_rfl) (m246 h v0 G r hr)
/-- (*coxswain/limbo.Collect).links -/
noncomputable def s247 (q : Bool) (e : Ex) (v0 v1 : Value) (G : GS) : Option (Value × GS) :=
  bP (pNil v0) fun x0 =>
  bP (fa Q q 352 1 3 x0) fun x1 =>
  bP (fa Q q 34 0 0 x1) fun x2 =>
  bP (fa Q q 30 0 0 x2) fun x3 =>
  bP (fa Q q 28 1 1 x3) fun x4 =>
  bP (ld Q q 3 x4 (G.room 21)) fun x5 =>
  bP (pNil v0) fun x6 =>
  bP (fa Q q 352 4 15 x6) fun x7 =>
  bP (ld Q q 3 x7 (G.room 21)) fun x8 =>
  bP (bn Q q .add 3 (.tmp 15) (.tmp 19) x5 x8) fun x9 =>
  bS (e.ev.cl 120 [v1, x9] (G.room 21)) fun x11 G10 =>
  bS (e.ev.cl 221 [x11] G10) fun x13 G12 =>
  bP (pExtract x13 0) fun x14 =>
  bP (pExtract x13 1) fun x15 =>
  bS (al Q q 357 z357 (G12.at' (G.nx + 18))) fun x16 G17 =>
  bP (st Q q 357 2 x16 x14 (G17.back G12)) fun G18 =>
  bP (pNil v0) fun x19 =>
  bP (fa Q q 352 1 3 x19) fun x20 =>
  bP (fa Q q 34 0 0 x20) fun x21 =>
  bP (lda Q q 30 6 x21 (G18.room 17)) fun x22 =>
  bP (pNil v0) fun x23 =>
  bP (fa Q q 352 4 15 x23) fun x24 =>
  bP (ld Q q 3 x24 (G18.room 17)) fun x25 =>
  bS (e.ev.cl 250 [x22, x25] (G18.room 17)) fun x27 G26 =>
  bP (fa Q q 357 0 0 x16) fun x28 =>
  bP (ld Q q 3 x28 G26) fun x29 =>
  chk ((sameO (ld Q q 3 x28 (G18.room 17)) x29 && true)) <|
  bP (bd Q q 350 z350 [(0, 0, 1), (1, 1, 1)] [x27, x29]) fun x30 =>
  bP (pNil v0) fun x31 =>
  bP (fa Q q 352 5 16 x31) fun x32 =>
  bP (st Q q 350 2 x32 x30 G26) fun G33 =>
  some ((.func (.func 251) #[v0] #[]), G33)
theorem m247 {e : Ex} {E : Ev} (h : ExLe Q e E) (v0 v1 : Value) (G : GS) : Ref (s247 true e v0 v1 G) (s247 false (Ex.of E) v0 v1 G) := by
  unfold s247
  exact Ref.go
theorem f247 {orc : FuncId → Bool} {e : Ex} (h : ExLe Q e (E orc)) (v0 v1 : Value) (G : GS) : Ref (s247 true e v0 v1 G) ((E orc).cl 247 [v0, v1] G) :=
  fun r hr => cl_sxE_some Q orc (vs := [v0, v1]) G Tryz.func247 (by kernel_rfl) (by kernel_rfl) (by kernel_rfl) (by kernel_rfl) (by kernel_rfl) (by kernel_rfl) (m247 h v0 v1 G r hr)
/-- (*coxswain/find.Find).begin -/
noncomputable def s248 (q : Bool) (e : Ex) (v0 v1 : Value) (G : GS) : Option (Value × GS) :=
  bS (bx q v0 G) fun x0 G1 =>
  bS (bx q v1 G1) fun x2 G3 =>
  bP (ld Q q 184 x0 (G3.room 10)) fun x4 =>
  bP (pNil x4) fun x5 =>
  bP (fa Q q 384 0 0 x5) fun x6 =>
  bP (fa Q q 36 2 2 x6) fun x7 =>
  bP (ld Q q 3 x7 (G3.room 10)) fun x8 =>
  bP (ld Q q 184 x0 (G3.room 10)) fun x9 =>
  bP (pNil x9) fun x10 =>
  bP (fa Q q 384 5 20 x10) fun x11 =>
  bP (ld Q q 382 x11 (G3.room 10)) fun x12 =>
  bS (e.ev.cl 252 [x8, x12] (G3.room 10)) fun x14 G13 =>
  bX (xRange e.ev x14 #[16, 17] (subAt [1, 0, 1, 0, 0] (bodyOf Tryz.f248)) (subAt [1, 0, 1, 0, 1] (bodyOf Tryz.f248)) (lst 31 (tu (nth undef [v0, v1]) [(2, x0), (3, x2), (6, x4), (7, x5), (8, x6), (9, x7), (10, x8), (11, x9), (12, x10), (13, x11), (14, x12), (15, x14)])) G13) fun e15 T16 G17 =>
  bV q (nth undef T16 2) fun T16x2_ =>
  ifE e15 .normal (
  bP (ld Q q 184 T16x2_ G17) fun x18 =>
  bP (pNil x18) fun x19 =>
  bP (fa Q q 384 2 14 x19) fun x20 =>
  bP (st Q q 3 1 x20 (.int .i64 9) G17) fun G21 =>
  some (.tuple #[], G21)) (ifE e15 .ret (
  some (.tuple #[], G17)) (none))
theorem m248 {e : Ex} {E : Ev} (h : ExLe Q e E) (v0 v1 : Value) (G : GS) : Ref (s248 true e v0 v1 G) (s248 false (Ex.of E) v0 v1 G) := by
  unfold s248
  exact Ref.go
theorem f248 {orc : FuncId → Bool} {e : Ex} (h : ExLe Q e (E orc)) (v0 v1 : Value) (G : GS) : Ref (s248 true e v0 v1 G) ((E orc).cl 248 [v0, v1] G) :=
  fun r hr => cl_sxE_some Q orc (vs := [v0, v1]) G Tryz.func248 (by kernel_rfl) (by kernel_rfl) (by kernel_rfl) (by kernel_rfl) (by kernel_rfl) (by kernel_rfl) (m248 h v0 v1 G r hr)
/-- (coxswain/cells.deed).swap -/
noncomputable def s249 (q : Bool) (e : Ex) (v0 : Value) (G : GS) : Option (Value × GS) :=
  bS (bx q v0 G) fun x0 G1 =>
  bP (fa Q q 135 0 0 x0) fun x2 =>
  bP (ld Q q 132 x2 (G1.room 7)) fun x3 =>
  bP (pNil x3) fun x4 =>
  bP (ld Q q 97 x4 (G1.room 7)) fun x5 =>
  bP (fa Q q 135 1 1 x0) fun x6 =>
  bP (ld Q q 38 x6 (G1.room 7)) fun x7 =>
  bP (bn Q q .neq 38 (.tmp 7) (.tmp 9) x5 x7) fun x8 =>
  ifV x8 (
  bP (fa Q q 135 0 0 x0) fun x9 =>
  bP (ld Q q 132 x9 (G1.room 7)) fun x10 =>
  bP (pNil x10) fun x11 =>
  bP (ld Q q 97 x11 (G1.room 7)) fun x12 =>
  some (.tuple #[x12, (.bool false)], (G1.room 7))) (
  bP (fa Q q 135 2 2 x0) fun x13 =>
  bP (ld Q q 38 x13 (G1.room 7)) fun x14 =>
  some (.tuple #[x14, (.bool true)], (G1.room 7)))
theorem m249 {e : Ex} {E : Ev} (h : ExLe Q e E) (v0 : Value) (G : GS) : Ref (s249 true e v0 G) (s249 false (Ex.of E) v0 G) := by
  unfold s249
  exact Ref.go
theorem f249 {orc : FuncId → Bool} {e : Ex} (h : ExLe Q e (E orc)) (v0 : Value) (G : GS) : Ref (s249 true e v0 G) ((E orc).cl 249 [v0] G) :=
  fun r hr => cl_sxE_some Q orc (vs := [v0]) G Tryz.func249 (by kernel_rfl) (by kernel_rfl) (by kernel_rfl) (by kernel_rfl) (by kernel_rfl) (by kernel_rfl) (m249 h v0 G r hr)
/-- coxswain/arena.NewFree -/
noncomputable def s250 (q : Bool) (e : Ex) (v0 v1 : Value) (G : GS) : Option (Value × GS) :=
  bS (bx q v0 G) fun x0 G1 =>
  bP (fa Q q 30 0 0 x0) fun x2 =>
  bP (lda Q q 28 3 x2 (G1.room 9)) fun x3 =>
  bS (e.ev.cl 253 [x3, v1] (G1.room 9)) fun x5 G4 =>
  bP (lda Q q 30 6 x0 G4) fun x6 =>
  chk ((sameO (lda Q q 30 6 x0 (G1.room 9)) x6 && true)) <|
  bP (bd Q q 395 z395 [(0, 0, 1), (1, 1, 6), (2, 7, 1), (4, 9, 1)] [x5, x6, (.bool true), v1]) fun x7 =>
  bS (bx q x7 (G4.at' (G1.nx + 7))) fun x8 G9 =>
  bP (bn Q q .lss 3 (.tmp 14) (.const (.int .i64 0)) v1 (.int .i64 0)) fun x10 =>
  bS (gd x10 false (some (v1, (G9.back G4))) (G9.back G4)) fun x11 G12 =>
  bS (gd x10 false (bP (fa Q q 30 0 0 x0) fun y => some (y, G12)) G12) fun x13 G14 =>
  bS (gd x10 false (bP (fa Q q 28 2 2 x13) fun y => some (y, G14)) G14) fun x15 G16 =>
  bS (gd x10 false (bP (ld Q q 3 x15 G16) fun y => some (y, G16)) G16) fun x17 G18 =>
  bS (gd x10 false (bP (bn Q q .geq 3 (.tmp 17) (.tmp 20) x11 x17) fun y => some (y, G18)) G18) fun x19 G20 =>
  bP (pickV x10 (.bool true) x19) fun x21 =>
  ifV x21 (
  bP (pNil x8) fun x22 =>
  bP (fa Q q 395 6 11 x22) fun x23 =>
  bP (st Q q 23 1 x23 (.int .i64 3) G20) fun G24 =>
  some (x8, G24)) (
  bP (pNil x8) fun x25 =>
  bP (fa Q q 395 3 8 x25) fun x26 =>
  bP (st Q q 393 1 x26 (.func (.func 254) #[] #[]) G20) fun G27 =>
  some (x8, G27))
theorem m250 {e : Ex} {E : Ev} (h : ExLe Q e E) (v0 v1 : Value) (G : GS) : Ref (s250 true e v0 v1 G) (s250 false (Ex.of E) v0 v1 G) := by
  unfold s250
  exact Ref.go
theorem f250 {orc : FuncId → Bool} {e : Ex} (h : ExLe Q e (E orc)) (v0 v1 : Value) (G : GS) : Ref (s250 true e v0 v1 G) ((E orc).cl 250 [v0, v1] G) :=
  fun r hr => cl_sxE_some Q orc (vs := [v0, v1]) G Tryz.func250 (by kernel_rfl) (by kernel_rfl) (by kernel_rfl) (by kernel_rfl) (by kernel_rfl) (by kernel_rfl) (m250 h v0 v1 G r hr)
/-- (*coxswain/limbo.Collect).gives -/
noncomputable def s251 (q : Bool) (e : Ex) (v0 v1 : Value) (G : GS) : Option (Value × GS) :=
  bP (pNil v0) fun x0 =>
  bP (fa Q q 352 5 16 x0) fun x1 =>
  bP (fa Q q 350 0 0 x1) fun x2 =>
  bP (ld Q q 348 x2 G) fun x3 =>
  bS (e.ev.cl 255 [x3, v1] G) fun x4 G5 =>
  bP (un Q q .not x4) fun x6 =>
  ifV x6 (
  some ((.func (.func 251) #[v0] #[]), G5)) (
  bP (pNil v0) fun x7 =>
  bP (fa Q q 352 6 18 x7) fun x8 =>
  bP (ld Q q 3 x8 G5) fun x9 =>
  bP (bn Q q .add 3 (.tmp 18) (.const (.int .i64 1)) x9 (.int .i64 1)) fun x10 =>
  bP (pNil v0) fun x11 =>
  bP (fa Q q 352 6 18 x11) fun x12 =>
  bP (st Q q 3 1 x12 x10 G5) fun G13 =>
  bP (pNil v0) fun x14 =>
  bP (fa Q q 352 5 16 x14) fun x15 =>
  bP (fa Q q 350 1 1 x15) fun x16 =>
  bP (ld Q q 3 x16 G13) fun x17 =>
  bP (pNil v0) fun x18 =>
  bP (fa Q q 352 4 15 x18) fun x19 =>
  bP (st Q q 3 1 x19 x17 G13) fun G20 =>
  bP (pNil v0) fun x21 =>
  bP (fa Q q 352 4 15 x21) fun x22 =>
  bP (ld Q q 3 x22 (G20.room 33)) fun x23 =>
  bP (bn Q q .lss 3 (.tmp 33) (.const (.int .i64 0)) x23 (.int .i64 0)) fun x24 =>
  bS (gd x24 false (some (v0, (G20.room 33))) (G20.room 33)) fun x25 _ =>
  bS (gd x24 false (bP (pNil x25) fun y => some (y, (G20.room 33))) (G20.room 33)) fun x26 _ =>
  bS (gd x24 false (bP (fa Q q 352 4 15 x26) fun y => some (y, (G20.room 33))) (G20.room 33)) fun x27 _ =>
  bS (gd x24 false (bP (ld Q q 3 x27 (G20.room 33)) fun y => some (y, (G20.room 33))) (G20.room 33)) fun x28 _ =>
  bS (gd x24 false (some (v0, (G20.room 33))) (G20.room 33)) fun x29 _ =>
  bS (gd x24 false (bP (pNil x29) fun y => some (y, (G20.room 33))) (G20.room 33)) fun x30 _ =>
  bS (gd x24 false (bP (fa Q q 352 1 3 x30) fun y => some (y, (G20.room 33))) (G20.room 33)) fun x31 _ =>
  bS (gd x24 false (bP (fa Q q 34 0 0 x31) fun y => some (y, (G20.room 33))) (G20.room 33)) fun x32 _ =>
  bS (gd x24 false (bP (fa Q q 30 0 0 x32) fun y => some (y, (G20.room 33))) (G20.room 33)) fun x33 _ =>
  bS (gd x24 false (bP (fa Q q 28 2 2 x33) fun y => some (y, (G20.room 33))) (G20.room 33)) fun x34 _ =>
  bS (gd x24 false (bP (ld Q q 3 x34 (G20.room 33)) fun y => some (y, (G20.room 33))) (G20.room 33)) fun x35 _ =>
  bS (gd x24 false (bP (bn Q q .geq 3 (.tmp 39) (.tmp 46) x28 x35) fun y => some (y, (G20.room 33))) (G20.room 33)) fun x36 _ =>
  bP (pickV x24 (.bool true) x36) fun x37 =>
  bS (gd x37 false (some (v0, (G20.room 33))) (G20.room 33)) fun x38 _ =>
  bS (gd x37 false (bP (pNil x38) fun y => some (y, (G20.room 33))) (G20.room 33)) fun x39 _ =>
  bS (gd x37 false (bP (fa Q q 352 6 18 x39) fun y => some (y, (G20.room 33))) (G20.room 33)) fun x40 _ =>
  bS (gd x37 false (bP (ld Q q 3 x40 (G20.room 33)) fun y => some (y, (G20.room 33))) (G20.room 33)) fun x41 _ =>
  bS (gd x37 false (some (v0, (G20.room 33))) (G20.room 33)) fun x42 _ =>
  bS (gd x37 false (bP (pNil x42) fun y => some (y, (G20.room 33))) (G20.room 33)) fun x43 _ =>
  bS (gd x37 false (bP (fa Q q 352 1 3 x43) fun y => some (y, (G20.room 33))) (G20.room 33)) fun x44 _ =>
  bS (gd x37 false (bP (fa Q q 34 0 0 x44) fun y => some (y, (G20.room 33))) (G20.room 33)) fun x45 _ =>
  bS (gd x37 false (bP (fa Q q 30 0 0 x45) fun y => some (y, (G20.room 33))) (G20.room 33)) fun x46 _ =>
  bS (gd x37 false (bP (fa Q q 28 2 2 x46) fun y => some (y, (G20.room 33))) (G20.room 33)) fun x47 _ =>
  bS (gd x37 false (bP (ld Q q 3 x47 (G20.room 33)) fun y => some (y, (G20.room 33))) (G20.room 33)) fun x48 _ =>
  bS (gd x37 false (bP (bn Q q .geq 3 (.tmp 53) (.tmp 60) x41 x48) fun y => some (y, (G20.room 33))) (G20.room 33)) fun x49 _ =>
  bP (pickV x37 (.bool true) x49) fun x50 =>
  ifV x50 (
  some (.nilFunc, (G20.room 33))) (
  some ((.func (.func 247) #[v0] #[]), (G20.room 33))))
theorem m251 {e : Ex} {E : Ev} (h : ExLe Q e E) (v0 v1 : Value) (G : GS) : Ref (s251 true e v0 v1 G) (s251 false (Ex.of E) v0 v1 G) := by
  unfold s251
  exact Ref.go
theorem f251 {orc : FuncId → Bool} {e : Ex} (h : ExLe Q e (E orc)) (v0 v1 : Value) (G : GS) : Ref (s251 true e v0 v1 G) ((E orc).cl 251 [v0, v1] G) :=
  fun r hr => cl_sxE_some Q orc (vs := [v0, v1]) G Tryz.func251 (by kernel_rfl) (by kernel_rfl) (by kernel_rfl) (by kernel_rfl) (by kernel_rfl) (by kernel_rfl) (m251 h v0 v1 G r hr)
/-- coxswain/find.down -/
noncomputable def s252 (q : Bool) (e : Ex) (v0 v1 : Value) (G : GS) : Option (Value × GS) :=
  bS (bx q v0 G) fun x0 G1 =>
  bS (bx q v1 G1) fun x2 G3 =>
  some ((.func (.func 256) #[] #[x0, x2]), G3)
theorem m252 {e : Ex} {E : Ev} (h : ExLe Q e E) (v0 v1 : Value) (G : GS) : Ref (s252 true e v0 v1 G) (s252 false (Ex.of E) v0 v1 G) := by
  unfold s252
  exact Ref.go
theorem f252 {orc : FuncId → Bool} {e : Ex} (h : ExLe Q e (E orc)) (v0 v1 : Value) (G : GS) : Ref (s252 true e v0 v1 G) ((E orc).cl 252 [v0, v1] G) :=
  fun r hr => cl_sxE_some Q orc (vs := [v0, v1]) G Tryz.func252 (by kernel_rfl) (by kernel_rfl) (by kernel_rfl) (by kernel_rfl) (by kernel_rfl) (by kernel_rfl) (m252 h v0 v1 G r hr)
/-- coxswain/stack.NewPush -/
noncomputable def s253 (q : Bool) (e : Ex) (v0 v1 : Value) (G : GS) : Option (Value × GS) :=
  bS (bx q v0 G) fun x0 G1 =>
  bP (lda Q q 28 3 x0 G1) fun x2 =>
  bP (bd Q q 286 z286 [(0, 0, 3), (2, 4, 1), (4, 6, 1)] [x2, v1, (.bool true)]) fun x3 =>
  bP (bd Q q 399 z399 [(0, 0, 9), (1, 9, 1)] [x3, (.func (.func 257) #[] #[])]) fun x4 =>
  bS (bx q x4 G1) fun x5 G6 =>
  bP (bn Q q .lss 3 (.tmp 11) (.const (.int .i64 0)) v1 (.int .i64 0)) fun x7 =>
  bS (gd x7 false (some (v1, G6)) G6) fun x8 G9 =>
  bS (gd x7 false (bP (fa Q q 28 2 2 x0) fun y => some (y, G9)) G9) fun x10 G11 =>
  bS (gd x7 false (bP (ld Q q 3 x10 G11) fun y => some (y, G11)) G11) fun x12 G13 =>
  bS (gd x7 false (bP (bn Q q .geq 3 (.tmp 14) (.tmp 16) x8 x12) fun y => some (y, G13)) G13) fun x14 G15 =>
  bP (pickV x7 (.bool true) x14) fun x16 =>
  ifV x16 (
  bP (pNil x5) fun x17 =>
  bP (fa Q q 399 0 0 x17) fun x18 =>
  bS (e.ev.cl 207 [x18, (.int .i64 3)] G15) fun x19 G20 =>
  some (x5, G20)) (
  some (x5, G15))
theorem m253 {e : Ex} {E : Ev} (h : ExLe Q e E) (v0 v1 : Value) (G : GS) : Ref (s253 true e v0 v1 G) (s253 false (Ex.of E) v0 v1 G) := by
  unfold s253
  exact Ref.go
theorem f253 {orc : FuncId → Bool} {e : Ex} (h : ExLe Q e (E orc)) (v0 v1 : Value) (G : GS) : Ref (s253 true e v0 v1 G) ((E orc).cl 253 [v0, v1] G) :=
  fun r hr => cl_sxE_some Q orc (vs := [v0, v1]) G Tryz.func253 (by kernel_rfl) (by kernel_rfl) (by kernel_rfl) (by kernel_rfl) (by kernel_rfl) (by kernel_rfl) (m253 h v0 v1 G r hr)
/-- (*coxswain/arena.Free).looks -/
noncomputable def s254 (q : Bool) (e : Ex) (v0 v1 : Value) (G : GS) : Option (Value × GS) :=
  bP (pNil v0) fun x0 =>
  bP (fa Q q 395 1 1 x0) fun x1 =>
  bP (fa Q q 30 1 3 x1) fun x2 =>
  bP (ld Q q 3 x2 (G.room 16)) fun x3 =>
  bP (pNil v0) fun x4 =>
  bP (fa Q q 395 4 9 x4) fun x5 =>
  bP (ld Q q 3 x5 (G.room 16)) fun x6 =>
  bP (bn Q q .add 3 (.tmp 10) (.tmp 14) x3 x6) fun x7 =>
  bS (e.ev.cl 120 [v1, x7] (G.room 16)) fun x9 G8 =>
  bP (pNil v0) fun x10 =>
  bP (fa Q q 395 5 10 x10) fun x11 =>
  bP (st Q q 38 1 x11 x9 G8) fun G12 =>
  bP (pNil v0) fun x13 =>
  bP (fa Q q 395 3 8 x13) fun x14 =>
  bP (st Q q 393 1 x14 (.func (.func 258) #[] #[]) G12) fun G15 =>
  bP (pNil v0) fun x16 =>
  bP (fa Q q 395 5 10 x16) fun x17 =>
  bP (ld Q q 38 x17 (G15.room 11)) fun x18 =>
  bS (e.ev.cl 210 [x18] (G15.room 11)) fun x20 G19 =>
  bP (pNil v0) fun x21 =>
  bP (fa Q q 395 1 1 x21) fun x22 =>
  bP (fa Q q 30 3 5 x22) fun x23 =>
  bP (ld Q q 3 x23 G19) fun x24 =>
  chk ((sameO (ld Q q 3 x23 (G15.room 11)) x24 && true)) <|
  bP (bn Q q .geq 3 (.tmp 26) (.tmp 31) x20 x24) fun x25 =>
  ifV x25 (
  bP (pNil v0) fun x26 =>
  bP (fa Q q 395 3 8 x26) fun x27 =>
  bP (st Q q 393 1 x27 (.func (.func 259) #[] #[]) G19) fun G28 =>
  some (.tuple #[], G28)) (
  some (.tuple #[], G19))
theorem m254 {e : Ex} {E : Ev} (h : ExLe Q e E) (v0 v1 : Value) (G : GS) : Ref (s254 true e v0 v1 G) (s254 false (Ex.of E) v0 v1 G) := by
  unfold s254
  exact Ref.go
theorem f254 {orc : FuncId → Bool} {e : Ex} (h : ExLe Q e (E orc)) (v0 v1 : Value) (G : GS) : Ref (s254 true e v0 v1 G) ((E orc).cl 254 [v0, v1] G) :=
  fun r hr => cl_sxE_some Q orc (vs := [v0, v1]) G Tryz.func254 (by kernel_rfl) (by kernel_rfl) (by kernel_rfl) (by kernel_rfl) (by kernel_rfl) (by kernel_rfl) (m254 h v0 v1 G r hr)
/-- (*coxswain/arena.Free).Step -/
noncomputable def s255 (q : Bool) (e : Ex) (v0 v1 : Value) (G : GS) : Option (Value × GS) :=
  bP (ep Q q false 348 (.tmp 5) (.const (.pointer none)) v0 (.pointer none)) fun x0 =>
  bS (gd x0 false (some (v0, G)) G) fun x1 G2 =>
  bS (gd x0 false (bP (pNil x1) fun y => some (y, G2)) G2) fun x3 G4 =>
  bS (gd x0 false (bP (fa Q q 395 3 8 x3) fun y => some (y, G4)) G4) fun x5 G6 =>
  bS (gd x0 false (bP (ld Q q 393 x5 G6) fun y => some (y, G6)) G6) fun x7 G8 =>
  bS (gd x0 false (bP (ef Q q false 393 (.tmp 11) (.const .nilFunc) x7 .nilFunc) fun y => some (y, G8)) G8) fun x9 G10 =>
  bP (pickV x0 (.bool true) x9) fun x11 =>
  ifV x11 (
  some ((.bool true), G10)) (
  bP (pNil v0) fun x12 =>
  bP (fa Q q 395 3 8 x12) fun x13 =>
  bP (ld Q q 393 x13 G10) fun x14 =>
  bS (cValue e.ev x14 [v0, v1] G10) fun x15 G16 =>
  bP (pNil v0) fun x17 =>
  bP (fa Q q 395 3 8 x17) fun x18 =>
  bP (ld Q q 393 x18 G16) fun x19 =>
  bP (ef Q q false 393 (.tmp 24) (.const .nilFunc) x19 .nilFunc) fun x20 =>
  some (x20, G16))
theorem m255 {e : Ex} {E : Ev} (h : ExLe Q e E) (v0 v1 : Value) (G : GS) : Ref (s255 true e v0 v1 G) (s255 false (Ex.of E) v0 v1 G) := by
  unfold s255
  exact Ref.go
theorem f255 {orc : FuncId → Bool} {e : Ex} (h : ExLe Q e (E orc)) (v0 v1 : Value) (G : GS) : Ref (s255 true e v0 v1 G) ((E orc).cl 255 [v0, v1] G) :=
  fun r hr => cl_sxE_some Q orc (vs := [v0, v1]) G Tryz.func255 (by kernel_rfl) (by kernel_rfl) (by kernel_rfl) (by kernel_rfl) (by kernel_rfl) (by kernel_rfl) (m255 h v0 v1 G r hr)
noncomputable def b256_0 (q : Bool) (e : Ex) (lp : Env → GS → Option (Exit × Env × GS)) (τ : Env) (G : GS) : Option (Exit × Env × GS) :=
  bV q (τ 0) fun a0_ =>
  bV q (τ 2) fun a2_ =>
  bV q (τ 4) fun a4_ =>
  bV q (τ 5) fun a5_ =>
  bP (bn Q q .geq 3 (.tmp 9) (.const (.int .i64 0)) a5_ (.int .i64 0)) fun x0 =>
  ifV x0 (
  bP (fa Q q 381 0 0 a4_) fun x1 =>
  bP (st Q q 3 1 x1 a5_ G) fun G2 =>
  bP (fa Q q 381 3 3 a4_) fun x3 =>
  bP (st Q q 38 1 x3 (.int .u64 0) G2) fun G4 =>
  bP (lda Q q 381 4 a4_ G4) fun x5 =>
  bS (cValue e.ev a0_ [a5_, x5] G4) fun x6 G7 =>
  bP (un Q q .not x6) fun x8 =>
  ifV x8 (
  some (.ret, clq q 25 (tu τ [(0, a0_), (2, a2_), (4, a4_), (5, a5_), (9, a5_), (10, x0), (13, a5_), (14, x1), (15, x3), (16, a0_), (17, a5_), (18, x5), (19, x6), (20, x8)]), G7)) (
  bP (ld Q q 382 a2_ G7) fun x9 =>
  bP (ias Q q 382 4 x9 a5_) fun x10 =>
  bP (lda Q q 381 4 x10 G7) fun x11 =>
  bP (st Q q 381 4 a4_ x11 G7) fun G12 =>
  bP (bn Q q .sub 3 (.tmp 11) (.const (.int .i64 1)) a5_ (.int .i64 1)) fun x13 =>
  lp (tu τ [(0, a0_), (2, a2_), (4, a4_), (5, x13), (9, a5_), (10, x0), (11, a5_), (12, x13), (13, a5_), (14, x1), (15, x3), (16, a0_), (17, a5_), (18, x5), (19, x6), (20, x8), (21, x9), (22, a5_), (23, x10), (24, x11)]) G12)) (
  some ((.exit 0), clq q 25 (tu τ [(0, a0_), (2, a2_), (4, a4_), (5, a5_), (9, a5_), (10, x0)]), G))
theorem mb256_0 {e : Ex} {E : Ev} (h : ExLe Q e E) {lp lp' : Env → GS → Option (Exit × Env × GS)} (hlp : LpLe lp lp') (τ : Env) (G : GS) : Ref (b256_0 true e lp τ G) (b256_0 false (Ex.of E) lp' τ G) := by
  unfold b256_0
  exact Ref.go
theorem l256_0 {orc : FuncId → Bool} {e : Ex} (h : ExLe Q e (E orc)) (lp : Env → GS → Option (Exit × Env × GS)) (hlp : ∀ τ G, Ref (lp τ G) (mapE ((E orc).lp (subAt [1, 1, 0, 0] (bodyOf Tryz.f256)) (lst 25 τ) G))) (T : List Value) (G : GS) (hT : T.length = 25) : Ref (b256_0 true e lp (nth undef T) G) (mapE ((E orc).lp (subAt [1, 1, 0, 0] (bodyOf Tryz.f256)) T G)) :=
  fun r hr => lp_sxM Q orc G hT (by kernel_rfl) (mb256_0 h ⟨hlp⟩ _ _ r hr)
/-- coxswain/find.down$1 -/
noncomputable def s256 (q : Bool) (e : Ex) (v0 v1 v2 : Value) (G : GS) : Option (Value × GS) :=
  bP (bd Q q 381 z381 [(1, 1, 1)] [(.int .i64 (-1))]) fun x0 =>
  bS (al Q q 381 z381 G) fun x1 G2 =>
  bP (st Q q 381 4 x1 x0 G2) fun G3 =>
  bP (ld Q q 3 v1 G3) fun x4 =>
  bP (bn Q q .sub 3 (.tmp 7) (.const (.int .i64 1)) x4 (.int .i64 1)) fun x5 =>
  bL q e 256 0 (subAt [1, 1, 0, 0] (bodyOf Tryz.f256)) 25 (tu (nth undef [v0, v1, v2]) [(4, x1), (5, x5), (6, x0), (7, x4), (8, x5)]) G3 fun e6 t7 G8 =>
  ifE e6 (.exit 0) (
  some (.tuple #[], G8)) (ifE e6 .ret (
  some (.tuple #[], G8)) (none))
theorem m256 {e : Ex} {E : Ev} (h : ExLe Q e E) (v0 v1 v2 : Value) (G : GS) : Ref (s256 true e v0 v1 v2 G) (s256 false (Ex.of E) v0 v1 v2 G) := by
  unfold s256
  exact Ref.go
theorem f256 {orc : FuncId → Bool} {e : Ex} (h : ExLe Q e (E orc)) (v0 v1 v2 : Value) (G : GS) : Ref (s256 true e v0 v1 v2 G) ((E orc).cl 256 [v0, v1, v2] G) :=
  fun r hr => cl_sxE_some Q orc (vs := [v0, v1, v2]) G Tryz.func256 (by kernel_rfl) (by kernel_rfl) (by kernel_rfl) (by kernel_rfl) (by kernel_rfl) (by kernel_rfl) (m256 h v0 v1 v2 G r hr)
/-- (*coxswain/stack.Push).first -/
noncomputable def s257 (q : Bool) (e : Ex) (v0 v1 : Value) (G : GS) : Option (Value × GS) :=
  bP (pNil v0) fun x0 =>
  bP (fa Q q 399 0 0 x0) fun x1 =>
  bS (e.ev.cl 206 [x1, v1] G) fun x2 G3 =>
  bP (pNil v0) fun x4 =>
  bP (fa Q q 399 0 0 x4) fun x5 =>
  bP (fa Q q 286 3 5 x5) fun x6 =>
  bP (st Q q 3 1 x6 x2 G3) fun G7 =>
  bP (pNil v0) fun x8 =>
  bP (fa Q q 399 1 9 x8) fun x9 =>
  bP (st Q q 397 1 x9 (.func (.func 260) #[] #[]) G7) fun G10 =>
  some (.tuple #[], G10)
theorem m257 {e : Ex} {E : Ev} (h : ExLe Q e E) (v0 v1 : Value) (G : GS) : Ref (s257 true e v0 v1 G) (s257 false (Ex.of E) v0 v1 G) := by
  unfold s257
  exact Ref.go
theorem f257 {orc : FuncId → Bool} {e : Ex} (h : ExLe Q e (E orc)) (v0 v1 : Value) (G : GS) : Ref (s257 true e v0 v1 G) ((E orc).cl 257 [v0, v1] G) :=
  fun r hr => cl_sxE_some Q orc (vs := [v0, v1]) G Tryz.func257 (by kernel_rfl) (by kernel_rfl) (by kernel_rfl) (by kernel_rfl) (by kernel_rfl) (by kernel_rfl) (m257 h v0 v1 G r hr)
/-- (*coxswain/arena.Free).raises -/
noncomputable def s258 (q : Bool) (e : Ex) (v0 v1 : Value) (G : GS) : Option (Value × GS) :=
  bP (pNil v0) fun x0 =>
  bP (fa Q q 395 1 1 x0) fun x1 =>
  bP (fa Q q 30 1 3 x1) fun x2 =>
  bP (ld Q q 3 x2 (G.room 17)) fun x3 =>
  bP (pNil v0) fun x4 =>
  bP (fa Q q 395 4 9 x4) fun x5 =>
  bP (ld Q q 3 x5 (G.room 17)) fun x6 =>
  bP (bn Q q .add 3 (.tmp 9) (.tmp 13) x3 x6) fun x7 =>
  bP (pNil v0) fun x8 =>
  bP (fa Q q 395 5 10 x8) fun x9 =>
  bP (ld Q q 38 x9 (G.room 17)) fun x10 =>
  bP (bn Q q .add 38 (.tmp 18) (.const (.int .u64 1)) x10 (.int .u64 1)) fun x11 =>
  bS (e.ev.cl 29 [v1, x7, x11] (G.room 17)) fun x13 G12 =>
  bP (pNil v0) fun x14 =>
  bP (fa Q q 395 3 8 x14) fun x15 =>
  bP (st Q q 393 1 x15 (.func (.func 261) #[] #[]) G12) fun G16 =>
  some (.tuple #[], G16)
theorem m258 {e : Ex} {E : Ev} (h : ExLe Q e E) (v0 v1 : Value) (G : GS) : Ref (s258 true e v0 v1 G) (s258 false (Ex.of E) v0 v1 G) := by
  unfold s258
  exact Ref.go
theorem f258 {orc : FuncId → Bool} {e : Ex} (h : ExLe Q e (E orc)) (v0 v1 : Value) (G : GS) : Ref (s258 true e v0 v1 G) ((E orc).cl 258 [v0, v1] G) :=
  fun r hr => cl_sxE_some Q orc (vs := [v0, v1]) G Tryz.func258 (by kernel_rfl) (by kernel_rfl) (by kernel_rfl) (by kernel_rfl) (by kernel_rfl) (by kernel_rfl) (m258 h v0 v1 G r hr)
/-- (*coxswain/arena.Free).wears -/
noncomputable def s259 (q : Bool) (e : Ex) (v0 v1 : Value) (G : GS) : Option (Value × GS) :=
  bP (pNil v0) fun x0 =>
  bP (fa Q q 395 1 1 x0) fun x1 =>
  bP (fa Q q 30 2 4 x1) fun x2 =>
  bP (ld Q q 3 x2 G) fun x3 =>
  bS (e.ev.cl 262 [v1, x3, (.int .u64 1)] G) fun x4 G5 =>
  bP (pNil v0) fun x6 =>
  bP (fa Q q 395 3 8 x6) fun x7 =>
  bP (st Q q 393 1 x7 .nilFunc G5) fun G8 =>
  some (.tuple #[], G8)
theorem m259 {e : Ex} {E : Ev} (h : ExLe Q e E) (v0 v1 : Value) (G : GS) : Ref (s259 true e v0 v1 G) (s259 false (Ex.of E) v0 v1 G) := by
  unfold s259
  exact Ref.go
theorem f259 {orc : FuncId → Bool} {e : Ex} (h : ExLe Q e (E orc)) (v0 v1 : Value) (G : GS) : Ref (s259 true e v0 v1 G) ((E orc).cl 259 [v0, v1] G) :=
  fun r hr => cl_sxE_some Q orc (vs := [v0, v1]) G Tryz.func259 (by kernel_rfl) (by kernel_rfl) (by kernel_rfl) (by kernel_rfl) (by kernel_rfl) (by kernel_rfl) (m259 h v0 v1 G r hr)
/-- (*coxswain/stack.Push).second -/
noncomputable def s260 (q : Bool) (e : Ex) (v0 v1 : Value) (G : GS) : Option (Value × GS) :=
  bP (pNil v0) fun x0 =>
  bP (fa Q q 399 0 0 x0) fun x1 =>
  bP (fa Q q 286 0 0 x1) fun x2 =>
  bP (fa Q q 28 1 1 x2) fun x3 =>
  bP (ld Q q 3 x3 (G.room 20)) fun x4 =>
  bP (pNil v0) fun x5 =>
  bP (fa Q q 399 0 0 x5) fun x6 =>
  bP (fa Q q 286 2 4 x6) fun x7 =>
  bP (ld Q q 3 x7 (G.room 20)) fun x8 =>
  bP (bn Q q .add 3 (.tmp 10) (.tmp 15) x4 x8) fun x9 =>
  bP (pNil v0) fun x10 =>
  bP (fa Q q 399 0 0 x10) fun x11 =>
  bP (fa Q q 286 3 5 x11) fun x12 =>
  bP (ld Q q 3 x12 (G.room 20)) fun x13 =>
  bS (e.ev.cl 220 [x13] (G.room 20)) fun x15 G14 =>
  chk ((sameO (ld Q q 3 x7 G14) x8 && (sameO (ld Q q 3 x3 G14) x4 && true))) <|
  bS (e.ev.cl 29 [v1, x9, x15] G14) fun x17 G16 =>
  bP (pNil v0) fun x18 =>
  bP (fa Q q 399 1 9 x18) fun x19 =>
  bP (st Q q 397 1 x19 (.func (.func 263) #[] #[]) G16) fun G20 =>
  some (.tuple #[], G20)
theorem m260 {e : Ex} {E : Ev} (h : ExLe Q e E) (v0 v1 : Value) (G : GS) : Ref (s260 true e v0 v1 G) (s260 false (Ex.of E) v0 v1 G) := by
  unfold s260
  exact Ref.go
theorem f260 {orc : FuncId → Bool} {e : Ex} (h : ExLe Q e (E orc)) (v0 v1 : Value) (G : GS) : Ref (s260 true e v0 v1 G) ((E orc).cl 260 [v0, v1] G) :=
  fun r hr => cl_sxE_some Q orc (vs := [v0, v1]) G Tryz.func260 (by kernel_rfl) (by kernel_rfl) (by kernel_rfl) (by kernel_rfl) (by kernel_rfl) (by kernel_rfl) (m260 h v0 v1 G r hr)
/-- (*coxswain/arena.Free).push -/
noncomputable def s261 (q : Bool) (e : Ex) (v0 v1 : Value) (G : GS) : Option (Value × GS) :=
  bP (pNil v0) fun x0 =>
  bP (fa Q q 395 0 0 x0) fun x1 =>
  bP (ld Q q 391 x1 G) fun x2 =>
  bS (e.ev.cl 264 [x2, v1] G) fun x3 G4 =>
  ifV x3 (
  bP (pNil v0) fun x5 =>
  bP (fa Q q 395 3 8 x5) fun x6 =>
  bP (st Q q 393 1 x6 .nilFunc G4) fun G7 =>
  some (.tuple #[], G7)) (
  some (.tuple #[], G4))
theorem m261 {e : Ex} {E : Ev} (h : ExLe Q e E) (v0 v1 : Value) (G : GS) : Ref (s261 true e v0 v1 G) (s261 false (Ex.of E) v0 v1 G) := by
  unfold s261
  exact Ref.go
theorem f261 {orc : FuncId → Bool} {e : Ex} (h : ExLe Q e (E orc)) (v0 v1 : Value) (G : GS) : Ref (s261 true e v0 v1 G) ((E orc).cl 261 [v0, v1] G) :=
  fun r hr => cl_sxE_some Q orc (vs := [v0, v1]) G Tryz.func261 (by kernel_rfl) (by kernel_rfl) (by kernel_rfl) (by kernel_rfl) (by kernel_rfl) (by kernel_rfl) (m261 h v0 v1 G r hr)
/-- (*coxswain/cells.Mem).Add -/
noncomputable def s262 (q : Bool) (e : Ex) (v0 v1 v2 : Value) (G : GS) : Option (Value × GS) :=
  bS (e.ev.cl 72 [v0, v1] G) fun x0 G1 =>
  bP (bd Q q 135 z135 [(0, 0, 1), (1, 1, 1)] [x0, v2]) fun x2 =>
  bS (al Q q 135 z135 G1) fun x3 G4 =>
  bP (st Q q 135 3 x3 x2 G4) fun G5 =>
  bP (fa Q q 135 0 0 x3) fun x6 =>
  bP (ld Q q 132 x6 G5) fun x7 =>
  bP (lda Q q 135 3 x3 G5) fun x8 =>
  bS (e.ev.cl 73 [v0, (.int .i64 4), v1, x7, (.func (.func 265) #[x8] #[])] G5) fun x9 G10 =>
  bP (fd Q q 101 3 3 x9) fun x11 =>
  some (x11, G10)
theorem m262 {e : Ex} {E : Ev} (h : ExLe Q e E) (v0 v1 v2 : Value) (G : GS) : Ref (s262 true e v0 v1 v2 G) (s262 false (Ex.of E) v0 v1 v2 G) := by
  unfold s262
  exact Ref.go
theorem f262 {orc : FuncId → Bool} {e : Ex} (h : ExLe Q e (E orc)) (v0 v1 v2 : Value) (G : GS) : Ref (s262 true e v0 v1 v2 G) ((E orc).cl 262 [v0, v1, v2] G) :=
  fun r hr => cl_sxE_some Q orc (vs := [v0, v1, v2]) G Tryz.func262 (by kernel_rfl) (by kernel_rfl) (by kernel_rfl) (by kernel_rfl) (by kernel_rfl) (by kernel_rfl) (m262 h v0 v1 v2 G r hr)
/-- (*coxswain/stack.Push).third -/
noncomputable def s263 (q : Bool) (e : Ex) (v0 v1 : Value) (G : GS) : Option (Value × GS) :=
  bP (pNil v0) fun x0 =>
  bP (fa Q q 399 1 9 x0) fun x1 =>
  bP (st Q q 397 1 x1 (.func (.func 257) #[] #[]) G) fun G2 =>
  bP (pNil v0) fun x3 =>
  bP (fa Q q 399 0 0 x3) fun x4 =>
  bP (pNil v0) fun x5 =>
  bP (fa Q q 399 0 0 x5) fun x6 =>
  bP (fa Q q 286 2 4 x6) fun x7 =>
  bP (ld Q q 3 x7 (G2.room 10)) fun x8 =>
  bS (e.ev.cl 239 [x4, v1, x8] (G2.room 10)) fun x10 G9 =>
  ifV x10 (
  bP (pNil v0) fun x11 =>
  bP (fa Q q 399 0 0 x11) fun x12 =>
  bS (e.ev.cl 207 [x12, (.int .i64 0)] G9) fun x13 G14 =>
  some (.tuple #[], G14)) (
  some (.tuple #[], G9))
theorem m263 {e : Ex} {E : Ev} (h : ExLe Q e E) (v0 v1 : Value) (G : GS) : Ref (s263 true e v0 v1 G) (s263 false (Ex.of E) v0 v1 G) := by
  unfold s263
  exact Ref.go
theorem f263 {orc : FuncId → Bool} {e : Ex} (h : ExLe Q e (E orc)) (v0 v1 : Value) (G : GS) : Ref (s263 true e v0 v1 G) ((E orc).cl 263 [v0, v1] G) :=
  fun r hr => cl_sxE_some Q orc (vs := [v0, v1]) G Tryz.func263 (by kernel_rfl) (by kernel_rfl) (by kernel_rfl) (by kernel_rfl) (by kernel_rfl) (by kernel_rfl) (m263 h v0 v1 G r hr)
/-- (*coxswain/stack.Push).Step -/
noncomputable def s264 (q : Bool) (e : Ex) (v0 v1 : Value) (G : GS) : Option (Value × GS) :=
  bP (ep Q q false 391 (.tmp 5) (.const (.pointer none)) v0 (.pointer none)) fun x0 =>
  bS (gd x0 false (some (v0, G)) G) fun x1 G2 =>
  bS (gd x0 false (bP (pNil x1) fun y => some (y, G2)) G2) fun x3 G4 =>
  bS (gd x0 false (bP (fa Q q 399 0 0 x3) fun y => some (y, G4)) G4) fun x5 G6 =>
  bS (gd x0 false (bS (e.ev.cl 208 [x5] G6) fun y G => some (y, G)) G6) fun x7 G8 =>
  bP (pickV x0 (.bool true) x7) fun x9 =>
  ifV x9 (
  some ((.bool true), G8)) (
  bP (pNil v0) fun x10 =>
  bP (fa Q q 399 1 9 x10) fun x11 =>
  bP (ld Q q 397 x11 G8) fun x12 =>
  bS (cValue e.ev x12 [v0, v1] G8) fun x13 G14 =>
  bP (pNil v0) fun x15 =>
  bP (fa Q q 399 0 0 x15) fun x16 =>
  bP (fa Q q 286 5 7 x16) fun x17 =>
  bP (ld Q q 4 x17 G14) fun x18 =>
  some (x18, G14))
theorem m264 {e : Ex} {E : Ev} (h : ExLe Q e E) (v0 v1 : Value) (G : GS) : Ref (s264 true e v0 v1 G) (s264 false (Ex.of E) v0 v1 G) := by
  unfold s264
  exact Ref.go
theorem f264 {orc : FuncId → Bool} {e : Ex} (h : ExLe Q e (E orc)) (v0 v1 : Value) (G : GS) : Ref (s264 true e v0 v1 G) ((E orc).cl 264 [v0, v1] G) :=
  fun r hr => cl_sxE_some Q orc (vs := [v0, v1]) G Tryz.func264 (by kernel_rfl) (by kernel_rfl) (by kernel_rfl) (by kernel_rfl) (by kernel_rfl) (by kernel_rfl) (m264 h v0 v1 G r hr)
/-- (coxswain/cells.deed).add -/
noncomputable def s265 (q : Bool) (e : Ex) (v0 : Value) (G : GS) : Option (Value × GS) :=
  bS (bx q v0 G) fun x0 G1 =>
  bP (fa Q q 135 0 0 x0) fun x2 =>
  bP (ld Q q 132 x2 (G1.room 9)) fun x3 =>
  bP (pNil x3) fun x4 =>
  bP (ld Q q 97 x4 (G1.room 9)) fun x5 =>
  bP (fa Q q 135 1 1 x0) fun x6 =>
  bP (ld Q q 38 x6 (G1.room 9)) fun x7 =>
  bP (bn Q q .add 38 (.tmp 7) (.tmp 9) x5 x7) fun x8 =>
  some (.tuple #[x8, (.bool true)], (G1.room 9))
theorem m265 {e : Ex} {E : Ev} (h : ExLe Q e E) (v0 : Value) (G : GS) : Ref (s265 true e v0 G) (s265 false (Ex.of E) v0 G) := by
  unfold s265
  exact Ref.go
theorem f265 {orc : FuncId → Bool} {e : Ex} (h : ExLe Q e (E orc)) (v0 : Value) (G : GS) : Ref (s265 true e v0 G) ((E orc).cl 265 [v0] G) :=
  fun r hr => cl_sxE_some Q orc (vs := [v0]) G Tryz.func265 (by kernel_rfl) (by kernel_rfl) (by kernel_rfl) (by kernel_rfl) (by kernel_rfl) (by kernel_rfl) (m265 h v0 G r hr)
/-- (*coxswain/ready.part[*coxswain/claim.Claim]).run -/
noncomputable def s283 (q : Bool) (e : Ex) (v0 v1 : Value) (G : GS) : Option (Value × GS) :=
  bP (pNil v0) fun x0 =>
  bP (fa Q q 129 4 4 x0) fun x1 =>
  bP (ld Q q 4 x1 G) fun x2 =>
  bP (un Q q .not x2) fun x3 =>
  ifV x3 (
  bP (pNil v0) fun x4 =>
  bP (fa Q q 129 0 0 x4) fun x5 =>
  bP (ld Q q 125 x5 G) fun x6 =>
  bS (cValue e.ev x6 [] G) fun x7 G8 =>
  bP (pNil v0) fun x9 =>
  bP (fa Q q 129 3 3 x9) fun x10 =>
  bP (st Q q 123 1 x10 x7 G8) fun G11 =>
  bP (pNil v0) fun x12 =>
  bP (fa Q q 129 4 4 x12) fun x13 =>
  bP (st Q q 4 1 x13 (.bool true) G11) fun G14 =>
  bP (pNil v0) fun x15 =>
  bP (fa Q q 129 3 3 x15) fun x16 =>
  bP (ld Q q 123 x16 G14) fun x17 =>
  bP (ifc Q q 123 x17) fun x18 =>
  bS (cInvoke Q e.ev x18 "Step" [v1] G14) fun x19 G20 =>
  bP (pNil v0) fun x21 =>
  bP (fa Q q 129 1 1 x21) fun x22 =>
  bP (ld Q q 126 x22 G20) fun x23 =>
  bP (ef Q q true 126 (.tmp 34) (.const .nilFunc) x23 .nilFunc) fun x24 =>
  ifV x24 (
  bP (pNil v0) fun x25 =>
  bP (fa Q q 129 1 1 x25) fun x26 =>
  bP (ld Q q 126 x26 (G20.room 10)) fun x27 =>
  bP (pNil v0) fun x28 =>
  bP (fa Q q 129 3 3 x28) fun x29 =>
  bP (ld Q q 123 x29 (G20.room 10)) fun x30 =>
  bS (cValue e.ev x27 [x30] (G20.room 10)) fun x32 G31 =>
  bS (gd x19 true (some (v0, G31)) G31) fun x33 G34 =>
  bS (gd x19 true (bP (pNil x33) fun y => some (y, G34)) G34) fun x35 G36 =>
  bS (gd x19 true (bP (fa Q q 129 2 2 x35) fun y => some (y, G36)) G36) fun x37 G38 =>
  bS (gd x19 true (bP (ld Q q 127 x37 G38) fun y => some (y, G38)) G38) fun x39 G40 =>
  bS (gd x19 true (bP (ef Q q true 127 (.tmp 50) (.const .nilFunc) x39 .nilFunc) fun y => some (y, G40)) G40) fun x41 G42 =>
  bP (pickV x19 x41 (.bool false)) fun x43 =>
  ifV x43 (
  bP (pNil v0) fun x44 =>
  bP (fa Q q 129 2 2 x44) fun x45 =>
  bP (ld Q q 127 x45 (G42.room 9)) fun x46 =>
  bP (pNil v0) fun x47 =>
  bP (fa Q q 129 3 3 x47) fun x48 =>
  bP (ld Q q 123 x48 (G42.room 9)) fun x49 =>
  bS (cValue e.ev x46 [x49] (G42.room 9)) fun x51 G50 =>
  some (.tuple #[x19, x32], G50)) (
  some (.tuple #[x19, x32], G42))) (
  bS (gd x19 true (some (v0, G20)) G20) fun x52 G53 =>
  bS (gd x19 true (bP (pNil x52) fun y => some (y, G53)) G53) fun x54 G55 =>
  bS (gd x19 true (bP (fa Q q 129 2 2 x54) fun y => some (y, G55)) G55) fun x56 G57 =>
  bS (gd x19 true (bP (ld Q q 127 x56 G57) fun y => some (y, G57)) G57) fun x58 G59 =>
  bS (gd x19 true (bP (ef Q q true 127 (.tmp 50) (.const .nilFunc) x58 .nilFunc) fun y => some (y, G59)) G59) fun x60 G61 =>
  bP (pickV x19 x60 (.bool false)) fun x62 =>
  ifV x62 (
  bP (pNil v0) fun x63 =>
  bP (fa Q q 129 2 2 x63) fun x64 =>
  bP (ld Q q 127 x64 (G61.room 9)) fun x65 =>
  bP (pNil v0) fun x66 =>
  bP (fa Q q 129 3 3 x66) fun x67 =>
  bP (ld Q q 123 x67 (G61.room 9)) fun x68 =>
  bS (cValue e.ev x65 [x68] (G61.room 9)) fun x70 G69 =>
  some (.tuple #[x19, (.int .u64 0)], G69)) (
  some (.tuple #[x19, (.int .u64 0)], G61)))) (
  bP (pNil v0) fun x71 =>
  bP (fa Q q 129 3 3 x71) fun x72 =>
  bP (ld Q q 123 x72 G) fun x73 =>
  bP (ifc Q q 123 x73) fun x74 =>
  bS (cInvoke Q e.ev x74 "Step" [v1] G) fun x75 G76 =>
  bP (pNil v0) fun x77 =>
  bP (fa Q q 129 1 1 x77) fun x78 =>
  bP (ld Q q 126 x78 G76) fun x79 =>
  bP (ef Q q true 126 (.tmp 34) (.const .nilFunc) x79 .nilFunc) fun x80 =>
  ifV x80 (
  bP (pNil v0) fun x81 =>
  bP (fa Q q 129 1 1 x81) fun x82 =>
  bP (ld Q q 126 x82 (G76.room 10)) fun x83 =>
  bP (pNil v0) fun x84 =>
  bP (fa Q q 129 3 3 x84) fun x85 =>
  bP (ld Q q 123 x85 (G76.room 10)) fun x86 =>
  bS (cValue e.ev x83 [x86] (G76.room 10)) fun x88 G87 =>
  bS (gd x75 true (some (v0, G87)) G87) fun x89 G90 =>
  bS (gd x75 true (bP (pNil x89) fun y => some (y, G90)) G90) fun x91 G92 =>
  bS (gd x75 true (bP (fa Q q 129 2 2 x91) fun y => some (y, G92)) G92) fun x93 G94 =>
  bS (gd x75 true (bP (ld Q q 127 x93 G94) fun y => some (y, G94)) G94) fun x95 G96 =>
  bS (gd x75 true (bP (ef Q q true 127 (.tmp 50) (.const .nilFunc) x95 .nilFunc) fun y => some (y, G96)) G96) fun x97 G98 =>
  bP (pickV x75 x97 (.bool false)) fun x99 =>
  ifV x99 (
  bP (pNil v0) fun x100 =>
  bP (fa Q q 129 2 2 x100) fun x101 =>
  bP (ld Q q 127 x101 (G98.room 9)) fun x102 =>
  bP (pNil v0) fun x103 =>
  bP (fa Q q 129 3 3 x103) fun x104 =>
  bP (ld Q q 123 x104 (G98.room 9)) fun x105 =>
  bS (cValue e.ev x102 [x105] (G98.room 9)) fun x107 G106 =>
  some (.tuple #[x75, x88], G106)) (
  some (.tuple #[x75, x88], G98))) (
  bS (gd x75 true (some (v0, G76)) G76) fun x108 G109 =>
  bS (gd x75 true (bP (pNil x108) fun y => some (y, G109)) G109) fun x110 G111 =>
  bS (gd x75 true (bP (fa Q q 129 2 2 x110) fun y => some (y, G111)) G111) fun x112 G113 =>
  bS (gd x75 true (bP (ld Q q 127 x112 G113) fun y => some (y, G113)) G113) fun x114 G115 =>
  bS (gd x75 true (bP (ef Q q true 127 (.tmp 50) (.const .nilFunc) x114 .nilFunc) fun y => some (y, G115)) G115) fun x116 G117 =>
  bP (pickV x75 x116 (.bool false)) fun x118 =>
  ifV x118 (
  bP (pNil v0) fun x119 =>
  bP (fa Q q 129 2 2 x119) fun x120 =>
  bP (ld Q q 127 x120 (G117.room 9)) fun x121 =>
  bP (pNil v0) fun x122 =>
  bP (fa Q q 129 3 3 x122) fun x123 =>
  bP (ld Q q 123 x123 (G117.room 9)) fun x124 =>
  bS (cValue e.ev x121 [x124] (G117.room 9)) fun x126 G125 =>
  some (.tuple #[x75, (.int .u64 0)], G125)) (
  some (.tuple #[x75, (.int .u64 0)], G117))))
theorem m283 {e : Ex} {E : Ev} (h : ExLe Q e E) (v0 v1 : Value) (G : GS) : Ref (s283 true e v0 v1 G) (s283 false (Ex.of E) v0 v1 G) := by
  unfold s283
  exact Ref.go
theorem f283 {orc : FuncId → Bool} {e : Ex} (h : ExLe Q e (E orc)) (v0 v1 : Value) (G : GS) : Ref (s283 true e v0 v1 G) ((E orc).cl 283 [v0, v1] G) :=
  fun r hr => cl_sxE_some Q orc (vs := [v0, v1]) G Tryz.func283 (by kernel_rfl) (by kernel_rfl) (by kernel_rfl) (by kernel_rfl) (by kernel_rfl) (by kernel_rfl) (m283 h v0 v1 G r hr)
noncomputable def b284_0 (q : Bool) (e : Ex) (lp : Env → GS → Option (Exit × Env × GS)) (τ : Env) (G : GS) : Option (Exit × Env × GS) :=
  bV q (τ 0) fun a0_ =>
  bV q (τ 1) fun a1_ =>
  bP (pNil a0_) fun x0 =>
  bP (fa Q q 193 0 0 x0) fun x1 =>
  bP (fa Q q 190 2 17 x1) fun x2 =>
  bP (ld Q q 3 x2 G) fun x3 =>
  bP (bn Q q .eql 3 (.tmp 17) (.const (.int .i64 1)) x3 (.int .i64 1)) fun x4 =>
  ifV x4 (
  bP (pNil a0_) fun x5 =>
  bP (fa Q q 193 0 0 x5) fun x6 =>
  bS (e.ev.cl 287 [x6, a1_] G) fun x7 G8 =>
  some ((.exit 0), clq q 162 (tu τ [(0, a0_), (1, a1_), (13, a0_), (14, x0), (15, x1), (16, x2), (17, x3), (18, x4), (19, x4), (36, a0_), (37, x5), (38, x6), (39, a1_), (40, x7)]), G8)) (
  bP (bn Q q .eql 3 (.tmp 17) (.const (.int .i64 2)) x3 (.int .i64 2)) fun x9 =>
  ifV x9 (
  bP (pNil a0_) fun x10 =>
  bP (fa Q q 193 0 0 x10) fun x11 =>
  bS (e.ev.cl 287 [x11, a1_] G) fun x12 G13 =>
  some ((.exit 0), clq q 162 (tu τ [(0, a0_), (1, a1_), (13, a0_), (14, x0), (15, x1), (16, x2), (17, x3), (18, x4), (19, x4), (20, x9), (21, x9), (36, a0_), (37, x10), (38, x11), (39, a1_), (40, x12)]), G13)) (
  bP (bn Q q .eql 3 (.tmp 17) (.const (.int .i64 3)) x3 (.int .i64 3)) fun x14 =>
  ifV x14 (
  bP (pNil a0_) fun x15 =>
  bP (fa Q q 193 0 0 x15) fun x16 =>
  bS (e.ev.cl 287 [x16, a1_] G) fun x17 G18 =>
  some ((.exit 0), clq q 162 (tu τ [(0, a0_), (1, a1_), (13, a0_), (14, x0), (15, x1), (16, x2), (17, x3), (18, x4), (19, x4), (20, x9), (21, x9), (22, x14), (23, x14), (36, a0_), (37, x15), (38, x16), (39, a1_), (40, x17)]), G18)) (
  bP (bn Q q .eql 3 (.tmp 17) (.const (.int .i64 4)) x3 (.int .i64 4)) fun x19 =>
  ifV x19 (
  ifV x19 (
  bS (e.ev.cl 288 [a0_, a1_] G) fun x20 G21 =>
  some ((.exit 0), clq q 162 (tu τ [(0, a0_), (1, a1_), (13, a0_), (14, x0), (15, x1), (16, x2), (17, x3), (18, x4), (19, x4), (20, x9), (21, x9), (22, x14), (23, x14), (24, x19), (25, x19), (41, a0_), (42, a1_), (43, x20)]), G21)) (
  bP (bn Q q .eql 3 (.tmp 17) (.const (.int .i64 7)) x3 (.int .i64 7)) fun x22 =>
  ifV x22 (
  bP (pNil a0_) fun x23 =>
  bP (fa Q q 193 0 0 x23) fun x24 =>
  bS (e.ev.cl 289 [x24, a1_, (.int .i64 4)] G) fun x25 G26 =>
  bP (pNil a0_) fun x27 =>
  bP (fa Q q 193 0 0 x27) fun x28 =>
  bP (fa Q q 190 5 20 x28) fun x29 =>
  bP (st Q q 188 1 x29 x25 G26) fun G30 =>
  bP (pNil a0_) fun x31 =>
  bP (fa Q q 193 0 0 x31) fun x32 =>
  bP (fa Q q 190 2 17 x32) fun x33 =>
  bP (st Q q 3 1 x33 (.int .i64 8) G30) fun G34 =>
  bP (pNil a0_) fun x35 =>
  bP (fa Q q 193 0 0 x35) fun x36 =>
  bP (fa Q q 190 5 20 x36) fun x37 =>
  bP (ld Q q 188 x37 G34) fun x38 =>
  bS (e.ev.cl 290 [x38] G34) fun x39 G40 =>
  ifV x39 (
  bP (pNil a0_) fun x41 =>
  bP (fa Q q 193 0 0 x41) fun x42 =>
  bP (fa Q q 190 2 17 x42) fun x43 =>
  bP (st Q q 3 1 x43 (.int .i64 3) G40) fun G44 =>
  some ((.exit 0), clq q 162 (tu τ [(0, a0_), (1, a1_), (13, a0_), (14, x0), (15, x1), (16, x2), (17, x3), (18, x4), (19, x4), (20, x9), (21, x9), (22, x14), (23, x14), (24, x19), (25, x19), (28, x22), (29, x22), (44, a0_), (45, a0_), (46, x23), (47, x24), (48, a1_), (49, x25), (50, x27), (51, x28), (52, x29), (53, a0_), (54, x31), (55, x32), (56, x33), (57, a0_), (58, x35), (59, x36), (60, x37), (61, x38), (62, x39), (63, a0_), (64, x41), (65, x42), (66, x43)]), G44)) (
  some ((.exit 0), clq q 162 (tu τ [(0, a0_), (1, a1_), (13, a0_), (14, x0), (15, x1), (16, x2), (17, x3), (18, x4), (19, x4), (20, x9), (21, x9), (22, x14), (23, x14), (24, x19), (25, x19), (28, x22), (29, x22), (44, a0_), (45, a0_), (46, x23), (47, x24), (48, a1_), (49, x25), (50, x27), (51, x28), (52, x29), (53, a0_), (54, x31), (55, x32), (56, x33), (57, a0_), (58, x35), (59, x36), (60, x37), (61, x38), (62, x39)]), G40))) (
  bP (bn Q q .eql 3 (.tmp 17) (.const (.int .i64 8)) x3 (.int .i64 8)) fun x45 =>
  ifV x45 (
  bP (pNil a0_) fun x46 =>
  bP (fa Q q 193 0 0 x46) fun x47 =>
  bP (fa Q q 190 3 18 x47) fun x48 =>
  bP (ld Q q 38 x48 G) fun x49 =>
  bP (pNil a0_) fun x50 =>
  bP (fa Q q 193 0 0 x50) fun x51 =>
  bP (fa Q q 190 7 23 x51) fun x52 =>
  bP (st Q q 38 1 x52 x49 G) fun G53 =>
  bP (pNil a0_) fun x54 =>
  bP (fa Q q 193 0 0 x54) fun x55 =>
  bP (fa Q q 190 2 17 x55) fun x56 =>
  bP (st Q q 3 1 x56 (.int .i64 7) G53) fun G57 =>
  bP (pNil a0_) fun x58 =>
  bP (fa Q q 193 0 0 x58) fun x59 =>
  bP (fa Q q 190 0 0 x59) fun x60 =>
  bP (lda Q q 36 13 x60 (G57.room 24)) fun x61 =>
  bP (pNil a0_) fun x62 =>
  bP (fa Q q 193 0 0 x62) fun x63 =>
  bP (fa Q q 190 4 19 x63) fun x64 =>
  bP (ld Q q 3 x64 (G57.room 24)) fun x65 =>
  bS (e.ev.cl 100 [x61, x65, (.int .i64 0)] (G57.room 24)) fun x67 G66 =>
  bP (pNil a0_) fun x68 =>
  bP (fa Q q 193 0 0 x68) fun x69 =>
  bP (fa Q q 190 5 20 x69) fun x70 =>
  bP (ld Q q 188 x70 G66) fun x71 =>
  chk ((sameO (ld Q q 188 x70 (G57.room 24)) x71 && true)) <|
  bP (pNil a0_) fun x72 =>
  bP (fa Q q 193 0 0 x72) fun x73 =>
  bP (fa Q q 190 5 20 x73) fun x74 =>
  bP (ld Q q 188 x74 G66) fun x75 =>
  chk ((sameO (ld Q q 188 x74 (G57.room 24)) x75 && true)) <|
  bS (e.ev.cl 291 [x75, (.bool true)] G66) fun x77 G76 =>
  chk ((sameO (ld Q q 188 x70 G76) x71 && true)) <|
  bS (e.ev.cl 242 [a1_, x67, x71, x77] G76) fun x79 G78 =>
  ifV x79 (
  bP (pNil a0_) fun x80 =>
  bP (fa Q q 193 0 0 x80) fun x81 =>
  bP (fa Q q 190 1 13 x81) fun x82 =>
  bP (fa Q q 187 1 1 x82) fun x83 =>
  bP (st Q q 4 1 x83 (.bool true) G78) fun G84 =>
  bP (pNil a0_) fun x85 =>
  bP (fa Q q 193 0 0 x85) fun x86 =>
  bP (fa Q q 190 2 17 x86) fun x87 =>
  bP (st Q q 3 1 x87 (.int .i64 9) G84) fun G88 =>
  some ((.exit 0), clq q 162 (tu τ [(0, a0_), (1, a1_), (13, a0_), (14, x0), (15, x1), (16, x2), (17, x3), (18, x4), (19, x4), (20, x9), (21, x9), (22, x14), (23, x14), (24, x19), (25, x19), (28, x22), (29, x22), (30, x45), (31, x45), (67, a0_), (68, a0_), (69, a0_), (70, x46), (71, x47), (72, x48), (73, x49), (74, x50), (75, x51), (76, x52), (77, x54), (78, x55), (79, x56), (80, a1_), (81, a0_), (82, x58), (83, x59), (84, x60), (85, x61), (86, a0_), (87, x62), (88, x63), (89, x64), (90, x65), (91, x67), (92, a0_), (93, x68), (94, x69), (95, x70), (96, x71), (97, a0_), (98, x72), (99, x73), (100, x74), (101, x75), (102, x77), (103, x79), (104, a0_), (105, a0_), (106, x80), (107, x81), (108, x82), (109, x83), (110, x85), (111, x86), (112, x87)]), G88)) (
  some ((.exit 0), clq q 162 (tu τ [(0, a0_), (1, a1_), (13, a0_), (14, x0), (15, x1), (16, x2), (17, x3), (18, x4), (19, x4), (20, x9), (21, x9), (22, x14), (23, x14), (24, x19), (25, x19), (28, x22), (29, x22), (30, x45), (31, x45), (67, a0_), (68, a0_), (69, a0_), (70, x46), (71, x47), (72, x48), (73, x49), (74, x50), (75, x51), (76, x52), (77, x54), (78, x55), (79, x56), (80, a1_), (81, a0_), (82, x58), (83, x59), (84, x60), (85, x61), (86, a0_), (87, x62), (88, x63), (89, x64), (90, x65), (91, x67), (92, a0_), (93, x68), (94, x69), (95, x70), (96, x71), (97, a0_), (98, x72), (99, x73), (100, x74), (101, x75), (102, x77), (103, x79)]), G78))) (
  bP (bn Q q .eql 3 (.tmp 17) (.const (.int .i64 9)) x3 (.int .i64 9)) fun x89 =>
  ifV x89 (
  bP (pNil a0_) fun x90 =>
  bP (fa Q q 193 0 0 x90) fun x91 =>
  bS (e.ev.cl 289 [x91, a1_, (.int .i64 0)] G) fun x92 G93 =>
  bP (pNil a0_) fun x94 =>
  bP (fa Q q 193 0 0 x94) fun x95 =>
  bP (fa Q q 190 6 21 x95) fun x96 =>
  bP (fa Q q 46 0 0 x96) fun x97 =>
  bP (st Q q 38 1 x97 x92 G93) fun G98 =>
  bP (pNil a0_) fun x99 =>
  bP (fa Q q 193 0 0 x99) fun x100 =>
  bP (fa Q q 190 2 17 x100) fun x101 =>
  bP (st Q q 3 1 x101 (.int .i64 91) G98) fun G102 =>
  some ((.exit 0), clq q 162 (tu τ [(0, a0_), (1, a1_), (13, a0_), (14, x0), (15, x1), (16, x2), (17, x3), (18, x4), (19, x4), (20, x9), (21, x9), (22, x14), (23, x14), (24, x19), (25, x19), (28, x22), (29, x22), (30, x45), (31, x45), (32, x89), (33, x89), (113, a0_), (114, a0_), (115, a0_), (116, x90), (117, x91), (118, a1_), (119, x92), (120, x94), (121, x95), (122, x96), (123, x97), (124, x99), (125, x100), (126, x101)]), G102)) (
  bP (bn Q q .eql 3 (.tmp 17) (.const (.int .i64 91)) x3 (.int .i64 91)) fun x103 =>
  ifV x103 (
  bP (pNil a0_) fun x104 =>
  bP (fa Q q 193 0 0 x104) fun x105 =>
  bS (e.ev.cl 292 [x105, a1_] G) fun x106 G107 =>
  bP (pNil a0_) fun x108 =>
  bP (fa Q q 193 0 0 x108) fun x109 =>
  bP (fa Q q 190 0 0 x109) fun x110 =>
  bP (lda Q q 36 13 x110 (G107.room 23)) fun x111 =>
  bP (pNil a0_) fun x112 =>
  bP (fa Q q 193 0 0 x112) fun x113 =>
  bP (fa Q q 190 6 21 x113) fun x114 =>
  bP (fa Q q 46 0 0 x114) fun x115 =>
  bP (ld Q q 38 x115 (G107.room 23)) fun x116 =>
  bS (e.ev.cl 228 [x111, x116] (G107.room 23)) fun x118 G117 =>
  bP (pNil a0_) fun x119 =>
  bP (fa Q q 193 0 0 x119) fun x120 =>
  bP (fa Q q 190 1 13 x120) fun x121 =>
  bP (fa Q q 187 2 2 x121) fun x122 =>
  bP (st Q q 184 1 x122 x118 G117) fun G123 =>
  bP (pNil a0_) fun x124 =>
  bP (fa Q q 193 0 0 x124) fun x125 =>
  bP (fa Q q 190 2 17 x125) fun x126 =>
  bP (st Q q 3 1 x126 (.int .i64 10) G123) fun G127 =>
  some ((.exit 0), clq q 162 (tu τ [(0, a0_), (1, a1_), (13, a0_), (14, x0), (15, x1), (16, x2), (17, x3), (18, x4), (19, x4), (20, x9), (21, x9), (22, x14), (23, x14), (24, x19), (25, x19), (28, x22), (29, x22), (30, x45), (31, x45), (32, x89), (33, x89), (34, x103), (35, x103), (127, a0_), (128, x104), (129, x105), (130, a1_), (131, x106), (132, a0_), (133, a0_), (134, a0_), (135, x108), (136, x109), (137, x110), (138, x111), (139, a0_), (140, x112), (141, x113), (142, x114), (143, x115), (144, x116), (145, x118), (146, x119), (147, x120), (148, x121), (149, x122), (150, x124), (151, x125), (152, x126)]), G127)) (
  bS (e.ev.cl 293 [a0_, a1_] G) fun x128 G129 =>
  some ((.exit 0), clq q 162 (tu τ [(0, a0_), (1, a1_), (13, a0_), (14, x0), (15, x1), (16, x2), (17, x3), (18, x4), (19, x4), (20, x9), (21, x9), (22, x14), (23, x14), (24, x19), (25, x19), (28, x22), (29, x22), (30, x45), (31, x45), (32, x89), (33, x89), (34, x103), (35, x103), (153, a0_), (154, a1_), (155, x128)]), G129))))))) (
  bP (bn Q q .eql 3 (.tmp 17) (.const (.int .i64 5)) x3 (.int .i64 5)) fun x130 =>
  ifV x130 (
  ifV x130 (
  bS (e.ev.cl 288 [a0_, a1_] G) fun x131 G132 =>
  some ((.exit 0), clq q 162 (tu τ [(0, a0_), (1, a1_), (13, a0_), (14, x0), (15, x1), (16, x2), (17, x3), (18, x4), (19, x4), (20, x9), (21, x9), (22, x14), (23, x14), (24, x130), (25, x19), (26, x130), (41, a0_), (42, a1_), (43, x131)]), G132)) (
  bP (bn Q q .eql 3 (.tmp 17) (.const (.int .i64 7)) x3 (.int .i64 7)) fun x133 =>
  ifV x133 (
  bP (pNil a0_) fun x134 =>
  bP (fa Q q 193 0 0 x134) fun x135 =>
  bS (e.ev.cl 289 [x135, a1_, (.int .i64 4)] G) fun x136 G137 =>
  bP (pNil a0_) fun x138 =>
  bP (fa Q q 193 0 0 x138) fun x139 =>
  bP (fa Q q 190 5 20 x139) fun x140 =>
  bP (st Q q 188 1 x140 x136 G137) fun G141 =>
  bP (pNil a0_) fun x142 =>
  bP (fa Q q 193 0 0 x142) fun x143 =>
  bP (fa Q q 190 2 17 x143) fun x144 =>
  bP (st Q q 3 1 x144 (.int .i64 8) G141) fun G145 =>
  bP (pNil a0_) fun x146 =>
  bP (fa Q q 193 0 0 x146) fun x147 =>
  bP (fa Q q 190 5 20 x147) fun x148 =>
  bP (ld Q q 188 x148 G145) fun x149 =>
  bS (e.ev.cl 290 [x149] G145) fun x150 G151 =>
  ifV x150 (
  bP (pNil a0_) fun x152 =>
  bP (fa Q q 193 0 0 x152) fun x153 =>
  bP (fa Q q 190 2 17 x153) fun x154 =>
  bP (st Q q 3 1 x154 (.int .i64 3) G151) fun G155 =>
  some ((.exit 0), clq q 162 (tu τ [(0, a0_), (1, a1_), (13, a0_), (14, x0), (15, x1), (16, x2), (17, x3), (18, x4), (19, x4), (20, x9), (21, x9), (22, x14), (23, x14), (24, x130), (25, x19), (26, x130), (28, x133), (29, x133), (44, a0_), (45, a0_), (46, x134), (47, x135), (48, a1_), (49, x136), (50, x138), (51, x139), (52, x140), (53, a0_), (54, x142), (55, x143), (56, x144), (57, a0_), (58, x146), (59, x147), (60, x148), (61, x149), (62, x150), (63, a0_), (64, x152), (65, x153), (66, x154)]), G155)) (
  some ((.exit 0), clq q 162 (tu τ [(0, a0_), (1, a1_), (13, a0_), (14, x0), (15, x1), (16, x2), (17, x3), (18, x4), (19, x4), (20, x9), (21, x9), (22, x14), (23, x14), (24, x130), (25, x19), (26, x130), (28, x133), (29, x133), (44, a0_), (45, a0_), (46, x134), (47, x135), (48, a1_), (49, x136), (50, x138), (51, x139), (52, x140), (53, a0_), (54, x142), (55, x143), (56, x144), (57, a0_), (58, x146), (59, x147), (60, x148), (61, x149), (62, x150)]), G151))) (
  bP (bn Q q .eql 3 (.tmp 17) (.const (.int .i64 8)) x3 (.int .i64 8)) fun x156 =>
  ifV x156 (
  bP (pNil a0_) fun x157 =>
  bP (fa Q q 193 0 0 x157) fun x158 =>
  bP (fa Q q 190 3 18 x158) fun x159 =>
  bP (ld Q q 38 x159 G) fun x160 =>
  bP (pNil a0_) fun x161 =>
  bP (fa Q q 193 0 0 x161) fun x162 =>
  bP (fa Q q 190 7 23 x162) fun x163 =>
  bP (st Q q 38 1 x163 x160 G) fun G164 =>
  bP (pNil a0_) fun x165 =>
  bP (fa Q q 193 0 0 x165) fun x166 =>
  bP (fa Q q 190 2 17 x166) fun x167 =>
  bP (st Q q 3 1 x167 (.int .i64 7) G164) fun G168 =>
  bP (pNil a0_) fun x169 =>
  bP (fa Q q 193 0 0 x169) fun x170 =>
  bP (fa Q q 190 0 0 x170) fun x171 =>
  bP (lda Q q 36 13 x171 (G168.room 24)) fun x172 =>
  bP (pNil a0_) fun x173 =>
  bP (fa Q q 193 0 0 x173) fun x174 =>
  bP (fa Q q 190 4 19 x174) fun x175 =>
  bP (ld Q q 3 x175 (G168.room 24)) fun x176 =>
  bS (e.ev.cl 100 [x172, x176, (.int .i64 0)] (G168.room 24)) fun x178 G177 =>
  bP (pNil a0_) fun x179 =>
  bP (fa Q q 193 0 0 x179) fun x180 =>
  bP (fa Q q 190 5 20 x180) fun x181 =>
  bP (ld Q q 188 x181 G177) fun x182 =>
  chk ((sameO (ld Q q 188 x181 (G168.room 24)) x182 && true)) <|
  bP (pNil a0_) fun x183 =>
  bP (fa Q q 193 0 0 x183) fun x184 =>
  bP (fa Q q 190 5 20 x184) fun x185 =>
  bP (ld Q q 188 x185 G177) fun x186 =>
  chk ((sameO (ld Q q 188 x185 (G168.room 24)) x186 && true)) <|
  bS (e.ev.cl 291 [x186, (.bool true)] G177) fun x188 G187 =>
  chk ((sameO (ld Q q 188 x181 G187) x182 && true)) <|
  bS (e.ev.cl 242 [a1_, x178, x182, x188] G187) fun x190 G189 =>
  ifV x190 (
  bP (pNil a0_) fun x191 =>
  bP (fa Q q 193 0 0 x191) fun x192 =>
  bP (fa Q q 190 1 13 x192) fun x193 =>
  bP (fa Q q 187 1 1 x193) fun x194 =>
  bP (st Q q 4 1 x194 (.bool true) G189) fun G195 =>
  bP (pNil a0_) fun x196 =>
  bP (fa Q q 193 0 0 x196) fun x197 =>
  bP (fa Q q 190 2 17 x197) fun x198 =>
  bP (st Q q 3 1 x198 (.int .i64 9) G195) fun G199 =>
  some ((.exit 0), clq q 162 (tu τ [(0, a0_), (1, a1_), (13, a0_), (14, x0), (15, x1), (16, x2), (17, x3), (18, x4), (19, x4), (20, x9), (21, x9), (22, x14), (23, x14), (24, x130), (25, x19), (26, x130), (28, x133), (29, x133), (30, x156), (31, x156), (67, a0_), (68, a0_), (69, a0_), (70, x157), (71, x158), (72, x159), (73, x160), (74, x161), (75, x162), (76, x163), (77, x165), (78, x166), (79, x167), (80, a1_), (81, a0_), (82, x169), (83, x170), (84, x171), (85, x172), (86, a0_), (87, x173), (88, x174), (89, x175), (90, x176), (91, x178), (92, a0_), (93, x179), (94, x180), (95, x181), (96, x182), (97, a0_), (98, x183), (99, x184), (100, x185), (101, x186), (102, x188), (103, x190), (104, a0_), (105, a0_), (106, x191), (107, x192), (108, x193), (109, x194), (110, x196), (111, x197), (112, x198)]), G199)) (
  some ((.exit 0), clq q 162 (tu τ [(0, a0_), (1, a1_), (13, a0_), (14, x0), (15, x1), (16, x2), (17, x3), (18, x4), (19, x4), (20, x9), (21, x9), (22, x14), (23, x14), (24, x130), (25, x19), (26, x130), (28, x133), (29, x133), (30, x156), (31, x156), (67, a0_), (68, a0_), (69, a0_), (70, x157), (71, x158), (72, x159), (73, x160), (74, x161), (75, x162), (76, x163), (77, x165), (78, x166), (79, x167), (80, a1_), (81, a0_), (82, x169), (83, x170), (84, x171), (85, x172), (86, a0_), (87, x173), (88, x174), (89, x175), (90, x176), (91, x178), (92, a0_), (93, x179), (94, x180), (95, x181), (96, x182), (97, a0_), (98, x183), (99, x184), (100, x185), (101, x186), (102, x188), (103, x190)]), G189))) (
  bP (bn Q q .eql 3 (.tmp 17) (.const (.int .i64 9)) x3 (.int .i64 9)) fun x200 =>
  ifV x200 (
  bP (pNil a0_) fun x201 =>
  bP (fa Q q 193 0 0 x201) fun x202 =>
  bS (e.ev.cl 289 [x202, a1_, (.int .i64 0)] G) fun x203 G204 =>
  bP (pNil a0_) fun x205 =>
  bP (fa Q q 193 0 0 x205) fun x206 =>
  bP (fa Q q 190 6 21 x206) fun x207 =>
  bP (fa Q q 46 0 0 x207) fun x208 =>
  bP (st Q q 38 1 x208 x203 G204) fun G209 =>
  bP (pNil a0_) fun x210 =>
  bP (fa Q q 193 0 0 x210) fun x211 =>
  bP (fa Q q 190 2 17 x211) fun x212 =>
  bP (st Q q 3 1 x212 (.int .i64 91) G209) fun G213 =>
  some ((.exit 0), clq q 162 (tu τ [(0, a0_), (1, a1_), (13, a0_), (14, x0), (15, x1), (16, x2), (17, x3), (18, x4), (19, x4), (20, x9), (21, x9), (22, x14), (23, x14), (24, x130), (25, x19), (26, x130), (28, x133), (29, x133), (30, x156), (31, x156), (32, x200), (33, x200), (113, a0_), (114, a0_), (115, a0_), (116, x201), (117, x202), (118, a1_), (119, x203), (120, x205), (121, x206), (122, x207), (123, x208), (124, x210), (125, x211), (126, x212)]), G213)) (
  bP (bn Q q .eql 3 (.tmp 17) (.const (.int .i64 91)) x3 (.int .i64 91)) fun x214 =>
  ifV x214 (
  bP (pNil a0_) fun x215 =>
  bP (fa Q q 193 0 0 x215) fun x216 =>
  bS (e.ev.cl 292 [x216, a1_] G) fun x217 G218 =>
  bP (pNil a0_) fun x219 =>
  bP (fa Q q 193 0 0 x219) fun x220 =>
  bP (fa Q q 190 0 0 x220) fun x221 =>
  bP (lda Q q 36 13 x221 (G218.room 23)) fun x222 =>
  bP (pNil a0_) fun x223 =>
  bP (fa Q q 193 0 0 x223) fun x224 =>
  bP (fa Q q 190 6 21 x224) fun x225 =>
  bP (fa Q q 46 0 0 x225) fun x226 =>
  bP (ld Q q 38 x226 (G218.room 23)) fun x227 =>
  bS (e.ev.cl 228 [x222, x227] (G218.room 23)) fun x229 G228 =>
  bP (pNil a0_) fun x230 =>
  bP (fa Q q 193 0 0 x230) fun x231 =>
  bP (fa Q q 190 1 13 x231) fun x232 =>
  bP (fa Q q 187 2 2 x232) fun x233 =>
  bP (st Q q 184 1 x233 x229 G228) fun G234 =>
  bP (pNil a0_) fun x235 =>
  bP (fa Q q 193 0 0 x235) fun x236 =>
  bP (fa Q q 190 2 17 x236) fun x237 =>
  bP (st Q q 3 1 x237 (.int .i64 10) G234) fun G238 =>
  some ((.exit 0), clq q 162 (tu τ [(0, a0_), (1, a1_), (13, a0_), (14, x0), (15, x1), (16, x2), (17, x3), (18, x4), (19, x4), (20, x9), (21, x9), (22, x14), (23, x14), (24, x130), (25, x19), (26, x130), (28, x133), (29, x133), (30, x156), (31, x156), (32, x200), (33, x200), (34, x214), (35, x214), (127, a0_), (128, x215), (129, x216), (130, a1_), (131, x217), (132, a0_), (133, a0_), (134, a0_), (135, x219), (136, x220), (137, x221), (138, x222), (139, a0_), (140, x223), (141, x224), (142, x225), (143, x226), (144, x227), (145, x229), (146, x230), (147, x231), (148, x232), (149, x233), (150, x235), (151, x236), (152, x237)]), G238)) (
  bS (e.ev.cl 293 [a0_, a1_] G) fun x239 G240 =>
  some ((.exit 0), clq q 162 (tu τ [(0, a0_), (1, a1_), (13, a0_), (14, x0), (15, x1), (16, x2), (17, x3), (18, x4), (19, x4), (20, x9), (21, x9), (22, x14), (23, x14), (24, x130), (25, x19), (26, x130), (28, x133), (29, x133), (30, x156), (31, x156), (32, x200), (33, x200), (34, x214), (35, x214), (153, a0_), (154, a1_), (155, x239)]), G240))))))) (
  bP (bn Q q .eql 3 (.tmp 17) (.const (.int .i64 6)) x3 (.int .i64 6)) fun x241 =>
  ifV x241 (
  bS (e.ev.cl 288 [a0_, a1_] G) fun x242 G243 =>
  some ((.exit 0), clq q 162 (tu τ [(0, a0_), (1, a1_), (13, a0_), (14, x0), (15, x1), (16, x2), (17, x3), (18, x4), (19, x4), (20, x9), (21, x9), (22, x14), (23, x14), (24, x241), (25, x19), (26, x130), (27, x241), (41, a0_), (42, a1_), (43, x242)]), G243)) (
  bP (bn Q q .eql 3 (.tmp 17) (.const (.int .i64 7)) x3 (.int .i64 7)) fun x244 =>
  ifV x244 (
  bP (pNil a0_) fun x245 =>
  bP (fa Q q 193 0 0 x245) fun x246 =>
  bS (e.ev.cl 289 [x246, a1_, (.int .i64 4)] G) fun x247 G248 =>
  bP (pNil a0_) fun x249 =>
  bP (fa Q q 193 0 0 x249) fun x250 =>
  bP (fa Q q 190 5 20 x250) fun x251 =>
  bP (st Q q 188 1 x251 x247 G248) fun G252 =>
  bP (pNil a0_) fun x253 =>
  bP (fa Q q 193 0 0 x253) fun x254 =>
  bP (fa Q q 190 2 17 x254) fun x255 =>
  bP (st Q q 3 1 x255 (.int .i64 8) G252) fun G256 =>
  bP (pNil a0_) fun x257 =>
  bP (fa Q q 193 0 0 x257) fun x258 =>
  bP (fa Q q 190 5 20 x258) fun x259 =>
  bP (ld Q q 188 x259 G256) fun x260 =>
  bS (e.ev.cl 290 [x260] G256) fun x261 G262 =>
  ifV x261 (
  bP (pNil a0_) fun x263 =>
  bP (fa Q q 193 0 0 x263) fun x264 =>
  bP (fa Q q 190 2 17 x264) fun x265 =>
  bP (st Q q 3 1 x265 (.int .i64 3) G262) fun G266 =>
  some ((.exit 0), clq q 162 (tu τ [(0, a0_), (1, a1_), (13, a0_), (14, x0), (15, x1), (16, x2), (17, x3), (18, x4), (19, x4), (20, x9), (21, x9), (22, x14), (23, x14), (24, x241), (25, x19), (26, x130), (27, x241), (28, x244), (29, x244), (44, a0_), (45, a0_), (46, x245), (47, x246), (48, a1_), (49, x247), (50, x249), (51, x250), (52, x251), (53, a0_), (54, x253), (55, x254), (56, x255), (57, a0_), (58, x257), (59, x258), (60, x259), (61, x260), (62, x261), (63, a0_), (64, x263), (65, x264), (66, x265)]), G266)) (
  some ((.exit 0), clq q 162 (tu τ [(0, a0_), (1, a1_), (13, a0_), (14, x0), (15, x1), (16, x2), (17, x3), (18, x4), (19, x4), (20, x9), (21, x9), (22, x14), (23, x14), (24, x241), (25, x19), (26, x130), (27, x241), (28, x244), (29, x244), (44, a0_), (45, a0_), (46, x245), (47, x246), (48, a1_), (49, x247), (50, x249), (51, x250), (52, x251), (53, a0_), (54, x253), (55, x254), (56, x255), (57, a0_), (58, x257), (59, x258), (60, x259), (61, x260), (62, x261)]), G262))) (
  bP (bn Q q .eql 3 (.tmp 17) (.const (.int .i64 8)) x3 (.int .i64 8)) fun x267 =>
  ifV x267 (
  bP (pNil a0_) fun x268 =>
  bP (fa Q q 193 0 0 x268) fun x269 =>
  bP (fa Q q 190 3 18 x269) fun x270 =>
  bP (ld Q q 38 x270 G) fun x271 =>
  bP (pNil a0_) fun x272 =>
  bP (fa Q q 193 0 0 x272) fun x273 =>
  bP (fa Q q 190 7 23 x273) fun x274 =>
  bP (st Q q 38 1 x274 x271 G) fun G275 =>
  bP (pNil a0_) fun x276 =>
  bP (fa Q q 193 0 0 x276) fun x277 =>
  bP (fa Q q 190 2 17 x277) fun x278 =>
  bP (st Q q 3 1 x278 (.int .i64 7) G275) fun G279 =>
  bP (pNil a0_) fun x280 =>
  bP (fa Q q 193 0 0 x280) fun x281 =>
  bP (fa Q q 190 0 0 x281) fun x282 =>
  bP (lda Q q 36 13 x282 (G279.room 24)) fun x283 =>
  bP (pNil a0_) fun x284 =>
  bP (fa Q q 193 0 0 x284) fun x285 =>
  bP (fa Q q 190 4 19 x285) fun x286 =>
  bP (ld Q q 3 x286 (G279.room 24)) fun x287 =>
  bS (e.ev.cl 100 [x283, x287, (.int .i64 0)] (G279.room 24)) fun x289 G288 =>
  bP (pNil a0_) fun x290 =>
  bP (fa Q q 193 0 0 x290) fun x291 =>
  bP (fa Q q 190 5 20 x291) fun x292 =>
  bP (ld Q q 188 x292 G288) fun x293 =>
  chk ((sameO (ld Q q 188 x292 (G279.room 24)) x293 && true)) <|
  bP (pNil a0_) fun x294 =>
  bP (fa Q q 193 0 0 x294) fun x295 =>
  bP (fa Q q 190 5 20 x295) fun x296 =>
  bP (ld Q q 188 x296 G288) fun x297 =>
  chk ((sameO (ld Q q 188 x296 (G279.room 24)) x297 && true)) <|
  bS (e.ev.cl 291 [x297, (.bool true)] G288) fun x299 G298 =>
  chk ((sameO (ld Q q 188 x292 G298) x293 && true)) <|
  bS (e.ev.cl 242 [a1_, x289, x293, x299] G298) fun x301 G300 =>
  ifV x301 (
  bP (pNil a0_) fun x302 =>
  bP (fa Q q 193 0 0 x302) fun x303 =>
  bP (fa Q q 190 1 13 x303) fun x304 =>
  bP (fa Q q 187 1 1 x304) fun x305 =>
  bP (st Q q 4 1 x305 (.bool true) G300) fun G306 =>
  bP (pNil a0_) fun x307 =>
  bP (fa Q q 193 0 0 x307) fun x308 =>
  bP (fa Q q 190 2 17 x308) fun x309 =>
  bP (st Q q 3 1 x309 (.int .i64 9) G306) fun G310 =>
  some ((.exit 0), clq q 162 (tu τ [(0, a0_), (1, a1_), (13, a0_), (14, x0), (15, x1), (16, x2), (17, x3), (18, x4), (19, x4), (20, x9), (21, x9), (22, x14), (23, x14), (24, x241), (25, x19), (26, x130), (27, x241), (28, x244), (29, x244), (30, x267), (31, x267), (67, a0_), (68, a0_), (69, a0_), (70, x268), (71, x269), (72, x270), (73, x271), (74, x272), (75, x273), (76, x274), (77, x276), (78, x277), (79, x278), (80, a1_), (81, a0_), (82, x280), (83, x281), (84, x282), (85, x283), (86, a0_), (87, x284), (88, x285), (89, x286), (90, x287), (91, x289), (92, a0_), (93, x290), (94, x291), (95, x292), (96, x293), (97, a0_), (98, x294), (99, x295), (100, x296), (101, x297), (102, x299), (103, x301), (104, a0_), (105, a0_), (106, x302), (107, x303), (108, x304), (109, x305), (110, x307), (111, x308), (112, x309)]), G310)) (
  some ((.exit 0), clq q 162 (tu τ [(0, a0_), (1, a1_), (13, a0_), (14, x0), (15, x1), (16, x2), (17, x3), (18, x4), (19, x4), (20, x9), (21, x9), (22, x14), (23, x14), (24, x241), (25, x19), (26, x130), (27, x241), (28, x244), (29, x244), (30, x267), (31, x267), (67, a0_), (68, a0_), (69, a0_), (70, x268), (71, x269), (72, x270), (73, x271), (74, x272), (75, x273), (76, x274), (77, x276), (78, x277), (79, x278), (80, a1_), (81, a0_), (82, x280), (83, x281), (84, x282), (85, x283), (86, a0_), (87, x284), (88, x285), (89, x286), (90, x287), (91, x289), (92, a0_), (93, x290), (94, x291), (95, x292), (96, x293), (97, a0_), (98, x294), (99, x295), (100, x296), (101, x297), (102, x299), (103, x301)]), G300))) (
  bP (bn Q q .eql 3 (.tmp 17) (.const (.int .i64 9)) x3 (.int .i64 9)) fun x311 =>
  ifV x311 (
  bP (pNil a0_) fun x312 =>
  bP (fa Q q 193 0 0 x312) fun x313 =>
  bS (e.ev.cl 289 [x313, a1_, (.int .i64 0)] G) fun x314 G315 =>
  bP (pNil a0_) fun x316 =>
  bP (fa Q q 193 0 0 x316) fun x317 =>
  bP (fa Q q 190 6 21 x317) fun x318 =>
  bP (fa Q q 46 0 0 x318) fun x319 =>
  bP (st Q q 38 1 x319 x314 G315) fun G320 =>
  bP (pNil a0_) fun x321 =>
  bP (fa Q q 193 0 0 x321) fun x322 =>
  bP (fa Q q 190 2 17 x322) fun x323 =>
  bP (st Q q 3 1 x323 (.int .i64 91) G320) fun G324 =>
  some ((.exit 0), clq q 162 (tu τ [(0, a0_), (1, a1_), (13, a0_), (14, x0), (15, x1), (16, x2), (17, x3), (18, x4), (19, x4), (20, x9), (21, x9), (22, x14), (23, x14), (24, x241), (25, x19), (26, x130), (27, x241), (28, x244), (29, x244), (30, x267), (31, x267), (32, x311), (33, x311), (113, a0_), (114, a0_), (115, a0_), (116, x312), (117, x313), (118, a1_), (119, x314), (120, x316), (121, x317), (122, x318), (123, x319), (124, x321), (125, x322), (126, x323)]), G324)) (
  bP (bn Q q .eql 3 (.tmp 17) (.const (.int .i64 91)) x3 (.int .i64 91)) fun x325 =>
  ifV x325 (
  bP (pNil a0_) fun x326 =>
  bP (fa Q q 193 0 0 x326) fun x327 =>
  bS (e.ev.cl 292 [x327, a1_] G) fun x328 G329 =>
  bP (pNil a0_) fun x330 =>
  bP (fa Q q 193 0 0 x330) fun x331 =>
  bP (fa Q q 190 0 0 x331) fun x332 =>
  bP (lda Q q 36 13 x332 (G329.room 23)) fun x333 =>
  bP (pNil a0_) fun x334 =>
  bP (fa Q q 193 0 0 x334) fun x335 =>
  bP (fa Q q 190 6 21 x335) fun x336 =>
  bP (fa Q q 46 0 0 x336) fun x337 =>
  bP (ld Q q 38 x337 (G329.room 23)) fun x338 =>
  bS (e.ev.cl 228 [x333, x338] (G329.room 23)) fun x340 G339 =>
  bP (pNil a0_) fun x341 =>
  bP (fa Q q 193 0 0 x341) fun x342 =>
  bP (fa Q q 190 1 13 x342) fun x343 =>
  bP (fa Q q 187 2 2 x343) fun x344 =>
  bP (st Q q 184 1 x344 x340 G339) fun G345 =>
  bP (pNil a0_) fun x346 =>
  bP (fa Q q 193 0 0 x346) fun x347 =>
  bP (fa Q q 190 2 17 x347) fun x348 =>
  bP (st Q q 3 1 x348 (.int .i64 10) G345) fun G349 =>
  some ((.exit 0), clq q 162 (tu τ [(0, a0_), (1, a1_), (13, a0_), (14, x0), (15, x1), (16, x2), (17, x3), (18, x4), (19, x4), (20, x9), (21, x9), (22, x14), (23, x14), (24, x241), (25, x19), (26, x130), (27, x241), (28, x244), (29, x244), (30, x267), (31, x267), (32, x311), (33, x311), (34, x325), (35, x325), (127, a0_), (128, x326), (129, x327), (130, a1_), (131, x328), (132, a0_), (133, a0_), (134, a0_), (135, x330), (136, x331), (137, x332), (138, x333), (139, a0_), (140, x334), (141, x335), (142, x336), (143, x337), (144, x338), (145, x340), (146, x341), (147, x342), (148, x343), (149, x344), (150, x346), (151, x347), (152, x348)]), G349)) (
  bS (e.ev.cl 293 [a0_, a1_] G) fun x350 G351 =>
  some ((.exit 0), clq q 162 (tu τ [(0, a0_), (1, a1_), (13, a0_), (14, x0), (15, x1), (16, x2), (17, x3), (18, x4), (19, x4), (20, x9), (21, x9), (22, x14), (23, x14), (24, x241), (25, x19), (26, x130), (27, x241), (28, x244), (29, x244), (30, x267), (31, x267), (32, x311), (33, x311), (34, x325), (35, x325), (153, a0_), (154, a1_), (155, x350)]), G351)))))))))))
theorem mb284_0 {e : Ex} {E : Ev} (h : ExLe Q e E) {lp lp' : Env → GS → Option (Exit × Env × GS)} (hlp : LpLe lp lp') (τ : Env) (G : GS) : Ref (b284_0 true e lp τ G) (b284_0 false (Ex.of E) lp' τ G) := by
  unfold b284_0
  exact Ref.go
set_option maxHeartbeats 8000000 in
theorem l284_0 {orc : FuncId → Bool} {e : Ex} (h : ExLe Q e (E orc)) (lp : Env → GS → Option (Exit × Env × GS)) (hlp : ∀ τ G, Ref (lp τ G) (mapE ((E orc).lp (subAt [1, 0, 1, 1, 0, 0, 0] (bodyOf Tryz.f284)) (lst 162 τ) G))) (T : List Value) (G : GS) (hT : T.length = 162) : Ref (b284_0 true e lp (nth undef T) G) (mapE ((E orc).lp (subAt [1, 0, 1, 1, 0, 0, 0] (bodyOf Tryz.f284)) T G)) :=
  fun r hr => lp_sxM Q orc G hT (by kernel_rfl) (mb284_0 h ⟨hlp⟩ _ _ r hr)
/-- (*coxswain/claim.Claim).Step -/
noncomputable def s284 (q : Bool) (e : Ex) (v0 v1 : Value) (G : GS) : Option (Value × GS) :=
  bP (ep Q q false 123 (.tmp 5) (.const (.pointer none)) v0 (.pointer none)) fun x0 =>
  bS (gd x0 false (some (v0, G)) G) fun x1 G2 =>
  bS (gd x0 false (bP (pNil x1) fun y => some (y, G2)) G2) fun x3 G4 =>
  bS (gd x0 false (bP (fa Q q 193 0 0 x3) fun y => some (y, G4)) G4) fun x5 G6 =>
  bS (gd x0 false (bS (e.ev.cl 286 [x5] G6) fun y G => some (y, G)) G6) fun x7 G8 =>
  bP (pickV x0 (.bool true) x7) fun x9 =>
  ifV x9 (
  some ((.bool true), G8)) (
  bL q e 284 0 (subAt [1, 0, 1, 1, 0, 0, 0] (bodyOf Tryz.f284)) 162 (tu (nth undef [v0, v1]) [(4, (.bool false)), (5, v0), (6, x0), (7, x0), (8, x1), (9, x3), (10, x5), (11, x7), (12, x9)]) G8 fun e10 t11 G12 =>
  bV q (t11 0) fun t11x0_ =>
  ifE e10 (.exit 0) (
  bP (pNil t11x0_) fun x13 =>
  bP (fa Q q 193 0 0 x13) fun x14 =>
  bP (fa Q q 190 2 17 x14) fun x15 =>
  bP (ld Q q 3 x15 G12) fun x16 =>
  bP (bn Q q .eql 3 (.tmp 160) (.const (.int .i64 99)) x16 (.int .i64 99)) fun x17 =>
  some (x17, G12)) (none))
theorem m284 {e : Ex} {E : Ev} (h : ExLe Q e E) (v0 v1 : Value) (G : GS) : Ref (s284 true e v0 v1 G) (s284 false (Ex.of E) v0 v1 G) := by
  unfold s284
  exact Ref.go
set_option maxHeartbeats 8000000 in
theorem f284 {orc : FuncId → Bool} {e : Ex} (h : ExLe Q e (E orc)) (v0 v1 : Value) (G : GS) : Ref (s284 true e v0 v1 G) ((E orc).cl 284 [v0, v1] G) :=
  fun r hr => cl_sxE_some Q orc (vs := [v0, v1]) G Tryz.func284 (by kernel_rfl) (by kernel_rfl) (by kernel_rfl) (by kernel_rfl) (by kernel_rfl) (by kernel_rfl) (m284 h v0 v1 G r hr)
/-- (*coxswain/claim.Claim).below -/
noncomputable def s285 (q : Bool) (e : Ex) (v0 : Value) (G : GS) : Option (Value × GS) :=
  bP (pNil v0) fun x0 =>
  bP (fa Q q 193 0 0 x0) fun x1 =>
  bP (fa Q q 190 1 13 x1) fun x2 =>
  bP (fa Q q 187 0 0 x2) fun x3 =>
  bP (ld Q q 3 x3 G) fun x4 =>
  bP (bn Q q .sub 3 (.tmp 7) (.const (.int .i64 1)) x4 (.int .i64 1)) fun x5 =>
  bP (pNil v0) fun x6 =>
  bP (fa Q q 193 0 0 x6) fun x7 =>
  bP (fa Q q 190 1 13 x7) fun x8 =>
  bP (fa Q q 187 0 0 x8) fun x9 =>
  bP (st Q q 3 1 x9 x5 G) fun G10 =>
  bP (pNil v0) fun x11 =>
  bP (fa Q q 193 0 0 x11) fun x12 =>
  bP (fa Q q 190 2 17 x12) fun x13 =>
  bP (st Q q 3 1 x13 (.int .i64 5) G10) fun G14 =>
  bP (pNil v0) fun x15 =>
  bP (fa Q q 193 0 0 x15) fun x16 =>
  bP (fa Q q 190 1 13 x16) fun x17 =>
  bP (fa Q q 187 0 0 x17) fun x18 =>
  bP (ld Q q 3 x18 G14) fun x19 =>
  bP (bn Q q .lss 3 (.tmp 22) (.const (.int .i64 1)) x19 (.int .i64 1)) fun x20 =>
  ifV x20 (
  bP (pNil v0) fun x21 =>
  bP (fa Q q 193 0 0 x21) fun x22 =>
  bP (fa Q q 190 2 17 x22) fun x23 =>
  bP (st Q q 3 1 x23 (.int .i64 7) G14) fun G24 =>
  some (.tuple #[], G24)) (
  some (.tuple #[], G14))
theorem m285 {e : Ex} {E : Ev} (h : ExLe Q e E) (v0 : Value) (G : GS) : Ref (s285 true e v0 G) (s285 false (Ex.of E) v0 G) := by
  unfold s285
  exact Ref.go
theorem f285 {orc : FuncId → Bool} {e : Ex} (h : ExLe Q e (E orc)) (v0 : Value) (G : GS) : Ref (s285 true e v0 G) ((E orc).cl 285 [v0] G) :=
  fun r hr => cl_sxE_some Q orc (vs := [v0]) G Tryz.func285 (by kernel_rfl) (by kernel_rfl) (by kernel_rfl) (by kernel_rfl) (by kernel_rfl) (by kernel_rfl) (m285 h v0 G r hr)
/-- (*coxswain/claim.seeker[coxswain/claim.taking]).done -/
noncomputable def s286 (q : Bool) (e : Ex) (v0 : Value) (G : GS) : Option (Value × GS) :=
  bP (pNil v0) fun x0 =>
  bP (fa Q q 190 8 24 x0) fun x1 =>
  bP (ld Q q 4 x1 G) fun x2 =>
  bP (un Q q .not x2) fun x3 =>
  bS (gd x3 false (some (v0, G)) G) fun x4 G5 =>
  bS (gd x3 false (bP (pNil x4) fun y => some (y, G5)) G5) fun x6 G7 =>
  bS (gd x3 false (bP (fa Q q 190 2 17 x6) fun y => some (y, G7)) G7) fun x8 G9 =>
  bS (gd x3 false (bP (ld Q q 3 x8 G9) fun y => some (y, G9)) G9) fun x10 G11 =>
  bS (gd x3 false (bP (bn Q q .eql 3 (.tmp 12) (.const (.int .i64 99)) x10 (.int .i64 99)) fun y => some (y, G11)) G11) fun x12 G13 =>
  bP (pickV x3 (.bool true) x12) fun x14 =>
  some (x14, G13)
theorem m286 {e : Ex} {E : Ev} (h : ExLe Q e E) (v0 : Value) (G : GS) : Ref (s286 true e v0 G) (s286 false (Ex.of E) v0 G) := by
  unfold s286
  exact Ref.go
theorem f286 {orc : FuncId → Bool} {e : Ex} (h : ExLe Q e (E orc)) (v0 : Value) (G : GS) : Ref (s286 true e v0 G) ((E orc).cl 286 [v0] G) :=
  fun r hr => cl_sxE_some Q orc (vs := [v0]) G Tryz.func286 (by kernel_rfl) (by kernel_rfl) (by kernel_rfl) (by kernel_rfl) (by kernel_rfl) (by kernel_rfl) (m286 h v0 G r hr)
/-- (*coxswain/claim.seeker[coxswain/claim.taking]).first -/
noncomputable def s287 (q : Bool) (e : Ex) (v0 v1 : Value) (G : GS) : Option (Value × GS) :=
  bP (pNil v0) fun x0 =>
  bP (fa Q q 190 2 17 x0) fun x1 =>
  bP (ld Q q 3 x1 G) fun x2 =>
  bP (bn Q q .eql 3 (.tmp 9) (.const (.int .i64 1)) x2 (.int .i64 1)) fun x3 =>
  ifV x3 (
  bP (pNil v0) fun x4 =>
  bP (fa Q q 190 7 23 x4) fun x5 =>
  bP (st Q q 38 1 x5 (.int .u64 0) G) fun G6 =>
  bP (pNil v0) fun x7 =>
  bP (fa Q q 190 0 0 x7) fun x8 =>
  bP (lda Q q 36 13 x8 G6) fun x9 =>
  bS (e.ev.cl 100 [x9, (.int .i64 (-1)), (.int .i64 0)] G6) fun x10 G11 =>
  bS (e.ev.cl 120 [v1, x10] G11) fun x12 G13 =>
  bP (pNil v0) fun x14 =>
  bP (fa Q q 190 3 18 x14) fun x15 =>
  bP (st Q q 38 1 x15 x12 G13) fun G16 =>
  bP (pNil v0) fun x17 =>
  bP (fa Q q 190 3 18 x17) fun x18 =>
  bP (ld Q q 38 x18 G16) fun x19 =>
  bS (e.ev.cl 221 [x19] G16) fun x20 G21 =>
  bP (pExtract x20 0) fun x22 =>
  bP (pExtract x20 1) fun x23 =>
  bS (al Q q 357 z357 G21) fun x24 G25 =>
  bP (st Q q 357 2 x24 x22 G25) fun G26 =>
  bP (fa Q q 357 0 0 x24) fun x27 =>
  bP (ld Q q 3 x27 G26) fun x28 =>
  bP (pNil v0) fun x29 =>
  bP (fa Q q 190 4 19 x29) fun x30 =>
  bP (st Q q 3 1 x30 x28 G26) fun G31 =>
  bP (pNil v0) fun x32 =>
  bP (fa Q q 190 2 17 x32) fun x33 =>
  bP (st Q q 3 1 x33 (.int .i64 2) G31) fun G34 =>
  bP (pNil v0) fun x35 =>
  bP (fa Q q 190 4 19 x35) fun x36 =>
  bP (ld Q q 3 x36 (G34.room 20)) fun x37 =>
  bP (bn Q q .lss 3 (.tmp 44) (.const (.int .i64 0)) x37 (.int .i64 0)) fun x38 =>
  bS (gd x38 false (some (v0, (G34.room 20))) (G34.room 20)) fun x39 _ =>
  bS (gd x38 false (bP (pNil x39) fun y => some (y, (G34.room 20))) (G34.room 20)) fun x40 _ =>
  bS (gd x38 false (bP (fa Q q 190 4 19 x40) fun y => some (y, (G34.room 20))) (G34.room 20)) fun x41 _ =>
  bS (gd x38 false (bP (ld Q q 3 x41 (G34.room 20)) fun y => some (y, (G34.room 20))) (G34.room 20)) fun x42 _ =>
  bS (gd x38 false (some (v0, (G34.room 20))) (G34.room 20)) fun x43 _ =>
  bS (gd x38 false (bP (pNil x43) fun y => some (y, (G34.room 20))) (G34.room 20)) fun x44 _ =>
  bS (gd x38 false (bP (fa Q q 190 0 0 x44) fun y => some (y, (G34.room 20))) (G34.room 20)) fun x45 _ =>
  bS (gd x38 false (bP (fa Q q 36 3 3 x45) fun y => some (y, (G34.room 20))) (G34.room 20)) fun x46 _ =>
  bS (gd x38 false (bP (fa Q q 34 0 0 x46) fun y => some (y, (G34.room 20))) (G34.room 20)) fun x47 _ =>
  bS (gd x38 false (bP (fa Q q 30 0 0 x47) fun y => some (y, (G34.room 20))) (G34.room 20)) fun x48 _ =>
  bS (gd x38 false (bP (fa Q q 28 2 2 x48) fun y => some (y, (G34.room 20))) (G34.room 20)) fun x49 _ =>
  bS (gd x38 false (bP (ld Q q 3 x49 (G34.room 20)) fun y => some (y, (G34.room 20))) (G34.room 20)) fun x50 _ =>
  bS (gd x38 false (bP (bn Q q .geq 3 (.tmp 50) (.tmp 58) x42 x50) fun y => some (y, (G34.room 20))) (G34.room 20)) fun x51 _ =>
  bP (pickV x38 (.bool true) x51) fun x52 =>
  ifV x52 (
  bP (pNil v0) fun x53 =>
  bP (fa Q q 190 2 17 x53) fun x54 =>
  bP (st Q q 3 1 x54 (.int .i64 99) (G34.room 20)) fun G55 =>
  bP (pNil v0) fun x56 =>
  bP (fa Q q 190 9 25 x56) fun x57 =>
  bP (st Q q 23 1 x57 (.int .i64 15) G55) fun G58 =>
  some (.tuple #[], G58)) (
  some (.tuple #[], (G34.room 20)))) (
  bP (bn Q q .eql 3 (.tmp 9) (.const (.int .i64 2)) x2 (.int .i64 2)) fun x59 =>
  ifV x59 (
  bS (e.ev.cl 289 [v0, v1, (.int .i64 4)] G) fun x60 G61 =>
  bP (pNil v0) fun x62 =>
  bP (fa Q q 190 5 20 x62) fun x63 =>
  bP (st Q q 188 1 x63 x60 G61) fun G64 =>
  bP (pNil v0) fun x65 =>
  bP (fa Q q 190 2 17 x65) fun x66 =>
  bP (st Q q 3 1 x66 (.int .i64 4) G64) fun G67 =>
  bP (pNil v0) fun x68 =>
  bP (fa Q q 190 5 20 x68) fun x69 =>
  bP (ld Q q 188 x69 G67) fun x70 =>
  bS (e.ev.cl 290 [x70] G67) fun x71 G72 =>
  ifV x71 (
  bP (pNil v0) fun x73 =>
  bP (fa Q q 190 2 17 x73) fun x74 =>
  bP (st Q q 3 1 x74 (.int .i64 3) G72) fun G75 =>
  some (.tuple #[], G75)) (
  some (.tuple #[], G72))) (
  bP (bn Q q .eql 3 (.tmp 9) (.const (.int .i64 3)) x2 (.int .i64 3)) fun x76 =>
  ifV x76 (
  bP (pNil v0) fun x77 =>
  bP (fa Q q 190 7 23 x77) fun x78 =>
  bP (st Q q 38 1 x78 (.int .u64 0) G) fun G79 =>
  bP (pNil v0) fun x80 =>
  bP (fa Q q 190 0 0 x80) fun x81 =>
  bP (lda Q q 36 13 x81 (G79.room 16)) fun x82 =>
  bS (e.ev.cl 100 [x82, (.int .i64 (-1)), (.int .i64 0)] (G79.room 16)) fun x84 G83 =>
  bP (pNil v0) fun x85 =>
  bP (fa Q q 190 3 18 x85) fun x86 =>
  bP (ld Q q 38 x86 G83) fun x87 =>
  chk ((sameO (ld Q q 38 x86 (G79.room 16)) x87 && true)) <|
  bP (pNil v0) fun x88 =>
  bP (fa Q q 190 5 20 x88) fun x89 =>
  bP (ld Q q 188 x89 G83) fun x90 =>
  chk ((sameO (ld Q q 188 x89 (G79.room 16)) x90 && true)) <|
  bS (e.ev.cl 291 [x90, (.bool false)] G83) fun x92 G91 =>
  chk ((sameO (ld Q q 38 x86 G91) x87 && true)) <|
  bS (e.ev.cl 242 [v1, x84, x87, x92] G91) fun x94 G93 =>
  bP (pNil v0) fun x95 =>
  bP (fa Q q 190 2 17 x95) fun x96 =>
  bP (st Q q 3 1 x96 (.int .i64 1) G93) fun G97 =>
  some (.tuple #[], G97)) (
  some (.tuple #[], G))))
theorem m287 {e : Ex} {E : Ev} (h : ExLe Q e E) (v0 v1 : Value) (G : GS) : Ref (s287 true e v0 v1 G) (s287 false (Ex.of E) v0 v1 G) := by
  unfold s287
  exact Ref.go
set_option maxHeartbeats 8000000 in
theorem f287 {orc : FuncId → Bool} {e : Ex} (h : ExLe Q e (E orc)) (v0 v1 : Value) (G : GS) : Ref (s287 true e v0 v1 G) ((E orc).cl 287 [v0, v1] G) :=
  fun r hr => cl_sxE_some Q orc (vs := [v0, v1]) G Tryz.func287 (by kernel_rfl) (by kernel_rfl) (by kernel_rfl) (by kernel_rfl) (by kernel_rfl) (by kernel_rfl) (m287 h v0 v1 G r hr)
/-- (*coxswain/claim.Claim).mark -/
noncomputable def s288 (q : Bool) (e : Ex) (v0 v1 : Value) (G : GS) : Option (Value × GS) :=
  bP (pNil v0) fun x0 =>
  bP (fa Q q 193 0 0 x0) fun x1 =>
  bP (fa Q q 190 2 17 x1) fun x2 =>
  bP (ld Q q 3 x2 G) fun x3 =>
  bP (bn Q q .eql 3 (.tmp 9) (.const (.int .i64 4)) x3 (.int .i64 4)) fun x4 =>
  ifV x4 (
  bP (pNil v0) fun x5 =>
  bP (fa Q q 193 0 0 x5) fun x6 =>
  bP (fa Q q 190 0 0 x6) fun x7 =>
  bP (fa Q q 36 2 2 x7) fun x8 =>
  bP (ld Q q 3 x8 G) fun x9 =>
  bP (pNil v0) fun x10 =>
  bP (fa Q q 193 0 0 x10) fun x11 =>
  bP (fa Q q 190 1 13 x11) fun x12 =>
  bP (fa Q q 187 0 0 x12) fun x13 =>
  bP (st Q q 3 1 x13 x9 G) fun G14 =>
  bP (pNil v0) fun x15 =>
  bP (fa Q q 193 0 0 x15) fun x16 =>
  bS (e.ev.cl 289 [x16, v1, (.int .i64 2)] G14) fun x17 G18 =>
  bP (pNil v0) fun x19 =>
  bP (fa Q q 193 0 0 x19) fun x20 =>
  bP (fa Q q 190 0 0 x20) fun x21 =>
  bP (fa Q q 36 2 2 x21) fun x22 =>
  bP (ld Q q 3 x22 G18) fun x23 =>
  bP (cv Q q 3 38 .i64 .u64 x23) fun x24 =>
  bP (bn Q q .lss 38 (.tmp 28) (.tmp 35) x17 x24) fun x25 =>
  ifV x25 (
  bP (cv Q q 38 3 .u64 .i64 x17) fun x26 =>
  bP (pNil v0) fun x27 =>
  bP (fa Q q 193 0 0 x27) fun x28 =>
  bP (fa Q q 190 1 13 x28) fun x29 =>
  bP (fa Q q 187 0 0 x29) fun x30 =>
  bP (st Q q 3 1 x30 x26 G18) fun G31 =>
  bS (e.ev.cl 285 [v0] G31) fun x32 G33 =>
  some (.tuple #[], G33)) (
  bS (e.ev.cl 285 [v0] G18) fun x34 G35 =>
  some (.tuple #[], G35))) (
  bP (bn Q q .eql 3 (.tmp 9) (.const (.int .i64 5)) x3 (.int .i64 5)) fun x36 =>
  ifV x36 (
  bP (pNil v0) fun x37 =>
  bP (fa Q q 193 0 0 x37) fun x38 =>
  bP (pNil v0) fun x39 =>
  bP (fa Q q 193 0 0 x39) fun x40 =>
  bP (fa Q q 190 1 13 x40) fun x41 =>
  bP (fa Q q 187 0 0 x41) fun x42 =>
  bP (ld Q q 3 x42 (G.room 17)) fun x43 =>
  bP (bn Q q .add 3 (.const (.int .i64 4)) (.tmp 58) (.int .i64 4) x43) fun x44 =>
  bS (e.ev.cl 289 [x38, v1, x44] (G.room 17)) fun x46 G45 =>
  bP (pNil v0) fun x47 =>
  bP (fa Q q 193 0 0 x47) fun x48 =>
  bP (fa Q q 190 5 20 x48) fun x49 =>
  bP (st Q q 188 1 x49 x46 G45) fun G50 =>
  bP (pNil v0) fun x51 =>
  bP (fa Q q 193 0 0 x51) fun x52 =>
  bP (fa Q q 190 2 17 x52) fun x53 =>
  bP (st Q q 3 1 x53 (.int .i64 6) G50) fun G54 =>
  bP (pNil v0) fun x55 =>
  bP (fa Q q 193 0 0 x55) fun x56 =>
  bP (fa Q q 190 5 20 x56) fun x57 =>
  bP (ld Q q 188 x57 G54) fun x58 =>
  bS (e.ev.cl 290 [x58] G54) fun x59 G60 =>
  ifV x59 (
  bS (e.ev.cl 285 [v0] G60) fun x61 G62 =>
  some (.tuple #[], G62)) (
  some (.tuple #[], G60))) (
  bP (bn Q q .eql 3 (.tmp 9) (.const (.int .i64 6)) x3 (.int .i64 6)) fun x63 =>
  ifV x63 (
  bP (pNil v0) fun x64 =>
  bP (fa Q q 193 0 0 x64) fun x65 =>
  bP (fa Q q 190 3 18 x65) fun x66 =>
  bP (ld Q q 38 x66 G) fun x67 =>
  bP (pNil v0) fun x68 =>
  bP (fa Q q 193 0 0 x68) fun x69 =>
  bP (fa Q q 190 7 23 x69) fun x70 =>
  bP (st Q q 38 1 x70 x67 G) fun G71 =>
  bP (pNil v0) fun x72 =>
  bP (fa Q q 193 0 0 x72) fun x73 =>
  bP (fa Q q 190 2 17 x73) fun x74 =>
  bP (st Q q 3 1 x74 (.int .i64 5) G71) fun G75 =>
  bP (pNil v0) fun x76 =>
  bP (fa Q q 193 0 0 x76) fun x77 =>
  bP (fa Q q 190 0 0 x77) fun x78 =>
  bP (lda Q q 36 13 x78 (G75.room 30)) fun x79 =>
  bP (pNil v0) fun x80 =>
  bP (fa Q q 193 0 0 x80) fun x81 =>
  bP (fa Q q 190 4 19 x81) fun x82 =>
  bP (ld Q q 3 x82 (G75.room 30)) fun x83 =>
  bP (pNil v0) fun x84 =>
  bP (fa Q q 193 0 0 x84) fun x85 =>
  bP (fa Q q 190 1 13 x85) fun x86 =>
  bP (fa Q q 187 0 0 x86) fun x87 =>
  bP (ld Q q 3 x87 (G75.room 30)) fun x88 =>
  bS (e.ev.cl 100 [x79, x83, x88] (G75.room 30)) fun x90 G89 =>
  bP (pNil v0) fun x91 =>
  bP (fa Q q 193 0 0 x91) fun x92 =>
  bP (fa Q q 190 5 20 x92) fun x93 =>
  bP (ld Q q 188 x93 G89) fun x94 =>
  chk ((sameO (ld Q q 188 x93 (G75.room 30)) x94 && true)) <|
  bP (pNil v0) fun x95 =>
  bP (fa Q q 193 0 0 x95) fun x96 =>
  bP (fa Q q 190 5 20 x96) fun x97 =>
  bP (ld Q q 188 x97 G89) fun x98 =>
  chk ((sameO (ld Q q 188 x97 (G75.room 30)) x98 && true)) <|
  bS (e.ev.cl 291 [x98, (.bool true)] G89) fun x100 G99 =>
  chk ((sameO (ld Q q 188 x93 G99) x94 && true)) <|
  bS (e.ev.cl 242 [v1, x90, x94, x100] G99) fun x102 G101 =>
  ifV x102 (
  bS (e.ev.cl 285 [v0] G101) fun x103 G104 =>
  some (.tuple #[], G104)) (
  some (.tuple #[], G101))) (
  some (.tuple #[], G))))
theorem m288 {e : Ex} {E : Ev} (h : ExLe Q e E) (v0 v1 : Value) (G : GS) : Ref (s288 true e v0 v1 G) (s288 false (Ex.of E) v0 v1 G) := by
  unfold s288
  exact Ref.go
set_option maxHeartbeats 8000000 in
theorem f288 {orc : FuncId → Bool} {e : Ex} (h : ExLe Q e (E orc)) (v0 v1 : Value) (G : GS) : Ref (s288 true e v0 v1 G) ((E orc).cl 288 [v0, v1] G) :=
  fun r hr => cl_sxE_some Q orc (vs := [v0, v1]) G Tryz.func288 (by kernel_rfl) (by kernel_rfl) (by kernel_rfl) (by kernel_rfl) (by kernel_rfl) (by kernel_rfl) (m288 h v0 v1 G r hr)
/-- (*coxswain/claim.seeker[coxswain/claim.taking]).load -/
noncomputable def s289 (q : Bool) (e : Ex) (v0 v1 v2 : Value) (G : GS) : Option (Value × GS) :=
  bP (pNil v0) fun x0 =>
  bP (fa Q q 190 3 18 x0) fun x1 =>
  bP (ld Q q 38 x1 G) fun x2 =>
  bP (pNil v0) fun x3 =>
  bP (fa Q q 190 7 23 x3) fun x4 =>
  bP (st Q q 38 1 x4 x2 G) fun G5 =>
  bP (pNil v0) fun x6 =>
  bP (fa Q q 190 0 0 x6) fun x7 =>
  bP (lda Q q 36 13 x7 (G5.room 13)) fun x8 =>
  bP (pNil v0) fun x9 =>
  bP (fa Q q 190 4 19 x9) fun x10 =>
  bP (ld Q q 3 x10 (G5.room 13)) fun x11 =>
  bS (e.ev.cl 87 [x8, x11, v2] (G5.room 13)) fun x13 G12 =>
  bS (e.ev.cl 120 [v1, x13] G12) fun x15 G14 =>
  some (x15, G14)
theorem m289 {e : Ex} {E : Ev} (h : ExLe Q e E) (v0 v1 v2 : Value) (G : GS) : Ref (s289 true e v0 v1 v2 G) (s289 false (Ex.of E) v0 v1 v2 G) := by
  unfold s289
  exact Ref.go
theorem f289 {orc : FuncId → Bool} {e : Ex} (h : ExLe Q e (E orc)) (v0 v1 v2 : Value) (G : GS) : Ref (s289 true e v0 v1 v2 G) ((E orc).cl 289 [v0, v1, v2] G) :=
  fun r hr => cl_sxE_some Q orc (vs := [v0, v1, v2]) G Tryz.func289 (by kernel_rfl) (by kernel_rfl) (by kernel_rfl) (by kernel_rfl) (by kernel_rfl) (by kernel_rfl) (m289 h v0 v1 v2 G r hr)
/-- (coxswain/claim.link).marked -/
noncomputable def s290 (q : Bool) (e : Ex) (v0 : Value) (G : GS) : Option (Value × GS) :=
  bS (e.ev.cl 197 [v0] G) fun x0 G1 =>
  some (x0, G1)
theorem m290 {e : Ex} {E : Ev} (h : ExLe Q e E) (v0 : Value) (G : GS) : Ref (s290 true e v0 G) (s290 false (Ex.of E) v0 G) := by
  unfold s290
  exact Ref.go
theorem f290 {orc : FuncId → Bool} {e : Ex} (h : ExLe Q e (E orc)) (v0 : Value) (G : GS) : Ref (s290 true e v0 G) ((E orc).cl 290 [v0] G) :=
  fun r hr => cl_sxE_some Q orc (vs := [v0]) G Tryz.func290 (by kernel_rfl) (by kernel_rfl) (by kernel_rfl) (by kernel_rfl) (by kernel_rfl) (by kernel_rfl) (m290 h v0 G r hr)
/-- (coxswain/claim.link).marks -/
noncomputable def s291 (q : Bool) (e : Ex) (v0 v1 : Value) (G : GS) : Option (Value × GS) :=
  bS (e.ev.cl 223 [v0, v1] G) fun x0 G1 =>
  some (x0, G1)
theorem m291 {e : Ex} {E : Ev} (h : ExLe Q e E) (v0 v1 : Value) (G : GS) : Ref (s291 true e v0 v1 G) (s291 false (Ex.of E) v0 v1 G) := by
  unfold s291
  exact Ref.go
theorem f291 {orc : FuncId → Bool} {e : Ex} (h : ExLe Q e (E orc)) (v0 v1 : Value) (G : GS) : Ref (s291 true e v0 v1 G) ((E orc).cl 291 [v0, v1] G) :=
  fun r hr => cl_sxE_some Q orc (vs := [v0, v1]) G Tryz.func291 (by kernel_rfl) (by kernel_rfl) (by kernel_rfl) (by kernel_rfl) (by kernel_rfl) (by kernel_rfl) (m291 h v0 v1 G r hr)
/-- (*coxswain/claim.seeker[coxswain/claim.taking]).job -/
noncomputable def s292 (q : Bool) (e : Ex) (v0 v1 : Value) (G : GS) : Option (Value × GS) :=
  bS (e.ev.cl 289 [v0, v1, (.int .i64 1)] G) fun x0 G1 =>
  bP (bn Q q .and 38 (.tmp 7) (.const (.int .u64 65535)) x0 (.int .u64 65535)) fun x2 =>
  bP (cv Q q 38 3 .u64 .i64 x2) fun x3 =>
  bP (pNil v0) fun x4 =>
  bP (fa Q q 190 6 21 x4) fun x5 =>
  bP (fa Q q 46 1 1 x5) fun x6 =>
  bP (st Q q 3 1 x6 x3 G1) fun G7 =>
  some (.tuple #[], G7)
theorem m292 {e : Ex} {E : Ev} (h : ExLe Q e E) (v0 v1 : Value) (G : GS) : Ref (s292 true e v0 v1 G) (s292 false (Ex.of E) v0 v1 G) := by
  unfold s292
  exact Ref.go
theorem f292 {orc : FuncId → Bool} {e : Ex} (h : ExLe Q e (E orc)) (v0 v1 : Value) (G : GS) : Ref (s292 true e v0 v1 G) ((E orc).cl 292 [v0, v1] G) :=
  fun r hr => cl_sxE_some Q orc (vs := [v0, v1]) G Tryz.func292 (by kernel_rfl) (by kernel_rfl) (by kernel_rfl) (by kernel_rfl) (by kernel_rfl) (by kernel_rfl) (m292 h v0 v1 G r hr)
/-- (*coxswain/claim.Claim).leave -/
noncomputable def s293 (q : Bool) (e : Ex) (v0 v1 : Value) (G : GS) : Option (Value × GS) :=
  bP (pNil v0) fun x0 =>
  bP (fa Q q 193 0 0 x0) fun x1 =>
  bP (fa Q q 190 2 17 x1) fun x2 =>
  bP (ld Q q 3 x2 G) fun x3 =>
  bP (bn Q q .eql 3 (.tmp 8) (.const (.int .i64 10)) x3 (.int .i64 10)) fun x4 =>
  ifV x4 (
  bP (pNil v0) fun x5 =>
  bP (fa Q q 193 0 0 x5) fun x6 =>
  bP (fa Q q 190 1 13 x6) fun x7 =>
  bP (fa Q q 187 2 2 x7) fun x8 =>
  bP (ld Q q 184 x8 G) fun x9 =>
  bS (e.ev.cl 294 [x9, v1] G) fun x10 G11 =>
  ifV x10 (
  bP (pNil v0) fun x12 =>
  bP (fa Q q 193 0 0 x12) fun x13 =>
  bP (fa Q q 190 2 17 x13) fun x14 =>
  bP (st Q q 3 1 x14 (.int .i64 11) G11) fun G15 =>
  bP (pNil v0) fun x16 =>
  bP (fa Q q 193 0 0 x16) fun x17 =>
  bP (fa Q q 190 1 13 x17) fun x18 =>
  bP (fa Q q 187 2 2 x18) fun x19 =>
  bP (ld Q q 184 x19 G15) fun x20 =>
  bS (e.ev.cl 295 [x20] G15) fun x21 G22 =>
  bP (pNil v0) fun x23 =>
  bP (fa Q q 193 0 0 x23) fun x24 =>
  bP (fa Q q 190 7 23 x24) fun x25 =>
  bP (st Q q 38 1 x25 x21 G22) fun G26 =>
  some (.tuple #[], G26)) (
  bP (pNil v0) fun x27 =>
  bP (fa Q q 193 0 0 x27) fun x28 =>
  bP (fa Q q 190 1 13 x28) fun x29 =>
  bP (fa Q q 187 2 2 x29) fun x30 =>
  bP (ld Q q 184 x30 G11) fun x31 =>
  bS (e.ev.cl 295 [x31] G11) fun x32 G33 =>
  bP (pNil v0) fun x34 =>
  bP (fa Q q 193 0 0 x34) fun x35 =>
  bP (fa Q q 190 7 23 x35) fun x36 =>
  bP (st Q q 38 1 x36 x32 G33) fun G37 =>
  some (.tuple #[], G37))) (
  bP (bn Q q .eql 3 (.tmp 8) (.const (.int .i64 11)) x3 (.int .i64 11)) fun x38 =>
  ifV x38 (
  bP (pNil v0) fun x39 =>
  bP (fa Q q 193 0 0 x39) fun x40 =>
  bP (fa Q q 190 3 18 x40) fun x41 =>
  bP (ld Q q 38 x41 G) fun x42 =>
  bP (pNil v0) fun x43 =>
  bP (fa Q q 193 0 0 x43) fun x44 =>
  bP (fa Q q 190 7 23 x44) fun x45 =>
  bP (st Q q 38 1 x45 x42 G) fun G46 =>
  bP (pNil v0) fun x47 =>
  bP (fa Q q 193 0 0 x47) fun x48 =>
  bP (fa Q q 190 2 17 x48) fun x49 =>
  bP (st Q q 3 1 x49 (.int .i64 99) G46) fun G50 =>
  bP (pNil v0) fun x51 =>
  bP (fa Q q 193 0 0 x51) fun x52 =>
  bP (fa Q q 190 0 0 x52) fun x53 =>
  bP (lda Q q 36 13 x53 (G50.room 14)) fun x54 =>
  bP (pNil v0) fun x55 =>
  bP (fa Q q 193 0 0 x55) fun x56 =>
  bP (fa Q q 190 4 19 x56) fun x57 =>
  bP (ld Q q 3 x57 (G50.room 14)) fun x58 =>
  bS (e.ev.cl 87 [x54, x58, (.int .i64 3)] (G50.room 14)) fun x60 G59 =>
  bS (e.ev.cl 262 [v1, x60, (.int .u64 18446744073709551615)] G59) fun x62 G61 =>
  bP (bn Q q .eql 38 (.tmp 61) (.const (.int .u64 0)) x62 (.int .u64 0)) fun x63 =>
  ifV x63 (
  bP (pNil v0) fun x64 =>
  bP (fa Q q 193 0 0 x64) fun x65 =>
  bP (fa Q q 190 0 0 x65) fun x66 =>
  bP (fa Q q 36 3 3 x66) fun x67 =>
  bP (lda Q q 34 10 x67 (G61.room 23)) fun x68 =>
  bP (pNil v0) fun x69 =>
  bP (fa Q q 193 0 0 x69) fun x70 =>
  bP (fa Q q 190 4 19 x70) fun x71 =>
  bP (ld Q q 3 x71 (G61.room 23)) fun x72 =>
  bS (e.ev.cl 296 [x68, x72] (G61.room 23)) fun x74 G73 =>
  bP (pNil v0) fun x75 =>
  bP (fa Q q 193 0 0 x75) fun x76 =>
  bP (fa Q q 190 1 13 x76) fun x77 =>
  bP (fa Q q 187 3 3 x77) fun x78 =>
  bP (st Q q 185 1 x78 x74 G73) fun G79 =>
  bP (pNil v0) fun x80 =>
  bP (fa Q q 193 0 0 x80) fun x81 =>
  bP (fa Q q 190 2 17 x81) fun x82 =>
  bP (st Q q 3 1 x82 (.int .i64 12) G79) fun G83 =>
  some (.tuple #[], G83)) (
  some (.tuple #[], G61))) (
  bP (bn Q q .eql 3 (.tmp 8) (.const (.int .i64 12)) x3 (.int .i64 12)) fun x84 =>
  ifV x84 (
  bP (pNil v0) fun x85 =>
  bP (fa Q q 193 0 0 x85) fun x86 =>
  bP (fa Q q 190 7 23 x86) fun x87 =>
  bP (st Q q 38 1 x87 (.int .u64 0) G) fun G88 =>
  bP (pNil v0) fun x89 =>
  bP (fa Q q 193 0 0 x89) fun x90 =>
  bP (fa Q q 190 1 13 x90) fun x91 =>
  bP (fa Q q 187 3 3 x91) fun x92 =>
  bP (ld Q q 185 x92 G88) fun x93 =>
  bS (e.ev.cl 297 [x93, v1] G88) fun x94 G95 =>
  ifV x94 (
  bP (pNil v0) fun x96 =>
  bP (fa Q q 193 0 0 x96) fun x97 =>
  bP (fa Q q 190 2 17 x97) fun x98 =>
  bP (st Q q 3 1 x98 (.int .i64 99) G95) fun G99 =>
  some (.tuple #[], G99)) (
  some (.tuple #[], G95))) (
  some (.tuple #[], G))))
theorem m293 {e : Ex} {E : Ev} (h : ExLe Q e E) (v0 v1 : Value) (G : GS) : Ref (s293 true e v0 v1 G) (s293 false (Ex.of E) v0 v1 G) := by
  unfold s293
  exact Ref.go
set_option maxHeartbeats 8000000 in
theorem f293 {orc : FuncId → Bool} {e : Ex} (h : ExLe Q e (E orc)) (v0 v1 : Value) (G : GS) : Ref (s293 true e v0 v1 G) ((E orc).cl 293 [v0, v1] G) :=
  fun r hr => cl_sxE_some Q orc (vs := [v0, v1]) G Tryz.func293 (by kernel_rfl) (by kernel_rfl) (by kernel_rfl) (by kernel_rfl) (by kernel_rfl) (by kernel_rfl) (m293 h v0 v1 G r hr)
noncomputable def b294_0 (q : Bool) (e : Ex) (lp : Env → GS → Option (Exit × Env × GS)) (τ : Env) (G : GS) : Option (Exit × Env × GS) :=
  bV q (τ 0) fun a0_ =>
  bV q (τ 1) fun a1_ =>
  bV q (τ 5) fun a5_ =>
  bV q (τ 6) fun a6_ =>
  bP (pNil a0_) fun x0 =>
  bP (fa Q q 384 2 14 x0) fun x1 =>
  bP (ld Q q 3 x1 G) fun x2 =>
  bP (bn Q q .eql 3 (.tmp 56) (.const (.int .i64 1)) x2 (.int .i64 1)) fun x3 =>
  ifV x3 (
  bS (e.ev.cl 120 [a1_, a5_] G) fun x4 G5 =>
  bP (pNil a0_) fun x6 =>
  bP (fa Q q 384 3 15 x6) fun x7 =>
  bP (fa Q q 381 3 3 x7) fun x8 =>
  bP (st Q q 38 1 x8 x4 G5) fun G9 =>
  bP (pNil a0_) fun x10 =>
  bP (fa Q q 384 3 15 x10) fun x11 =>
  bP (fa Q q 381 3 3 x11) fun x12 =>
  bP (ld Q q 38 x12 G9) fun x13 =>
  bS (e.ev.cl 197 [x13] G9) fun x14 G15 =>
  ifV x14 (
  bS (e.ev.cl 240 [a0_] G15) fun x16 G17 =>
  some ((.exit 0), clq q 195 (tu τ [(0, a0_), (1, a1_), (5, a5_), (6, a6_), (53, a0_), (54, x0), (55, x1), (56, x2), (60, x3), (61, x3), (62, a0_), (63, a1_), (64, a5_), (65, x4), (66, x6), (67, x7), (68, x8), (69, a0_), (70, x10), (71, x11), (72, x12), (73, x13), (74, x14), (75, a0_), (76, x16)]), G17)) (
  bS (e.ev.cl 300 [a0_] G15) fun x18 G19 =>
  some ((.exit 0), clq q 195 (tu τ [(0, a0_), (1, a1_), (5, a5_), (6, a6_), (53, a0_), (54, x0), (55, x1), (56, x2), (60, x3), (61, x3), (62, a0_), (63, a1_), (64, a5_), (65, x4), (66, x6), (67, x7), (68, x8), (69, a0_), (70, x10), (71, x11), (72, x12), (73, x13), (74, x14), (188, a0_), (189, x18)]), G19))) (
  bP (bn Q q .eql 3 (.tmp 56) (.const (.int .i64 2)) x2 (.int .i64 2)) fun x20 =>
  ifV x20 (
  bP (pNil a0_) fun x21 =>
  bP (fa Q q 384 3 15 x21) fun x22 =>
  bP (fa Q q 381 3 3 x22) fun x23 =>
  bP (ld Q q 38 x23 G) fun x24 =>
  bP (pNil a0_) fun x25 =>
  bP (fa Q q 384 6 21 x25) fun x26 =>
  bP (st Q q 38 1 x26 x24 G) fun G27 =>
  bP (pNil a0_) fun x28 =>
  bP (fa Q q 384 0 0 x28) fun x29 =>
  bP (lda Q q 36 13 x29 (G27.room 17)) fun x30 =>
  bP (pNil a0_) fun x31 =>
  bP (fa Q q 384 3 15 x31) fun x32 =>
  bP (fa Q q 381 0 0 x32) fun x33 =>
  bP (ld Q q 3 x33 (G27.room 17)) fun x34 =>
  bS (e.ev.cl 100 [x30, a6_, x34] (G27.room 17)) fun x36 G35 =>
  bS (e.ev.cl 120 [a1_, x36] G35) fun x38 G37 =>
  bP (pNil a0_) fun x39 =>
  bP (fa Q q 384 4 19 x39) fun x40 =>
  bP (st Q q 38 1 x40 x38 G37) fun G41 =>
  bP (pNil a0_) fun x42 =>
  bP (fa Q q 384 2 14 x42) fun x43 =>
  bP (st Q q 3 1 x43 (.int .i64 4) G41) fun G44 =>
  bP (pNil a0_) fun x45 =>
  bP (fa Q q 384 4 19 x45) fun x46 =>
  bP (ld Q q 38 x46 G44) fun x47 =>
  bS (e.ev.cl 197 [x47] G44) fun x48 G49 =>
  ifV x48 (
  bP (pNil a0_) fun x50 =>
  bP (fa Q q 384 2 14 x50) fun x51 =>
  bP (st Q q 3 1 x51 (.int .i64 3) G49) fun G52 =>
  some ((.exit 0), clq q 195 (tu τ [(0, a0_), (1, a1_), (5, a5_), (6, a6_), (53, a0_), (54, x0), (55, x1), (56, x2), (60, x3), (61, x3), (77, x20), (78, x20), (79, a0_), (80, a0_), (81, x21), (82, x22), (83, x23), (84, x24), (85, x25), (86, x26), (87, a0_), (88, a1_), (89, a0_), (90, x28), (91, x29), (92, x30), (93, a6_), (94, a0_), (95, x31), (96, x32), (97, x33), (98, x34), (99, x36), (100, x38), (101, x39), (102, x40), (103, a0_), (104, x42), (105, x43), (106, a0_), (107, x45), (108, x46), (109, x47), (110, x48), (111, a0_), (112, x50), (113, x51)]), G52)) (
  some ((.exit 0), clq q 195 (tu τ [(0, a0_), (1, a1_), (5, a5_), (6, a6_), (53, a0_), (54, x0), (55, x1), (56, x2), (60, x3), (61, x3), (77, x20), (78, x20), (79, a0_), (80, a0_), (81, x21), (82, x22), (83, x23), (84, x24), (85, x25), (86, x26), (87, a0_), (88, a1_), (89, a0_), (90, x28), (91, x29), (92, x30), (93, a6_), (94, a0_), (95, x31), (96, x32), (97, x33), (98, x34), (99, x36), (100, x38), (101, x39), (102, x40), (103, a0_), (104, x42), (105, x43), (106, a0_), (107, x45), (108, x46), (109, x47), (110, x48)]), G49))) (
  bP (bn Q q .eql 3 (.tmp 56) (.const (.int .i64 3)) x2 (.int .i64 3)) fun x53 =>
  ifV x53 (
  bP (pNil a0_) fun x54 =>
  bP (fa Q q 384 3 15 x54) fun x55 =>
  bP (fa Q q 381 3 3 x55) fun x56 =>
  bP (ld Q q 38 x56 (G.room 14)) fun x57 =>
  bP (pNil a0_) fun x58 =>
  bP (fa Q q 384 4 19 x58) fun x59 =>
  bP (ld Q q 38 x59 (G.room 14)) fun x60 =>
  bS (e.ev.cl 223 [x60, (.bool false)] (G.room 14)) fun x62 G61 =>
  chk ((sameO (ld Q q 38 x56 G61) x57 && true)) <|
  bS (e.ev.cl 242 [a1_, a5_, x57, x62] G61) fun x64 G63 =>
  bP (un Q q .not x64) fun x65 =>
  ifV x65 (
  bS (e.ev.cl 240 [a0_] G63) fun x66 G67 =>
  some ((.exit 0), clq q 195 (tu τ [(0, a0_), (1, a1_), (5, a5_), (6, a6_), (53, a0_), (54, x0), (55, x1), (56, x2), (60, x3), (61, x3), (77, x20), (78, x20), (114, x53), (115, x53), (116, a1_), (117, a5_), (118, a0_), (119, x54), (120, x55), (121, x56), (122, x57), (123, a0_), (124, x58), (125, x59), (126, x60), (127, x62), (128, x64), (129, x65), (130, a0_), (131, x66)]), G67)) (
  bP (pNil a0_) fun x68 =>
  bP (fa Q q 384 4 19 x68) fun x69 =>
  bP (ld Q q 38 x69 G63) fun x70 =>
  bS (e.ev.cl 223 [x70, (.bool false)] G63) fun x71 G72 =>
  bP (pNil a0_) fun x73 =>
  bP (fa Q q 384 3 15 x73) fun x74 =>
  bP (fa Q q 381 3 3 x74) fun x75 =>
  bP (st Q q 38 1 x75 x71 G72) fun G76 =>
  bS (e.ev.cl 300 [a0_] G76) fun x77 G78 =>
  some ((.exit 0), clq q 195 (tu τ [(0, a0_), (1, a1_), (5, a5_), (6, a6_), (53, a0_), (54, x0), (55, x1), (56, x2), (60, x3), (61, x3), (77, x20), (78, x20), (114, x53), (115, x53), (116, a1_), (117, a5_), (118, a0_), (119, x54), (120, x55), (121, x56), (122, x57), (123, a0_), (124, x58), (125, x59), (126, x60), (127, x62), (128, x64), (129, x65), (132, a0_), (133, a0_), (134, x68), (135, x69), (136, x70), (137, x71), (138, x73), (139, x74), (140, x75), (188, a0_), (189, x77)]), G78))) (
  bP (bn Q q .eql 3 (.tmp 56) (.const (.int .i64 4)) x2 (.int .i64 4)) fun x79 =>
  ifV x79 (
  bP (pNil a0_) fun x80 =>
  bP (fa Q q 384 3 15 x80) fun x81 =>
  bP (fa Q q 381 3 3 x81) fun x82 =>
  bP (ld Q q 38 x82 G) fun x83 =>
  bP (pNil a0_) fun x84 =>
  bP (fa Q q 384 6 21 x84) fun x85 =>
  bP (st Q q 38 1 x85 x83 G) fun G86 =>
  bP (pNil a0_) fun x87 =>
  bP (fa Q q 384 0 0 x87) fun x88 =>
  bP (lda Q q 36 13 x88 (G86.room 13)) fun x89 =>
  bS (e.ev.cl 87 [x89, a6_, (.int .i64 0)] (G86.room 13)) fun x91 G90 =>
  bS (e.ev.cl 120 [a1_, x91] G90) fun x93 G92 =>
  bP (pNil a0_) fun x94 =>
  bP (fa Q q 384 1 13 x94) fun x95 =>
  bP (ld Q q 38 x95 G92) fun x96 =>
  chk ((sameO (ld Q q 38 x95 G90) x96 && (sameO (ld Q q 38 x95 (G86.room 13)) x96 && true))) <|
  bP (bn Q q .geq 38 (.tmp 158) (.tmp 162) x93 x96) fun x97 =>
  ifV x97 (
  bS (e.ev.cl 299 [a0_] G92) fun x98 G99 =>
  some ((.exit 0), clq q 195 (tu τ [(0, a0_), (1, a1_), (5, a5_), (6, a6_), (53, a0_), (54, x0), (55, x1), (56, x2), (60, x3), (61, x3), (77, x20), (78, x20), (114, x53), (115, x53), (141, x79), (142, x79), (143, a0_), (144, a0_), (145, x80), (146, x81), (147, x82), (148, x83), (149, x84), (150, x85), (151, a1_), (152, a0_), (153, x87), (154, x88), (155, x89), (156, a6_), (157, x91), (158, x93), (159, a0_), (160, x94), (161, x95), (162, x96), (163, x97), (164, a0_), (165, x98)]), G99)) (
  bP (pNil a0_) fun x100 =>
  bP (fa Q q 384 3 15 x100) fun x101 =>
  bP (fa Q q 381 3 3 x101) fun x102 =>
  bP (ld Q q 38 x102 (G92.room 25)) fun x103 =>
  bP (pNil a0_) fun x104 =>
  bP (fa Q q 384 4 19 x104) fun x105 =>
  bP (ld Q q 38 x105 (G92.room 25)) fun x106 =>
  bP (pNil a0_) fun x107 =>
  bP (fa Q q 384 3 15 x107) fun x108 =>
  bP (fa Q q 381 1 1 x108) fun x109 =>
  bP (st Q q 3 1 x109 a6_ (G92.room 25)) fun G110 =>
  bP (pNil a0_) fun x111 =>
  bP (fa Q q 384 3 15 x111) fun x112 =>
  bP (fa Q q 381 2 2 x112) fun x113 =>
  bP (st Q q 38 1 x113 x103 G110) fun G114 =>
  bP (pNil a0_) fun x115 =>
  bP (fa Q q 384 3 15 x115) fun x116 =>
  bP (fa Q q 381 3 3 x116) fun x117 =>
  bP (st Q q 38 1 x117 x106 G114) fun G118 =>
  bS (e.ev.cl 300 [a0_] G118) fun x119 G120 =>
  some ((.exit 0), clq q 195 (tu τ [(0, a0_), (1, a1_), (5, a5_), (6, a6_), (53, a0_), (54, x0), (55, x1), (56, x2), (60, x3), (61, x3), (77, x20), (78, x20), (114, x53), (115, x53), (141, x79), (142, x79), (143, a0_), (144, a0_), (145, x80), (146, x81), (147, x82), (148, x83), (149, x84), (150, x85), (151, a1_), (152, a0_), (153, x87), (154, x88), (155, x89), (156, a6_), (157, x91), (158, x93), (159, a0_), (160, x94), (161, x95), (162, x96), (163, x97), (166, a0_), (167, a0_), (168, a0_), (169, a6_), (170, a0_), (171, x100), (172, x101), (173, x102), (174, x103), (175, a0_), (176, x104), (177, x105), (178, x106), (179, x107), (180, x108), (181, x109), (182, x111), (183, x112), (184, x113), (185, x115), (186, x116), (187, x117), (188, a0_), (189, x119)]), G120))) (
  bP (pNil a0_) fun x121 =>
  bP (fa Q q 384 2 14 x121) fun x122 =>
  bP (st Q q 3 1 x122 (.int .i64 1) G) fun G123 =>
  lp (tu τ [(0, a0_), (1, a1_), (5, a5_), (6, a6_), (53, a0_), (54, x0), (55, x1), (56, x2), (57, a0_), (58, x121), (59, x122), (60, x3), (61, x3), (77, x20), (78, x20), (114, x53), (115, x53), (141, x79), (142, x79)]) G123))))
theorem mb294_0 {e : Ex} {E : Ev} (h : ExLe Q e E) {lp lp' : Env → GS → Option (Exit × Env × GS)} (hlp : LpLe lp lp') (τ : Env) (G : GS) : Ref (b294_0 true e lp τ G) (b294_0 false (Ex.of E) lp' τ G) := by
  unfold b294_0
  exact Ref.go
set_option maxHeartbeats 8000000 in
theorem l294_0 {orc : FuncId → Bool} {e : Ex} (h : ExLe Q e (E orc)) (lp : Env → GS → Option (Exit × Env × GS)) (hlp : ∀ τ G, Ref (lp τ G) (mapE ((E orc).lp (subAt [1, 0, 1, 1, 1, 1, 1, 0, 0, 0] (bodyOf Tryz.f294)) (lst 195 τ) G))) (T : List Value) (G : GS) (hT : T.length = 195) : Ref (b294_0 true e lp (nth undef T) G) (mapE ((E orc).lp (subAt [1, 0, 1, 1, 1, 1, 1, 0, 0, 0] (bodyOf Tryz.f294)) T G)) :=
  fun r hr => lp_sxM Q orc G hT (by kernel_rfl) (mb294_0 h ⟨hlp⟩ _ _ r hr)
/-- (*coxswain/find.Find).Step -/
noncomputable def s294 (q : Bool) (e : Ex) (v0 v1 : Value) (G : GS) : Option (Value × GS) :=
  bP (ep Q q false 184 (.tmp 7) (.const (.pointer none)) v0 (.pointer none)) fun x0 =>
  bS (gd x0 false (some (v0, G)) G) fun x1 G2 =>
  bS (gd x0 false (bP (pNil x1) fun y => some (y, G2)) G2) fun x3 G4 =>
  bS (gd x0 false (bP (fa Q q 384 7 22 x3) fun y => some (y, G4)) G4) fun x5 G6 =>
  bS (gd x0 false (bP (ld Q q 4 x5 G6) fun y => some (y, G6)) G6) fun x7 G8 =>
  bS (gd x0 false (bP (un Q q .not x7) fun y => some (y, G8)) G8) fun x9 G10 =>
  bP (pickV x0 (.bool true) x9) fun x11 =>
  bS (gd x11 false (some (v0, G10)) G10) fun x12 G13 =>
  bS (gd x11 false (bP (pNil x12) fun y => some (y, G13)) G13) fun x14 G15 =>
  bS (gd x11 false (bP (fa Q q 384 2 14 x14) fun y => some (y, G15)) G15) fun x16 G17 =>
  bS (gd x11 false (bP (ld Q q 3 x16 G17) fun y => some (y, G17)) G17) fun x18 G19 =>
  bS (gd x11 false (bP (bn Q q .eql 3 (.tmp 20) (.const (.int .i64 9)) x18 (.int .i64 9)) fun y => some (y, G19)) G19) fun x20 G21 =>
  bP (pickV x11 (.bool true) x20) fun x22 =>
  ifV x22 (
  some ((.bool true), G21)) (
  bP (pNil v0) fun x23 =>
  bP (fa Q q 384 0 0 x23) fun x24 =>
  bP (lda Q q 36 13 x24 (G21.room 16)) fun x25 =>
  bP (pNil v0) fun x26 =>
  bP (fa Q q 384 3 15 x26) fun x27 =>
  bP (fa Q q 381 1 1 x27) fun x28 =>
  bP (ld Q q 3 x28 (G21.room 16)) fun x29 =>
  bP (pNil v0) fun x30 =>
  bP (fa Q q 384 3 15 x30) fun x31 =>
  bP (fa Q q 381 0 0 x31) fun x32 =>
  bP (ld Q q 3 x32 (G21.room 16)) fun x33 =>
  bS (e.ev.cl 100 [x25, x29, x33] (G21.room 16)) fun x35 G34 =>
  bP (pNil v0) fun x36 =>
  bP (fa Q q 384 3 15 x36) fun x37 =>
  bP (fa Q q 381 3 3 x37) fun x38 =>
  bP (ld Q q 38 x38 G34) fun x39 =>
  bS (e.ev.cl 298 [v0, x39] G34) fun x40 G41 =>
  bP (pNil v0) fun x42 =>
  bP (fa Q q 384 3 15 x42) fun x43 =>
  bP (fa Q q 381 2 2 x43) fun x44 =>
  bP (ld Q q 38 x44 G41) fun x45 =>
  bP (pNil v0) fun x46 =>
  bP (fa Q q 384 6 21 x46) fun x47 =>
  bP (st Q q 38 1 x47 x45 G41) fun G48 =>
  bL q e 294 0 (subAt [1, 0, 1, 1, 1, 1, 1, 0, 0, 0] (bodyOf Tryz.f294)) 195 (tu (nth undef [v0, v1]) [(4, (.bool false)), (5, x35), (6, x40), (7, v0), (8, x0), (9, x0), (10, x1), (11, x3), (12, x5), (13, x7), (14, x9), (15, x11), (16, x11), (17, x12), (18, x14), (19, x16), (20, x18), (21, x20), (22, x22), (23, v0), (24, x23), (25, x24), (26, x25), (27, v0), (28, x26), (29, x27), (30, x28), (31, x29), (32, v0), (33, x30), (34, x31), (35, x32), (36, x33), (37, x35), (38, v0), (39, v0), (40, x36), (41, x37), (42, x38), (43, x39), (44, x40), (45, v0), (46, v0), (47, x42), (48, x43), (49, x44), (50, x45), (51, x46), (52, x47)]) G48 fun e49 t50 G51 =>
  bV q (t50 0) fun t50x0_ =>
  ifE e49 (.exit 0) (
  bP (pNil t50x0_) fun x52 =>
  bP (fa Q q 384 2 14 x52) fun x53 =>
  bP (ld Q q 3 x53 G51) fun x54 =>
  bP (bn Q q .eql 3 (.tmp 193) (.const (.int .i64 9)) x54 (.int .i64 9)) fun x55 =>
  some (x55, G51)) (none))
theorem m294 {e : Ex} {E : Ev} (h : ExLe Q e E) (v0 v1 : Value) (G : GS) : Ref (s294 true e v0 v1 G) (s294 false (Ex.of E) v0 v1 G) := by
  unfold s294
  exact Ref.go
set_option maxHeartbeats 8000000 in
theorem f294 {orc : FuncId → Bool} {e : Ex} (h : ExLe Q e (E orc)) (v0 v1 : Value) (G : GS) : Ref (s294 true e v0 v1 G) ((E orc).cl 294 [v0, v1] G) :=
  fun r hr => cl_sxE_some Q orc (vs := [v0, v1]) G Tryz.func294 (by kernel_rfl) (by kernel_rfl) (by kernel_rfl) (by kernel_rfl) (by kernel_rfl) (by kernel_rfl) (m294 h v0 v1 G r hr)
/-- (*coxswain/find.Find).By -/
noncomputable def s295 (q : Bool) (e : Ex) (v0 : Value) (G : GS) : Option (Value × GS) :=
  bP (ep Q q false 184 (.tmp 3) (.const (.pointer none)) v0 (.pointer none)) fun x0 =>
  ifV x0 (
  some ((.int .u64 0), G)) (
  bP (pNil v0) fun x1 =>
  bP (fa Q q 384 6 21 x1) fun x2 =>
  bP (ld Q q 38 x2 G) fun x3 =>
  some (x3, G))
theorem m295 {e : Ex} {E : Ev} (h : ExLe Q e E) (v0 : Value) (G : GS) : Ref (s295 true e v0 G) (s295 false (Ex.of E) v0 G) := by
  unfold s295
  exact Ref.go
theorem f295 {orc : FuncId → Bool} {e : Ex} (h : ExLe Q e (E orc)) (v0 : Value) (G : GS) : Ref (s295 true e v0 G) ((E orc).cl 295 [v0] G) :=
  fun r hr => cl_sxE_some Q orc (vs := [v0]) G Tryz.func295 (by kernel_rfl) (by kernel_rfl) (by kernel_rfl) (by kernel_rfl) (by kernel_rfl) (by kernel_rfl) (m295 h v0 G r hr)
/-- coxswain/limbo.NewRetire -/
noncomputable def s296 (q : Bool) (e : Ex) (v0 v1 : Value) (G : GS) : Option (Value × GS) :=
  bS (bx q v0 G) fun x0 G1 =>
  bP (bd Q q 345 z345 [(1, 1, 1)] [(.bool true)]) fun x2 =>
  bP (lda Q q 34 10 x0 G1) fun x3 =>
  bP (bd Q q 419 z419 [(0, 0, 3), (1, 3, 10), (2, 13, 1)] [x2, x3, v1]) fun x4 =>
  bS (bx q x4 G1) fun x5 G6 =>
  bP (bn Q q .lss 3 (.tmp 11) (.const (.int .i64 0)) v1 (.int .i64 0)) fun x7 =>
  bS (gd x7 false (some (v1, G6)) G6) fun x8 G9 =>
  bS (gd x7 false (bP (fa Q q 34 0 0 x0) fun y => some (y, G9)) G9) fun x10 G11 =>
  bS (gd x7 false (bP (fa Q q 30 0 0 x10) fun y => some (y, G11)) G11) fun x12 G13 =>
  bS (gd x7 false (bP (fa Q q 28 2 2 x12) fun y => some (y, G13)) G13) fun x14 G15 =>
  bS (gd x7 false (bP (ld Q q 3 x14 G15) fun y => some (y, G15)) G15) fun x16 G17 =>
  bS (gd x7 false (bP (bn Q q .geq 3 (.tmp 14) (.tmp 18) x8 x16) fun y => some (y, G17)) G17) fun x18 G19 =>
  bP (pickV x7 (.bool true) x18) fun x20 =>
  ifV x20 (
  bP (pNil x5) fun x21 =>
  bP (fa Q q 419 0 0 x21) fun x22 =>
  bP (fa Q q 345 2 2 x22) fun x23 =>
  bP (st Q q 23 1 x23 (.int .i64 3) G19) fun G24 =>
  some (x5, G24)) (
  bP (pNil x5) fun x25 =>
  bP (fa Q q 419 0 0 x25) fun x26 =>
  bP (fa Q q 345 0 0 x26) fun x27 =>
  bP (st Q q 343 1 x27 (.func (.func 301) #[x5] #[]) G19) fun G28 =>
  some (x5, G28))
theorem m296 {e : Ex} {E : Ev} (h : ExLe Q e E) (v0 v1 : Value) (G : GS) : Ref (s296 true e v0 v1 G) (s296 false (Ex.of E) v0 v1 G) := by
  unfold s296
  exact Ref.go
theorem f296 {orc : FuncId → Bool} {e : Ex} (h : ExLe Q e (E orc)) (v0 v1 : Value) (G : GS) : Ref (s296 true e v0 v1 G) ((E orc).cl 296 [v0, v1] G) :=
  fun r hr => cl_sxE_some Q orc (vs := [v0, v1]) G Tryz.func296 (by kernel_rfl) (by kernel_rfl) (by kernel_rfl) (by kernel_rfl) (by kernel_rfl) (by kernel_rfl) (m296 h v0 v1 G r hr)
/-- (*coxswain/limbo.Retire).Step -/
noncomputable def s297 (q : Bool) (e : Ex) (v0 v1 : Value) (G : GS) : Option (Value × GS) :=
  bP (ep Q q false 185 (.tmp 5) (.const (.pointer none)) v0 (.pointer none)) fun x0 =>
  bS (gd x0 false (some (v0, G)) G) fun x1 G2 =>
  bS (gd x0 false (bP (pNil x1) fun y => some (y, G2)) G2) fun x3 G4 =>
  bS (gd x0 false (bP (fa Q q 419 0 0 x3) fun y => some (y, G4)) G4) fun x5 G6 =>
  bS (gd x0 false (some (v1, G6)) G6) fun x7 G8 =>
  bS (gd x0 false (bS (e.ev.cl 302 [x5, x7] G8) fun y G => some (y, G)) G8) fun x9 G10 =>
  bP (pickV x0 (.bool true) x9) fun x11 =>
  some (x11, G10)
theorem m297 {e : Ex} {E : Ev} (h : ExLe Q e E) (v0 v1 : Value) (G : GS) : Ref (s297 true e v0 v1 G) (s297 false (Ex.of E) v0 v1 G) := by
  unfold s297
  exact Ref.go
theorem f297 {orc : FuncId → Bool} {e : Ex} (h : ExLe Q e (E orc)) (v0 v1 : Value) (G : GS) : Ref (s297 true e v0 v1 G) ((E orc).cl 297 [v0, v1] G) :=
  fun r hr => cl_sxE_some Q orc (vs := [v0, v1]) G Tryz.func297 (by kernel_rfl) (by kernel_rfl) (by kernel_rfl) (by kernel_rfl) (by kernel_rfl) (by kernel_rfl) (m297 h v0 v1 G r hr)
/-- (*coxswain/find.Find).index -/
noncomputable def s298 (q : Bool) (e : Ex) (v0 v1 : Value) (G : GS) : Option (Value × GS) :=
  bS (e.ev.cl 221 [v1] G) fun x0 G1 =>
  bP (pExtract x0 0) fun x2 =>
  bP (pExtract x0 1) fun x3 =>
  bS (al Q q 357 z357 G1) fun x4 G5 =>
  bP (st Q q 357 2 x4 x2 G5) fun G6 =>
  bP (fa Q q 357 0 0 x4) fun x7 =>
  bP (ld Q q 3 x7 (G6.room 11)) fun x8 =>
  bP (pNil v0) fun x9 =>
  bP (fa Q q 384 0 0 x9) fun x10 =>
  bP (fa Q q 36 3 3 x10) fun x11 =>
  bP (fa Q q 34 0 0 x11) fun x12 =>
  bP (fa Q q 30 0 0 x12) fun x13 =>
  bP (fa Q q 28 2 2 x13) fun x14 =>
  bP (ld Q q 3 x14 (G6.room 11)) fun x15 =>
  bP (bn Q q .geq 3 (.tmp 13) (.tmp 21) x8 x15) fun x16 =>
  ifV x16 (
  some ((.int .i64 (-1)), (G6.room 11))) (
  bP (fa Q q 357 0 0 x4) fun x17 =>
  bP (ld Q q 3 x17 (G6.room 11)) fun x18 =>
  some (x18, (G6.room 11)))
theorem m298 {e : Ex} {E : Ev} (h : ExLe Q e E) (v0 v1 : Value) (G : GS) : Ref (s298 true e v0 v1 G) (s298 false (Ex.of E) v0 v1 G) := by
  unfold s298
  exact Ref.go
theorem f298 {orc : FuncId → Bool} {e : Ex} (h : ExLe Q e (E orc)) (v0 v1 : Value) (G : GS) : Ref (s298 true e v0 v1 G) ((E orc).cl 298 [v0, v1] G) :=
  fun r hr => cl_sxE_some Q orc (vs := [v0, v1]) G Tryz.func298 (by kernel_rfl) (by kernel_rfl) (by kernel_rfl) (by kernel_rfl) (by kernel_rfl) (by kernel_rfl) (m298 h v0 v1 G r hr)
/-- (*coxswain/find.Find).done -/
noncomputable def s299 (q : Bool) (e : Ex) (v0 : Value) (G : GS) : Option (Value × GS) :=
  bP (pNil v0) fun x0 =>
  bP (fa Q q 384 5 20 x0) fun x1 =>
  bP (ld Q q 382 x1 (G.room 15)) fun x2 =>
  bP (pNil v0) fun x3 =>
  bP (fa Q q 384 3 15 x3) fun x4 =>
  bP (fa Q q 381 0 0 x4) fun x5 =>
  bP (ld Q q 3 x5 (G.room 15)) fun x6 =>
  bP (pNil v0) fun x7 =>
  bP (fa Q q 384 3 15 x7) fun x8 =>
  bP (lda Q q 381 4 x8 (G.room 15)) fun x9 =>
  bP (ias Q q 382 4 x2 x6) fun x10 =>
  bP (st Q q 381 4 x10 x9 (G.room 15)) fun G11 =>
  bP (pNil v0) fun x12 =>
  bP (fa Q q 384 3 15 x12) fun x13 =>
  bP (fa Q q 381 0 0 x13) fun x14 =>
  bP (ld Q q 3 x14 G11) fun x15 =>
  bP (bn Q q .sub 3 (.tmp 21) (.const (.int .i64 1)) x15 (.int .i64 1)) fun x16 =>
  bS (e.ev.cl 248 [v0, x16] G11) fun x17 G18 =>
  some (.tuple #[], G18)
theorem m299 {e : Ex} {E : Ev} (h : ExLe Q e E) (v0 : Value) (G : GS) : Ref (s299 true e v0 G) (s299 false (Ex.of E) v0 G) := by
  unfold s299
  exact Ref.go
theorem f299 {orc : FuncId → Bool} {e : Ex} (h : ExLe Q e (E orc)) (v0 : Value) (G : GS) : Ref (s299 true e v0 G) ((E orc).cl 299 [v0] G) :=
  fun r hr => cl_sxE_some Q orc (vs := [v0]) G Tryz.func299 (by kernel_rfl) (by kernel_rfl) (by kernel_rfl) (by kernel_rfl) (by kernel_rfl) (by kernel_rfl) (m299 h v0 G r hr)
/-- (*coxswain/find.Find).looks -/
noncomputable def s300 (q : Bool) (e : Ex) (v0 : Value) (G : GS) : Option (Value × GS) :=
  bP (pNil v0) fun x0 =>
  bP (fa Q q 384 2 14 x0) fun x1 =>
  bP (st Q q 3 1 x1 (.int .i64 2) G) fun G2 =>
  bP (pNil v0) fun x3 =>
  bP (fa Q q 384 3 15 x3) fun x4 =>
  bP (fa Q q 381 3 3 x4) fun x5 =>
  bP (ld Q q 38 x5 G2) fun x6 =>
  bS (e.ev.cl 298 [v0, x6] G2) fun x7 G8 =>
  bP (bn Q q .lss 3 (.tmp 11) (.const (.int .i64 0)) x7 (.int .i64 0)) fun x9 =>
  ifV x9 (
  bS (e.ev.cl 299 [v0] G8) fun x10 G11 =>
  some (.tuple #[], G11)) (
  some (.tuple #[], G8))
theorem m300 {e : Ex} {E : Ev} (h : ExLe Q e E) (v0 : Value) (G : GS) : Ref (s300 true e v0 G) (s300 false (Ex.of E) v0 G) := by
  unfold s300
  exact Ref.go
theorem f300 {orc : FuncId → Bool} {e : Ex} (h : ExLe Q e (E orc)) (v0 : Value) (G : GS) : Ref (s300 true e v0 G) ((E orc).cl 300 [v0] G) :=
  fun r hr => cl_sxE_some Q orc (vs := [v0]) G Tryz.func300 (by kernel_rfl) (by kernel_rfl) (by kernel_rfl) (by kernel_rfl) (by kernel_rfl) (by kernel_rfl) (m300 h v0 G r hr)
/-- (*coxswain/limbo.Retire).looks -/
noncomputable def s301 (q : Bool) (e : Ex) (v0 v1 : Value) (G : GS) : Option (Value × GS) :=
  bP (pNil v0) fun x0 =>
  bP (fa Q q 419 1 3 x0) fun x1 =>
  bP (fa Q q 34 1 6 x1) fun x2 =>
  bP (fa Q q 32 0 0 x2) fun x3 =>
  bP (ld Q q 3 x3 G) fun x4 =>
  bS (e.ev.cl 120 [v1, x4] G) fun x5 G6 =>
  bP (bn Q q .and 38 (.tmp 13) (.const (.int .u64 4294967295)) x5 (.int .u64 4294967295)) fun x7 =>
  bP (bn Q q .rem 38 (.tmp 16) (.const (.int .u64 3)) x7 (.int .u64 3)) fun x8 =>
  bP (cv Q q 38 248 .u64 .i64 x8) fun x9 =>
  bP (pNil v0) fun x10 =>
  bP (fa Q q 419 1 3 x10) fun x11 =>
  bP (lda Q q 34 10 x11 (G6.room 17)) fun x12 =>
  bS (e.ev.cl 149 [x9, x12] (G6.room 17)) fun x14 G13 =>
  bP (pNil v0) fun x15 =>
  bP (fa Q q 419 2 13 x15) fun x16 =>
  bP (ld Q q 3 x16 G13) fun x17 =>
  chk ((sameO (ld Q q 3 x16 (G6.room 17)) x17 && true)) <|
  bS (e.ev.cl 253 [x14, x17] G13) fun x19 G18 =>
  bP (pNil v0) fun x20 =>
  bP (fa Q q 419 3 14 x20) fun x21 =>
  bP (st Q q 391 1 x21 x19 G18) fun G22 =>
  some ((.func (.func 303) #[v0] #[]), G22)
theorem m301 {e : Ex} {E : Ev} (h : ExLe Q e E) (v0 v1 : Value) (G : GS) : Ref (s301 true e v0 v1 G) (s301 false (Ex.of E) v0 v1 G) := by
  unfold s301
  exact Ref.go
theorem f301 {orc : FuncId → Bool} {e : Ex} (h : ExLe Q e (E orc)) (v0 v1 : Value) (G : GS) : Ref (s301 true e v0 v1 G) ((E orc).cl 301 [v0, v1] G) :=
  fun r hr => cl_sxE_some Q orc (vs := [v0, v1]) G Tryz.func301 (by kernel_rfl) (by kernel_rfl) (by kernel_rfl) (by kernel_rfl) (by kernel_rfl) (by kernel_rfl) (m301 h v0 v1 G r hr)
/-- (*coxswain/limbo.machine).step -/
noncomputable def s302 (q : Bool) (e : Ex) (v0 v1 : Value) (G : GS) : Option (Value × GS) :=
  bP (pNil v0) fun x0 =>
  bP (fa Q q 345 0 0 x0) fun x1 =>
  bP (ld Q q 343 x1 G) fun x2 =>
  bP (ef Q q true 343 (.tmp 8) (.const .nilFunc) x2 .nilFunc) fun x3 =>
  ifV x3 (
  bP (pNil v0) fun x4 =>
  bP (fa Q q 345 0 0 x4) fun x5 =>
  bP (ld Q q 343 x5 G) fun x6 =>
  bS (cValue e.ev x6 [v1] G) fun x7 G8 =>
  bP (pNil v0) fun x9 =>
  bP (fa Q q 345 0 0 x9) fun x10 =>
  bP (st Q q 343 1 x10 x7 G8) fun G11 =>
  bP (pNil v0) fun x12 =>
  bP (fa Q q 345 0 0 x12) fun x13 =>
  bP (ld Q q 343 x13 G11) fun x14 =>
  bP (ef Q q false 343 (.tmp 22) (.const .nilFunc) x14 .nilFunc) fun x15 =>
  some (x15, G11)) (
  bP (pNil v0) fun x16 =>
  bP (fa Q q 345 0 0 x16) fun x17 =>
  bP (ld Q q 343 x17 G) fun x18 =>
  bP (ef Q q false 343 (.tmp 22) (.const .nilFunc) x18 .nilFunc) fun x19 =>
  some (x19, G))
theorem m302 {e : Ex} {E : Ev} (h : ExLe Q e E) (v0 v1 : Value) (G : GS) : Ref (s302 true e v0 v1 G) (s302 false (Ex.of E) v0 v1 G) := by
  unfold s302
  exact Ref.go
theorem f302 {orc : FuncId → Bool} {e : Ex} (h : ExLe Q e (E orc)) (v0 v1 : Value) (G : GS) : Ref (s302 true e v0 v1 G) ((E orc).cl 302 [v0, v1] G) :=
  fun r hr => cl_sxE_some Q orc (vs := [v0, v1]) G Tryz.func302 (by kernel_rfl) (by kernel_rfl) (by kernel_rfl) (by kernel_rfl) (by kernel_rfl) (by kernel_rfl) (m302 h v0 v1 G r hr)
/-- (*coxswain/limbo.Retire).pushes -/
noncomputable def s303 (q : Bool) (e : Ex) (v0 v1 : Value) (G : GS) : Option (Value × GS) :=
  bP (pNil v0) fun x0 =>
  bP (fa Q q 419 3 14 x0) fun x1 =>
  bP (ld Q q 391 x1 G) fun x2 =>
  bS (e.ev.cl 264 [x2, v1] G) fun x3 G4 =>
  ifV x3 (
  some (.nilFunc, G4)) (
  some ((.func (.func 303) #[v0] #[]), G4))
theorem m303 {e : Ex} {E : Ev} (h : ExLe Q e E) (v0 v1 : Value) (G : GS) : Ref (s303 true e v0 v1 G) (s303 false (Ex.of E) v0 v1 G) := by
  unfold s303
  exact Ref.go
theorem f303 {orc : FuncId → Bool} {e : Ex} (h : ExLe Q e (E orc)) (v0 v1 : Value) (G : GS) : Ref (s303 true e v0 v1 G) ((E orc).cl 303 [v0, v1] G) :=
  fun r hr => cl_sxE_some Q orc (vs := [v0, v1]) G Tryz.func303 (by kernel_rfl) (by kernel_rfl) (by kernel_rfl) (by kernel_rfl) (by kernel_rfl) (by kernel_rfl) (m303 h v0 v1 G r hr)
/-- (*coxswain/ready.part[*coxswain/epoch.Pin]).run -/
noncomputable def s304 (q : Bool) (e : Ex) (v0 v1 : Value) (G : GS) : Option (Value × GS) :=
  bP (pNil v0) fun x0 =>
  bP (fa Q q 164 4 4 x0) fun x1 =>
  bP (ld Q q 4 x1 G) fun x2 =>
  bP (un Q q .not x2) fun x3 =>
  ifV x3 (
  bP (pNil v0) fun x4 =>
  bP (fa Q q 164 0 0 x4) fun x5 =>
  bP (ld Q q 160 x5 G) fun x6 =>
  bS (cValue e.ev x6 [] G) fun x7 G8 =>
  bP (pNil v0) fun x9 =>
  bP (fa Q q 164 3 3 x9) fun x10 =>
  bP (st Q q 158 1 x10 x7 G8) fun G11 =>
  bP (pNil v0) fun x12 =>
  bP (fa Q q 164 4 4 x12) fun x13 =>
  bP (st Q q 4 1 x13 (.bool true) G11) fun G14 =>
  bP (pNil v0) fun x15 =>
  bP (fa Q q 164 3 3 x15) fun x16 =>
  bP (ld Q q 158 x16 G14) fun x17 =>
  bP (ifc Q q 158 x17) fun x18 =>
  bS (cInvoke Q e.ev x18 "Step" [v1] G14) fun x19 G20 =>
  bP (pNil v0) fun x21 =>
  bP (fa Q q 164 1 1 x21) fun x22 =>
  bP (ld Q q 162 x22 G20) fun x23 =>
  bP (ef Q q true 162 (.tmp 34) (.const .nilFunc) x23 .nilFunc) fun x24 =>
  ifV x24 (
  bP (pNil v0) fun x25 =>
  bP (fa Q q 164 1 1 x25) fun x26 =>
  bP (ld Q q 162 x26 (G20.room 10)) fun x27 =>
  bP (pNil v0) fun x28 =>
  bP (fa Q q 164 3 3 x28) fun x29 =>
  bP (ld Q q 158 x29 (G20.room 10)) fun x30 =>
  bS (cValue e.ev x27 [x30] (G20.room 10)) fun x32 G31 =>
  bS (gd x19 true (some (v0, G31)) G31) fun x33 G34 =>
  bS (gd x19 true (bP (pNil x33) fun y => some (y, G34)) G34) fun x35 G36 =>
  bS (gd x19 true (bP (fa Q q 164 2 2 x35) fun y => some (y, G36)) G36) fun x37 G38 =>
  bS (gd x19 true (bP (ld Q q 161 x37 G38) fun y => some (y, G38)) G38) fun x39 G40 =>
  bS (gd x19 true (bP (ef Q q true 161 (.tmp 50) (.const .nilFunc) x39 .nilFunc) fun y => some (y, G40)) G40) fun x41 G42 =>
  bP (pickV x19 x41 (.bool false)) fun x43 =>
  ifV x43 (
  bP (pNil v0) fun x44 =>
  bP (fa Q q 164 2 2 x44) fun x45 =>
  bP (ld Q q 161 x45 (G42.room 9)) fun x46 =>
  bP (pNil v0) fun x47 =>
  bP (fa Q q 164 3 3 x47) fun x48 =>
  bP (ld Q q 158 x48 (G42.room 9)) fun x49 =>
  bS (cValue e.ev x46 [x49] (G42.room 9)) fun x51 G50 =>
  some (.tuple #[x19, x32], G50)) (
  some (.tuple #[x19, x32], G42))) (
  bS (gd x19 true (some (v0, G20)) G20) fun x52 G53 =>
  bS (gd x19 true (bP (pNil x52) fun y => some (y, G53)) G53) fun x54 G55 =>
  bS (gd x19 true (bP (fa Q q 164 2 2 x54) fun y => some (y, G55)) G55) fun x56 G57 =>
  bS (gd x19 true (bP (ld Q q 161 x56 G57) fun y => some (y, G57)) G57) fun x58 G59 =>
  bS (gd x19 true (bP (ef Q q true 161 (.tmp 50) (.const .nilFunc) x58 .nilFunc) fun y => some (y, G59)) G59) fun x60 G61 =>
  bP (pickV x19 x60 (.bool false)) fun x62 =>
  ifV x62 (
  bP (pNil v0) fun x63 =>
  bP (fa Q q 164 2 2 x63) fun x64 =>
  bP (ld Q q 161 x64 (G61.room 9)) fun x65 =>
  bP (pNil v0) fun x66 =>
  bP (fa Q q 164 3 3 x66) fun x67 =>
  bP (ld Q q 158 x67 (G61.room 9)) fun x68 =>
  bS (cValue e.ev x65 [x68] (G61.room 9)) fun x70 G69 =>
  some (.tuple #[x19, (.int .u64 0)], G69)) (
  some (.tuple #[x19, (.int .u64 0)], G61)))) (
  bP (pNil v0) fun x71 =>
  bP (fa Q q 164 3 3 x71) fun x72 =>
  bP (ld Q q 158 x72 G) fun x73 =>
  bP (ifc Q q 158 x73) fun x74 =>
  bS (cInvoke Q e.ev x74 "Step" [v1] G) fun x75 G76 =>
  bP (pNil v0) fun x77 =>
  bP (fa Q q 164 1 1 x77) fun x78 =>
  bP (ld Q q 162 x78 G76) fun x79 =>
  bP (ef Q q true 162 (.tmp 34) (.const .nilFunc) x79 .nilFunc) fun x80 =>
  ifV x80 (
  bP (pNil v0) fun x81 =>
  bP (fa Q q 164 1 1 x81) fun x82 =>
  bP (ld Q q 162 x82 (G76.room 10)) fun x83 =>
  bP (pNil v0) fun x84 =>
  bP (fa Q q 164 3 3 x84) fun x85 =>
  bP (ld Q q 158 x85 (G76.room 10)) fun x86 =>
  bS (cValue e.ev x83 [x86] (G76.room 10)) fun x88 G87 =>
  bS (gd x75 true (some (v0, G87)) G87) fun x89 G90 =>
  bS (gd x75 true (bP (pNil x89) fun y => some (y, G90)) G90) fun x91 G92 =>
  bS (gd x75 true (bP (fa Q q 164 2 2 x91) fun y => some (y, G92)) G92) fun x93 G94 =>
  bS (gd x75 true (bP (ld Q q 161 x93 G94) fun y => some (y, G94)) G94) fun x95 G96 =>
  bS (gd x75 true (bP (ef Q q true 161 (.tmp 50) (.const .nilFunc) x95 .nilFunc) fun y => some (y, G96)) G96) fun x97 G98 =>
  bP (pickV x75 x97 (.bool false)) fun x99 =>
  ifV x99 (
  bP (pNil v0) fun x100 =>
  bP (fa Q q 164 2 2 x100) fun x101 =>
  bP (ld Q q 161 x101 (G98.room 9)) fun x102 =>
  bP (pNil v0) fun x103 =>
  bP (fa Q q 164 3 3 x103) fun x104 =>
  bP (ld Q q 158 x104 (G98.room 9)) fun x105 =>
  bS (cValue e.ev x102 [x105] (G98.room 9)) fun x107 G106 =>
  some (.tuple #[x75, x88], G106)) (
  some (.tuple #[x75, x88], G98))) (
  bS (gd x75 true (some (v0, G76)) G76) fun x108 G109 =>
  bS (gd x75 true (bP (pNil x108) fun y => some (y, G109)) G109) fun x110 G111 =>
  bS (gd x75 true (bP (fa Q q 164 2 2 x110) fun y => some (y, G111)) G111) fun x112 G113 =>
  bS (gd x75 true (bP (ld Q q 161 x112 G113) fun y => some (y, G113)) G113) fun x114 G115 =>
  bS (gd x75 true (bP (ef Q q true 161 (.tmp 50) (.const .nilFunc) x114 .nilFunc) fun y => some (y, G115)) G115) fun x116 G117 =>
  bP (pickV x75 x116 (.bool false)) fun x118 =>
  ifV x118 (
  bP (pNil v0) fun x119 =>
  bP (fa Q q 164 2 2 x119) fun x120 =>
  bP (ld Q q 161 x120 (G117.room 9)) fun x121 =>
  bP (pNil v0) fun x122 =>
  bP (fa Q q 164 3 3 x122) fun x123 =>
  bP (ld Q q 158 x123 (G117.room 9)) fun x124 =>
  bS (cValue e.ev x121 [x124] (G117.room 9)) fun x126 G125 =>
  some (.tuple #[x75, (.int .u64 0)], G125)) (
  some (.tuple #[x75, (.int .u64 0)], G117))))
theorem m304 {e : Ex} {E : Ev} (h : ExLe Q e E) (v0 v1 : Value) (G : GS) : Ref (s304 true e v0 v1 G) (s304 false (Ex.of E) v0 v1 G) := by
  unfold s304
  exact Ref.go
theorem f304 {orc : FuncId → Bool} {e : Ex} (h : ExLe Q e (E orc)) (v0 v1 : Value) (G : GS) : Ref (s304 true e v0 v1 G) ((E orc).cl 304 [v0, v1] G) :=
  fun r hr => cl_sxE_some Q orc (vs := [v0, v1]) G Tryz.func304 (by kernel_rfl) (by kernel_rfl) (by kernel_rfl) (by kernel_rfl) (by kernel_rfl) (by kernel_rfl) (m304 h v0 v1 G r hr)
/-- (*coxswain/epoch.Pin).Step -/
noncomputable def s305 (q : Bool) (e : Ex) (v0 v1 : Value) (G : GS) : Option (Value × GS) :=
  bP (ep Q q false 158 (.tmp 5) (.const (.pointer none)) v0 (.pointer none)) fun x0 =>
  bS (gd x0 false (some (v0, G)) G) fun x1 G2 =>
  bS (gd x0 false (bP (pNil x1) fun y => some (y, G2)) G2) fun x3 G4 =>
  bS (gd x0 false (bP (fa Q q 235 0 0 x3) fun y => some (y, G4)) G4) fun x5 G6 =>
  bS (gd x0 false (some (v1, G6)) G6) fun x7 G8 =>
  bS (gd x0 false (bS (e.ev.cl 244 [x5, x7] G8) fun y G => some (y, G)) G8) fun x9 G10 =>
  bP (pickV x0 (.bool true) x9) fun x11 =>
  some (x11, G10)
theorem m305 {e : Ex} {E : Ev} (h : ExLe Q e E) (v0 v1 : Value) (G : GS) : Ref (s305 true e v0 v1 G) (s305 false (Ex.of E) v0 v1 G) := by
  unfold s305
  exact Ref.go
theorem f305 {orc : FuncId → Bool} {e : Ex} (h : ExLe Q e (E orc)) (v0 v1 : Value) (G : GS) : Ref (s305 true e v0 v1 G) ((E orc).cl 305 [v0, v1] G) :=
  fun r hr => cl_sxE_some Q orc (vs := [v0, v1]) G Tryz.func305 (by kernel_rfl) (by kernel_rfl) (by kernel_rfl) (by kernel_rfl) (by kernel_rfl) (by kernel_rfl) (m305 h v0 v1 G r hr)
/-- (*coxswain/ready.part[*coxswain/arena.Alloc]).run -/
noncomputable def s306 (q : Bool) (e : Ex) (v0 v1 : Value) (G : GS) : Option (Value × GS) :=
  bP (pNil v0) fun x0 =>
  bP (fa Q q 172 4 4 x0) fun x1 =>
  bP (ld Q q 4 x1 G) fun x2 =>
  bP (un Q q .not x2) fun x3 =>
  ifV x3 (
  bP (pNil v0) fun x4 =>
  bP (fa Q q 172 0 0 x4) fun x5 =>
  bP (ld Q q 168 x5 G) fun x6 =>
  bS (cValue e.ev x6 [] G) fun x7 G8 =>
  bP (pNil v0) fun x9 =>
  bP (fa Q q 172 3 3 x9) fun x10 =>
  bP (st Q q 166 1 x10 x7 G8) fun G11 =>
  bP (pNil v0) fun x12 =>
  bP (fa Q q 172 4 4 x12) fun x13 =>
  bP (st Q q 4 1 x13 (.bool true) G11) fun G14 =>
  bP (pNil v0) fun x15 =>
  bP (fa Q q 172 3 3 x15) fun x16 =>
  bP (ld Q q 166 x16 G14) fun x17 =>
  bP (ifc Q q 166 x17) fun x18 =>
  bS (cInvoke Q e.ev x18 "Step" [v1] G14) fun x19 G20 =>
  bP (pNil v0) fun x21 =>
  bP (fa Q q 172 1 1 x21) fun x22 =>
  bP (ld Q q 170 x22 G20) fun x23 =>
  bP (ef Q q true 170 (.tmp 34) (.const .nilFunc) x23 .nilFunc) fun x24 =>
  ifV x24 (
  bP (pNil v0) fun x25 =>
  bP (fa Q q 172 1 1 x25) fun x26 =>
  bP (ld Q q 170 x26 (G20.room 10)) fun x27 =>
  bP (pNil v0) fun x28 =>
  bP (fa Q q 172 3 3 x28) fun x29 =>
  bP (ld Q q 166 x29 (G20.room 10)) fun x30 =>
  bS (cValue e.ev x27 [x30] (G20.room 10)) fun x32 G31 =>
  bS (gd x19 true (some (v0, G31)) G31) fun x33 G34 =>
  bS (gd x19 true (bP (pNil x33) fun y => some (y, G34)) G34) fun x35 G36 =>
  bS (gd x19 true (bP (fa Q q 172 2 2 x35) fun y => some (y, G36)) G36) fun x37 G38 =>
  bS (gd x19 true (bP (ld Q q 169 x37 G38) fun y => some (y, G38)) G38) fun x39 G40 =>
  bS (gd x19 true (bP (ef Q q true 169 (.tmp 50) (.const .nilFunc) x39 .nilFunc) fun y => some (y, G40)) G40) fun x41 G42 =>
  bP (pickV x19 x41 (.bool false)) fun x43 =>
  ifV x43 (
  bP (pNil v0) fun x44 =>
  bP (fa Q q 172 2 2 x44) fun x45 =>
  bP (ld Q q 169 x45 (G42.room 9)) fun x46 =>
  bP (pNil v0) fun x47 =>
  bP (fa Q q 172 3 3 x47) fun x48 =>
  bP (ld Q q 166 x48 (G42.room 9)) fun x49 =>
  bS (cValue e.ev x46 [x49] (G42.room 9)) fun x51 G50 =>
  some (.tuple #[x19, x32], G50)) (
  some (.tuple #[x19, x32], G42))) (
  bS (gd x19 true (some (v0, G20)) G20) fun x52 G53 =>
  bS (gd x19 true (bP (pNil x52) fun y => some (y, G53)) G53) fun x54 G55 =>
  bS (gd x19 true (bP (fa Q q 172 2 2 x54) fun y => some (y, G55)) G55) fun x56 G57 =>
  bS (gd x19 true (bP (ld Q q 169 x56 G57) fun y => some (y, G57)) G57) fun x58 G59 =>
  bS (gd x19 true (bP (ef Q q true 169 (.tmp 50) (.const .nilFunc) x58 .nilFunc) fun y => some (y, G59)) G59) fun x60 G61 =>
  bP (pickV x19 x60 (.bool false)) fun x62 =>
  ifV x62 (
  bP (pNil v0) fun x63 =>
  bP (fa Q q 172 2 2 x63) fun x64 =>
  bP (ld Q q 169 x64 (G61.room 9)) fun x65 =>
  bP (pNil v0) fun x66 =>
  bP (fa Q q 172 3 3 x66) fun x67 =>
  bP (ld Q q 166 x67 (G61.room 9)) fun x68 =>
  bS (cValue e.ev x65 [x68] (G61.room 9)) fun x70 G69 =>
  some (.tuple #[x19, (.int .u64 0)], G69)) (
  some (.tuple #[x19, (.int .u64 0)], G61)))) (
  bP (pNil v0) fun x71 =>
  bP (fa Q q 172 3 3 x71) fun x72 =>
  bP (ld Q q 166 x72 G) fun x73 =>
  bP (ifc Q q 166 x73) fun x74 =>
  bS (cInvoke Q e.ev x74 "Step" [v1] G) fun x75 G76 =>
  bP (pNil v0) fun x77 =>
  bP (fa Q q 172 1 1 x77) fun x78 =>
  bP (ld Q q 170 x78 G76) fun x79 =>
  bP (ef Q q true 170 (.tmp 34) (.const .nilFunc) x79 .nilFunc) fun x80 =>
  ifV x80 (
  bP (pNil v0) fun x81 =>
  bP (fa Q q 172 1 1 x81) fun x82 =>
  bP (ld Q q 170 x82 (G76.room 10)) fun x83 =>
  bP (pNil v0) fun x84 =>
  bP (fa Q q 172 3 3 x84) fun x85 =>
  bP (ld Q q 166 x85 (G76.room 10)) fun x86 =>
  bS (cValue e.ev x83 [x86] (G76.room 10)) fun x88 G87 =>
  bS (gd x75 true (some (v0, G87)) G87) fun x89 G90 =>
  bS (gd x75 true (bP (pNil x89) fun y => some (y, G90)) G90) fun x91 G92 =>
  bS (gd x75 true (bP (fa Q q 172 2 2 x91) fun y => some (y, G92)) G92) fun x93 G94 =>
  bS (gd x75 true (bP (ld Q q 169 x93 G94) fun y => some (y, G94)) G94) fun x95 G96 =>
  bS (gd x75 true (bP (ef Q q true 169 (.tmp 50) (.const .nilFunc) x95 .nilFunc) fun y => some (y, G96)) G96) fun x97 G98 =>
  bP (pickV x75 x97 (.bool false)) fun x99 =>
  ifV x99 (
  bP (pNil v0) fun x100 =>
  bP (fa Q q 172 2 2 x100) fun x101 =>
  bP (ld Q q 169 x101 (G98.room 9)) fun x102 =>
  bP (pNil v0) fun x103 =>
  bP (fa Q q 172 3 3 x103) fun x104 =>
  bP (ld Q q 166 x104 (G98.room 9)) fun x105 =>
  bS (cValue e.ev x102 [x105] (G98.room 9)) fun x107 G106 =>
  some (.tuple #[x75, x88], G106)) (
  some (.tuple #[x75, x88], G98))) (
  bS (gd x75 true (some (v0, G76)) G76) fun x108 G109 =>
  bS (gd x75 true (bP (pNil x108) fun y => some (y, G109)) G109) fun x110 G111 =>
  bS (gd x75 true (bP (fa Q q 172 2 2 x110) fun y => some (y, G111)) G111) fun x112 G113 =>
  bS (gd x75 true (bP (ld Q q 169 x112 G113) fun y => some (y, G113)) G113) fun x114 G115 =>
  bS (gd x75 true (bP (ef Q q true 169 (.tmp 50) (.const .nilFunc) x114 .nilFunc) fun y => some (y, G115)) G115) fun x116 G117 =>
  bP (pickV x75 x116 (.bool false)) fun x118 =>
  ifV x118 (
  bP (pNil v0) fun x119 =>
  bP (fa Q q 172 2 2 x119) fun x120 =>
  bP (ld Q q 169 x120 (G117.room 9)) fun x121 =>
  bP (pNil v0) fun x122 =>
  bP (fa Q q 172 3 3 x122) fun x123 =>
  bP (ld Q q 166 x123 (G117.room 9)) fun x124 =>
  bS (cValue e.ev x121 [x124] (G117.room 9)) fun x126 G125 =>
  some (.tuple #[x75, (.int .u64 0)], G125)) (
  some (.tuple #[x75, (.int .u64 0)], G117))))
theorem m306 {e : Ex} {E : Ev} (h : ExLe Q e E) (v0 v1 : Value) (G : GS) : Ref (s306 true e v0 v1 G) (s306 false (Ex.of E) v0 v1 G) := by
  unfold s306
  exact Ref.go
theorem f306 {orc : FuncId → Bool} {e : Ex} (h : ExLe Q e (E orc)) (v0 v1 : Value) (G : GS) : Ref (s306 true e v0 v1 G) ((E orc).cl 306 [v0, v1] G) :=
  fun r hr => cl_sxE_some Q orc (vs := [v0, v1]) G Tryz.func306 (by kernel_rfl) (by kernel_rfl) (by kernel_rfl) (by kernel_rfl) (by kernel_rfl) (by kernel_rfl) (m306 h v0 v1 G r hr)
/-- (*coxswain/arena.Alloc).Step -/
noncomputable def s307 (q : Bool) (e : Ex) (v0 v1 : Value) (G : GS) : Option (Value × GS) :=
  bP (ep Q q false 166 (.tmp 5) (.const (.pointer none)) v0 (.pointer none)) fun x0 =>
  bS (gd x0 false (some (v0, G)) G) fun x1 G2 =>
  bS (gd x0 false (bP (pNil x1) fun y => some (y, G2)) G2) fun x3 G4 =>
  bS (gd x0 false (bP (fa Q q 241 3 8 x3) fun y => some (y, G4)) G4) fun x5 G6 =>
  bS (gd x0 false (bP (ld Q q 239 x5 G6) fun y => some (y, G6)) G6) fun x7 G8 =>
  bS (gd x0 false (bP (ef Q q false 239 (.tmp 11) (.const .nilFunc) x7 .nilFunc) fun y => some (y, G8)) G8) fun x9 G10 =>
  bP (pickV x0 (.bool true) x9) fun x11 =>
  ifV x11 (
  some ((.bool true), G10)) (
  bP (pNil v0) fun x12 =>
  bP (fa Q q 241 3 8 x12) fun x13 =>
  bP (ld Q q 239 x13 G10) fun x14 =>
  bS (cValue e.ev x14 [v0, v1] G10) fun x15 G16 =>
  bP (pNil v0) fun x17 =>
  bP (fa Q q 241 3 8 x17) fun x18 =>
  bP (ld Q q 239 x18 G16) fun x19 =>
  bP (ef Q q false 239 (.tmp 24) (.const .nilFunc) x19 .nilFunc) fun x20 =>
  some (x20, G16))
theorem m307 {e : Ex} {E : Ev} (h : ExLe Q e E) (v0 v1 : Value) (G : GS) : Ref (s307 true e v0 v1 G) (s307 false (Ex.of E) v0 v1 G) := by
  unfold s307
  exact Ref.go
theorem f307 {orc : FuncId → Bool} {e : Ex} (h : ExLe Q e (E orc)) (v0 v1 : Value) (G : GS) : Ref (s307 true e v0 v1 G) ((E orc).cl 307 [v0, v1] G) :=
  fun r hr => cl_sxE_some Q orc (vs := [v0, v1]) G Tryz.func307 (by kernel_rfl) (by kernel_rfl) (by kernel_rfl) (by kernel_rfl) (by kernel_rfl) (by kernel_rfl) (m307 h v0 v1 G r hr)
/-- (*coxswain/ready.part[*coxswain/epoch.Unpin]).run -/
noncomputable def s309 (q : Bool) (e : Ex) (v0 v1 : Value) (G : GS) : Option (Value × GS) :=
  bP (pNil v0) fun x0 =>
  bP (fa Q q 201 4 4 x0) fun x1 =>
  bP (ld Q q 4 x1 G) fun x2 =>
  bP (un Q q .not x2) fun x3 =>
  ifV x3 (
  bP (pNil v0) fun x4 =>
  bP (fa Q q 201 0 0 x4) fun x5 =>
  bP (ld Q q 197 x5 G) fun x6 =>
  bS (cValue e.ev x6 [] G) fun x7 G8 =>
  bP (pNil v0) fun x9 =>
  bP (fa Q q 201 3 3 x9) fun x10 =>
  bP (st Q q 195 1 x10 x7 G8) fun G11 =>
  bP (pNil v0) fun x12 =>
  bP (fa Q q 201 4 4 x12) fun x13 =>
  bP (st Q q 4 1 x13 (.bool true) G11) fun G14 =>
  bP (pNil v0) fun x15 =>
  bP (fa Q q 201 3 3 x15) fun x16 =>
  bP (ld Q q 195 x16 G14) fun x17 =>
  bP (ifc Q q 195 x17) fun x18 =>
  bS (cInvoke Q e.ev x18 "Step" [v1] G14) fun x19 G20 =>
  bP (pNil v0) fun x21 =>
  bP (fa Q q 201 1 1 x21) fun x22 =>
  bP (ld Q q 198 x22 G20) fun x23 =>
  bP (ef Q q true 198 (.tmp 34) (.const .nilFunc) x23 .nilFunc) fun x24 =>
  ifV x24 (
  bP (pNil v0) fun x25 =>
  bP (fa Q q 201 1 1 x25) fun x26 =>
  bP (ld Q q 198 x26 (G20.room 10)) fun x27 =>
  bP (pNil v0) fun x28 =>
  bP (fa Q q 201 3 3 x28) fun x29 =>
  bP (ld Q q 195 x29 (G20.room 10)) fun x30 =>
  bS (cValue e.ev x27 [x30] (G20.room 10)) fun x32 G31 =>
  bS (gd x19 true (some (v0, G31)) G31) fun x33 G34 =>
  bS (gd x19 true (bP (pNil x33) fun y => some (y, G34)) G34) fun x35 G36 =>
  bS (gd x19 true (bP (fa Q q 201 2 2 x35) fun y => some (y, G36)) G36) fun x37 G38 =>
  bS (gd x19 true (bP (ld Q q 199 x37 G38) fun y => some (y, G38)) G38) fun x39 G40 =>
  bS (gd x19 true (bP (ef Q q true 199 (.tmp 50) (.const .nilFunc) x39 .nilFunc) fun y => some (y, G40)) G40) fun x41 G42 =>
  bP (pickV x19 x41 (.bool false)) fun x43 =>
  ifV x43 (
  bP (pNil v0) fun x44 =>
  bP (fa Q q 201 2 2 x44) fun x45 =>
  bP (ld Q q 199 x45 (G42.room 9)) fun x46 =>
  bP (pNil v0) fun x47 =>
  bP (fa Q q 201 3 3 x47) fun x48 =>
  bP (ld Q q 195 x48 (G42.room 9)) fun x49 =>
  bS (cValue e.ev x46 [x49] (G42.room 9)) fun x51 G50 =>
  some (.tuple #[x19, x32], G50)) (
  some (.tuple #[x19, x32], G42))) (
  bS (gd x19 true (some (v0, G20)) G20) fun x52 G53 =>
  bS (gd x19 true (bP (pNil x52) fun y => some (y, G53)) G53) fun x54 G55 =>
  bS (gd x19 true (bP (fa Q q 201 2 2 x54) fun y => some (y, G55)) G55) fun x56 G57 =>
  bS (gd x19 true (bP (ld Q q 199 x56 G57) fun y => some (y, G57)) G57) fun x58 G59 =>
  bS (gd x19 true (bP (ef Q q true 199 (.tmp 50) (.const .nilFunc) x58 .nilFunc) fun y => some (y, G59)) G59) fun x60 G61 =>
  bP (pickV x19 x60 (.bool false)) fun x62 =>
  ifV x62 (
  bP (pNil v0) fun x63 =>
  bP (fa Q q 201 2 2 x63) fun x64 =>
  bP (ld Q q 199 x64 (G61.room 9)) fun x65 =>
  bP (pNil v0) fun x66 =>
  bP (fa Q q 201 3 3 x66) fun x67 =>
  bP (ld Q q 195 x67 (G61.room 9)) fun x68 =>
  bS (cValue e.ev x65 [x68] (G61.room 9)) fun x70 G69 =>
  some (.tuple #[x19, (.int .u64 0)], G69)) (
  some (.tuple #[x19, (.int .u64 0)], G61)))) (
  bP (pNil v0) fun x71 =>
  bP (fa Q q 201 3 3 x71) fun x72 =>
  bP (ld Q q 195 x72 G) fun x73 =>
  bP (ifc Q q 195 x73) fun x74 =>
  bS (cInvoke Q e.ev x74 "Step" [v1] G) fun x75 G76 =>
  bP (pNil v0) fun x77 =>
  bP (fa Q q 201 1 1 x77) fun x78 =>
  bP (ld Q q 198 x78 G76) fun x79 =>
  bP (ef Q q true 198 (.tmp 34) (.const .nilFunc) x79 .nilFunc) fun x80 =>
  ifV x80 (
  bP (pNil v0) fun x81 =>
  bP (fa Q q 201 1 1 x81) fun x82 =>
  bP (ld Q q 198 x82 (G76.room 10)) fun x83 =>
  bP (pNil v0) fun x84 =>
  bP (fa Q q 201 3 3 x84) fun x85 =>
  bP (ld Q q 195 x85 (G76.room 10)) fun x86 =>
  bS (cValue e.ev x83 [x86] (G76.room 10)) fun x88 G87 =>
  bS (gd x75 true (some (v0, G87)) G87) fun x89 G90 =>
  bS (gd x75 true (bP (pNil x89) fun y => some (y, G90)) G90) fun x91 G92 =>
  bS (gd x75 true (bP (fa Q q 201 2 2 x91) fun y => some (y, G92)) G92) fun x93 G94 =>
  bS (gd x75 true (bP (ld Q q 199 x93 G94) fun y => some (y, G94)) G94) fun x95 G96 =>
  bS (gd x75 true (bP (ef Q q true 199 (.tmp 50) (.const .nilFunc) x95 .nilFunc) fun y => some (y, G96)) G96) fun x97 G98 =>
  bP (pickV x75 x97 (.bool false)) fun x99 =>
  ifV x99 (
  bP (pNil v0) fun x100 =>
  bP (fa Q q 201 2 2 x100) fun x101 =>
  bP (ld Q q 199 x101 (G98.room 9)) fun x102 =>
  bP (pNil v0) fun x103 =>
  bP (fa Q q 201 3 3 x103) fun x104 =>
  bP (ld Q q 195 x104 (G98.room 9)) fun x105 =>
  bS (cValue e.ev x102 [x105] (G98.room 9)) fun x107 G106 =>
  some (.tuple #[x75, x88], G106)) (
  some (.tuple #[x75, x88], G98))) (
  bS (gd x75 true (some (v0, G76)) G76) fun x108 G109 =>
  bS (gd x75 true (bP (pNil x108) fun y => some (y, G109)) G109) fun x110 G111 =>
  bS (gd x75 true (bP (fa Q q 201 2 2 x110) fun y => some (y, G111)) G111) fun x112 G113 =>
  bS (gd x75 true (bP (ld Q q 199 x112 G113) fun y => some (y, G113)) G113) fun x114 G115 =>
  bS (gd x75 true (bP (ef Q q true 199 (.tmp 50) (.const .nilFunc) x114 .nilFunc) fun y => some (y, G115)) G115) fun x116 G117 =>
  bP (pickV x75 x116 (.bool false)) fun x118 =>
  ifV x118 (
  bP (pNil v0) fun x119 =>
  bP (fa Q q 201 2 2 x119) fun x120 =>
  bP (ld Q q 199 x120 (G117.room 9)) fun x121 =>
  bP (pNil v0) fun x122 =>
  bP (fa Q q 201 3 3 x122) fun x123 =>
  bP (ld Q q 195 x123 (G117.room 9)) fun x124 =>
  bS (cValue e.ev x121 [x124] (G117.room 9)) fun x126 G125 =>
  some (.tuple #[x75, (.int .u64 0)], G125)) (
  some (.tuple #[x75, (.int .u64 0)], G117))))
theorem m309 {e : Ex} {E : Ev} (h : ExLe Q e E) (v0 v1 : Value) (G : GS) : Ref (s309 true e v0 v1 G) (s309 false (Ex.of E) v0 v1 G) := by
  unfold s309
  exact Ref.go
theorem f309 {orc : FuncId → Bool} {e : Ex} (h : ExLe Q e (E orc)) (v0 v1 : Value) (G : GS) : Ref (s309 true e v0 v1 G) ((E orc).cl 309 [v0, v1] G) :=
  fun r hr => cl_sxE_some Q orc (vs := [v0, v1]) G Tryz.func309 (by kernel_rfl) (by kernel_rfl) (by kernel_rfl) (by kernel_rfl) (by kernel_rfl) (by kernel_rfl) (m309 h v0 v1 G r hr)
/-- (*coxswain/epoch.Unpin).Step -/
noncomputable def s311 (q : Bool) (e : Ex) (v0 v1 : Value) (G : GS) : Option (Value × GS) :=
  bP (ep Q q false 195 (.tmp 5) (.const (.pointer none)) v0 (.pointer none)) fun x0 =>
  bS (gd x0 false (some (v0, G)) G) fun x1 G2 =>
  bS (gd x0 false (bP (pNil x1) fun y => some (y, G2)) G2) fun x3 G4 =>
  bS (gd x0 false (bP (fa Q q 264 0 0 x3) fun y => some (y, G4)) G4) fun x5 G6 =>
  bS (gd x0 false (some (v1, G6)) G6) fun x7 G8 =>
  bS (gd x0 false (bS (e.ev.cl 244 [x5, x7] G8) fun y G => some (y, G)) G8) fun x9 G10 =>
  bP (pickV x0 (.bool true) x9) fun x11 =>
  some (x11, G10)
theorem m311 {e : Ex} {E : Ev} (h : ExLe Q e E) (v0 v1 : Value) (G : GS) : Ref (s311 true e v0 v1 G) (s311 false (Ex.of E) v0 v1 G) := by
  unfold s311
  exact Ref.go
theorem f311 {orc : FuncId → Bool} {e : Ex} (h : ExLe Q e (E orc)) (v0 v1 : Value) (G : GS) : Ref (s311 true e v0 v1 G) ((E orc).cl 311 [v0, v1] G) :=
  fun r hr => cl_sxE_some Q orc (vs := [v0, v1]) G Tryz.func311 (by kernel_rfl) (by kernel_rfl) (by kernel_rfl) (by kernel_rfl) (by kernel_rfl) (by kernel_rfl) (m311 h v0 v1 G r hr)
/-- (*coxswain/ready.part[*coxswain/claim.Peek]).run -/
noncomputable def s312 (q : Bool) (e : Ex) (v0 v1 : Value) (G : GS) : Option (Value × GS) :=
  bP (pNil v0) fun x0 =>
  bP (fa Q q 220 4 4 x0) fun x1 =>
  bP (ld Q q 4 x1 G) fun x2 =>
  bP (un Q q .not x2) fun x3 =>
  ifV x3 (
  bP (pNil v0) fun x4 =>
  bP (fa Q q 220 0 0 x4) fun x5 =>
  bP (ld Q q 216 x5 G) fun x6 =>
  bS (cValue e.ev x6 [] G) fun x7 G8 =>
  bP (pNil v0) fun x9 =>
  bP (fa Q q 220 3 3 x9) fun x10 =>
  bP (st Q q 214 1 x10 x7 G8) fun G11 =>
  bP (pNil v0) fun x12 =>
  bP (fa Q q 220 4 4 x12) fun x13 =>
  bP (st Q q 4 1 x13 (.bool true) G11) fun G14 =>
  bP (pNil v0) fun x15 =>
  bP (fa Q q 220 3 3 x15) fun x16 =>
  bP (ld Q q 214 x16 G14) fun x17 =>
  bP (ifc Q q 214 x17) fun x18 =>
  bS (cInvoke Q e.ev x18 "Step" [v1] G14) fun x19 G20 =>
  bP (pNil v0) fun x21 =>
  bP (fa Q q 220 1 1 x21) fun x22 =>
  bP (ld Q q 217 x22 G20) fun x23 =>
  bP (ef Q q true 217 (.tmp 34) (.const .nilFunc) x23 .nilFunc) fun x24 =>
  ifV x24 (
  bP (pNil v0) fun x25 =>
  bP (fa Q q 220 1 1 x25) fun x26 =>
  bP (ld Q q 217 x26 (G20.room 10)) fun x27 =>
  bP (pNil v0) fun x28 =>
  bP (fa Q q 220 3 3 x28) fun x29 =>
  bP (ld Q q 214 x29 (G20.room 10)) fun x30 =>
  bS (cValue e.ev x27 [x30] (G20.room 10)) fun x32 G31 =>
  bS (gd x19 true (some (v0, G31)) G31) fun x33 G34 =>
  bS (gd x19 true (bP (pNil x33) fun y => some (y, G34)) G34) fun x35 G36 =>
  bS (gd x19 true (bP (fa Q q 220 2 2 x35) fun y => some (y, G36)) G36) fun x37 G38 =>
  bS (gd x19 true (bP (ld Q q 218 x37 G38) fun y => some (y, G38)) G38) fun x39 G40 =>
  bS (gd x19 true (bP (ef Q q true 218 (.tmp 50) (.const .nilFunc) x39 .nilFunc) fun y => some (y, G40)) G40) fun x41 G42 =>
  bP (pickV x19 x41 (.bool false)) fun x43 =>
  ifV x43 (
  bP (pNil v0) fun x44 =>
  bP (fa Q q 220 2 2 x44) fun x45 =>
  bP (ld Q q 218 x45 (G42.room 9)) fun x46 =>
  bP (pNil v0) fun x47 =>
  bP (fa Q q 220 3 3 x47) fun x48 =>
  bP (ld Q q 214 x48 (G42.room 9)) fun x49 =>
  bS (cValue e.ev x46 [x49] (G42.room 9)) fun x51 G50 =>
  some (.tuple #[x19, x32], G50)) (
  some (.tuple #[x19, x32], G42))) (
  bS (gd x19 true (some (v0, G20)) G20) fun x52 G53 =>
  bS (gd x19 true (bP (pNil x52) fun y => some (y, G53)) G53) fun x54 G55 =>
  bS (gd x19 true (bP (fa Q q 220 2 2 x54) fun y => some (y, G55)) G55) fun x56 G57 =>
  bS (gd x19 true (bP (ld Q q 218 x56 G57) fun y => some (y, G57)) G57) fun x58 G59 =>
  bS (gd x19 true (bP (ef Q q true 218 (.tmp 50) (.const .nilFunc) x58 .nilFunc) fun y => some (y, G59)) G59) fun x60 G61 =>
  bP (pickV x19 x60 (.bool false)) fun x62 =>
  ifV x62 (
  bP (pNil v0) fun x63 =>
  bP (fa Q q 220 2 2 x63) fun x64 =>
  bP (ld Q q 218 x64 (G61.room 9)) fun x65 =>
  bP (pNil v0) fun x66 =>
  bP (fa Q q 220 3 3 x66) fun x67 =>
  bP (ld Q q 214 x67 (G61.room 9)) fun x68 =>
  bS (cValue e.ev x65 [x68] (G61.room 9)) fun x70 G69 =>
  some (.tuple #[x19, (.int .u64 0)], G69)) (
  some (.tuple #[x19, (.int .u64 0)], G61)))) (
  bP (pNil v0) fun x71 =>
  bP (fa Q q 220 3 3 x71) fun x72 =>
  bP (ld Q q 214 x72 G) fun x73 =>
  bP (ifc Q q 214 x73) fun x74 =>
  bS (cInvoke Q e.ev x74 "Step" [v1] G) fun x75 G76 =>
  bP (pNil v0) fun x77 =>
  bP (fa Q q 220 1 1 x77) fun x78 =>
  bP (ld Q q 217 x78 G76) fun x79 =>
  bP (ef Q q true 217 (.tmp 34) (.const .nilFunc) x79 .nilFunc) fun x80 =>
  ifV x80 (
  bP (pNil v0) fun x81 =>
  bP (fa Q q 220 1 1 x81) fun x82 =>
  bP (ld Q q 217 x82 (G76.room 10)) fun x83 =>
  bP (pNil v0) fun x84 =>
  bP (fa Q q 220 3 3 x84) fun x85 =>
  bP (ld Q q 214 x85 (G76.room 10)) fun x86 =>
  bS (cValue e.ev x83 [x86] (G76.room 10)) fun x88 G87 =>
  bS (gd x75 true (some (v0, G87)) G87) fun x89 G90 =>
  bS (gd x75 true (bP (pNil x89) fun y => some (y, G90)) G90) fun x91 G92 =>
  bS (gd x75 true (bP (fa Q q 220 2 2 x91) fun y => some (y, G92)) G92) fun x93 G94 =>
  bS (gd x75 true (bP (ld Q q 218 x93 G94) fun y => some (y, G94)) G94) fun x95 G96 =>
  bS (gd x75 true (bP (ef Q q true 218 (.tmp 50) (.const .nilFunc) x95 .nilFunc) fun y => some (y, G96)) G96) fun x97 G98 =>
  bP (pickV x75 x97 (.bool false)) fun x99 =>
  ifV x99 (
  bP (pNil v0) fun x100 =>
  bP (fa Q q 220 2 2 x100) fun x101 =>
  bP (ld Q q 218 x101 (G98.room 9)) fun x102 =>
  bP (pNil v0) fun x103 =>
  bP (fa Q q 220 3 3 x103) fun x104 =>
  bP (ld Q q 214 x104 (G98.room 9)) fun x105 =>
  bS (cValue e.ev x102 [x105] (G98.room 9)) fun x107 G106 =>
  some (.tuple #[x75, x88], G106)) (
  some (.tuple #[x75, x88], G98))) (
  bS (gd x75 true (some (v0, G76)) G76) fun x108 G109 =>
  bS (gd x75 true (bP (pNil x108) fun y => some (y, G109)) G109) fun x110 G111 =>
  bS (gd x75 true (bP (fa Q q 220 2 2 x110) fun y => some (y, G111)) G111) fun x112 G113 =>
  bS (gd x75 true (bP (ld Q q 218 x112 G113) fun y => some (y, G113)) G113) fun x114 G115 =>
  bS (gd x75 true (bP (ef Q q true 218 (.tmp 50) (.const .nilFunc) x114 .nilFunc) fun y => some (y, G115)) G115) fun x116 G117 =>
  bP (pickV x75 x116 (.bool false)) fun x118 =>
  ifV x118 (
  bP (pNil v0) fun x119 =>
  bP (fa Q q 220 2 2 x119) fun x120 =>
  bP (ld Q q 218 x120 (G117.room 9)) fun x121 =>
  bP (pNil v0) fun x122 =>
  bP (fa Q q 220 3 3 x122) fun x123 =>
  bP (ld Q q 214 x123 (G117.room 9)) fun x124 =>
  bS (cValue e.ev x121 [x124] (G117.room 9)) fun x126 G125 =>
  some (.tuple #[x75, (.int .u64 0)], G125)) (
  some (.tuple #[x75, (.int .u64 0)], G117))))
theorem m312 {e : Ex} {E : Ev} (h : ExLe Q e E) (v0 v1 : Value) (G : GS) : Ref (s312 true e v0 v1 G) (s312 false (Ex.of E) v0 v1 G) := by
  unfold s312
  exact Ref.go
theorem f312 {orc : FuncId → Bool} {e : Ex} (h : ExLe Q e (E orc)) (v0 v1 : Value) (G : GS) : Ref (s312 true e v0 v1 G) ((E orc).cl 312 [v0, v1] G) :=
  fun r hr => cl_sxE_some Q orc (vs := [v0, v1]) G Tryz.func312 (by kernel_rfl) (by kernel_rfl) (by kernel_rfl) (by kernel_rfl) (by kernel_rfl) (by kernel_rfl) (m312 h v0 v1 G r hr)
/-- (*coxswain/claim.Peek).Step -/
noncomputable def s313 (q : Bool) (e : Ex) (v0 v1 : Value) (G : GS) : Option (Value × GS) :=
  bP (ep Q q false 214 (.tmp 5) (.const (.pointer none)) v0 (.pointer none)) fun x0 =>
  bS (gd x0 false (some (v0, G)) G) fun x1 G2 =>
  bS (gd x0 false (bP (pNil x1) fun y => some (y, G2)) G2) fun x3 G4 =>
  bS (gd x0 false (bP (fa Q q 283 0 0 x3) fun y => some (y, G4)) G4) fun x5 G6 =>
  bS (gd x0 false (bS (e.ev.cl 314 [x5] G6) fun y G => some (y, G)) G6) fun x7 G8 =>
  bP (pickV x0 (.bool true) x7) fun x9 =>
  ifV x9 (
  some ((.bool true), G8)) (
  bP (pNil v0) fun x10 =>
  bP (fa Q q 283 0 0 x10) fun x11 =>
  bP (fa Q q 280 2 13 x11) fun x12 =>
  bP (ld Q q 3 x12 G8) fun x13 =>
  bP (bn Q q .eql 3 (.tmp 17) (.const (.int .i64 4)) x13 (.int .i64 4)) fun x14 =>
  ifV x14 (
  bP (pNil v0) fun x15 =>
  bP (fa Q q 283 0 0 x15) fun x16 =>
  bS (e.ev.cl 317 [x16, v1, (.int .i64 0)] G8) fun x17 G18 =>
  bP (pNil v0) fun x19 =>
  bP (fa Q q 283 0 0 x19) fun x20 =>
  bP (fa Q q 280 6 17 x20) fun x21 =>
  bP (fa Q q 46 0 0 x21) fun x22 =>
  bP (st Q q 38 1 x22 x17 G18) fun G23 =>
  bP (pNil v0) fun x24 =>
  bP (fa Q q 283 0 0 x24) fun x25 =>
  bP (fa Q q 280 2 13 x25) fun x26 =>
  bP (st Q q 3 1 x26 (.int .i64 5) G23) fun G27 =>
  bP (pNil v0) fun x28 =>
  bP (fa Q q 283 0 0 x28) fun x29 =>
  bP (fa Q q 280 2 13 x29) fun x30 =>
  bP (ld Q q 3 x30 G27) fun x31 =>
  bP (bn Q q .eql 3 (.tmp 54) (.const (.int .i64 99)) x31 (.int .i64 99)) fun x32 =>
  some (x32, G27)) (
  bP (bn Q q .eql 3 (.tmp 17) (.const (.int .i64 5)) x13 (.int .i64 5)) fun x33 =>
  ifV x33 (
  bP (pNil v0) fun x34 =>
  bP (fa Q q 283 0 0 x34) fun x35 =>
  bS (e.ev.cl 316 [x35, v1] G8) fun x36 G37 =>
  bP (pNil v0) fun x38 =>
  bP (fa Q q 283 0 0 x38) fun x39 =>
  bP (fa Q q 280 2 13 x39) fun x40 =>
  bP (st Q q 3 1 x40 (.int .i64 99) G37) fun G41 =>
  bP (pNil v0) fun x42 =>
  bP (fa Q q 283 0 0 x42) fun x43 =>
  bP (fa Q q 280 2 13 x43) fun x44 =>
  bP (ld Q q 3 x44 G41) fun x45 =>
  bP (bn Q q .eql 3 (.tmp 54) (.const (.int .i64 99)) x45 (.int .i64 99)) fun x46 =>
  some (x46, G41)) (
  bP (pNil v0) fun x47 =>
  bP (fa Q q 283 0 0 x47) fun x48 =>
  bS (e.ev.cl 315 [x48, v1] G8) fun x49 G50 =>
  bP (pNil v0) fun x51 =>
  bP (fa Q q 283 0 0 x51) fun x52 =>
  bP (fa Q q 280 2 13 x52) fun x53 =>
  bP (ld Q q 3 x53 G50) fun x54 =>
  bP (bn Q q .eql 3 (.tmp 54) (.const (.int .i64 99)) x54 (.int .i64 99)) fun x55 =>
  some (x55, G50))))
theorem m313 {e : Ex} {E : Ev} (h : ExLe Q e E) (v0 v1 : Value) (G : GS) : Ref (s313 true e v0 v1 G) (s313 false (Ex.of E) v0 v1 G) := by
  unfold s313
  exact Ref.go
theorem f313 {orc : FuncId → Bool} {e : Ex} (h : ExLe Q e (E orc)) (v0 v1 : Value) (G : GS) : Ref (s313 true e v0 v1 G) ((E orc).cl 313 [v0, v1] G) :=
  fun r hr => cl_sxE_some Q orc (vs := [v0, v1]) G Tryz.func313 (by kernel_rfl) (by kernel_rfl) (by kernel_rfl) (by kernel_rfl) (by kernel_rfl) (by kernel_rfl) (m313 h v0 v1 G r hr)
/-- (*coxswain/claim.seeker[struct{}]).done -/
noncomputable def s314 (q : Bool) (e : Ex) (v0 : Value) (G : GS) : Option (Value × GS) :=
  bP (pNil v0) fun x0 =>
  bP (fa Q q 280 8 20 x0) fun x1 =>
  bP (ld Q q 4 x1 G) fun x2 =>
  bP (un Q q .not x2) fun x3 =>
  bS (gd x3 false (some (v0, G)) G) fun x4 G5 =>
  bS (gd x3 false (bP (pNil x4) fun y => some (y, G5)) G5) fun x6 G7 =>
  bS (gd x3 false (bP (fa Q q 280 2 13 x6) fun y => some (y, G7)) G7) fun x8 G9 =>
  bS (gd x3 false (bP (ld Q q 3 x8 G9) fun y => some (y, G9)) G9) fun x10 G11 =>
  bS (gd x3 false (bP (bn Q q .eql 3 (.tmp 12) (.const (.int .i64 99)) x10 (.int .i64 99)) fun y => some (y, G11)) G11) fun x12 G13 =>
  bP (pickV x3 (.bool true) x12) fun x14 =>
  some (x14, G13)
theorem m314 {e : Ex} {E : Ev} (h : ExLe Q e E) (v0 : Value) (G : GS) : Ref (s314 true e v0 G) (s314 false (Ex.of E) v0 G) := by
  unfold s314
  exact Ref.go
theorem f314 {orc : FuncId → Bool} {e : Ex} (h : ExLe Q e (E orc)) (v0 : Value) (G : GS) : Ref (s314 true e v0 G) ((E orc).cl 314 [v0] G) :=
  fun r hr => cl_sxE_some Q orc (vs := [v0]) G Tryz.func314 (by kernel_rfl) (by kernel_rfl) (by kernel_rfl) (by kernel_rfl) (by kernel_rfl) (by kernel_rfl) (m314 h v0 G r hr)
/-- (*coxswain/claim.seeker[struct{}]).first -/
noncomputable def s315 (q : Bool) (e : Ex) (v0 v1 : Value) (G : GS) : Option (Value × GS) :=
  bP (pNil v0) fun x0 =>
  bP (fa Q q 280 2 13 x0) fun x1 =>
  bP (ld Q q 3 x1 G) fun x2 =>
  bP (bn Q q .eql 3 (.tmp 9) (.const (.int .i64 1)) x2 (.int .i64 1)) fun x3 =>
  ifV x3 (
  bP (pNil v0) fun x4 =>
  bP (fa Q q 280 7 19 x4) fun x5 =>
  bP (st Q q 38 1 x5 (.int .u64 0) G) fun G6 =>
  bP (pNil v0) fun x7 =>
  bP (fa Q q 280 0 0 x7) fun x8 =>
  bP (lda Q q 36 13 x8 G6) fun x9 =>
  bS (e.ev.cl 100 [x9, (.int .i64 (-1)), (.int .i64 0)] G6) fun x10 G11 =>
  bS (e.ev.cl 120 [v1, x10] G11) fun x12 G13 =>
  bP (pNil v0) fun x14 =>
  bP (fa Q q 280 3 14 x14) fun x15 =>
  bP (st Q q 38 1 x15 x12 G13) fun G16 =>
  bP (pNil v0) fun x17 =>
  bP (fa Q q 280 3 14 x17) fun x18 =>
  bP (ld Q q 38 x18 G16) fun x19 =>
  bS (e.ev.cl 221 [x19] G16) fun x20 G21 =>
  bP (pExtract x20 0) fun x22 =>
  bP (pExtract x20 1) fun x23 =>
  bS (al Q q 357 z357 G21) fun x24 G25 =>
  bP (st Q q 357 2 x24 x22 G25) fun G26 =>
  bP (fa Q q 357 0 0 x24) fun x27 =>
  bP (ld Q q 3 x27 G26) fun x28 =>
  bP (pNil v0) fun x29 =>
  bP (fa Q q 280 4 15 x29) fun x30 =>
  bP (st Q q 3 1 x30 x28 G26) fun G31 =>
  bP (pNil v0) fun x32 =>
  bP (fa Q q 280 2 13 x32) fun x33 =>
  bP (st Q q 3 1 x33 (.int .i64 2) G31) fun G34 =>
  bP (pNil v0) fun x35 =>
  bP (fa Q q 280 4 15 x35) fun x36 =>
  bP (ld Q q 3 x36 (G34.room 20)) fun x37 =>
  bP (bn Q q .lss 3 (.tmp 44) (.const (.int .i64 0)) x37 (.int .i64 0)) fun x38 =>
  bS (gd x38 false (some (v0, (G34.room 20))) (G34.room 20)) fun x39 _ =>
  bS (gd x38 false (bP (pNil x39) fun y => some (y, (G34.room 20))) (G34.room 20)) fun x40 _ =>
  bS (gd x38 false (bP (fa Q q 280 4 15 x40) fun y => some (y, (G34.room 20))) (G34.room 20)) fun x41 _ =>
  bS (gd x38 false (bP (ld Q q 3 x41 (G34.room 20)) fun y => some (y, (G34.room 20))) (G34.room 20)) fun x42 _ =>
  bS (gd x38 false (some (v0, (G34.room 20))) (G34.room 20)) fun x43 _ =>
  bS (gd x38 false (bP (pNil x43) fun y => some (y, (G34.room 20))) (G34.room 20)) fun x44 _ =>
  bS (gd x38 false (bP (fa Q q 280 0 0 x44) fun y => some (y, (G34.room 20))) (G34.room 20)) fun x45 _ =>
  bS (gd x38 false (bP (fa Q q 36 3 3 x45) fun y => some (y, (G34.room 20))) (G34.room 20)) fun x46 _ =>
  bS (gd x38 false (bP (fa Q q 34 0 0 x46) fun y => some (y, (G34.room 20))) (G34.room 20)) fun x47 _ =>
  bS (gd x38 false (bP (fa Q q 30 0 0 x47) fun y => some (y, (G34.room 20))) (G34.room 20)) fun x48 _ =>
  bS (gd x38 false (bP (fa Q q 28 2 2 x48) fun y => some (y, (G34.room 20))) (G34.room 20)) fun x49 _ =>
  bS (gd x38 false (bP (ld Q q 3 x49 (G34.room 20)) fun y => some (y, (G34.room 20))) (G34.room 20)) fun x50 _ =>
  bS (gd x38 false (bP (bn Q q .geq 3 (.tmp 50) (.tmp 58) x42 x50) fun y => some (y, (G34.room 20))) (G34.room 20)) fun x51 _ =>
  bP (pickV x38 (.bool true) x51) fun x52 =>
  ifV x52 (
  bP (pNil v0) fun x53 =>
  bP (fa Q q 280 2 13 x53) fun x54 =>
  bP (st Q q 3 1 x54 (.int .i64 99) (G34.room 20)) fun G55 =>
  bP (pNil v0) fun x56 =>
  bP (fa Q q 280 9 21 x56) fun x57 =>
  bP (st Q q 23 1 x57 (.int .i64 15) G55) fun G58 =>
  some (.tuple #[], G58)) (
  some (.tuple #[], (G34.room 20)))) (
  bP (bn Q q .eql 3 (.tmp 9) (.const (.int .i64 2)) x2 (.int .i64 2)) fun x59 =>
  ifV x59 (
  bS (e.ev.cl 317 [v0, v1, (.int .i64 4)] G) fun x60 G61 =>
  bP (pNil v0) fun x62 =>
  bP (fa Q q 280 5 16 x62) fun x63 =>
  bP (st Q q 188 1 x63 x60 G61) fun G64 =>
  bP (pNil v0) fun x65 =>
  bP (fa Q q 280 2 13 x65) fun x66 =>
  bP (st Q q 3 1 x66 (.int .i64 4) G64) fun G67 =>
  bP (pNil v0) fun x68 =>
  bP (fa Q q 280 5 16 x68) fun x69 =>
  bP (ld Q q 188 x69 G67) fun x70 =>
  bS (e.ev.cl 290 [x70] G67) fun x71 G72 =>
  ifV x71 (
  bP (pNil v0) fun x73 =>
  bP (fa Q q 280 2 13 x73) fun x74 =>
  bP (st Q q 3 1 x74 (.int .i64 3) G72) fun G75 =>
  some (.tuple #[], G75)) (
  some (.tuple #[], G72))) (
  bP (bn Q q .eql 3 (.tmp 9) (.const (.int .i64 3)) x2 (.int .i64 3)) fun x76 =>
  ifV x76 (
  bP (pNil v0) fun x77 =>
  bP (fa Q q 280 7 19 x77) fun x78 =>
  bP (st Q q 38 1 x78 (.int .u64 0) G) fun G79 =>
  bP (pNil v0) fun x80 =>
  bP (fa Q q 280 0 0 x80) fun x81 =>
  bP (lda Q q 36 13 x81 (G79.room 16)) fun x82 =>
  bS (e.ev.cl 100 [x82, (.int .i64 (-1)), (.int .i64 0)] (G79.room 16)) fun x84 G83 =>
  bP (pNil v0) fun x85 =>
  bP (fa Q q 280 3 14 x85) fun x86 =>
  bP (ld Q q 38 x86 G83) fun x87 =>
  chk ((sameO (ld Q q 38 x86 (G79.room 16)) x87 && true)) <|
  bP (pNil v0) fun x88 =>
  bP (fa Q q 280 5 16 x88) fun x89 =>
  bP (ld Q q 188 x89 G83) fun x90 =>
  chk ((sameO (ld Q q 188 x89 (G79.room 16)) x90 && true)) <|
  bS (e.ev.cl 291 [x90, (.bool false)] G83) fun x92 G91 =>
  chk ((sameO (ld Q q 38 x86 G91) x87 && true)) <|
  bS (e.ev.cl 242 [v1, x84, x87, x92] G91) fun x94 G93 =>
  bP (pNil v0) fun x95 =>
  bP (fa Q q 280 2 13 x95) fun x96 =>
  bP (st Q q 3 1 x96 (.int .i64 1) G93) fun G97 =>
  some (.tuple #[], G97)) (
  some (.tuple #[], G))))
theorem m315 {e : Ex} {E : Ev} (h : ExLe Q e E) (v0 v1 : Value) (G : GS) : Ref (s315 true e v0 v1 G) (s315 false (Ex.of E) v0 v1 G) := by
  unfold s315
  exact Ref.go
set_option maxHeartbeats 8000000 in
theorem f315 {orc : FuncId → Bool} {e : Ex} (h : ExLe Q e (E orc)) (v0 v1 : Value) (G : GS) : Ref (s315 true e v0 v1 G) ((E orc).cl 315 [v0, v1] G) :=
  fun r hr => cl_sxE_some Q orc (vs := [v0, v1]) G Tryz.func315 (by kernel_rfl) (by kernel_rfl) (by kernel_rfl) (by kernel_rfl) (by kernel_rfl) (by kernel_rfl) (m315 h v0 v1 G r hr)
/-- (*coxswain/claim.seeker[struct{}]).job -/
noncomputable def s316 (q : Bool) (e : Ex) (v0 v1 : Value) (G : GS) : Option (Value × GS) :=
  bS (e.ev.cl 317 [v0, v1, (.int .i64 1)] G) fun x0 G1 =>
  bP (bn Q q .and 38 (.tmp 7) (.const (.int .u64 65535)) x0 (.int .u64 65535)) fun x2 =>
  bP (cv Q q 38 3 .u64 .i64 x2) fun x3 =>
  bP (pNil v0) fun x4 =>
  bP (fa Q q 280 6 17 x4) fun x5 =>
  bP (fa Q q 46 1 1 x5) fun x6 =>
  bP (st Q q 3 1 x6 x3 G1) fun G7 =>
  some (.tuple #[], G7)
theorem m316 {e : Ex} {E : Ev} (h : ExLe Q e E) (v0 v1 : Value) (G : GS) : Ref (s316 true e v0 v1 G) (s316 false (Ex.of E) v0 v1 G) := by
  unfold s316
  exact Ref.go
theorem f316 {orc : FuncId → Bool} {e : Ex} (h : ExLe Q e (E orc)) (v0 v1 : Value) (G : GS) : Ref (s316 true e v0 v1 G) ((E orc).cl 316 [v0, v1] G) :=
  fun r hr => cl_sxE_some Q orc (vs := [v0, v1]) G Tryz.func316 (by kernel_rfl) (by kernel_rfl) (by kernel_rfl) (by kernel_rfl) (by kernel_rfl) (by kernel_rfl) (m316 h v0 v1 G r hr)
/-- (*coxswain/claim.seeker[struct{}]).load -/
noncomputable def s317 (q : Bool) (e : Ex) (v0 v1 v2 : Value) (G : GS) : Option (Value × GS) :=
  bP (pNil v0) fun x0 =>
  bP (fa Q q 280 3 14 x0) fun x1 =>
  bP (ld Q q 38 x1 G) fun x2 =>
  bP (pNil v0) fun x3 =>
  bP (fa Q q 280 7 19 x3) fun x4 =>
  bP (st Q q 38 1 x4 x2 G) fun G5 =>
  bP (pNil v0) fun x6 =>
  bP (fa Q q 280 0 0 x6) fun x7 =>
  bP (lda Q q 36 13 x7 (G5.room 13)) fun x8 =>
  bP (pNil v0) fun x9 =>
  bP (fa Q q 280 4 15 x9) fun x10 =>
  bP (ld Q q 3 x10 (G5.room 13)) fun x11 =>
  bS (e.ev.cl 87 [x8, x11, v2] (G5.room 13)) fun x13 G12 =>
  bS (e.ev.cl 120 [v1, x13] G12) fun x15 G14 =>
  some (x15, G14)
theorem m317 {e : Ex} {E : Ev} (h : ExLe Q e E) (v0 v1 v2 : Value) (G : GS) : Ref (s317 true e v0 v1 v2 G) (s317 false (Ex.of E) v0 v1 v2 G) := by
  unfold s317
  exact Ref.go
theorem f317 {orc : FuncId → Bool} {e : Ex} (h : ExLe Q e (E orc)) (v0 v1 v2 : Value) (G : GS) : Ref (s317 true e v0 v1 v2 G) ((E orc).cl 317 [v0, v1, v2] G) :=
  fun r hr => cl_sxE_some Q orc (vs := [v0, v1, v2]) G Tryz.func317 (by kernel_rfl) (by kernel_rfl) (by kernel_rfl) (by kernel_rfl) (by kernel_rfl) (by kernel_rfl) (m317 h v0 v1 v2 G r hr)
/-- (coxswain/tower.node).cells -/
noncomputable def s318 (q : Bool) (e : Ex) (v0 : Value) (G : GS) : Option (Value × GS) :=
  bP (bn Q q .add 3 (.const (.int .i64 4)) (.tmp 3) (.int .i64 4) v0) fun x0 =>
  some (x0, G)
theorem m318 {e : Ex} {E : Ev} (h : ExLe Q e E) (v0 : Value) (G : GS) : Ref (s318 true e v0 G) (s318 false (Ex.of E) v0 G) := by
  unfold s318
  exact Ref.go
theorem f318 {orc : FuncId → Bool} {e : Ex} (h : ExLe Q e (E orc)) (v0 : Value) (G : GS) : Ref (s318 true e v0 G) ((E orc).cl 318 [v0] G) :=
  fun r hr => cl_sxE_some Q orc (vs := [v0]) G Tryz.func318 (by kernel_rfl) (by kernel_rfl) (by kernel_rfl) (by kernel_rfl) (by kernel_rfl) (by kernel_rfl) (m318 h v0 G r hr)
/-- (coxswain/tower.head).cells -/
noncomputable def s319 (q : Bool) (e : Ex) (v0 : Value) (G : GS) : Option (Value × GS) :=
  some (v0, G)
theorem m319 {e : Ex} {E : Ev} (h : ExLe Q e E) (v0 : Value) (G : GS) : Ref (s319 true e v0 G) (s319 false (Ex.of E) v0 G) := by
  unfold s319
  exact Ref.go
theorem f319 {orc : FuncId → Bool} {e : Ex} (h : ExLe Q e (E orc)) (v0 : Value) (G : GS) : Ref (s319 true e v0 G) ((E orc).cl 319 [v0] G) :=
  fun r hr => cl_sxE_some Q orc (vs := [v0]) G Tryz.func319 (by kernel_rfl) (by kernel_rfl) (by kernel_rfl) (by kernel_rfl) (by kernel_rfl) (by kernel_rfl) (m319 h v0 G r hr)
/-- (*coxswain/ready.part[*coxswain/tower.Lay]).run -/
noncomputable def s320 (q : Bool) (e : Ex) (v0 v1 : Value) (G : GS) : Option (Value × GS) :=
  bP (pNil v0) fun x0 =>
  bP (fa Q q 297 4 4 x0) fun x1 =>
  bP (ld Q q 4 x1 G) fun x2 =>
  bP (un Q q .not x2) fun x3 =>
  ifV x3 (
  bP (pNil v0) fun x4 =>
  bP (fa Q q 297 0 0 x4) fun x5 =>
  bP (ld Q q 293 x5 G) fun x6 =>
  bS (cValue e.ev x6 [] G) fun x7 G8 =>
  bP (pNil v0) fun x9 =>
  bP (fa Q q 297 3 3 x9) fun x10 =>
  bP (st Q q 291 1 x10 x7 G8) fun G11 =>
  bP (pNil v0) fun x12 =>
  bP (fa Q q 297 4 4 x12) fun x13 =>
  bP (st Q q 4 1 x13 (.bool true) G11) fun G14 =>
  bP (pNil v0) fun x15 =>
  bP (fa Q q 297 3 3 x15) fun x16 =>
  bP (ld Q q 291 x16 G14) fun x17 =>
  bP (ifc Q q 291 x17) fun x18 =>
  bS (cInvoke Q e.ev x18 "Step" [v1] G14) fun x19 G20 =>
  bP (pNil v0) fun x21 =>
  bP (fa Q q 297 1 1 x21) fun x22 =>
  bP (ld Q q 294 x22 G20) fun x23 =>
  bP (ef Q q true 294 (.tmp 34) (.const .nilFunc) x23 .nilFunc) fun x24 =>
  ifV x24 (
  bP (pNil v0) fun x25 =>
  bP (fa Q q 297 1 1 x25) fun x26 =>
  bP (ld Q q 294 x26 (G20.room 10)) fun x27 =>
  bP (pNil v0) fun x28 =>
  bP (fa Q q 297 3 3 x28) fun x29 =>
  bP (ld Q q 291 x29 (G20.room 10)) fun x30 =>
  bS (cValue e.ev x27 [x30] (G20.room 10)) fun x32 G31 =>
  bS (gd x19 true (some (v0, G31)) G31) fun x33 G34 =>
  bS (gd x19 true (bP (pNil x33) fun y => some (y, G34)) G34) fun x35 G36 =>
  bS (gd x19 true (bP (fa Q q 297 2 2 x35) fun y => some (y, G36)) G36) fun x37 G38 =>
  bS (gd x19 true (bP (ld Q q 295 x37 G38) fun y => some (y, G38)) G38) fun x39 G40 =>
  bS (gd x19 true (bP (ef Q q true 295 (.tmp 50) (.const .nilFunc) x39 .nilFunc) fun y => some (y, G40)) G40) fun x41 G42 =>
  bP (pickV x19 x41 (.bool false)) fun x43 =>
  ifV x43 (
  bP (pNil v0) fun x44 =>
  bP (fa Q q 297 2 2 x44) fun x45 =>
  bP (ld Q q 295 x45 (G42.room 9)) fun x46 =>
  bP (pNil v0) fun x47 =>
  bP (fa Q q 297 3 3 x47) fun x48 =>
  bP (ld Q q 291 x48 (G42.room 9)) fun x49 =>
  bS (cValue e.ev x46 [x49] (G42.room 9)) fun x51 G50 =>
  some (.tuple #[x19, x32], G50)) (
  some (.tuple #[x19, x32], G42))) (
  bS (gd x19 true (some (v0, G20)) G20) fun x52 G53 =>
  bS (gd x19 true (bP (pNil x52) fun y => some (y, G53)) G53) fun x54 G55 =>
  bS (gd x19 true (bP (fa Q q 297 2 2 x54) fun y => some (y, G55)) G55) fun x56 G57 =>
  bS (gd x19 true (bP (ld Q q 295 x56 G57) fun y => some (y, G57)) G57) fun x58 G59 =>
  bS (gd x19 true (bP (ef Q q true 295 (.tmp 50) (.const .nilFunc) x58 .nilFunc) fun y => some (y, G59)) G59) fun x60 G61 =>
  bP (pickV x19 x60 (.bool false)) fun x62 =>
  ifV x62 (
  bP (pNil v0) fun x63 =>
  bP (fa Q q 297 2 2 x63) fun x64 =>
  bP (ld Q q 295 x64 (G61.room 9)) fun x65 =>
  bP (pNil v0) fun x66 =>
  bP (fa Q q 297 3 3 x66) fun x67 =>
  bP (ld Q q 291 x67 (G61.room 9)) fun x68 =>
  bS (cValue e.ev x65 [x68] (G61.room 9)) fun x70 G69 =>
  some (.tuple #[x19, (.int .u64 0)], G69)) (
  some (.tuple #[x19, (.int .u64 0)], G61)))) (
  bP (pNil v0) fun x71 =>
  bP (fa Q q 297 3 3 x71) fun x72 =>
  bP (ld Q q 291 x72 G) fun x73 =>
  bP (ifc Q q 291 x73) fun x74 =>
  bS (cInvoke Q e.ev x74 "Step" [v1] G) fun x75 G76 =>
  bP (pNil v0) fun x77 =>
  bP (fa Q q 297 1 1 x77) fun x78 =>
  bP (ld Q q 294 x78 G76) fun x79 =>
  bP (ef Q q true 294 (.tmp 34) (.const .nilFunc) x79 .nilFunc) fun x80 =>
  ifV x80 (
  bP (pNil v0) fun x81 =>
  bP (fa Q q 297 1 1 x81) fun x82 =>
  bP (ld Q q 294 x82 (G76.room 10)) fun x83 =>
  bP (pNil v0) fun x84 =>
  bP (fa Q q 297 3 3 x84) fun x85 =>
  bP (ld Q q 291 x85 (G76.room 10)) fun x86 =>
  bS (cValue e.ev x83 [x86] (G76.room 10)) fun x88 G87 =>
  bS (gd x75 true (some (v0, G87)) G87) fun x89 G90 =>
  bS (gd x75 true (bP (pNil x89) fun y => some (y, G90)) G90) fun x91 G92 =>
  bS (gd x75 true (bP (fa Q q 297 2 2 x91) fun y => some (y, G92)) G92) fun x93 G94 =>
  bS (gd x75 true (bP (ld Q q 295 x93 G94) fun y => some (y, G94)) G94) fun x95 G96 =>
  bS (gd x75 true (bP (ef Q q true 295 (.tmp 50) (.const .nilFunc) x95 .nilFunc) fun y => some (y, G96)) G96) fun x97 G98 =>
  bP (pickV x75 x97 (.bool false)) fun x99 =>
  ifV x99 (
  bP (pNil v0) fun x100 =>
  bP (fa Q q 297 2 2 x100) fun x101 =>
  bP (ld Q q 295 x101 (G98.room 9)) fun x102 =>
  bP (pNil v0) fun x103 =>
  bP (fa Q q 297 3 3 x103) fun x104 =>
  bP (ld Q q 291 x104 (G98.room 9)) fun x105 =>
  bS (cValue e.ev x102 [x105] (G98.room 9)) fun x107 G106 =>
  some (.tuple #[x75, x88], G106)) (
  some (.tuple #[x75, x88], G98))) (
  bS (gd x75 true (some (v0, G76)) G76) fun x108 G109 =>
  bS (gd x75 true (bP (pNil x108) fun y => some (y, G109)) G109) fun x110 G111 =>
  bS (gd x75 true (bP (fa Q q 297 2 2 x110) fun y => some (y, G111)) G111) fun x112 G113 =>
  bS (gd x75 true (bP (ld Q q 295 x112 G113) fun y => some (y, G113)) G113) fun x114 G115 =>
  bS (gd x75 true (bP (ef Q q true 295 (.tmp 50) (.const .nilFunc) x114 .nilFunc) fun y => some (y, G115)) G115) fun x116 G117 =>
  bP (pickV x75 x116 (.bool false)) fun x118 =>
  ifV x118 (
  bP (pNil v0) fun x119 =>
  bP (fa Q q 297 2 2 x119) fun x120 =>
  bP (ld Q q 295 x120 (G117.room 9)) fun x121 =>
  bP (pNil v0) fun x122 =>
  bP (fa Q q 297 3 3 x122) fun x123 =>
  bP (ld Q q 291 x123 (G117.room 9)) fun x124 =>
  bS (cValue e.ev x121 [x124] (G117.room 9)) fun x126 G125 =>
  some (.tuple #[x75, (.int .u64 0)], G125)) (
  some (.tuple #[x75, (.int .u64 0)], G117))))
theorem m320 {e : Ex} {E : Ev} (h : ExLe Q e E) (v0 v1 : Value) (G : GS) : Ref (s320 true e v0 v1 G) (s320 false (Ex.of E) v0 v1 G) := by
  unfold s320
  exact Ref.go
theorem f320 {orc : FuncId → Bool} {e : Ex} (h : ExLe Q e (E orc)) (v0 v1 : Value) (G : GS) : Ref (s320 true e v0 v1 G) ((E orc).cl 320 [v0, v1] G) :=
  fun r hr => cl_sxE_some Q orc (vs := [v0, v1]) G Tryz.func320 (by kernel_rfl) (by kernel_rfl) (by kernel_rfl) (by kernel_rfl) (by kernel_rfl) (by kernel_rfl) (m320 h v0 v1 G r hr)
noncomputable def b321_0 (q : Bool) (e : Ex) (lp : Env → GS → Option (Exit × Env × GS)) (τ : Env) (G : GS) : Option (Exit × Env × GS) :=
  bV q (τ 0) fun a0_ =>
  bV q (τ 1) fun a1_ =>
  bV q (τ 12) fun a12_ =>
  bV q (τ 13) fun a13_ =>
  bP (bn Q q .lss 3 (.tmp 13) (.const (.int .i64 4)) a13_ (.int .i64 4)) fun x0 =>
  ifV x0 (
  bP (ix Q q 333 4 a12_ a13_) fun x1 =>
  bP (pNil a0_) fun x2 =>
  bP (fa Q q 335 3 6 x2) fun x3 =>
  bP (ld Q q 3 x3 G) fun x4 =>
  bP (bn Q q .eql 3 (.tmp 17) (.tmp 21) a13_ x4) fun x5 =>
  ifV x5 (
  bS (cValue e.ev x1 [a1_] G) fun x6 G7 =>
  some ((.exit 0), clq q 36 (tu τ [(0, a0_), (1, a1_), (12, a12_), (13, a13_), (5, a13_), (6, x1), (14, x0), (15, a13_), (16, x1), (17, a13_), (18, a0_), (19, x2), (20, x3), (21, x4), (22, x5), (23, x1), (24, a1_), (25, x6)]), G7)) (
  bP (bn Q q .add 3 (.tmp 13) (.const (.int .i64 1)) a13_ (.int .i64 1)) fun x8 =>
  lp (tu τ [(0, a0_), (1, a1_), (12, a12_), (13, x8), (5, a13_), (6, x1), (14, x0), (15, a13_), (16, x1), (17, a13_), (18, a0_), (19, x2), (20, x3), (21, x4), (22, x5), (26, x8)]) G)) (
  some ((.exit 0), clq q 36 (tu τ [(0, a0_), (1, a1_), (12, a12_), (13, a13_), (14, x0)]), G))
theorem mb321_0 {e : Ex} {E : Ev} (h : ExLe Q e E) {lp lp' : Env → GS → Option (Exit × Env × GS)} (hlp : LpLe lp lp') (τ : Env) (G : GS) : Ref (b321_0 true e lp τ G) (b321_0 false (Ex.of E) lp' τ G) := by
  unfold b321_0
  exact Ref.go
theorem l321_0 {orc : FuncId → Bool} {e : Ex} (h : ExLe Q e (E orc)) (lp : Env → GS → Option (Exit × Env × GS)) (hlp : ∀ τ G, Ref (lp τ G) (mapE ((E orc).lp (subAt [1, 1, 0, 1, 0, 0] (bodyOf Tryz.f321)) (lst 36 τ) G))) (T : List Value) (G : GS) (hT : T.length = 36) : Ref (b321_0 true e lp (nth undef T) G) (mapE ((E orc).lp (subAt [1, 1, 0, 1, 0, 0] (bodyOf Tryz.f321)) T G)) :=
  fun r hr => lp_sxM Q orc G hT (by kernel_rfl) (mb321_0 h ⟨hlp⟩ _ _ r hr)
/-- (*coxswain/tower.Lay).Step -/
noncomputable def s321 (q : Bool) (e : Ex) (v0 v1 : Value) (G : GS) : Option (Value × GS) :=
  bS (e.ev.cl 322 [v0] G) fun x0 G1 =>
  ifV x0 (
  some ((.bool true), G1)) (
  bP (pNil v0) fun x2 =>
  bP (fa Q q 335 2 2 x2) fun x3 =>
  bP (lda Q q 333 4 x3 G1) fun x4 =>
  bL q e 321 0 (subAt [1, 1, 0, 1, 0, 0] (bodyOf Tryz.f321)) 36 (tu (nth undef [v0, v1]) [(4, (.bool false)), (7, v0), (8, x0), (9, v0), (10, x2), (11, x3), (12, x4), (13, (.int .i64 0))]) G1 fun e5 t6 G7 =>
  bV q (t6 0) fun t6x0_ =>
  ifE e5 (.exit 0) (
  bP (pNil t6x0_) fun x8 =>
  bP (fa Q q 335 3 6 x8) fun x9 =>
  bP (ld Q q 3 x9 G7) fun x10 =>
  bP (bn Q q .add 3 (.tmp 30) (.const (.int .i64 1)) x10 (.int .i64 1)) fun x11 =>
  bP (pNil t6x0_) fun x12 =>
  bP (fa Q q 335 3 6 x12) fun x13 =>
  bP (st Q q 3 1 x13 x11 G7) fun G14 =>
  bS (e.ev.cl 322 [t6x0_] G14) fun x15 G16 =>
  some (x15, G16)) (none))
theorem m321 {e : Ex} {E : Ev} (h : ExLe Q e E) (v0 v1 : Value) (G : GS) : Ref (s321 true e v0 v1 G) (s321 false (Ex.of E) v0 v1 G) := by
  unfold s321
  exact Ref.go
theorem f321 {orc : FuncId → Bool} {e : Ex} (h : ExLe Q e (E orc)) (v0 v1 : Value) (G : GS) : Ref (s321 true e v0 v1 G) ((E orc).cl 321 [v0, v1] G) :=
  fun r hr => cl_sxE_some Q orc (vs := [v0, v1]) G Tryz.func321 (by kernel_rfl) (by kernel_rfl) (by kernel_rfl) (by kernel_rfl) (by kernel_rfl) (by kernel_rfl) (m321 h v0 v1 G r hr)
/-- (*coxswain/tower.Lay).over -/
noncomputable def s322 (q : Bool) (e : Ex) (v0 : Value) (G : GS) : Option (Value × GS) :=
  bP (ep Q q false 291 (.tmp 3) (.const (.pointer none)) v0 (.pointer none)) fun x0 =>
  bS (gd x0 false (some (v0, G)) G) fun x1 G2 =>
  bS (gd x0 false (bP (pNil x1) fun y => some (y, G2)) G2) fun x3 G4 =>
  bS (gd x0 false (bP (fa Q q 335 0 0 x3) fun y => some (y, G4)) G4) fun x5 G6 =>
  bS (gd x0 false (bP (ld Q q 4 x5 G6) fun y => some (y, G6)) G6) fun x7 G8 =>
  bS (gd x0 false (bP (un Q q .not x7) fun y => some (y, G8)) G8) fun x9 G10 =>
  bP (pickV x0 (.bool true) x9) fun x11 =>
  bS (gd x11 false (some (v0, G10)) G10) fun x12 G13 =>
  bS (gd x11 false (bP (pNil x12) fun y => some (y, G13)) G13) fun x14 G15 =>
  bS (gd x11 false (bP (fa Q q 335 3 6 x14) fun y => some (y, G15)) G15) fun x16 G17 =>
  bS (gd x11 false (bP (ld Q q 3 x16 G17) fun y => some (y, G17)) G17) fun x18 G19 =>
  bS (gd x11 false (bP (bn Q q .eql 3 (.tmp 16) (.const (.int .i64 4)) x18 (.int .i64 4)) fun y => some (y, G19)) G19) fun x20 G21 =>
  bP (pickV x11 (.bool true) x20) fun x22 =>
  some (x22, G21)
theorem m322 {e : Ex} {E : Ev} (h : ExLe Q e E) (v0 : Value) (G : GS) : Ref (s322 true e v0 G) (s322 false (Ex.of E) v0 G) := by
  unfold s322
  exact Ref.go
theorem f322 {orc : FuncId → Bool} {e : Ex} (h : ExLe Q e (E orc)) (v0 : Value) (G : GS) : Ref (s322 true e v0 G) ((E orc).cl 322 [v0] G) :=
  fun r hr => cl_sxE_some Q orc (vs := [v0]) G Tryz.func322 (by kernel_rfl) (by kernel_rfl) (by kernel_rfl) (by kernel_rfl) (by kernel_rfl) (by kernel_rfl) (m322 h v0 G r hr)
/-- (*coxswain/ready.part[*coxswain/insert.Insert]).run -/
noncomputable def s323 (q : Bool) (e : Ex) (v0 v1 : Value) (G : GS) : Option (Value × GS) :=
  bP (pNil v0) fun x0 =>
  bP (fa Q q 305 4 4 x0) fun x1 =>
  bP (ld Q q 4 x1 G) fun x2 =>
  bP (un Q q .not x2) fun x3 =>
  ifV x3 (
  bP (pNil v0) fun x4 =>
  bP (fa Q q 305 0 0 x4) fun x5 =>
  bP (ld Q q 301 x5 G) fun x6 =>
  bS (cValue e.ev x6 [] G) fun x7 G8 =>
  bP (pNil v0) fun x9 =>
  bP (fa Q q 305 3 3 x9) fun x10 =>
  bP (st Q q 299 1 x10 x7 G8) fun G11 =>
  bP (pNil v0) fun x12 =>
  bP (fa Q q 305 4 4 x12) fun x13 =>
  bP (st Q q 4 1 x13 (.bool true) G11) fun G14 =>
  bP (pNil v0) fun x15 =>
  bP (fa Q q 305 3 3 x15) fun x16 =>
  bP (ld Q q 299 x16 G14) fun x17 =>
  bP (ifc Q q 299 x17) fun x18 =>
  bS (cInvoke Q e.ev x18 "Step" [v1] G14) fun x19 G20 =>
  bP (pNil v0) fun x21 =>
  bP (fa Q q 305 1 1 x21) fun x22 =>
  bP (ld Q q 302 x22 G20) fun x23 =>
  bP (ef Q q true 302 (.tmp 34) (.const .nilFunc) x23 .nilFunc) fun x24 =>
  ifV x24 (
  bP (pNil v0) fun x25 =>
  bP (fa Q q 305 1 1 x25) fun x26 =>
  bP (ld Q q 302 x26 (G20.room 10)) fun x27 =>
  bP (pNil v0) fun x28 =>
  bP (fa Q q 305 3 3 x28) fun x29 =>
  bP (ld Q q 299 x29 (G20.room 10)) fun x30 =>
  bS (cValue e.ev x27 [x30] (G20.room 10)) fun x32 G31 =>
  bS (gd x19 true (some (v0, G31)) G31) fun x33 G34 =>
  bS (gd x19 true (bP (pNil x33) fun y => some (y, G34)) G34) fun x35 G36 =>
  bS (gd x19 true (bP (fa Q q 305 2 2 x35) fun y => some (y, G36)) G36) fun x37 G38 =>
  bS (gd x19 true (bP (ld Q q 303 x37 G38) fun y => some (y, G38)) G38) fun x39 G40 =>
  bS (gd x19 true (bP (ef Q q true 303 (.tmp 50) (.const .nilFunc) x39 .nilFunc) fun y => some (y, G40)) G40) fun x41 G42 =>
  bP (pickV x19 x41 (.bool false)) fun x43 =>
  ifV x43 (
  bP (pNil v0) fun x44 =>
  bP (fa Q q 305 2 2 x44) fun x45 =>
  bP (ld Q q 303 x45 (G42.room 9)) fun x46 =>
  bP (pNil v0) fun x47 =>
  bP (fa Q q 305 3 3 x47) fun x48 =>
  bP (ld Q q 299 x48 (G42.room 9)) fun x49 =>
  bS (cValue e.ev x46 [x49] (G42.room 9)) fun x51 G50 =>
  some (.tuple #[x19, x32], G50)) (
  some (.tuple #[x19, x32], G42))) (
  bS (gd x19 true (some (v0, G20)) G20) fun x52 G53 =>
  bS (gd x19 true (bP (pNil x52) fun y => some (y, G53)) G53) fun x54 G55 =>
  bS (gd x19 true (bP (fa Q q 305 2 2 x54) fun y => some (y, G55)) G55) fun x56 G57 =>
  bS (gd x19 true (bP (ld Q q 303 x56 G57) fun y => some (y, G57)) G57) fun x58 G59 =>
  bS (gd x19 true (bP (ef Q q true 303 (.tmp 50) (.const .nilFunc) x58 .nilFunc) fun y => some (y, G59)) G59) fun x60 G61 =>
  bP (pickV x19 x60 (.bool false)) fun x62 =>
  ifV x62 (
  bP (pNil v0) fun x63 =>
  bP (fa Q q 305 2 2 x63) fun x64 =>
  bP (ld Q q 303 x64 (G61.room 9)) fun x65 =>
  bP (pNil v0) fun x66 =>
  bP (fa Q q 305 3 3 x66) fun x67 =>
  bP (ld Q q 299 x67 (G61.room 9)) fun x68 =>
  bS (cValue e.ev x65 [x68] (G61.room 9)) fun x70 G69 =>
  some (.tuple #[x19, (.int .u64 0)], G69)) (
  some (.tuple #[x19, (.int .u64 0)], G61)))) (
  bP (pNil v0) fun x71 =>
  bP (fa Q q 305 3 3 x71) fun x72 =>
  bP (ld Q q 299 x72 G) fun x73 =>
  bP (ifc Q q 299 x73) fun x74 =>
  bS (cInvoke Q e.ev x74 "Step" [v1] G) fun x75 G76 =>
  bP (pNil v0) fun x77 =>
  bP (fa Q q 305 1 1 x77) fun x78 =>
  bP (ld Q q 302 x78 G76) fun x79 =>
  bP (ef Q q true 302 (.tmp 34) (.const .nilFunc) x79 .nilFunc) fun x80 =>
  ifV x80 (
  bP (pNil v0) fun x81 =>
  bP (fa Q q 305 1 1 x81) fun x82 =>
  bP (ld Q q 302 x82 (G76.room 10)) fun x83 =>
  bP (pNil v0) fun x84 =>
  bP (fa Q q 305 3 3 x84) fun x85 =>
  bP (ld Q q 299 x85 (G76.room 10)) fun x86 =>
  bS (cValue e.ev x83 [x86] (G76.room 10)) fun x88 G87 =>
  bS (gd x75 true (some (v0, G87)) G87) fun x89 G90 =>
  bS (gd x75 true (bP (pNil x89) fun y => some (y, G90)) G90) fun x91 G92 =>
  bS (gd x75 true (bP (fa Q q 305 2 2 x91) fun y => some (y, G92)) G92) fun x93 G94 =>
  bS (gd x75 true (bP (ld Q q 303 x93 G94) fun y => some (y, G94)) G94) fun x95 G96 =>
  bS (gd x75 true (bP (ef Q q true 303 (.tmp 50) (.const .nilFunc) x95 .nilFunc) fun y => some (y, G96)) G96) fun x97 G98 =>
  bP (pickV x75 x97 (.bool false)) fun x99 =>
  ifV x99 (
  bP (pNil v0) fun x100 =>
  bP (fa Q q 305 2 2 x100) fun x101 =>
  bP (ld Q q 303 x101 (G98.room 9)) fun x102 =>
  bP (pNil v0) fun x103 =>
  bP (fa Q q 305 3 3 x103) fun x104 =>
  bP (ld Q q 299 x104 (G98.room 9)) fun x105 =>
  bS (cValue e.ev x102 [x105] (G98.room 9)) fun x107 G106 =>
  some (.tuple #[x75, x88], G106)) (
  some (.tuple #[x75, x88], G98))) (
  bS (gd x75 true (some (v0, G76)) G76) fun x108 G109 =>
  bS (gd x75 true (bP (pNil x108) fun y => some (y, G109)) G109) fun x110 G111 =>
  bS (gd x75 true (bP (fa Q q 305 2 2 x110) fun y => some (y, G111)) G111) fun x112 G113 =>
  bS (gd x75 true (bP (ld Q q 303 x112 G113) fun y => some (y, G113)) G113) fun x114 G115 =>
  bS (gd x75 true (bP (ef Q q true 303 (.tmp 50) (.const .nilFunc) x114 .nilFunc) fun y => some (y, G115)) G115) fun x116 G117 =>
  bP (pickV x75 x116 (.bool false)) fun x118 =>
  ifV x118 (
  bP (pNil v0) fun x119 =>
  bP (fa Q q 305 2 2 x119) fun x120 =>
  bP (ld Q q 303 x120 (G117.room 9)) fun x121 =>
  bP (pNil v0) fun x122 =>
  bP (fa Q q 305 3 3 x122) fun x123 =>
  bP (ld Q q 299 x123 (G117.room 9)) fun x124 =>
  bS (cValue e.ev x121 [x124] (G117.room 9)) fun x126 G125 =>
  some (.tuple #[x75, (.int .u64 0)], G125)) (
  some (.tuple #[x75, (.int .u64 0)], G117))))
theorem m323 {e : Ex} {E : Ev} (h : ExLe Q e E) (v0 v1 : Value) (G : GS) : Ref (s323 true e v0 v1 G) (s323 false (Ex.of E) v0 v1 G) := by
  unfold s323
  exact Ref.go
theorem f323 {orc : FuncId → Bool} {e : Ex} (h : ExLe Q e (E orc)) (v0 v1 : Value) (G : GS) : Ref (s323 true e v0 v1 G) ((E orc).cl 323 [v0, v1] G) :=
  fun r hr => cl_sxE_some Q orc (vs := [v0, v1]) G Tryz.func323 (by kernel_rfl) (by kernel_rfl) (by kernel_rfl) (by kernel_rfl) (by kernel_rfl) (by kernel_rfl) (m323 h v0 v1 G r hr)
/-- (*coxswain/insert.Insert).Step -/
noncomputable def s324 (q : Bool) (e : Ex) (v0 v1 : Value) (G : GS) : Option (Value × GS) :=
  bP (ep Q q false 299 (.tmp 6) (.const (.pointer none)) v0 (.pointer none)) fun x0 =>
  bS (gd x0 false (some (v0, G)) G) fun x1 G2 =>
  bS (gd x0 false (bP (pNil x1) fun y => some (y, G2)) G2) fun x3 G4 =>
  bS (gd x0 false (bP (fa Q q 340 7 19 x3) fun y => some (y, G4)) G4) fun x5 G6 =>
  bS (gd x0 false (bP (ld Q q 338 x5 G6) fun y => some (y, G6)) G6) fun x7 G8 =>
  bS (gd x0 false (bP (bn Q q .eql 338 (.tmp 12) (.const (.int .i64 0)) x7 (.int .i64 0)) fun y => some (y, G8)) G8) fun x9 G10 =>
  bP (pickV x0 (.bool true) x9) fun x11 =>
  ifV x11 (
  some ((.bool true), G10)) (
  bS (e.ev.cl 325 [] G10) fun x12 G13 =>
  bS (al Q q 423 z423 G13) fun x14 G15 =>
  bP (st Q q 423 13 x14 x12 G15) fun G16 =>
  bP (pNil v0) fun x17 =>
  bP (fa Q q 340 7 19 x17) fun x18 =>
  bP (ld Q q 338 x18 G16) fun x19 =>
  bP (iaa Q q 423 13 1 x14 x19) fun x20 =>
  bP (ld Q q 422 x20 G16) fun x21 =>
  bS (cValue e.ev x21 [v0, v1] G16) fun x22 G23 =>
  bP (pNil v0) fun x24 =>
  bP (fa Q q 340 7 19 x24) fun x25 =>
  bP (st Q q 338 1 x25 x22 G23) fun G26 =>
  bP (pNil v0) fun x27 =>
  bP (fa Q q 340 7 19 x27) fun x28 =>
  bP (ld Q q 338 x28 G26) fun x29 =>
  bP (bn Q q .eql 338 (.tmp 31) (.const (.int .i64 0)) x29 (.int .i64 0)) fun x30 =>
  some (x30, G26))
theorem m324 {e : Ex} {E : Ev} (h : ExLe Q e E) (v0 v1 : Value) (G : GS) : Ref (s324 true e v0 v1 G) (s324 false (Ex.of E) v0 v1 G) := by
  unfold s324
  exact Ref.go
theorem f324 {orc : FuncId → Bool} {e : Ex} (h : ExLe Q e (E orc)) (v0 v1 : Value) (G : GS) : Ref (s324 true e v0 v1 G) ((E orc).cl 324 [v0, v1] G) :=
  fun r hr => cl_sxE_some Q orc (vs := [v0, v1]) G Tryz.func324 (by kernel_rfl) (by kernel_rfl) (by kernel_rfl) (by kernel_rfl) (by kernel_rfl) (by kernel_rfl) (m324 h v0 v1 G r hr)
/-- coxswain/insert.table -/
noncomputable def s325 (q : Bool) (e : Ex) (G : GS) : Option (Value × GS) :=
  bS (al Q q 423 z423 G) fun x0 G1 =>
  bP (bd Q q 423 z423 [(1, 1, 1), (2, 2, 1), (3, 3, 1), (4, 4, 1), (5, 5, 1), (6, 6, 1), (7, 7, 1), (8, 8, 1), (9, 9, 1), (10, 10, 1), (11, 11, 1), (12, 12, 1)] [(.func (.func 326) #[] #[]), (.func (.func 327) #[] #[]), (.func (.func 328) #[] #[]), (.func (.func 329) #[] #[]), (.func (.func 330) #[] #[]), (.func (.func 331) #[] #[]), (.func (.func 332) #[] #[]), (.func (.func 333) #[] #[]), (.func (.func 334) #[] #[]), (.func (.func 335) #[] #[]), (.func (.func 336) #[] #[]), (.func (.func 337) #[] #[])]) fun x2 =>
  bP (st Q q 423 13 x0 x2 G1) fun G3 =>
  bP (lda Q q 423 13 x0 G3) fun x4 =>
  some (x4, G3)
theorem m325 {e : Ex} {E : Ev} (h : ExLe Q e E) (G : GS) : Ref (s325 true e  G) (s325 false (Ex.of E)  G) := by
  unfold s325
  exact Ref.go
theorem f325 {orc : FuncId → Bool} {e : Ex} (h : ExLe Q e (E orc)) (ho : orc 325 = false) (G : GS) : Ref (s325 true e  G) ((E orc).cl 325 [] G) :=
  fun r hr => cl_sxE_some Q orc (vs := []) G Tryz.func325 (by kernel_rfl) (by kernel_rfl) ho (by kernel_rfl) (by kernel_rfl) (by kernel_rfl) (m325 h  G r hr)
/-- (*coxswain/insert.Insert).find -/
noncomputable def s326 (q : Bool) (e : Ex) (v0 v1 : Value) (G : GS) : Option (Value × GS) :=
  bS (e.ev.cl 338 [v0, v1] G) fun x0 G1 =>
  bP (un Q q .not x0) fun x2 =>
  ifV x2 (
  some ((.int .i64 1), G1)) (
  bP (pNil v0) fun x3 =>
  bP (fa Q q 340 8 20 x3) fun x4 =>
  bP (st Q q 3 1 x4 (.int .i64 0) G1) fun G5 =>
  some ((.int .i64 2), G5))
theorem m326 {e : Ex} {E : Ev} (h : ExLe Q e E) (v0 v1 : Value) (G : GS) : Ref (s326 true e v0 v1 G) (s326 false (Ex.of E) v0 v1 G) := by
  unfold s326
  exact Ref.go
theorem f326 {orc : FuncId → Bool} {e : Ex} (h : ExLe Q e (E orc)) (v0 v1 : Value) (G : GS) : Ref (s326 true e v0 v1 G) ((E orc).cl 326 [v0, v1] G) :=
  fun r hr => cl_sxE_some Q orc (vs := [v0, v1]) G Tryz.func326 (by kernel_rfl) (by kernel_rfl) (by kernel_rfl) (by kernel_rfl) (by kernel_rfl) (by kernel_rfl) (m326 h v0 v1 G r hr)
noncomputable def b327_0 (q : Bool) (e : Ex) (lp : Env → GS → Option (Exit × Env × GS)) (τ : Env) (G : GS) : Option (Exit × Env × GS) :=
  bV q (τ 0) fun a0_ =>
  bV q (τ 1) fun a1_ =>
  bV q (τ 16) fun a16_ =>
  bV q (τ 17) fun a17_ =>
  bP (bn Q q .lss 3 (.tmp 17) (.tmp 16) a17_ a16_) fun x0 =>
  ifV x0 (
  bP (pNil a0_) fun x1 =>
  bP (fa Q q 340 8 20 x1) fun x2 =>
  bP (ld Q q 3 x2 G) fun x3 =>
  bP (bn Q q .neq 3 (.tmp 20) (.tmp 24) a17_ x3) fun x4 =>
  ifV x4 (
  bP (bn Q q .add 3 (.tmp 17) (.const (.int .i64 1)) a17_ (.int .i64 1)) fun x5 =>
  lp (tu τ [(0, a0_), (1, a1_), (16, a16_), (17, x5), (5, a17_), (18, x0), (19, a17_), (20, a17_), (21, a0_), (22, x1), (23, x2), (24, x3), (25, x4), (46, x5)]) G) (
  bP (pNil a0_) fun x6 =>
  bP (fa Q q 340 0 0 x6) fun x7 =>
  bP (lda Q q 36 13 x7 (G.room 20)) fun x8 =>
  bP (pNil a0_) fun x9 =>
  bP (fa Q q 340 5 17 x9) fun x10 =>
  bP (ld Q q 3 x10 (G.room 20)) fun x11 =>
  bS (e.ev.cl 100 [x8, x11, a17_] (G.room 20)) fun x13 G12 =>
  bP (pNil a0_) fun x14 =>
  bP (fa Q q 340 10 22 x14) fun x15 =>
  bP (ld Q q 184 x15 G12) fun x16 =>
  chk ((sameO (ld Q q 184 x15 (G.room 20)) x16 && true)) <|
  bS (e.ev.cl 339 [x16] G12) fun x18 G17 =>
  bP (ias Q q 90 1 x18 a17_) fun x19 =>
  bP (ld Q q 38 x19 G17) fun x20 =>
  bS (e.ev.cl 29 [a1_, x13, x20] G17) fun x22 G21 =>
  bP (bn Q q .add 3 (.tmp 17) (.const (.int .i64 1)) a17_ (.int .i64 1)) fun x23 =>
  lp (tu τ [(0, a0_), (1, a1_), (16, a16_), (17, x23), (5, a17_), (18, x0), (19, a17_), (20, a17_), (21, a0_), (22, x1), (23, x2), (24, x3), (25, x4), (26, a1_), (27, a0_), (28, x6), (29, x7), (30, x8), (31, a0_), (32, x9), (33, x10), (34, x11), (35, a17_), (36, x13), (37, a0_), (38, x14), (39, x15), (40, x16), (41, x18), (42, a17_), (43, x19), (44, x20), (45, x22), (46, x23)]) G21)) (
  some ((.exit 0), clq q 66 (tu τ [(0, a0_), (1, a1_), (16, a16_), (17, a17_), (18, x0)]), G))
theorem mb327_0 {e : Ex} {E : Ev} (h : ExLe Q e E) {lp lp' : Env → GS → Option (Exit × Env × GS)} (hlp : LpLe lp lp') (τ : Env) (G : GS) : Ref (b327_0 true e lp τ G) (b327_0 false (Ex.of E) lp' τ G) := by
  unfold b327_0
  exact Ref.go
theorem l327_0 {orc : FuncId → Bool} {e : Ex} (h : ExLe Q e (E orc)) (lp : Env → GS → Option (Exit × Env × GS)) (hlp : ∀ τ G, Ref (lp τ G) (mapE ((E orc).lp (subAt [1, 0, 1, 1, 0, 1, 0, 0] (bodyOf Tryz.f327)) (lst 66 τ) G))) (T : List Value) (G : GS) (hT : T.length = 66) : Ref (b327_0 true e lp (nth undef T) G) (mapE ((E orc).lp (subAt [1, 0, 1, 1, 0, 1, 0, 0] (bodyOf Tryz.f327)) T G)) :=
  fun r hr => lp_sxM Q orc G hT (by kernel_rfl) (mb327_0 h ⟨hlp⟩ _ _ r hr)
/-- (*coxswain/insert.Insert).store -/
noncomputable def s327 (q : Bool) (e : Ex) (v0 v1 : Value) (G : GS) : Option (Value × GS) :=
  bP (pNil v0) fun x0 =>
  bP (fa Q q 340 3 15 x0) fun x1 =>
  bP (ld Q q 38 x1 G) fun x2 =>
  bP (pNil v0) fun x3 =>
  bP (fa Q q 340 12 24 x3) fun x4 =>
  bP (st Q q 38 1 x4 x2 G) fun G5 =>
  bP (pNil v0) fun x6 =>
  bP (fa Q q 340 6 18 x6) fun x7 =>
  bP (ld Q q 3 x7 G5) fun x8 =>
  bL q e 327 0 (subAt [1, 0, 1, 1, 0, 1, 0, 0] (bodyOf Tryz.f327)) 66 (tu (nth undef [v0, v1]) [(4, (.int .i64 0)), (6, v0), (7, v0), (8, x0), (9, x1), (10, x2), (11, x3), (12, x4), (13, v0), (14, x6), (15, x7), (16, x8), (17, (.int .i64 0))]) G5 fun e9 t10 G11 =>
  bV q (t10 0) fun t10x0_ =>
  ifE e9 (.exit 0) (
  bP (pNil t10x0_) fun x12 =>
  bP (fa Q q 340 8 20 x12) fun x13 =>
  bP (ld Q q 3 x13 G11) fun x14 =>
  bP (bn Q q .add 3 (.tmp 50) (.const (.int .i64 1)) x14 (.int .i64 1)) fun x15 =>
  bP (pNil t10x0_) fun x16 =>
  bP (fa Q q 340 8 20 x16) fun x17 =>
  bP (st Q q 3 1 x17 x15 G11) fun G18 =>
  bP (pNil t10x0_) fun x19 =>
  bP (fa Q q 340 8 20 x19) fun x20 =>
  bP (ld Q q 3 x20 (G18.room 9)) fun x21 =>
  bP (pNil t10x0_) fun x22 =>
  bP (fa Q q 340 6 18 x22) fun x23 =>
  bP (ld Q q 3 x23 (G18.room 9)) fun x24 =>
  bP (bn Q q .lss 3 (.tmp 57) (.tmp 61) x21 x24) fun x25 =>
  ifV x25 (
  some ((.int .i64 2), (G18.room 9))) (
  bP (pNil t10x0_) fun x26 =>
  bP (fa Q q 340 8 20 x26) fun x27 =>
  bP (st Q q 3 1 x27 (.int .i64 0) (G18.room 9)) fun G28 =>
  some ((.int .i64 3), G28))) (none)
theorem m327 {e : Ex} {E : Ev} (h : ExLe Q e E) (v0 v1 : Value) (G : GS) : Ref (s327 true e v0 v1 G) (s327 false (Ex.of E) v0 v1 G) := by
  unfold s327
  exact Ref.go
theorem f327 {orc : FuncId → Bool} {e : Ex} (h : ExLe Q e (E orc)) (v0 v1 : Value) (G : GS) : Ref (s327 true e v0 v1 G) ((E orc).cl 327 [v0, v1] G) :=
  fun r hr => cl_sxE_some Q orc (vs := [v0, v1]) G Tryz.func327 (by kernel_rfl) (by kernel_rfl) (by kernel_rfl) (by kernel_rfl) (by kernel_rfl) (by kernel_rfl) (m327 h v0 v1 G r hr)
/-- (*coxswain/insert.Insert).enter -/
noncomputable def s328 (q : Bool) (e : Ex) (v0 v1 : Value) (G : GS) : Option (Value × GS) :=
  bS (e.ev.cl 340 [v0, v1] G) fun x0 G1 =>
  bP (un Q q .not x0) fun x2 =>
  ifV x2 (
  bS (e.ev.cl 215 [v0, (.int .i64 1)] G1) fun x3 G4 =>
  some (x3, G4)) (
  bP (pNil v0) fun x5 =>
  bP (fa Q q 340 2 14 x5) fun x6 =>
  bP (st Q q 4 1 x6 (.bool true) G1) fun G7 =>
  bP (pNil v0) fun x8 =>
  bP (fa Q q 340 8 20 x8) fun x9 =>
  bP (st Q q 3 1 x9 (.int .i64 1) G7) fun G10 =>
  bS (e.ev.cl 341 [v0] G10) fun x11 G12 =>
  some (x11, G12))
theorem m328 {e : Ex} {E : Ev} (h : ExLe Q e E) (v0 v1 : Value) (G : GS) : Ref (s328 true e v0 v1 G) (s328 false (Ex.of E) v0 v1 G) := by
  unfold s328
  exact Ref.go
theorem f328 {orc : FuncId → Bool} {e : Ex} (h : ExLe Q e (E orc)) (v0 v1 : Value) (G : GS) : Ref (s328 true e v0 v1 G) ((E orc).cl 328 [v0, v1] G) :=
  fun r hr => cl_sxE_some Q orc (vs := [v0, v1]) G Tryz.func328 (by kernel_rfl) (by kernel_rfl) (by kernel_rfl) (by kernel_rfl) (by kernel_rfl) (by kernel_rfl) (m328 h v0 v1 G r hr)
/-- (*coxswain/insert.Insert).load -/
noncomputable def s329 (q : Bool) (e : Ex) (v0 v1 : Value) (G : GS) : Option (Value × GS) :=
  bP (pNil v0) fun x0 =>
  bP (fa Q q 340 8 20 x0) fun x1 =>
  bP (ld Q q 3 x1 G) fun x2 =>
  bS (e.ev.cl 342 [v0, v1, x2] G) fun x3 G4 =>
  bP (pNil v0) fun x5 =>
  bP (fa Q q 340 9 21 x5) fun x6 =>
  bP (st Q q 38 1 x6 x3 G4) fun G7 =>
  bP (pNil v0) fun x8 =>
  bP (fa Q q 340 9 21 x8) fun x9 =>
  bP (ld Q q 38 x9 G7) fun x10 =>
  bS (e.ev.cl 197 [x10] G7) fun x11 G12 =>
  ifV x11 (
  some ((.int .i64 9), G12)) (
  bP (pNil v0) fun x13 =>
  bP (fa Q q 340 9 21 x13) fun x14 =>
  bP (ld Q q 38 x14 (G12.room 17)) fun x15 =>
  bP (pNil v0) fun x16 =>
  bP (fa Q q 340 10 22 x16) fun x17 =>
  bP (ld Q q 184 x17 (G12.room 17)) fun x18 =>
  bS (e.ev.cl 339 [x18] (G12.room 17)) fun x20 G19 =>
  chk ((sameO (ld Q q 38 x14 G19) x15 && true)) <|
  bP (pNil v0) fun x21 =>
  bP (fa Q q 340 8 20 x21) fun x22 =>
  bP (ld Q q 3 x22 G19) fun x23 =>
  chk ((sameO (ld Q q 3 x22 (G12.room 17)) x23 && true)) <|
  bP (ias Q q 90 1 x20 x23) fun x24 =>
  bP (ld Q q 38 x24 G19) fun x25 =>
  bP (bn Q q .neq 38 (.tmp 25) (.tmp 36) x15 x25) fun x26 =>
  ifV x26 (
  some ((.int .i64 5), G19)) (
  some ((.int .i64 6), G19)))
theorem m329 {e : Ex} {E : Ev} (h : ExLe Q e E) (v0 v1 : Value) (G : GS) : Ref (s329 true e v0 v1 G) (s329 false (Ex.of E) v0 v1 G) := by
  unfold s329
  exact Ref.go
theorem f329 {orc : FuncId → Bool} {e : Ex} (h : ExLe Q e (E orc)) (v0 v1 : Value) (G : GS) : Ref (s329 true e v0 v1 G) ((E orc).cl 329 [v0, v1] G) :=
  fun r hr => cl_sxE_some Q orc (vs := [v0, v1]) G Tryz.func329 (by kernel_rfl) (by kernel_rfl) (by kernel_rfl) (by kernel_rfl) (by kernel_rfl) (by kernel_rfl) (m329 h v0 v1 G r hr)
/-- (*coxswain/insert.Insert).turn -/
noncomputable def s330 (q : Bool) (e : Ex) (v0 v1 : Value) (G : GS) : Option (Value × GS) :=
  bP (pNil v0) fun x0 =>
  bP (fa Q q 340 0 0 x0) fun x1 =>
  bP (lda Q q 36 13 x1 (G.room 31)) fun x2 =>
  bP (pNil v0) fun x3 =>
  bP (fa Q q 340 5 17 x3) fun x4 =>
  bP (ld Q q 3 x4 (G.room 31)) fun x5 =>
  bP (pNil v0) fun x6 =>
  bP (fa Q q 340 8 20 x6) fun x7 =>
  bP (ld Q q 3 x7 (G.room 31)) fun x8 =>
  bS (e.ev.cl 100 [x2, x5, x8] (G.room 31)) fun x10 G9 =>
  bP (pNil v0) fun x11 =>
  bP (fa Q q 340 9 21 x11) fun x12 =>
  bP (ld Q q 38 x12 G9) fun x13 =>
  chk ((sameO (ld Q q 38 x12 (G.room 31)) x13 && true)) <|
  bP (pNil v0) fun x14 =>
  bP (fa Q q 340 10 22 x14) fun x15 =>
  bP (ld Q q 184 x15 G9) fun x16 =>
  chk ((sameO (ld Q q 184 x15 (G.room 31)) x16 && true)) <|
  bS (e.ev.cl 339 [x16] G9) fun x18 G17 =>
  chk ((sameO (ld Q q 38 x12 G17) x13 && true)) <|
  bP (pNil v0) fun x19 =>
  bP (fa Q q 340 8 20 x19) fun x20 =>
  bP (ld Q q 3 x20 G17) fun x21 =>
  chk ((sameO (ld Q q 3 x20 G9) x21 && (sameO (ld Q q 3 x20 (G.room 31)) x21 && true))) <|
  bP (ias Q q 90 1 x18 x21) fun x22 =>
  bP (ld Q q 38 x22 G17) fun x23 =>
  bS (e.ev.cl 343 [v0, v1, x10, x13, x23] G17) fun x25 G24 =>
  ifV x25 (
  some ((.int .i64 6), G24)) (
  some ((.int .i64 9), G24))
theorem m330 {e : Ex} {E : Ev} (h : ExLe Q e E) (v0 v1 : Value) (G : GS) : Ref (s330 true e v0 v1 G) (s330 false (Ex.of E) v0 v1 G) := by
  unfold s330
  exact Ref.go
theorem f330 {orc : FuncId → Bool} {e : Ex} (h : ExLe Q e (E orc)) (v0 v1 : Value) (G : GS) : Ref (s330 true e v0 v1 G) ((E orc).cl 330 [v0, v1] G) :=
  fun r hr => cl_sxE_some Q orc (vs := [v0, v1]) G Tryz.func330 (by kernel_rfl) (by kernel_rfl) (by kernel_rfl) (by kernel_rfl) (by kernel_rfl) (by kernel_rfl) (m330 h v0 v1 G r hr)
/-- (*coxswain/insert.Insert).link -/
noncomputable def s331 (q : Bool) (e : Ex) (v0 v1 : Value) (G : GS) : Option (Value × GS) :=
  bS (e.ev.cl 340 [v0, v1] G) fun x0 G1 =>
  bP (un Q q .not x0) fun x2 =>
  ifV x2 (
  bS (e.ev.cl 215 [v0, (.int .i64 7)] G1) fun x3 G4 =>
  some (x3, G4)) (
  bP (pNil v0) fun x5 =>
  bP (fa Q q 340 8 20 x5) fun x6 =>
  bP (ld Q q 3 x6 G1) fun x7 =>
  bP (bn Q q .add 3 (.tmp 14) (.const (.int .i64 1)) x7 (.int .i64 1)) fun x8 =>
  bP (pNil v0) fun x9 =>
  bP (fa Q q 340 8 20 x9) fun x10 =>
  bP (st Q q 3 1 x10 x8 G1) fun G11 =>
  bS (e.ev.cl 341 [v0] G11) fun x12 G13 =>
  some (x12, G13))
theorem m331 {e : Ex} {E : Ev} (h : ExLe Q e E) (v0 v1 : Value) (G : GS) : Ref (s331 true e v0 v1 G) (s331 false (Ex.of E) v0 v1 G) := by
  unfold s331
  exact Ref.go
theorem f331 {orc : FuncId → Bool} {e : Ex} (h : ExLe Q e (E orc)) (v0 v1 : Value) (G : GS) : Ref (s331 true e v0 v1 G) ((E orc).cl 331 [v0, v1] G) :=
  fun r hr => cl_sxE_some Q orc (vs := [v0, v1]) G Tryz.func331 (by kernel_rfl) (by kernel_rfl) (by kernel_rfl) (by kernel_rfl) (by kernel_rfl) (by kernel_rfl) (m331 h v0 v1 G r hr)
/-- (*coxswain/insert.Insert).findAgain -/
noncomputable def s332 (q : Bool) (e : Ex) (v0 v1 : Value) (G : GS) : Option (Value × GS) :=
  bS (e.ev.cl 338 [v0, v1] G) fun x0 G1 =>
  ifV x0 (
  some ((.int .i64 8), G1)) (
  some ((.int .i64 7), G1))
theorem m332 {e : Ex} {E : Ev} (h : ExLe Q e E) (v0 v1 : Value) (G : GS) : Ref (s332 true e v0 v1 G) (s332 false (Ex.of E) v0 v1 G) := by
  unfold s332
  exact Ref.go
theorem f332 {orc : FuncId → Bool} {e : Ex} (h : ExLe Q e (E orc)) (v0 v1 : Value) (G : GS) : Ref (s332 true e v0 v1 G) ((E orc).cl 332 [v0, v1] G) :=
  fun r hr => cl_sxE_some Q orc (vs := [v0, v1]) G Tryz.func332 (by kernel_rfl) (by kernel_rfl) (by kernel_rfl) (by kernel_rfl) (by kernel_rfl) (by kernel_rfl) (m332 h v0 v1 G r hr)
/-- (*coxswain/insert.Insert).look -/
noncomputable def s333 (q : Bool) (e : Ex) (v0 v1 : Value) (G : GS) : Option (Value × GS) :=
  bS (e.ev.cl 342 [v0, v1, (.int .i64 0)] G) fun x0 G1 =>
  bS (e.ev.cl 197 [x0] G1) fun x2 G3 =>
  ifV x2 (
  bS (e.ev.cl 215 [v0, (.int .i64 10)] G3) fun x4 G5 =>
  some (x4, G5)) (
  some ((.int .i64 4), G3))
theorem m333 {e : Ex} {E : Ev} (h : ExLe Q e E) (v0 v1 : Value) (G : GS) : Ref (s333 true e v0 v1 G) (s333 false (Ex.of E) v0 v1 G) := by
  unfold s333
  exact Ref.go
theorem f333 {orc : FuncId → Bool} {e : Ex} (h : ExLe Q e (E orc)) (v0 v1 : Value) (G : GS) : Ref (s333 true e v0 v1 G) ((E orc).cl 333 [v0, v1] G) :=
  fun r hr => cl_sxE_some Q orc (vs := [v0, v1]) G Tryz.func333 (by kernel_rfl) (by kernel_rfl) (by kernel_rfl) (by kernel_rfl) (by kernel_rfl) (by kernel_rfl) (m333 h v0 v1 G r hr)
/-- (*coxswain/insert.Insert).ask -/
noncomputable def s334 (q : Bool) (e : Ex) (v0 v1 : Value) (G : GS) : Option (Value × GS) :=
  bS (e.ev.cl 342 [v0, v1, (.int .i64 0)] G) fun x0 G1 =>
  bS (e.ev.cl 197 [x0] G1) fun x2 G3 =>
  ifV x2 (
  bS (e.ev.cl 215 [v0, (.int .i64 10)] G3) fun x4 G5 =>
  some (x4, G5)) (
  some ((.int .i64 11), G3))
theorem m334 {e : Ex} {E : Ev} (h : ExLe Q e E) (v0 v1 : Value) (G : GS) : Ref (s334 true e v0 v1 G) (s334 false (Ex.of E) v0 v1 G) := by
  unfold s334
  exact Ref.go
theorem f334 {orc : FuncId → Bool} {e : Ex} (h : ExLe Q e (E orc)) (v0 v1 : Value) (G : GS) : Ref (s334 true e v0 v1 G) ((E orc).cl 334 [v0, v1] G) :=
  fun r hr => cl_sxE_some Q orc (vs := [v0, v1]) G Tryz.func334 (by kernel_rfl) (by kernel_rfl) (by kernel_rfl) (by kernel_rfl) (by kernel_rfl) (by kernel_rfl) (m334 h v0 v1 G r hr)
/-- (*coxswain/insert.Insert).clear -/
noncomputable def s335 (q : Bool) (e : Ex) (v0 v1 : Value) (G : GS) : Option (Value × GS) :=
  bS (e.ev.cl 338 [v0, v1] G) fun x0 G1 =>
  ifV x0 (
  some ((.int .i64 11), G1)) (
  some ((.int .i64 10), G1))
theorem m335 {e : Ex} {E : Ev} (h : ExLe Q e E) (v0 v1 : Value) (G : GS) : Ref (s335 true e v0 v1 G) (s335 false (Ex.of E) v0 v1 G) := by
  unfold s335
  exact Ref.go
theorem f335 {orc : FuncId → Bool} {e : Ex} (h : ExLe Q e (E orc)) (v0 v1 : Value) (G : GS) : Ref (s335 true e v0 v1 G) ((E orc).cl 335 [v0, v1] G) :=
  fun r hr => cl_sxE_some Q orc (vs := [v0, v1]) G Tryz.func335 (by kernel_rfl) (by kernel_rfl) (by kernel_rfl) (by kernel_rfl) (by kernel_rfl) (by kernel_rfl) (m335 h v0 v1 G r hr)
/-- (*coxswain/insert.Insert).let -/
noncomputable def s336 (q : Bool) (e : Ex) (v0 v1 : Value) (G : GS) : Option (Value × GS) :=
  bP (pNil v0) fun x0 =>
  bP (fa Q q 340 3 15 x0) fun x1 =>
  bP (ld Q q 38 x1 G) fun x2 =>
  bP (pNil v0) fun x3 =>
  bP (fa Q q 340 12 24 x3) fun x4 =>
  bP (st Q q 38 1 x4 x2 G) fun G5 =>
  bP (pNil v0) fun x6 =>
  bP (fa Q q 340 0 0 x6) fun x7 =>
  bP (lda Q q 36 13 x7 (G5.room 12)) fun x8 =>
  bP (pNil v0) fun x9 =>
  bP (fa Q q 340 5 17 x9) fun x10 =>
  bP (ld Q q 3 x10 (G5.room 12)) fun x11 =>
  bS (e.ev.cl 87 [x8, x11, (.int .i64 3)] (G5.room 12)) fun x13 G12 =>
  bS (e.ev.cl 262 [v1, x13, (.int .u64 18446744073709551615)] G12) fun x15 G14 =>
  bP (bn Q q .neq 38 (.tmp 22) (.const (.int .u64 0)) x15 (.int .u64 0)) fun x16 =>
  ifV x16 (
  some ((.int .i64 0), G14)) (
  bP (pNil v0) fun x17 =>
  bP (fa Q q 340 0 0 x17) fun x18 =>
  bP (fa Q q 36 3 3 x18) fun x19 =>
  bP (lda Q q 34 10 x19 (G14.room 14)) fun x20 =>
  bP (pNil v0) fun x21 =>
  bP (fa Q q 340 5 17 x21) fun x22 =>
  bP (ld Q q 3 x22 (G14.room 14)) fun x23 =>
  bS (e.ev.cl 296 [x20, x23] (G14.room 14)) fun x25 G24 =>
  bP (pNil v0) fun x26 =>
  bP (fa Q q 340 11 23 x26) fun x27 =>
  bP (st Q q 185 1 x27 x25 G24) fun G28 =>
  some ((.int .i64 12), G28))
theorem m336 {e : Ex} {E : Ev} (h : ExLe Q e E) (v0 v1 : Value) (G : GS) : Ref (s336 true e v0 v1 G) (s336 false (Ex.of E) v0 v1 G) := by
  unfold s336
  exact Ref.go
theorem f336 {orc : FuncId → Bool} {e : Ex} (h : ExLe Q e (E orc)) (v0 v1 : Value) (G : GS) : Ref (s336 true e v0 v1 G) ((E orc).cl 336 [v0, v1] G) :=
  fun r hr => cl_sxE_some Q orc (vs := [v0, v1]) G Tryz.func336 (by kernel_rfl) (by kernel_rfl) (by kernel_rfl) (by kernel_rfl) (by kernel_rfl) (by kernel_rfl) (m336 h v0 v1 G r hr)
/-- (*coxswain/insert.Insert).wait -/
noncomputable def s337 (q : Bool) (e : Ex) (v0 v1 : Value) (G : GS) : Option (Value × GS) :=
  bP (pNil v0) fun x0 =>
  bP (fa Q q 340 12 24 x0) fun x1 =>
  bP (st Q q 38 1 x1 (.int .u64 0) G) fun G2 =>
  bP (pNil v0) fun x3 =>
  bP (fa Q q 340 11 23 x3) fun x4 =>
  bP (ld Q q 185 x4 G2) fun x5 =>
  bS (e.ev.cl 297 [x5, v1] G2) fun x6 G7 =>
  ifV x6 (
  some ((.int .i64 0), G7)) (
  some ((.int .i64 12), G7))
theorem m337 {e : Ex} {E : Ev} (h : ExLe Q e E) (v0 v1 : Value) (G : GS) : Ref (s337 true e v0 v1 G) (s337 false (Ex.of E) v0 v1 G) := by
  unfold s337
  exact Ref.go
theorem f337 {orc : FuncId → Bool} {e : Ex} (h : ExLe Q e (E orc)) (v0 v1 : Value) (G : GS) : Ref (s337 true e v0 v1 G) ((E orc).cl 337 [v0, v1] G) :=
  fun r hr => cl_sxE_some Q orc (vs := [v0, v1]) G Tryz.func337 (by kernel_rfl) (by kernel_rfl) (by kernel_rfl) (by kernel_rfl) (by kernel_rfl) (by kernel_rfl) (m337 h v0 v1 G r hr)
/-- (*coxswain/insert.Insert).seeks -/
noncomputable def s338 (q : Bool) (e : Ex) (v0 v1 : Value) (G : GS) : Option (Value × GS) :=
  bP (pNil v0) fun x0 =>
  bP (fa Q q 340 10 22 x0) fun x1 =>
  bP (ld Q q 184 x1 G) fun x2 =>
  bS (e.ev.cl 294 [x2, v1] G) fun x3 G4 =>
  bP (pNil v0) fun x5 =>
  bP (fa Q q 340 10 22 x5) fun x6 =>
  bP (ld Q q 184 x6 G4) fun x7 =>
  bS (e.ev.cl 295 [x7] G4) fun x8 G9 =>
  bP (pNil v0) fun x10 =>
  bP (fa Q q 340 12 24 x10) fun x11 =>
  bP (st Q q 38 1 x11 x8 G9) fun G12 =>
  some (x3, G12)
theorem m338 {e : Ex} {E : Ev} (h : ExLe Q e E) (v0 v1 : Value) (G : GS) : Ref (s338 true e v0 v1 G) (s338 false (Ex.of E) v0 v1 G) := by
  unfold s338
  exact Ref.go
theorem f338 {orc : FuncId → Bool} {e : Ex} (h : ExLe Q e (E orc)) (v0 v1 : Value) (G : GS) : Ref (s338 true e v0 v1 G) ((E orc).cl 338 [v0, v1] G) :=
  fun r hr => cl_sxE_some Q orc (vs := [v0, v1]) G Tryz.func338 (by kernel_rfl) (by kernel_rfl) (by kernel_rfl) (by kernel_rfl) (by kernel_rfl) (by kernel_rfl) (m338 h v0 v1 G r hr)
noncomputable def b339_0 (q : Bool) (e : Ex) (lp : Env → GS → Option (Exit × Env × GS)) (τ : Env) (G : GS) : Option (Exit × Env × GS) :=
  bV q (τ 3) fun a3_ =>
  bV q (τ 7) fun a7_ =>
  bV q (τ 8) fun a8_ =>
  bV q (τ 9) fun a9_ =>
  bP (bn Q q .lss 3 (.tmp 9) (.tmp 8) a9_ a8_) fun x0 =>
  ifV x0 (
  bP (ias Q q 382 4 a7_ a9_) fun x1 =>
  bP (lda Q q 381 4 x1 G) fun x2 =>
  bS (al Q q 381 z381 G) fun x3 G4 =>
  bP (st Q q 381 4 x3 x2 G4) fun G5 =>
  bP (fa Q q 381 3 3 x3) fun x6 =>
  bP (ld Q q 38 x6 G5) fun x7 =>
  bS (bs Q q 90 1 (rep z38 1) 1 [(0, 0, 1)] [x7] G5) fun x8 G9 =>
  bS (ap Q q 90 90 1 8 a3_ x8 G9) fun x10 G11 =>
  bP (bn Q q .add 3 (.tmp 9) (.const (.int .i64 1)) a9_ (.int .i64 1)) fun x12 =>
  lp (tu τ [(3, x10), (7, a7_), (8, a8_), (9, x12), (5, x3), (10, x0), (11, x1), (12, x2), (13, a3_), (14, x6), (15, x7), (16, x8), (17, x10), (18, x12)]) G11) (
  some ((.exit 0), clq q 20 (tu τ [(3, a3_), (7, a7_), (8, a8_), (9, a9_), (10, x0)]), G))
theorem mb339_0 {e : Ex} {E : Ev} (h : ExLe Q e E) {lp lp' : Env → GS → Option (Exit × Env × GS)} (hlp : LpLe lp lp') (τ : Env) (G : GS) : Ref (b339_0 true e lp τ G) (b339_0 false (Ex.of E) lp' τ G) := by
  unfold b339_0
  exact Ref.go
theorem l339_0 {orc : FuncId → Bool} {e : Ex} (h : ExLe Q e (E orc)) (lp : Env → GS → Option (Exit × Env × GS)) (hlp : ∀ τ G, Ref (lp τ G) (mapE ((E orc).lp (subAt [1, 1, 0, 1, 0, 0] (bodyOf Tryz.f339)) (lst 20 τ) G))) (T : List Value) (G : GS) (hT : T.length = 20) : Ref (b339_0 true e lp (nth undef T) G) (mapE ((E orc).lp (subAt [1, 1, 0, 1, 0, 0] (bodyOf Tryz.f339)) T G)) :=
  fun r hr => lp_sxM Q orc G hT (by kernel_rfl) (mb339_0 h ⟨hlp⟩ _ _ r hr)
/-- (*coxswain/find.Find).Succs -/
noncomputable def s339 (q : Bool) (e : Ex) (v0 : Value) (G : GS) : Option (Value × GS) :=
  bS (e.ev.cl 344 [v0] G) fun x0 G1 =>
  bP (ln Q q 382 x0) fun x2 =>
  bL q e 339 0 (subAt [1, 1, 0, 1, 0, 0] (bodyOf Tryz.f339)) 20 (tu (nth undef [v0]) [(2, (.slice none 0 0)), (3, (.slice none 0 0)), (6, v0), (7, x0), (8, x2), (9, (.int .i64 0))]) G1 fun e3 t4 G5 =>
  bV q (t4 3) fun t4x3_ =>
  ifE e3 (.exit 0) (
  some (t4x3_, G5)) (none)
theorem m339 {e : Ex} {E : Ev} (h : ExLe Q e E) (v0 : Value) (G : GS) : Ref (s339 true e v0 G) (s339 false (Ex.of E) v0 G) := by
  unfold s339
  exact Ref.go
theorem f339 {orc : FuncId → Bool} {e : Ex} (h : ExLe Q e (E orc)) (v0 : Value) (G : GS) : Ref (s339 true e v0 G) ((E orc).cl 339 [v0] G) :=
  fun r hr => cl_sxE_some Q orc (vs := [v0]) G Tryz.func339 (by kernel_rfl) (by kernel_rfl) (by kernel_rfl) (by kernel_rfl) (by kernel_rfl) (by kernel_rfl) (m339 h v0 G r hr)
/-- (*coxswain/insert.Insert).hangs -/
noncomputable def s340 (q : Bool) (e : Ex) (v0 v1 : Value) (G : GS) : Option (Value × GS) :=
  bP (pNil v0) fun x0 =>
  bP (fa Q q 340 10 22 x0) fun x1 =>
  bP (ld Q q 184 x1 (G.room 15)) fun x2 =>
  bS (e.ev.cl 345 [x2] (G.room 15)) fun x4 G3 =>
  bP (pNil v0) fun x5 =>
  bP (fa Q q 340 8 20 x5) fun x6 =>
  bP (ld Q q 3 x6 G3) fun x7 =>
  chk ((sameO (ld Q q 3 x6 (G.room 15)) x7 && true)) <|
  bP (ias Q q 90 1 x4 x7) fun x8 =>
  bP (ld Q q 38 x8 G3) fun x9 =>
  bP (pNil v0) fun x10 =>
  bP (fa Q q 340 12 24 x10) fun x11 =>
  bP (st Q q 38 1 x11 x9 G3) fun G12 =>
  bP (pNil v0) fun x13 =>
  bP (fa Q q 340 0 0 x13) fun x14 =>
  bP (lda Q q 36 13 x14 (G12.room 38)) fun x15 =>
  bP (pNil v0) fun x16 =>
  bP (fa Q q 340 10 22 x16) fun x17 =>
  bP (ld Q q 184 x17 (G12.room 38)) fun x18 =>
  bS (e.ev.cl 346 [x18] (G12.room 38)) fun x20 G19 =>
  chk ((sameO (lda Q q 36 13 x14 G19) x15 && true)) <|
  bP (pNil v0) fun x21 =>
  bP (fa Q q 340 8 20 x21) fun x22 =>
  bP (ld Q q 3 x22 G19) fun x23 =>
  chk ((sameO (ld Q q 3 x22 (G12.room 38)) x23 && true)) <|
  bP (ias Q q 139 1 x20 x23) fun x24 =>
  bP (ld Q q 3 x24 G19) fun x25 =>
  bP (pNil v0) fun x26 =>
  bP (fa Q q 340 8 20 x26) fun x27 =>
  bP (ld Q q 3 x27 G19) fun x28 =>
  chk ((sameO (ld Q q 3 x27 (G12.room 38)) x28 && true)) <|
  bS (e.ev.cl 100 [x15, x25, x28] G19) fun x30 G29 =>
  bP (pNil v0) fun x31 =>
  bP (fa Q q 340 10 22 x31) fun x32 =>
  bP (ld Q q 184 x32 G29) fun x33 =>
  chk ((sameO (ld Q q 184 x32 G19) x33 && (sameO (ld Q q 184 x32 (G12.room 38)) x33 && true))) <|
  bS (e.ev.cl 339 [x33] G29) fun x35 G34 =>
  bP (pNil v0) fun x36 =>
  bP (fa Q q 340 8 20 x36) fun x37 =>
  bP (ld Q q 3 x37 G34) fun x38 =>
  chk ((sameO (ld Q q 3 x37 G29) x38 && (sameO (ld Q q 3 x37 G19) x38 && (sameO (ld Q q 3 x37 (G12.room 38)) x38 && true)))) <|
  bP (ias Q q 90 1 x35 x38) fun x39 =>
  bP (ld Q q 38 x39 G34) fun x40 =>
  bP (pNil v0) fun x41 =>
  bP (fa Q q 340 3 15 x41) fun x42 =>
  bP (ld Q q 38 x42 G34) fun x43 =>
  chk ((sameO (ld Q q 38 x42 G29) x43 && (sameO (ld Q q 38 x42 G19) x43 && (sameO (ld Q q 38 x42 (G12.room 38)) x43 && true)))) <|
  bS (e.ev.cl 242 [v1, x30, x40, x43] G34) fun x45 G44 =>
  some (x45, G44)
theorem m340 {e : Ex} {E : Ev} (h : ExLe Q e E) (v0 v1 : Value) (G : GS) : Ref (s340 true e v0 v1 G) (s340 false (Ex.of E) v0 v1 G) := by
  unfold s340
  exact Ref.go
theorem f340 {orc : FuncId → Bool} {e : Ex} (h : ExLe Q e (E orc)) (v0 v1 : Value) (G : GS) : Ref (s340 true e v0 v1 G) ((E orc).cl 340 [v0, v1] G) :=
  fun r hr => cl_sxE_some Q orc (vs := [v0, v1]) G Tryz.func340 (by kernel_rfl) (by kernel_rfl) (by kernel_rfl) (by kernel_rfl) (by kernel_rfl) (by kernel_rfl) (m340 h v0 v1 G r hr)
/-- (*coxswain/insert.Insert).up -/
noncomputable def s341 (q : Bool) (e : Ex) (v0 : Value) (G : GS) : Option (Value × GS) :=
  bP (pNil v0) fun x0 =>
  bP (fa Q q 340 8 20 x0) fun x1 =>
  bP (ld Q q 3 x1 (G.room 9)) fun x2 =>
  bP (pNil v0) fun x3 =>
  bP (fa Q q 340 6 18 x3) fun x4 =>
  bP (ld Q q 3 x4 (G.room 9)) fun x5 =>
  bP (bn Q q .geq 3 (.tmp 6) (.tmp 10) x2 x5) fun x6 =>
  ifV x6 (
  some ((.int .i64 9), (G.room 9))) (
  some ((.int .i64 4), (G.room 9)))
theorem m341 {e : Ex} {E : Ev} (h : ExLe Q e E) (v0 : Value) (G : GS) : Ref (s341 true e v0 G) (s341 false (Ex.of E) v0 G) := by
  unfold s341
  exact Ref.go
theorem f341 {orc : FuncId → Bool} {e : Ex} (h : ExLe Q e (E orc)) (v0 : Value) (G : GS) : Ref (s341 true e v0 G) ((E orc).cl 341 [v0] G) :=
  fun r hr => cl_sxE_some Q orc (vs := [v0]) G Tryz.func341 (by kernel_rfl) (by kernel_rfl) (by kernel_rfl) (by kernel_rfl) (by kernel_rfl) (by kernel_rfl) (m341 h v0 G r hr)
/-- (*coxswain/insert.Insert).read -/
noncomputable def s342 (q : Bool) (e : Ex) (v0 v1 v2 : Value) (G : GS) : Option (Value × GS) :=
  bP (pNil v0) fun x0 =>
  bP (fa Q q 340 3 15 x0) fun x1 =>
  bP (ld Q q 38 x1 G) fun x2 =>
  bP (pNil v0) fun x3 =>
  bP (fa Q q 340 12 24 x3) fun x4 =>
  bP (st Q q 38 1 x4 x2 G) fun G5 =>
  bP (pNil v0) fun x6 =>
  bP (fa Q q 340 0 0 x6) fun x7 =>
  bP (lda Q q 36 13 x7 (G5.room 13)) fun x8 =>
  bP (pNil v0) fun x9 =>
  bP (fa Q q 340 5 17 x9) fun x10 =>
  bP (ld Q q 3 x10 (G5.room 13)) fun x11 =>
  bS (e.ev.cl 100 [x8, x11, v2] (G5.room 13)) fun x13 G12 =>
  bS (e.ev.cl 120 [v1, x13] G12) fun x15 G14 =>
  some (x15, G14)
theorem m342 {e : Ex} {E : Ev} (h : ExLe Q e E) (v0 v1 v2 : Value) (G : GS) : Ref (s342 true e v0 v1 v2 G) (s342 false (Ex.of E) v0 v1 v2 G) := by
  unfold s342
  exact Ref.go
theorem f342 {orc : FuncId → Bool} {e : Ex} (h : ExLe Q e (E orc)) (v0 v1 v2 : Value) (G : GS) : Ref (s342 true e v0 v1 v2 G) ((E orc).cl 342 [v0, v1, v2] G) :=
  fun r hr => cl_sxE_some Q orc (vs := [v0, v1, v2]) G Tryz.func342 (by kernel_rfl) (by kernel_rfl) (by kernel_rfl) (by kernel_rfl) (by kernel_rfl) (by kernel_rfl) (m342 h v0 v1 v2 G r hr)
/-- (*coxswain/insert.Insert).swap -/
noncomputable def s343 (q : Bool) (e : Ex) (v0 v1 v2 v3 v4 : Value) (G : GS) : Option (Value × GS) :=
  bP (pNil v0) fun x0 =>
  bP (fa Q q 340 3 15 x0) fun x1 =>
  bP (ld Q q 38 x1 G) fun x2 =>
  bP (pNil v0) fun x3 =>
  bP (fa Q q 340 12 24 x3) fun x4 =>
  bP (st Q q 38 1 x4 x2 G) fun G5 =>
  bS (e.ev.cl 242 [v1, v2, v3, v4] G5) fun x6 G7 =>
  some (x6, G7)
theorem m343 {e : Ex} {E : Ev} (h : ExLe Q e E) (v0 v1 v2 v3 v4 : Value) (G : GS) : Ref (s343 true e v0 v1 v2 v3 v4 G) (s343 false (Ex.of E) v0 v1 v2 v3 v4 G) := by
  unfold s343
  exact Ref.go
theorem f343 {orc : FuncId → Bool} {e : Ex} (h : ExLe Q e (E orc)) (v0 v1 v2 v3 v4 : Value) (G : GS) : Ref (s343 true e v0 v1 v2 v3 v4 G) ((E orc).cl 343 [v0, v1, v2, v3, v4] G) :=
  fun r hr => cl_sxE_some Q orc (vs := [v0, v1, v2, v3, v4]) G Tryz.func343 (by kernel_rfl) (by kernel_rfl) (by kernel_rfl) (by kernel_rfl) (by kernel_rfl) (by kernel_rfl) (m343 h v0 v1 v2 v3 v4 G r hr)
/-- (*coxswain/find.Find).all -/
noncomputable def s344 (q : Bool) (e : Ex) (v0 : Value) (G : GS) : Option (Value × GS) :=
  bS (e.ev.cl 347 [v0] G) fun x0 G1 =>
  bP (bn Q q .neq 23 (.tmp 4) (.const (.int .i64 0)) x0 (.int .i64 0)) fun x2 =>
  ifV x2 (
  some ((.slice none 0 0), G1)) (
  bP (pNil v0) fun x3 =>
  bP (fa Q q 384 5 20 x3) fun x4 =>
  bP (ld Q q 382 x4 G1) fun x5 =>
  some (x5, G1))
theorem m344 {e : Ex} {E : Ev} (h : ExLe Q e E) (v0 : Value) (G : GS) : Ref (s344 true e v0 G) (s344 false (Ex.of E) v0 G) := by
  unfold s344
  exact Ref.go
theorem f344 {orc : FuncId → Bool} {e : Ex} (h : ExLe Q e (E orc)) (v0 : Value) (G : GS) : Ref (s344 true e v0 G) ((E orc).cl 344 [v0] G) :=
  fun r hr => cl_sxE_some Q orc (vs := [v0]) G Tryz.func344 (by kernel_rfl) (by kernel_rfl) (by kernel_rfl) (by kernel_rfl) (by kernel_rfl) (by kernel_rfl) (m344 h v0 G r hr)
noncomputable def b345_0 (q : Bool) (e : Ex) (lp : Env → GS → Option (Exit × Env × GS)) (τ : Env) (G : GS) : Option (Exit × Env × GS) :=
  bV q (τ 3) fun a3_ =>
  bV q (τ 7) fun a7_ =>
  bV q (τ 8) fun a8_ =>
  bV q (τ 9) fun a9_ =>
  bP (bn Q q .lss 3 (.tmp 9) (.tmp 8) a9_ a8_) fun x0 =>
  ifV x0 (
  bP (ias Q q 382 4 a7_ a9_) fun x1 =>
  bP (lda Q q 381 4 x1 G) fun x2 =>
  bS (al Q q 381 z381 G) fun x3 G4 =>
  bP (st Q q 381 4 x3 x2 G4) fun G5 =>
  bP (fa Q q 381 2 2 x3) fun x6 =>
  bP (ld Q q 38 x6 G5) fun x7 =>
  bS (bs Q q 90 1 (rep z38 1) 1 [(0, 0, 1)] [x7] G5) fun x8 G9 =>
  bS (ap Q q 90 90 1 8 a3_ x8 G9) fun x10 G11 =>
  bP (bn Q q .add 3 (.tmp 9) (.const (.int .i64 1)) a9_ (.int .i64 1)) fun x12 =>
  lp (tu τ [(3, x10), (7, a7_), (8, a8_), (9, x12), (5, x3), (10, x0), (11, x1), (12, x2), (13, a3_), (14, x6), (15, x7), (16, x8), (17, x10), (18, x12)]) G11) (
  some ((.exit 0), clq q 20 (tu τ [(3, a3_), (7, a7_), (8, a8_), (9, a9_), (10, x0)]), G))
theorem mb345_0 {e : Ex} {E : Ev} (h : ExLe Q e E) {lp lp' : Env → GS → Option (Exit × Env × GS)} (hlp : LpLe lp lp') (τ : Env) (G : GS) : Ref (b345_0 true e lp τ G) (b345_0 false (Ex.of E) lp' τ G) := by
  unfold b345_0
  exact Ref.go
theorem l345_0 {orc : FuncId → Bool} {e : Ex} (h : ExLe Q e (E orc)) (lp : Env → GS → Option (Exit × Env × GS)) (hlp : ∀ τ G, Ref (lp τ G) (mapE ((E orc).lp (subAt [1, 1, 0, 1, 0, 0] (bodyOf Tryz.f345)) (lst 20 τ) G))) (T : List Value) (G : GS) (hT : T.length = 20) : Ref (b345_0 true e lp (nth undef T) G) (mapE ((E orc).lp (subAt [1, 1, 0, 1, 0, 0] (bodyOf Tryz.f345)) T G)) :=
  fun r hr => lp_sxM Q orc G hT (by kernel_rfl) (mb345_0 h ⟨hlp⟩ _ _ r hr)
/-- (*coxswain/find.Find).Known -/
noncomputable def s345 (q : Bool) (e : Ex) (v0 : Value) (G : GS) : Option (Value × GS) :=
  bS (e.ev.cl 344 [v0] G) fun x0 G1 =>
  bP (ln Q q 382 x0) fun x2 =>
  bL q e 345 0 (subAt [1, 1, 0, 1, 0, 0] (bodyOf Tryz.f345)) 20 (tu (nth undef [v0]) [(2, (.slice none 0 0)), (3, (.slice none 0 0)), (6, v0), (7, x0), (8, x2), (9, (.int .i64 0))]) G1 fun e3 t4 G5 =>
  bV q (t4 3) fun t4x3_ =>
  ifE e3 (.exit 0) (
  some (t4x3_, G5)) (none)
theorem m345 {e : Ex} {E : Ev} (h : ExLe Q e E) (v0 : Value) (G : GS) : Ref (s345 true e v0 G) (s345 false (Ex.of E) v0 G) := by
  unfold s345
  exact Ref.go
theorem f345 {orc : FuncId → Bool} {e : Ex} (h : ExLe Q e (E orc)) (v0 : Value) (G : GS) : Ref (s345 true e v0 G) ((E orc).cl 345 [v0] G) :=
  fun r hr => cl_sxE_some Q orc (vs := [v0]) G Tryz.func345 (by kernel_rfl) (by kernel_rfl) (by kernel_rfl) (by kernel_rfl) (by kernel_rfl) (by kernel_rfl) (m345 h v0 G r hr)
noncomputable def b346_0 (q : Bool) (e : Ex) (lp : Env → GS → Option (Exit × Env × GS)) (τ : Env) (G : GS) : Option (Exit × Env × GS) :=
  bV q (τ 3) fun a3_ =>
  bV q (τ 7) fun a7_ =>
  bV q (τ 8) fun a8_ =>
  bV q (τ 9) fun a9_ =>
  bP (bn Q q .lss 3 (.tmp 9) (.tmp 8) a9_ a8_) fun x0 =>
  ifV x0 (
  bP (ias Q q 382 4 a7_ a9_) fun x1 =>
  bP (lda Q q 381 4 x1 G) fun x2 =>
  bS (al Q q 381 z381 G) fun x3 G4 =>
  bP (st Q q 381 4 x3 x2 G4) fun G5 =>
  bP (fa Q q 381 1 1 x3) fun x6 =>
  bP (ld Q q 3 x6 G5) fun x7 =>
  bS (bs Q q 139 1 (rep z3 1) 1 [(0, 0, 1)] [x7] G5) fun x8 G9 =>
  bS (ap Q q 139 139 1 8 a3_ x8 G9) fun x10 G11 =>
  bP (bn Q q .add 3 (.tmp 9) (.const (.int .i64 1)) a9_ (.int .i64 1)) fun x12 =>
  lp (tu τ [(3, x10), (7, a7_), (8, a8_), (9, x12), (5, x3), (10, x0), (11, x1), (12, x2), (13, a3_), (14, x6), (15, x7), (16, x8), (17, x10), (18, x12)]) G11) (
  some ((.exit 0), clq q 20 (tu τ [(3, a3_), (7, a7_), (8, a8_), (9, a9_), (10, x0)]), G))
theorem mb346_0 {e : Ex} {E : Ev} (h : ExLe Q e E) {lp lp' : Env → GS → Option (Exit × Env × GS)} (hlp : LpLe lp lp') (τ : Env) (G : GS) : Ref (b346_0 true e lp τ G) (b346_0 false (Ex.of E) lp' τ G) := by
  unfold b346_0
  exact Ref.go
theorem l346_0 {orc : FuncId → Bool} {e : Ex} (h : ExLe Q e (E orc)) (lp : Env → GS → Option (Exit × Env × GS)) (hlp : ∀ τ G, Ref (lp τ G) (mapE ((E orc).lp (subAt [1, 1, 0, 1, 0, 0] (bodyOf Tryz.f346)) (lst 20 τ) G))) (T : List Value) (G : GS) (hT : T.length = 20) : Ref (b346_0 true e lp (nth undef T) G) (mapE ((E orc).lp (subAt [1, 1, 0, 1, 0, 0] (bodyOf Tryz.f346)) T G)) :=
  fun r hr => lp_sxM Q orc G hT (by kernel_rfl) (mb346_0 h ⟨hlp⟩ _ _ r hr)
/-- (*coxswain/find.Find).Preds -/
noncomputable def s346 (q : Bool) (e : Ex) (v0 : Value) (G : GS) : Option (Value × GS) :=
  bS (e.ev.cl 344 [v0] G) fun x0 G1 =>
  bP (ln Q q 382 x0) fun x2 =>
  bL q e 346 0 (subAt [1, 1, 0, 1, 0, 0] (bodyOf Tryz.f346)) 20 (tu (nth undef [v0]) [(2, (.slice none 0 0)), (3, (.slice none 0 0)), (6, v0), (7, x0), (8, x2), (9, (.int .i64 0))]) G1 fun e3 t4 G5 =>
  bV q (t4 3) fun t4x3_ =>
  ifE e3 (.exit 0) (
  some (t4x3_, G5)) (none)
theorem m346 {e : Ex} {E : Ev} (h : ExLe Q e E) (v0 : Value) (G : GS) : Ref (s346 true e v0 G) (s346 false (Ex.of E) v0 G) := by
  unfold s346
  exact Ref.go
theorem f346 {orc : FuncId → Bool} {e : Ex} (h : ExLe Q e (E orc)) (v0 : Value) (G : GS) : Ref (s346 true e v0 G) ((E orc).cl 346 [v0] G) :=
  fun r hr => cl_sxE_some Q orc (vs := [v0]) G Tryz.func346 (by kernel_rfl) (by kernel_rfl) (by kernel_rfl) (by kernel_rfl) (by kernel_rfl) (by kernel_rfl) (m346 h v0 G r hr)
/-- (*coxswain/find.Find).Err -/
noncomputable def s347 (q : Bool) (e : Ex) (v0 : Value) (G : GS) : Option (Value × GS) :=
  bP (ep Q q false 184 (.tmp 4) (.const (.pointer none)) v0 (.pointer none)) fun x0 =>
  bS (gd x0 false (some (v0, G)) G) fun x1 G2 =>
  bS (gd x0 false (bP (pNil x1) fun y => some (y, G2)) G2) fun x3 G4 =>
  bS (gd x0 false (bP (fa Q q 384 7 22 x3) fun y => some (y, G4)) G4) fun x5 G6 =>
  bS (gd x0 false (bP (ld Q q 4 x5 G6) fun y => some (y, G6)) G6) fun x7 G8 =>
  bS (gd x0 false (bP (un Q q .not x7) fun y => some (y, G8)) G8) fun x9 G10 =>
  bP (pickV x0 (.bool true) x9) fun x11 =>
  ifV x11 (
  some ((.int .i64 1), G10)) (
  bP (pNil v0) fun x12 =>
  bP (fa Q q 384 2 14 x12) fun x13 =>
  bP (ld Q q 3 x13 G10) fun x14 =>
  bP (bn Q q .neq 3 (.tmp 17) (.const (.int .i64 9)) x14 (.int .i64 9)) fun x15 =>
  ifV x15 (
  some ((.int .i64 14), G10)) (
  bP (pNil v0) fun x16 =>
  bP (fa Q q 384 8 23 x16) fun x17 =>
  bP (ld Q q 23 x17 G10) fun x18 =>
  some (x18, G10)))
theorem m347 {e : Ex} {E : Ev} (h : ExLe Q e E) (v0 : Value) (G : GS) : Ref (s347 true e v0 G) (s347 false (Ex.of E) v0 G) := by
  unfold s347
  exact Ref.go
theorem f347 {orc : FuncId → Bool} {e : Ex} (h : ExLe Q e (E orc)) (v0 : Value) (G : GS) : Ref (s347 true e v0 G) ((E orc).cl 347 [v0] G) :=
  fun r hr => cl_sxE_some Q orc (vs := [v0]) G Tryz.func347 (by kernel_rfl) (by kernel_rfl) (by kernel_rfl) (by kernel_rfl) (by kernel_rfl) (by kernel_rfl) (m347 h v0 G r hr)
/-- (*coxswain/ready.part[*coxswain/limbo.Collect]).run -/
noncomputable def s348 (q : Bool) (e : Ex) (v0 v1 : Value) (G : GS) : Option (Value × GS) :=
  bP (pNil v0) fun x0 =>
  bP (fa Q q 313 4 4 x0) fun x1 =>
  bP (ld Q q 4 x1 G) fun x2 =>
  bP (un Q q .not x2) fun x3 =>
  ifV x3 (
  bP (pNil v0) fun x4 =>
  bP (fa Q q 313 0 0 x4) fun x5 =>
  bP (ld Q q 310 x5 G) fun x6 =>
  bS (cValue e.ev x6 [] G) fun x7 G8 =>
  bP (pNil v0) fun x9 =>
  bP (fa Q q 313 3 3 x9) fun x10 =>
  bP (st Q q 308 1 x10 x7 G8) fun G11 =>
  bP (pNil v0) fun x12 =>
  bP (fa Q q 313 4 4 x12) fun x13 =>
  bP (st Q q 4 1 x13 (.bool true) G11) fun G14 =>
  bP (pNil v0) fun x15 =>
  bP (fa Q q 313 3 3 x15) fun x16 =>
  bP (ld Q q 308 x16 G14) fun x17 =>
  bP (ifc Q q 308 x17) fun x18 =>
  bS (cInvoke Q e.ev x18 "Step" [v1] G14) fun x19 G20 =>
  bP (pNil v0) fun x21 =>
  bP (fa Q q 313 1 1 x21) fun x22 =>
  bP (ld Q q 311 x22 G20) fun x23 =>
  bP (ef Q q true 311 (.tmp 34) (.const .nilFunc) x23 .nilFunc) fun x24 =>
  ifV x24 (
  bP (pNil v0) fun x25 =>
  bP (fa Q q 313 1 1 x25) fun x26 =>
  bP (ld Q q 311 x26 (G20.room 10)) fun x27 =>
  bP (pNil v0) fun x28 =>
  bP (fa Q q 313 3 3 x28) fun x29 =>
  bP (ld Q q 308 x29 (G20.room 10)) fun x30 =>
  bS (cValue e.ev x27 [x30] (G20.room 10)) fun x32 G31 =>
  bS (gd x19 true (some (v0, G31)) G31) fun x33 G34 =>
  bS (gd x19 true (bP (pNil x33) fun y => some (y, G34)) G34) fun x35 G36 =>
  bS (gd x19 true (bP (fa Q q 313 2 2 x35) fun y => some (y, G36)) G36) fun x37 G38 =>
  bS (gd x19 true (bP (ld Q q 306 x37 G38) fun y => some (y, G38)) G38) fun x39 G40 =>
  bS (gd x19 true (bP (ef Q q true 306 (.tmp 50) (.const .nilFunc) x39 .nilFunc) fun y => some (y, G40)) G40) fun x41 G42 =>
  bP (pickV x19 x41 (.bool false)) fun x43 =>
  ifV x43 (
  bP (pNil v0) fun x44 =>
  bP (fa Q q 313 2 2 x44) fun x45 =>
  bP (ld Q q 306 x45 (G42.room 9)) fun x46 =>
  bP (pNil v0) fun x47 =>
  bP (fa Q q 313 3 3 x47) fun x48 =>
  bP (ld Q q 308 x48 (G42.room 9)) fun x49 =>
  bS (cValue e.ev x46 [x49] (G42.room 9)) fun x51 G50 =>
  some (.tuple #[x19, x32], G50)) (
  some (.tuple #[x19, x32], G42))) (
  bS (gd x19 true (some (v0, G20)) G20) fun x52 G53 =>
  bS (gd x19 true (bP (pNil x52) fun y => some (y, G53)) G53) fun x54 G55 =>
  bS (gd x19 true (bP (fa Q q 313 2 2 x54) fun y => some (y, G55)) G55) fun x56 G57 =>
  bS (gd x19 true (bP (ld Q q 306 x56 G57) fun y => some (y, G57)) G57) fun x58 G59 =>
  bS (gd x19 true (bP (ef Q q true 306 (.tmp 50) (.const .nilFunc) x58 .nilFunc) fun y => some (y, G59)) G59) fun x60 G61 =>
  bP (pickV x19 x60 (.bool false)) fun x62 =>
  ifV x62 (
  bP (pNil v0) fun x63 =>
  bP (fa Q q 313 2 2 x63) fun x64 =>
  bP (ld Q q 306 x64 (G61.room 9)) fun x65 =>
  bP (pNil v0) fun x66 =>
  bP (fa Q q 313 3 3 x66) fun x67 =>
  bP (ld Q q 308 x67 (G61.room 9)) fun x68 =>
  bS (cValue e.ev x65 [x68] (G61.room 9)) fun x70 G69 =>
  some (.tuple #[x19, (.int .u64 0)], G69)) (
  some (.tuple #[x19, (.int .u64 0)], G61)))) (
  bP (pNil v0) fun x71 =>
  bP (fa Q q 313 3 3 x71) fun x72 =>
  bP (ld Q q 308 x72 G) fun x73 =>
  bP (ifc Q q 308 x73) fun x74 =>
  bS (cInvoke Q e.ev x74 "Step" [v1] G) fun x75 G76 =>
  bP (pNil v0) fun x77 =>
  bP (fa Q q 313 1 1 x77) fun x78 =>
  bP (ld Q q 311 x78 G76) fun x79 =>
  bP (ef Q q true 311 (.tmp 34) (.const .nilFunc) x79 .nilFunc) fun x80 =>
  ifV x80 (
  bP (pNil v0) fun x81 =>
  bP (fa Q q 313 1 1 x81) fun x82 =>
  bP (ld Q q 311 x82 (G76.room 10)) fun x83 =>
  bP (pNil v0) fun x84 =>
  bP (fa Q q 313 3 3 x84) fun x85 =>
  bP (ld Q q 308 x85 (G76.room 10)) fun x86 =>
  bS (cValue e.ev x83 [x86] (G76.room 10)) fun x88 G87 =>
  bS (gd x75 true (some (v0, G87)) G87) fun x89 G90 =>
  bS (gd x75 true (bP (pNil x89) fun y => some (y, G90)) G90) fun x91 G92 =>
  bS (gd x75 true (bP (fa Q q 313 2 2 x91) fun y => some (y, G92)) G92) fun x93 G94 =>
  bS (gd x75 true (bP (ld Q q 306 x93 G94) fun y => some (y, G94)) G94) fun x95 G96 =>
  bS (gd x75 true (bP (ef Q q true 306 (.tmp 50) (.const .nilFunc) x95 .nilFunc) fun y => some (y, G96)) G96) fun x97 G98 =>
  bP (pickV x75 x97 (.bool false)) fun x99 =>
  ifV x99 (
  bP (pNil v0) fun x100 =>
  bP (fa Q q 313 2 2 x100) fun x101 =>
  bP (ld Q q 306 x101 (G98.room 9)) fun x102 =>
  bP (pNil v0) fun x103 =>
  bP (fa Q q 313 3 3 x103) fun x104 =>
  bP (ld Q q 308 x104 (G98.room 9)) fun x105 =>
  bS (cValue e.ev x102 [x105] (G98.room 9)) fun x107 G106 =>
  some (.tuple #[x75, x88], G106)) (
  some (.tuple #[x75, x88], G98))) (
  bS (gd x75 true (some (v0, G76)) G76) fun x108 G109 =>
  bS (gd x75 true (bP (pNil x108) fun y => some (y, G109)) G109) fun x110 G111 =>
  bS (gd x75 true (bP (fa Q q 313 2 2 x110) fun y => some (y, G111)) G111) fun x112 G113 =>
  bS (gd x75 true (bP (ld Q q 306 x112 G113) fun y => some (y, G113)) G113) fun x114 G115 =>
  bS (gd x75 true (bP (ef Q q true 306 (.tmp 50) (.const .nilFunc) x114 .nilFunc) fun y => some (y, G115)) G115) fun x116 G117 =>
  bP (pickV x75 x116 (.bool false)) fun x118 =>
  ifV x118 (
  bP (pNil v0) fun x119 =>
  bP (fa Q q 313 2 2 x119) fun x120 =>
  bP (ld Q q 306 x120 (G117.room 9)) fun x121 =>
  bP (pNil v0) fun x122 =>
  bP (fa Q q 313 3 3 x122) fun x123 =>
  bP (ld Q q 308 x123 (G117.room 9)) fun x124 =>
  bS (cValue e.ev x121 [x124] (G117.room 9)) fun x126 G125 =>
  some (.tuple #[x75, (.int .u64 0)], G125)) (
  some (.tuple #[x75, (.int .u64 0)], G117))))
theorem m348 {e : Ex} {E : Ev} (h : ExLe Q e E) (v0 v1 : Value) (G : GS) : Ref (s348 true e v0 v1 G) (s348 false (Ex.of E) v0 v1 G) := by
  unfold s348
  exact Ref.go
theorem f348 {orc : FuncId → Bool} {e : Ex} (h : ExLe Q e (E orc)) (v0 v1 : Value) (G : GS) : Ref (s348 true e v0 v1 G) ((E orc).cl 348 [v0, v1] G) :=
  fun r hr => cl_sxE_some Q orc (vs := [v0, v1]) G Tryz.func348 (by kernel_rfl) (by kernel_rfl) (by kernel_rfl) (by kernel_rfl) (by kernel_rfl) (by kernel_rfl) (m348 h v0 v1 G r hr)
/-- (*coxswain/limbo.Collect).Step -/
noncomputable def s349 (q : Bool) (e : Ex) (v0 v1 : Value) (G : GS) : Option (Value × GS) :=
  bP (ep Q q false 308 (.tmp 5) (.const (.pointer none)) v0 (.pointer none)) fun x0 =>
  bS (gd x0 false (some (v0, G)) G) fun x1 G2 =>
  bS (gd x0 false (bP (pNil x1) fun y => some (y, G2)) G2) fun x3 G4 =>
  bS (gd x0 false (bP (fa Q q 352 0 0 x3) fun y => some (y, G4)) G4) fun x5 G6 =>
  bS (gd x0 false (some (v1, G6)) G6) fun x7 G8 =>
  bS (gd x0 false (bS (e.ev.cl 302 [x5, x7] G8) fun y G => some (y, G)) G8) fun x9 G10 =>
  bP (pickV x0 (.bool true) x9) fun x11 =>
  some (x11, G10)
theorem m349 {e : Ex} {E : Ev} (h : ExLe Q e E) (v0 v1 : Value) (G : GS) : Ref (s349 true e v0 v1 G) (s349 false (Ex.of E) v0 v1 G) := by
  unfold s349
  exact Ref.go
theorem f349 {orc : FuncId → Bool} {e : Ex} (h : ExLe Q e (E orc)) (v0 v1 : Value) (G : GS) : Ref (s349 true e v0 v1 G) ((E orc).cl 349 [v0, v1] G) :=
  fun r hr => cl_sxE_some Q orc (vs := [v0, v1]) G Tryz.func349 (by kernel_rfl) (by kernel_rfl) (by kernel_rfl) (by kernel_rfl) (by kernel_rfl) (by kernel_rfl) (m349 h v0 v1 G r hr)
end Go.Proofs.YtmdocnigniefnaaGreat.Lift
