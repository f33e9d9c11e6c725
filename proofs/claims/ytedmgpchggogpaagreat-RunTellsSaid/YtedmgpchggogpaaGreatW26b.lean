/- the program's code, spelled out by a program of ours (lift2.lean) -/
import Derived.Test.YtedmgpchggogpaaGreatW26a
namespace Go.Proofs.YtedmgpchggogpaaGreat.LiftK
open Go Go.Proofs.YtedmgpchggogpaaGreat.Gh Go.Proofs
set_option linter.unusedVariables false
set_option maxRecDepth 100000
/-- coxswain/arena.gen -/
noncomputable def s244 (q : Bool) (e : Ex) (v0 : Value) (G : GS) : Option (Value × GS) :=
  bP (bn Q q .and 23 (.tmp 3) (.const (.int .u64 4294967295)) v0 (.int .u64 4294967295)) fun x0 =>
  bP (cv Q q 23 3 .u64 .i64 x0) fun x1 =>
  some (x1, G)
theorem m244 {e : Ex} {E : Ev} (h : ExLe Q e E) (v0 : Value) (G : GS) : Ref (s244 true e v0 G) (s244 false (Ex.of E) v0 G) := by
  unfold s244
  exact Ref.go
theorem f244 {orc : FuncId → Bool} {e : Ex} (h : ExLe Q e (E orc)) (v0 : Value) (G : GS) : Ref (s244 true e v0 G) ((E orc).cl 244 [v0] G) :=
  fun r hr => cl_sxE_some Q orc (vs := [v0]) G Tryz.func244 (by kernel_rfl) (by kernel_rfl) (by kernel_rfl) (by kernel_rfl) (by kernel_rfl) (by kernel_rfl) (m244 h v0 G r hr)
/-- coxswain/tower.refused -/
noncomputable def s245 (q : Bool) (e : Ex) (v0 v1 v2 v3 : Value) (G : GS) : Option (Value × GS) :=
  bS (bx q v0 G) fun x0 G1 =>
  bP (lda Q q 45 13 x0 G1) fun x2 =>
  bS (e.ev.cl 56 [x2] G1) fun x3 G4 =>
  bP (un Q q .not x3) fun x5 =>
  ifV x5 (
  some ((.int .i64 2), G4)) (
  bS (e.ev.cl 250 [v1] G4) fun x6 G7 =>
  bP (pExtract x6 0) fun x8 =>
  bP (pExtract x6 1) fun x9 =>
  bS (al Q q 365 z365 G7) fun x10 G11 =>
  bP (st Q q 365 3 x10 x8 G11) fun G12 =>
  bP (bn Q q .neq 51 (.tmp 20) (.const (.int .i64 0)) x9 (.int .i64 0)) fun x13 =>
  ifV x13 (
  some ((.int .i64 5), G12)) (
  bP (fa Q q 365 0 0 x10) fun x14 =>
  bP (ld Q q 3 x14 G12) fun x15 =>
  bP (bn Q q .lss 3 (.tmp 24) (.const (.int .i64 0)) x15 (.int .i64 0)) fun x16 =>
  bS (gd x16 false (bP (fa Q q 365 2 2 x10) fun y => some (y, G12)) G12) fun x17 G18 =>
  bS (gd x16 false (bP (ld Q q 4 x17 G18) fun y => some (y, G18)) G18) fun x19 G20 =>
  bP (pickV x16 (.bool true) x19) fun x21 =>
  bS (gd x21 false (bP (fa Q q 365 0 0 x10) fun y => some (y, G20)) G20) fun x22 G23 =>
  bS (gd x21 false (bP (ld Q q 3 x22 G23) fun y => some (y, G23)) G23) fun x24 G25 =>
  bS (gd x21 false (bP (fa Q q 45 3 3 x0) fun y => some (y, G25)) G25) fun x26 G27 =>
  bS (gd x21 false (bP (fa Q q 43 0 0 x26) fun y => some (y, G27)) G27) fun x28 G29 =>
  bS (gd x21 false (bP (fa Q q 39 0 0 x28) fun y => some (y, G29)) G29) fun x30 G31 =>
  bS (gd x21 false (bP (fa Q q 37 2 2 x30) fun y => some (y, G31)) G31) fun x32 G33 =>
  bS (gd x21 false (bP (ld Q q 3 x32 G33) fun y => some (y, G33)) G33) fun x34 G35 =>
  bS (gd x21 false (bP (bn Q q .geq 3 (.tmp 32) (.tmp 37) x24 x34) fun y => some (y, G35)) G35) fun x36 G37 =>
  bP (pickV x21 (.bool true) x36) fun x38 =>
  bS (gd x38 false (some (v2, G37)) G37) fun x39 G40 =>
  bS (gd x38 false (bP (bn Q q .lss 3 (.tmp 41) (.const (.int .i64 0)) x39 (.int .i64 0)) fun y => some (y, G40)) G40) fun x41 G42 =>
  bP (pickV x38 (.bool true) x41) fun x43 =>
  bS (gd x43 false (some (v2, G42)) G42) fun x44 G45 =>
  bS (gd x43 false (bP (bn Q q .gtr 3 (.tmp 45) (.const (.int .i64 65534)) x44 (.int .i64 65534)) fun y => some (y, G45)) G45) fun x46 G47 =>
  bP (pickV x43 (.bool true) x46) fun x48 =>
  bS (gd x48 false (some (v3, G47)) G47) fun x49 G50 =>
  bS (gd x48 false (bP (bn Q q .lss 3 (.tmp 49) (.const (.int .i64 1)) x49 (.int .i64 1)) fun y => some (y, G50)) G50) fun x51 G52 =>
  bP (pickV x48 (.bool true) x51) fun x53 =>
  bS (gd x53 false (some (v3, G52)) G52) fun x54 G55 =>
  bS (gd x53 false (bP (fa Q q 45 2 2 x0) fun y => some (y, G55)) G55) fun x56 G57 =>
  bS (gd x53 false (bP (ld Q q 3 x56 G57) fun y => some (y, G57)) G57) fun x58 G59 =>
  bS (gd x53 false (bP (bn Q q .gtr 3 (.tmp 53) (.tmp 55) x54 x58) fun y => some (y, G59)) G59) fun x60 G61 =>
  bP (pickV x53 (.bool true) x60) fun x62 =>
  ifV x62 (
  some ((.int .i64 3), G61)) (
  some ((.int .i64 0), G61))))
theorem m245 {e : Ex} {E : Ev} (h : ExLe Q e E) (v0 v1 v2 v3 : Value) (G : GS) : Ref (s245 true e v0 v1 v2 v3 G) (s245 false (Ex.of E) v0 v1 v2 v3 G) := by
  unfold s245
  exact Ref.go
theorem f245 {orc : FuncId → Bool} {e : Ex} (h : ExLe Q e (E orc)) (v0 v1 v2 v3 : Value) (G : GS) : Ref (s245 true e v0 v1 v2 v3 G) ((E orc).cl 245 [v0, v1, v2, v3] G) :=
  fun r hr => cl_sxE_some Q orc (vs := [v0, v1, v2, v3]) G Tryz.func245 (by kernel_rfl) (by kernel_rfl) (by kernel_rfl) (by kernel_rfl) (by kernel_rfl) (by kernel_rfl) (m245 h v0 v1 v2 v3 G r hr)
/-- coxswain/tower.index -/
noncomputable def s246 (q : Bool) (e : Ex) (v0 v1 : Value) (G : GS) : Option (Value × GS) :=
  bS (bx q v0 G) fun x0 G1 =>
  bS (e.ev.cl 262 [v1] G1) fun x2 G3 =>
  bP (pExtract x2 0) fun x4 =>
  bP (pExtract x2 1) fun x5 =>
  bS (al Q q 313 z313 G3) fun x6 G7 =>
  bP (st Q q 313 2 x6 x4 G7) fun G8 =>
  bP (fa Q q 313 0 0 x6) fun x9 =>
  bP (ld Q q 3 x9 G8) fun x10 =>
  bP (fa Q q 45 3 3 x0) fun x11 =>
  bP (fa Q q 43 0 0 x11) fun x12 =>
  bP (fa Q q 39 0 0 x12) fun x13 =>
  bP (fa Q q 37 2 2 x13) fun x14 =>
  bP (ld Q q 3 x14 G8) fun x15 =>
  bP (bn Q q .geq 3 (.tmp 13) (.tmp 18) x10 x15) fun x16 =>
  ifV x16 (
  some ((.int .i64 (-1)), G8)) (
  bP (fa Q q 313 0 0 x6) fun x17 =>
  bP (ld Q q 3 x17 G8) fun x18 =>
  some (x18, G8))
theorem m246 {e : Ex} {E : Ev} (h : ExLe Q e E) (v0 v1 : Value) (G : GS) : Ref (s246 true e v0 v1 G) (s246 false (Ex.of E) v0 v1 G) := by
  unfold s246
  exact Ref.go
theorem f246 {orc : FuncId → Bool} {e : Ex} (h : ExLe Q e (E orc)) (v0 v1 : Value) (G : GS) : Ref (s246 true e v0 v1 G) ((E orc).cl 246 [v0, v1] G) :=
  fun r hr => cl_sxE_some Q orc (vs := [v0, v1]) G Tryz.func246 (by kernel_rfl) (by kernel_rfl) (by kernel_rfl) (by kernel_rfl) (by kernel_rfl) (by kernel_rfl) (m246 h v0 v1 G r hr)
/-- coxswain/tower.NewLay$1 -/
noncomputable def s247 (q : Bool) (e : Ex) (v0 v1 v2 v3 : Value) (G : GS) : Option (Value × GS) :=
  bS (bx q v0 G) fun x0 G1 =>
  bS (bx q v1 G1) fun x2 G3 =>
  some ((.func (.func 248) #[] #[v2, v3, x0, x2]), G3)
theorem m247 {e : Ex} {E : Ev} (h : ExLe Q e E) (v0 v1 v2 v3 : Value) (G : GS) : Ref (s247 true e v0 v1 v2 v3 G) (s247 false (Ex.of E) v0 v1 v2 v3 G) := by
  unfold s247
  exact Ref.go
theorem f247 {orc : FuncId → Bool} {e : Ex} (h : ExLe Q e (E orc)) (v0 v1 v2 v3 : Value) (G : GS) : Ref (s247 true e v0 v1 v2 v3 G) ((E orc).cl 247 [v0, v1, v2, v3] G) :=
  fun r hr => cl_sxE_some Q orc (vs := [v0, v1, v2, v3]) G Tryz.func247 (by kernel_rfl) (by kernel_rfl) (by kernel_rfl) (by kernel_rfl) (by kernel_rfl) (by kernel_rfl) (m247 h v0 v1 v2 v3 G r hr)
/-- coxswain/tower.NewLay$1$1 -/
noncomputable def s248 (q : Bool) (e : Ex) (v0 v1 v2 v3 v4 : Value) (G : GS) : Option (Value × GS) :=
  bP (lda Q q 45 13 v1 (G.room 7)) fun x0 =>
  bP (ld Q q 3 v2 (G.room 7)) fun x1 =>
  bP (ld Q q 3 v3 (G.room 7)) fun x2 =>
  bS (e.ev.cl 142 [x0, x1, x2] (G.room 7)) fun x4 G3 =>
  bP (ld Q q 23 v4 G3) fun x5 =>
  chk ((sameO (ld Q q 23 v4 (G.room 7)) x5 && true)) <|
  bS (e.ev.cl 23 [v0, x4, x5] G3) fun x7 G6 =>
  some (.tuple #[], G6)
theorem m248 {e : Ex} {E : Ev} (h : ExLe Q e E) (v0 v1 v2 v3 v4 : Value) (G : GS) : Ref (s248 true e v0 v1 v2 v3 v4 G) (s248 false (Ex.of E) v0 v1 v2 v3 v4 G) := by
  unfold s248
  exact Ref.go
theorem f248 {orc : FuncId → Bool} {e : Ex} (h : ExLe Q e (E orc)) (v0 v1 v2 v3 v4 : Value) (G : GS) : Ref (s248 true e v0 v1 v2 v3 v4 G) ((E orc).cl 248 [v0, v1, v2, v3, v4] G) :=
  fun r hr => cl_sxE_some Q orc (vs := [v0, v1, v2, v3, v4]) G Tryz.func248 (by kernel_rfl) (by kernel_rfl) (by kernel_rfl) (by kernel_rfl) (by kernel_rfl) (by kernel_rfl) (m248 h v0 v1 v2 v3 v4 G r hr)
/-- coxswain/insert.refused -/
noncomputable def s249 (q : Bool) (e : Ex) (v0 v1 v2 : Value) (G : GS) : Option (Value × GS) :=
  bS (bx q v0 G) fun x0 G1 =>
  bP (lda Q q 45 13 x0 G1) fun x2 =>
  bS (e.ev.cl 142 [x2, (.int .i64 0), (.int .i64 0)] G1) fun x3 G4 =>
  bP (bn Q q .lss 3 (.tmp 10) (.const (.int .i64 0)) x3 (.int .i64 0)) fun x5 =>
  ifV x5 (
  some ((.int .i64 2), G4)) (
  bS (e.ev.cl 250 [v1] G4) fun x6 G7 =>
  bP (pExtract x6 0) fun x8 =>
  bP (pExtract x6 1) fun x9 =>
  bS (al Q q 365 z365 G7) fun x10 G11 =>
  bP (st Q q 365 3 x10 x8 G11) fun G12 =>
  bP (bn Q q .neq 51 (.tmp 18) (.const (.int .i64 0)) x9 (.int .i64 0)) fun x13 =>
  ifV x13 (
  some ((.int .i64 5), G12)) (
  bP (fa Q q 365 0 0 x10) fun x14 =>
  bP (ld Q q 3 x14 G12) fun x15 =>
  bP (bn Q q .lss 3 (.tmp 22) (.const (.int .i64 0)) x15 (.int .i64 0)) fun x16 =>
  bS (gd x16 false (bP (fa Q q 365 2 2 x10) fun y => some (y, G12)) G12) fun x17 G18 =>
  bS (gd x16 false (bP (ld Q q 4 x17 G18) fun y => some (y, G18)) G18) fun x19 G20 =>
  bP (pickV x16 (.bool true) x19) fun x21 =>
  bS (gd x21 false (bP (fa Q q 365 0 0 x10) fun y => some (y, G20)) G20) fun x22 G23 =>
  bS (gd x21 false (bP (ld Q q 3 x22 G23) fun y => some (y, G23)) G23) fun x24 G25 =>
  bS (gd x21 false (bP (fa Q q 45 3 3 x0) fun y => some (y, G25)) G25) fun x26 G27 =>
  bS (gd x21 false (bP (fa Q q 43 0 0 x26) fun y => some (y, G27)) G27) fun x28 G29 =>
  bS (gd x21 false (bP (fa Q q 39 0 0 x28) fun y => some (y, G29)) G29) fun x30 G31 =>
  bS (gd x21 false (bP (fa Q q 37 2 2 x30) fun y => some (y, G31)) G31) fun x32 G33 =>
  bS (gd x21 false (bP (ld Q q 3 x32 G33) fun y => some (y, G33)) G33) fun x34 G35 =>
  bS (gd x21 false (bP (bn Q q .geq 3 (.tmp 30) (.tmp 35) x24 x34) fun y => some (y, G35)) G35) fun x36 G37 =>
  bP (pickV x21 (.bool true) x36) fun x38 =>
  bS (gd x38 false (some (v2, G37)) G37) fun x39 G40 =>
  bS (gd x38 false (bP (bn Q q .lss 3 (.tmp 39) (.const (.int .i64 1)) x39 (.int .i64 1)) fun y => some (y, G40)) G40) fun x41 G42 =>
  bP (pickV x38 (.bool true) x41) fun x43 =>
  bS (gd x43 false (some (v2, G42)) G42) fun x44 G45 =>
  bS (gd x43 false (bP (fa Q q 45 2 2 x0) fun y => some (y, G45)) G45) fun x46 G47 =>
  bS (gd x43 false (bP (ld Q q 3 x46 G47) fun y => some (y, G47)) G47) fun x48 G49 =>
  bS (gd x43 false (bP (bn Q q .gtr 3 (.tmp 43) (.tmp 45) x44 x48) fun y => some (y, G49)) G49) fun x50 G51 =>
  bP (pickV x43 (.bool true) x50) fun x52 =>
  ifV x52 (
  some ((.int .i64 3), G51)) (
  some ((.int .i64 0), G51))))
theorem m249 {e : Ex} {E : Ev} (h : ExLe Q e E) (v0 v1 v2 : Value) (G : GS) : Ref (s249 true e v0 v1 v2 G) (s249 false (Ex.of E) v0 v1 v2 G) := by
  unfold s249
  exact Ref.go
theorem f249 {orc : FuncId → Bool} {e : Ex} (h : ExLe Q e (E orc)) (v0 v1 v2 : Value) (G : GS) : Ref (s249 true e v0 v1 v2 G) ((E orc).cl 249 [v0, v1, v2] G) :=
  fun r hr => cl_sxE_some Q orc (vs := [v0, v1, v2]) G Tryz.func249 (by kernel_rfl) (by kernel_rfl) (by kernel_rfl) (by kernel_rfl) (by kernel_rfl) (by kernel_rfl) (m249 h v0 v1 v2 G r hr)
/-- coxswain/word.GetRef -/
noncomputable def s250 (q : Bool) (e : Ex) (v0 : Value) (G : GS) : Option (Value × GS) :=
  bS (al Q q 365 z365 G) fun x0 G1 =>
  bS (e.ev.cl 260 [] G1) fun x2 G3 =>
  bS (al Q q 357 z357 G3) fun x4 G5 =>
  bP (st Q q 357 4 x4 x2 G5) fun G6 =>
  bP (iaa Q q 357 2 2 x4 (.int .i64 0)) fun x7 =>
  bP (lda Q q 356 2 x7 (G6.room 14)) fun x8 =>
  bS (e.ev.cl 263 [v0, x8] (G6.room 14)) fun x10 G9 =>
  bP (bn Q q .sub 3 (.tmp 12) (.const (.int .i64 1)) x10 (.int .i64 1)) fun x11 =>
  bP (iaa Q q 357 2 2 x4 (.int .i64 1)) fun x12 =>
  bP (lda Q q 356 2 x12 G9) fun x13 =>
  chk ((sameO (lda Q q 356 2 x12 (G6.room 14)) x13 && true)) <|
  bS (e.ev.cl 263 [v0, x13] G9) fun x15 G14 =>
  bS (e.ev.cl 264 [v0] G14) fun x17 G16 =>
  bP (bd Q q 365 z365 [(0, 0, 1), (1, 1, 1), (2, 2, 1)] [x11, x15, x17]) fun x18 =>
  bS (al Q q 365 z365 (G16.at' (G6.nx + 12))) fun x19 G20 =>
  bP (st Q q 365 3 x19 x18 (G20.back G16)) fun G21 =>
  bP (lda Q q 365 3 x19 G21) fun x22 =>
  bS (e.ev.cl 243 [x22] G21) fun x23 G24 =>
  bP (pExtract x23 0) fun x25 =>
  bP (pExtract x23 1) fun x26 =>
  bP (bn Q q .neq 51 (.tmp 26) (.const (.int .i64 0)) x26 (.int .i64 0)) fun x27 =>
  bS (gd x27 false (some (x25, G24)) G24) fun x28 G29 =>
  bS (gd x27 false (some (v0, G29)) G29) fun x30 G31 =>
  bS (gd x27 false (bP (bn Q q .neq 23 (.tmp 29) (.tmp 30) x28 x30) fun y => some (y, G31)) G31) fun x32 G33 =>
  bP (pickV x27 (.bool true) x32) fun x34 =>
  ifV x34 (
  bP (bd Q q 365 z365 [] []) fun x35 =>
  bP (st Q q 365 3 x0 x35 G33) fun G36 =>
  bP (lda Q q 365 3 x0 G36) fun x37 =>
  some (.tuple #[x37, (.int .i64 5)], G36)) (
  bP (lda Q q 365 3 x19 G33) fun x38 =>
  bP (st Q q 365 3 x0 x38 G33) fun G39 =>
  bP (lda Q q 365 3 x0 G39) fun x40 =>
  some (.tuple #[x40, (.int .i64 0)], G39))
theorem m250 {e : Ex} {E : Ev} (h : ExLe Q e E) (v0 : Value) (G : GS) : Ref (s250 true e v0 G) (s250 false (Ex.of E) v0 G) := by
  unfold s250
  exact Ref.go
theorem f250 {orc : FuncId → Bool} {e : Ex} (h : ExLe Q e (E orc)) (v0 : Value) (G : GS) : Ref (s250 true e v0 G) ((E orc).cl 250 [v0] G) :=
  fun r hr => cl_sxE_some Q orc (vs := [v0]) G Tryz.func250 (by kernel_rfl) (by kernel_rfl) (by kernel_rfl) (by kernel_rfl) (by kernel_rfl) (by kernel_rfl) (m250 h v0 G r hr)
/-- (*coxswain/insert.Insert).anew -/
noncomputable def s251 (q : Bool) (e : Ex) (v0 v1 : Value) (G : GS) : Option (Value × GS) :=
  bP (pNil v0) fun x0 =>
  bP (fa Q q 376 0 0 x0) fun x1 =>
  bP (lda Q q 45 13 x1 (G.room 13)) fun x2 =>
  bP (pNil v0) fun x3 =>
  bP (fa Q q 376 4 16 x3) fun x4 =>
  bP (ld Q q 23 x4 (G.room 13)) fun x5 =>
  bS (e.ev.cl 265 [x2, x5] (G.room 13)) fun x7 G6 =>
  bP (pNil v0) fun x8 =>
  bP (fa Q q 376 10 22 x8) fun x9 =>
  bP (st Q q 373 1 x9 x7 G6) fun G10 =>
  some (v1, G10)
theorem m251 {e : Ex} {E : Ev} (h : ExLe Q e E) (v0 v1 : Value) (G : GS) : Ref (s251 true e v0 v1 G) (s251 false (Ex.of E) v0 v1 G) := by
  unfold s251
  exact Ref.go
theorem f251 {orc : FuncId → Bool} {e : Ex} (h : ExLe Q e (E orc)) (v0 v1 : Value) (G : GS) : Ref (s251 true e v0 v1 G) ((E orc).cl 251 [v0, v1] G) :=
  fun r hr => cl_sxE_some Q orc (vs := [v0, v1]) G Tryz.func251 (by kernel_rfl) (by kernel_rfl) (by kernel_rfl) (by kernel_rfl) (by kernel_rfl) (by kernel_rfl) (m251 h v0 v1 G r hr)
/-- (coxswain/word.raw).with -/
noncomputable def s256 (q : Bool) (e : Ex) (v0 v1 v2 : Value) (G : GS) : Option (Value × GS) :=
  bS (bx q v1 G) fun x0 G1 =>
  bP (cv Q q 3 23 .i64 .u64 v2) fun x2 =>
  bP (fa Q q 356 0 0 x0) fun x3 =>
  bP (ld Q q 3 x3 G1) fun x4 =>
  bP (bn Q q .shl 23 (.tmp 9) (.tmp 11) x2 x4) fun x5 =>
  bP (bn Q q .or 359 (.tmp 7) (.tmp 12) v0 x5) fun x6 =>
  some (x6, G1)
theorem m256 {e : Ex} {E : Ev} (h : ExLe Q e E) (v0 v1 v2 : Value) (G : GS) : Ref (s256 true e v0 v1 v2 G) (s256 false (Ex.of E) v0 v1 v2 G) := by
  unfold s256
  exact Ref.go
theorem f256 {orc : FuncId → Bool} {e : Ex} (h : ExLe Q e (E orc)) (v0 v1 v2 : Value) (G : GS) : Ref (s256 true e v0 v1 v2 G) ((E orc).cl 256 [v0, v1, v2] G) :=
  fun r hr => cl_sxE_some Q orc (vs := [v0, v1, v2]) G Tryz.func256 (by kernel_rfl) (by kernel_rfl) (by kernel_rfl) (by kernel_rfl) (by kernel_rfl) (by kernel_rfl) (m256 h v0 v1 v2 G r hr)
/-- coxswain/stack.read -/
noncomputable def s257 (q : Bool) (e : Ex) (v0 v1 : Value) (G : GS) : Option (Value × GS) :=
  bS (bx q v0 G) fun x0 G1 =>
  bS (e.ev.cl 262 [v1] G1) fun x2 G3 =>
  bP (pExtract x2 0) fun x4 =>
  bP (pExtract x2 1) fun x5 =>
  bS (al Q q 313 z313 G3) fun x6 G7 =>
  bP (st Q q 313 2 x6 x4 G7) fun G8 =>
  bP (fa Q q 313 0 0 x6) fun x9 =>
  bP (ld Q q 3 x9 G8) fun x10 =>
  bP (fa Q q 37 2 2 x0) fun x11 =>
  bP (ld Q q 3 x11 G8) fun x12 =>
  bP (bn Q q .geq 3 (.tmp 13) (.tmp 15) x10 x12) fun x13 =>
  ifV x13 (
  some ((.int .i64 (-1)), G8)) (
  bP (fa Q q 313 0 0 x6) fun x14 =>
  bP (ld Q q 3 x14 G8) fun x15 =>
  some (x15, G8))
theorem m257 {e : Ex} {E : Ev} (h : ExLe Q e E) (v0 v1 : Value) (G : GS) : Ref (s257 true e v0 v1 G) (s257 false (Ex.of E) v0 v1 G) := by
  unfold s257
  exact Ref.go
theorem f257 {orc : FuncId → Bool} {e : Ex} (h : ExLe Q e (E orc)) (v0 v1 : Value) (G : GS) : Ref (s257 true e v0 v1 G) ((E orc).cl 257 [v0, v1] G) :=
  fun r hr => cl_sxE_some Q orc (vs := [v0, v1]) G Tryz.func257 (by kernel_rfl) (by kernel_rfl) (by kernel_rfl) (by kernel_rfl) (by kernel_rfl) (by kernel_rfl) (m257 h v0 v1 G r hr)
/-- (*coxswain/stack.Pop).third -/
noncomputable def s258 (q : Bool) (e : Ex) (v0 v1 : Value) (G : GS) : Option (Value × GS) :=
  bP (pNil v0) fun x0 =>
  bP (fa Q q 319 1 9 x0) fun x1 =>
  bP (st Q q 317 1 x1 (.func (.func 213) #[] #[]) G) fun G2 =>
  bP (pNil v0) fun x3 =>
  bP (fa Q q 319 0 0 x3) fun x4 =>
  bP (pNil v0) fun x5 =>
  bP (fa Q q 319 0 0 x5) fun x6 =>
  bP (fa Q q 316 3 5 x6) fun x7 =>
  bP (ld Q q 3 x7 (G2.room 10)) fun x8 =>
  bS (e.ev.cl 273 [x4, v1, x8] (G2.room 10)) fun x10 G9 =>
  ifV x10 (
  bP (pNil v0) fun x11 =>
  bP (fa Q q 319 0 0 x11) fun x12 =>
  bS (e.ev.cl 240 [x12, (.int .i64 0)] G9) fun x13 G14 =>
  some (.tuple #[], G14)) (
  some (.tuple #[], G9))
theorem m258 {e : Ex} {E : Ev} (h : ExLe Q e E) (v0 v1 : Value) (G : GS) : Ref (s258 true e v0 v1 G) (s258 false (Ex.of E) v0 v1 G) := by
  unfold s258
  exact Ref.go
theorem f258 {orc : FuncId → Bool} {e : Ex} (h : ExLe Q e (E orc)) (v0 v1 : Value) (G : GS) : Ref (s258 true e v0 v1 G) ((E orc).cl 258 [v0, v1] G) :=
  fun r hr => cl_sxE_some Q orc (vs := [v0, v1]) G Tryz.func258 (by kernel_rfl) (by kernel_rfl) (by kernel_rfl) (by kernel_rfl) (by kernel_rfl) (by kernel_rfl) (m258 h v0 v1 G r hr)
/-- (*coxswain/stack.held).told -/
noncomputable def s259 (q : Bool) (e : Ex) (v0 : Value) (G : GS) : Option (Value × GS) :=
  bP (ep Q q false 397 (.tmp 4) (.const (.pointer none)) v0 (.pointer none)) fun x0 =>
  bS (gd x0 false (some (v0, G)) G) fun x1 G2 =>
  bS (gd x0 false (bP (pNil x1) fun y => some (y, G2)) G2) fun x3 G4 =>
  bS (gd x0 false (bP (fa Q q 316 4 6 x3) fun y => some (y, G4)) G4) fun x5 G6 =>
  bS (gd x0 false (bP (ld Q q 4 x5 G6) fun y => some (y, G6)) G6) fun x7 G8 =>
  bS (gd x0 false (bP (un Q q .not x7) fun y => some (y, G8)) G8) fun x9 G10 =>
  bP (pickV x0 (.bool true) x9) fun x11 =>
  ifV x11 (
  some ((.int .i64 1), G10)) (
  bP (pNil v0) fun x12 =>
  bP (fa Q q 316 5 7 x12) fun x13 =>
  bP (ld Q q 4 x13 G10) fun x14 =>
  bP (un Q q .not x14) fun x15 =>
  ifV x15 (
  some ((.int .i64 14), G10)) (
  bP (pNil v0) fun x16 =>
  bP (fa Q q 316 6 8 x16) fun x17 =>
  bP (ld Q q 51 x17 G10) fun x18 =>
  some (x18, G10)))
theorem m259 {e : Ex} {E : Ev} (h : ExLe Q e E) (v0 : Value) (G : GS) : Ref (s259 true e v0 G) (s259 false (Ex.of E) v0 G) := by
  unfold s259
  exact Ref.go
theorem f259 {orc : FuncId → Bool} {e : Ex} (h : ExLe Q e (E orc)) (v0 : Value) (G : GS) : Ref (s259 true e v0 G) ((E orc).cl 259 [v0] G) :=
  fun r hr => cl_sxE_some Q orc (vs := [v0]) G Tryz.func259 (by kernel_rfl) (by kernel_rfl) (by kernel_rfl) (by kernel_rfl) (by kernel_rfl) (by kernel_rfl) (m259 h v0 G r hr)
/-- coxswain/word.refs -/
noncomputable def s260 (q : Bool) (e : Ex) (G : GS) : Option (Value × GS) :=
  bS (al Q q 357 z357 G) fun x0 G1 =>
  bP (bd Q q 356 z356 [(0, 0, 1), (1, 1, 1)] [(.int .i64 0), (.int .i64 16)]) fun x2 =>
  bP (bd Q q 356 z356 [(0, 0, 1), (1, 1, 1)] [(.int .i64 16), (.int .i64 32)]) fun x3 =>
  bP (bd Q q 357 z357 [(0, 0, 2), (1, 2, 2)] [x2, x3]) fun x4 =>
  bP (st Q q 357 4 x0 x4 G1) fun G5 =>
  bP (lda Q q 357 4 x0 G5) fun x6 =>
  some (x6, G5)
theorem m260 {e : Ex} {E : Ev} (h : ExLe Q e E) (G : GS) : Ref (s260 true e  G) (s260 false (Ex.of E)  G) := by
  unfold s260
  exact Ref.go
theorem f260 {orc : FuncId → Bool} {e : Ex} (h : ExLe Q e (E orc)) (ho : orc 260 = false) (G : GS) : Ref (s260 true e  G) ((E orc).cl 260 [] G) :=
  fun r hr => cl_sxE_some Q orc (vs := []) G Tryz.func260 (by kernel_rfl) (by kernel_rfl) ho (by kernel_rfl) (by kernel_rfl) (by kernel_rfl) (m260 h  G r hr)
/-- coxswain/word.Marks -/
noncomputable def s261 (q : Bool) (e : Ex) (v0 v1 : Value) (G : GS) : Option (Value × GS) :=
  ifV v1 (
  bP (bn Q q .or 23 (.tmp 6) (.const (.int .u64 9223372036854775808)) v0 (.int .u64 9223372036854775808)) fun x0 =>
  some (x0, G)) (
  bP (bn Q q .andNot 23 (.tmp 8) (.const (.int .u64 9223372036854775808)) v0 (.int .u64 9223372036854775808)) fun x1 =>
  some (x1, G))
theorem m261 {e : Ex} {E : Ev} (h : ExLe Q e E) (v0 v1 : Value) (G : GS) : Ref (s261 true e v0 v1 G) (s261 false (Ex.of E) v0 v1 G) := by
  unfold s261
  exact Ref.go
theorem f261 {orc : FuncId → Bool} {e : Ex} (h : ExLe Q e (E orc)) (v0 v1 : Value) (G : GS) : Ref (s261 true e v0 v1 G) ((E orc).cl 261 [v0, v1] G) :=
  fun r hr => cl_sxE_some Q orc (vs := [v0, v1]) G Tryz.func261 (by kernel_rfl) (by kernel_rfl) (by kernel_rfl) (by kernel_rfl) (by kernel_rfl) (by kernel_rfl) (m261 h v0 v1 G r hr)
/-- coxswain/word.GetTop -/
noncomputable def s262 (q : Bool) (e : Ex) (v0 : Value) (G : GS) : Option (Value × GS) :=
  bS (al Q q 313 z313 G) fun x0 G1 =>
  bS (e.ev.cl 236 [] G1) fun x2 G3 =>
  bS (al Q q 357 z357 G3) fun x4 G5 =>
  bP (st Q q 357 4 x4 x2 G5) fun G6 =>
  bP (iaa Q q 357 2 2 x4 (.int .i64 0)) fun x7 =>
  bP (lda Q q 356 2 x7 (G6.room 12)) fun x8 =>
  bS (e.ev.cl 263 [v0, x8] (G6.room 12)) fun x10 G9 =>
  bP (bn Q q .sub 3 (.tmp 9) (.const (.int .i64 1)) x10 (.int .i64 1)) fun x11 =>
  bP (iaa Q q 357 2 2 x4 (.int .i64 1)) fun x12 =>
  bP (lda Q q 356 2 x12 G9) fun x13 =>
  chk ((sameO (lda Q q 356 2 x12 (G6.room 12)) x13 && true)) <|
  bS (e.ev.cl 263 [v0, x13] G9) fun x15 G14 =>
  bP (bd Q q 313 z313 [(0, 0, 1), (1, 1, 1)] [x11, x15]) fun x16 =>
  bP (st Q q 313 2 x0 x16 G14) fun G17 =>
  bP (lda Q q 313 2 x0 G17) fun x18 =>
  some (.tuple #[x18, (.int .i64 0)], G17)
theorem m262 {e : Ex} {E : Ev} (h : ExLe Q e E) (v0 : Value) (G : GS) : Ref (s262 true e v0 G) (s262 false (Ex.of E) v0 G) := by
  unfold s262
  exact Ref.go
theorem f262 {orc : FuncId → Bool} {e : Ex} (h : ExLe Q e (E orc)) (v0 : Value) (G : GS) : Ref (s262 true e v0 G) ((E orc).cl 262 [v0] G) :=
  fun r hr => cl_sxE_some Q orc (vs := [v0]) G Tryz.func262 (by kernel_rfl) (by kernel_rfl) (by kernel_rfl) (by kernel_rfl) (by kernel_rfl) (by kernel_rfl) (m262 h v0 G r hr)
/-- (coxswain/word.raw).take -/
noncomputable def s263 (q : Bool) (e : Ex) (v0 v1 : Value) (G : GS) : Option (Value × GS) :=
  bS (bx q v1 G) fun x0 G1 =>
  bP (fa Q q 356 0 0 x0) fun x2 =>
  bP (ld Q q 3 x2 (G1.room 11)) fun x3 =>
  bP (bn Q q .shr 23 (.tmp 5) (.tmp 7) v0 x3) fun x4 =>
  bP (fa Q q 356 1 1 x0) fun x5 =>
  bP (ld Q q 3 x5 (G1.room 11)) fun x6 =>
  bP (bn Q q .shl 23 (.const (.int .u64 1)) (.tmp 10) (.int .u64 1) x6) fun x7 =>
  bP (bn Q q .sub 23 (.tmp 11) (.const (.int .u64 1)) x7 (.int .u64 1)) fun x8 =>
  bP (bn Q q .and 23 (.tmp 8) (.tmp 12) x4 x8) fun x9 =>
  bP (cv Q q 23 3 .u64 .i64 x9) fun x10 =>
  some (x10, (G1.room 11))
theorem m263 {e : Ex} {E : Ev} (h : ExLe Q e E) (v0 v1 : Value) (G : GS) : Ref (s263 true e v0 v1 G) (s263 false (Ex.of E) v0 v1 G) := by
  unfold s263
  exact Ref.go
theorem f263 {orc : FuncId → Bool} {e : Ex} (h : ExLe Q e (E orc)) (v0 v1 : Value) (G : GS) : Ref (s263 true e v0 v1 G) ((E orc).cl 263 [v0, v1] G) :=
  fun r hr => cl_sxE_some Q orc (vs := [v0, v1]) G Tryz.func263 (by kernel_rfl) (by kernel_rfl) (by kernel_rfl) (by kernel_rfl) (by kernel_rfl) (by kernel_rfl) (m263 h v0 v1 G r hr)
/-- coxswain/word.Marked -/
noncomputable def s264 (q : Bool) (e : Ex) (v0 : Value) (G : GS) : Option (Value × GS) :=
  bP (bn Q q .shr 23 (.tmp 3) (.const (.int .u64 63)) v0 (.int .u64 63)) fun x0 =>
  bP (bn Q q .eql 23 (.tmp 4) (.const (.int .u64 1)) x0 (.int .u64 1)) fun x1 =>
  some (x1, G)
theorem m264 {e : Ex} {E : Ev} (h : ExLe Q e E) (v0 : Value) (G : GS) : Ref (s264 true e v0 G) (s264 false (Ex.of E) v0 G) := by
  unfold s264
  exact Ref.go
theorem f264 {orc : FuncId → Bool} {e : Ex} (h : ExLe Q e (E orc)) (v0 : Value) (G : GS) : Ref (s264 true e v0 G) ((E orc).cl 264 [v0] G) :=
  fun r hr => cl_sxE_some Q orc (vs := [v0]) G Tryz.func264 (by kernel_rfl) (by kernel_rfl) (by kernel_rfl) (by kernel_rfl) (by kernel_rfl) (by kernel_rfl) (m264 h v0 G r hr)
/-- coxswain/find.NewFind -/
noncomputable def s265 (q : Bool) (e : Ex) (v0 v1 : Value) (G : GS) : Option (Value × GS) :=
  bS (bx q v0 G) fun x0 G1 =>
  bP (lda Q q 45 13 x0 G1) fun x2 =>
  bP (bd Q q 413 z413 [(0, 0, 13), (1, 13, 1), (7, 22, 1)] [x2, v1, (.bool true)]) fun x3 =>
  bS (bx q x3 G1) fun x4 G5 =>
  bP (lda Q q 45 13 x0 G5) fun x6 =>
  bS (e.ev.cl 194 [x6, (.int .i64 (-1)), (.int .i64 0)] G5) fun x7 G8 =>
  bP (bn Q q .lss 3 (.tmp 11) (.const (.int .i64 0)) x7 (.int .i64 0)) fun x9 =>
  ifV x9 (
  bP (pNil x4) fun x10 =>
  bP (fa Q q 413 2 14 x10) fun x11 =>
  bP (st Q q 3 1 x11 (.int .i64 9) G8) fun G12 =>
  bP (pNil x4) fun x13 =>
  bP (fa Q q 413 8 23 x13) fun x14 =>
  bP (st Q q 51 1 x14 (.int .i64 2) G12) fun G15 =>
  some (x4, G15)) (
  bP (fa Q q 45 2 2 x0) fun x16 =>
  bP (ld Q q 3 x16 G8) fun x17 =>
  bS (mk Q q 411 4 32 z410 x17 x17 G8) fun x18 G19 =>
  bP (pNil x4) fun x20 =>
  bP (fa Q q 413 5 20 x20) fun x21 =>
  bP (st Q q 411 1 x21 x18 G19) fun G22 =>
  bS (e.ev.cl 274 [x4] G22) fun x23 G24 =>
  some (x4, G24))
theorem m265 {e : Ex} {E : Ev} (h : ExLe Q e E) (v0 v1 : Value) (G : GS) : Ref (s265 true e v0 v1 G) (s265 false (Ex.of E) v0 v1 G) := by
  unfold s265
  exact Ref.go
theorem f265 {orc : FuncId → Bool} {e : Ex} (h : ExLe Q e (E orc)) (v0 v1 : Value) (G : GS) : Ref (s265 true e v0 v1 G) ((E orc).cl 265 [v0, v1] G) :=
  fun r hr => cl_sxE_some Q orc (vs := [v0, v1]) G Tryz.func265 (by kernel_rfl) (by kernel_rfl) (by kernel_rfl) (by kernel_rfl) (by kernel_rfl) (by kernel_rfl) (m265 h v0 v1 G r hr)
/-- (*coxswain/stack.held).swap -/
noncomputable def s273 (q : Bool) (e : Ex) (v0 v1 v2 : Value) (G : GS) : Option (Value × GS) :=
  bP (pNil v0) fun x0 =>
  bP (fa Q q 316 1 3 x0) fun x1 =>
  bP (ld Q q 23 x1 G) fun x2 =>
  bS (e.ev.cl 262 [x2] G) fun x3 G4 =>
  bP (pExtract x3 0) fun x5 =>
  bP (pExtract x3 1) fun x6 =>
  bS (al Q q 313 z313 G4) fun x7 G8 =>
  bP (st Q q 313 2 x7 x5 G8) fun G9 =>
  bP (fa Q q 313 1 1 x7) fun x10 =>
  bP (ld Q q 3 x10 G9) fun x11 =>
  bP (bn Q q .add 3 (.tmp 22) (.const (.int .i64 1)) x11 (.int .i64 1)) fun x12 =>
  bP (bn Q q .and 3 (.tmp 23) (.const (.int .i64 281474976710655)) x12 (.int .i64 281474976710655)) fun x13 =>
  bP (bd Q q 313 z313 [(0, 0, 1), (1, 1, 1)] [v2, x13]) fun x14 =>
  bS (e.ev.cl 212 [x14] G9) fun x15 G16 =>
  bP (pExtract x15 0) fun x17 =>
  bP (pExtract x15 1) fun x18 =>
  bP (pNil v0) fun x19 =>
  bP (fa Q q 316 0 0 x19) fun x20 =>
  bP (fa Q q 37 0 0 x20) fun x21 =>
  bP (ld Q q 3 x21 (G16.room 13)) fun x22 =>
  bP (pNil v0) fun x23 =>
  bP (fa Q q 316 1 3 x23) fun x24 =>
  bP (ld Q q 23 x24 (G16.room 13)) fun x25 =>
  bS (e.ev.cl 276 [v1, x22, x25, x17] (G16.room 13)) fun x27 G26 =>
  some (x27, G26)
theorem m273 {e : Ex} {E : Ev} (h : ExLe Q e E) (v0 v1 v2 : Value) (G : GS) : Ref (s273 true e v0 v1 v2 G) (s273 false (Ex.of E) v0 v1 v2 G) := by
  unfold s273
  exact Ref.go
theorem f273 {orc : FuncId → Bool} {e : Ex} (h : ExLe Q e (E orc)) (v0 v1 v2 : Value) (G : GS) : Ref (s273 true e v0 v1 v2 G) ((E orc).cl 273 [v0, v1, v2] G) :=
  fun r hr => cl_sxE_some Q orc (vs := [v0, v1, v2]) G Tryz.func273 (by kernel_rfl) (by kernel_rfl) (by kernel_rfl) (by kernel_rfl) (by kernel_rfl) (by kernel_rfl) (m273 h v0 v1 v2 G r hr)
/-- (*coxswain/find.Find).anew -/
noncomputable def s274 (q : Bool) (e : Ex) (v0 : Value) (G : GS) : Option (Value × GS) :=
  bP (pNil v0) fun x0 =>
  bP (fa Q q 413 0 0 x0) fun x1 =>
  bP (fa Q q 45 2 2 x1) fun x2 =>
  bP (ld Q q 3 x2 G) fun x3 =>
  bP (bn Q q .sub 3 (.tmp 7) (.const (.int .i64 1)) x3 (.int .i64 1)) fun x4 =>
  bS (e.ev.cl 282 [v0, x4] G) fun x5 G6 =>
  some (.tuple #[], G6)
theorem m274 {e : Ex} {E : Ev} (h : ExLe Q e E) (v0 : Value) (G : GS) : Ref (s274 true e v0 G) (s274 false (Ex.of E) v0 G) := by
  unfold s274
  exact Ref.go
theorem f274 {orc : FuncId → Bool} {e : Ex} (h : ExLe Q e (E orc)) (v0 : Value) (G : GS) : Ref (s274 true e v0 G) ((E orc).cl 274 [v0] G) :=
  fun r hr => cl_sxE_some Q orc (vs := [v0]) G Tryz.func274 (by kernel_rfl) (by kernel_rfl) (by kernel_rfl) (by kernel_rfl) (by kernel_rfl) (by kernel_rfl) (m274 h v0 G r hr)
/-- (*coxswain/cells.Mem).CAS -/
noncomputable def s276 (q : Bool) (e : Ex) (v0 v1 v2 v3 : Value) (G : GS) : Option (Value × GS) :=
  bS (e.ev.cl 62 [v0, v1] G) fun x0 G1 =>
  bP (bd Q q 109 z109 [(0, 0, 1), (1, 1, 1), (2, 2, 1)] [x0, v2, v3]) fun x2 =>
  bS (al Q q 109 z109 G1) fun x3 G4 =>
  bP (st Q q 109 3 x3 x2 G4) fun G5 =>
  bP (fa Q q 109 0 0 x3) fun x6 =>
  bP (ld Q q 106 x6 G5) fun x7 =>
  bP (lda Q q 109 3 x3 G5) fun x8 =>
  bS (e.ev.cl 63 [v0, (.int .i64 3), v1, x7, (.func (.func 283) #[x8] #[])] G5) fun x9 G10 =>
  bP (fd Q q 82 4 4 x9) fun x11 =>
  some (x11, G10)
theorem m276 {e : Ex} {E : Ev} (h : ExLe Q e E) (v0 v1 v2 v3 : Value) (G : GS) : Ref (s276 true e v0 v1 v2 v3 G) (s276 false (Ex.of E) v0 v1 v2 v3 G) := by
  unfold s276
  exact Ref.go
theorem f276 {orc : FuncId → Bool} {e : Ex} (h : ExLe Q e (E orc)) (v0 v1 v2 v3 : Value) (G : GS) : Ref (s276 true e v0 v1 v2 v3 G) ((E orc).cl 276 [v0, v1, v2, v3] G) :=
  fun r hr => cl_sxE_some Q orc (vs := [v0, v1, v2, v3]) G Tryz.func276 (by kernel_rfl) (by kernel_rfl) (by kernel_rfl) (by kernel_rfl) (by kernel_rfl) (by kernel_rfl) (m276 h v0 v1 v2 v3 G r hr)
/-- (*coxswain/epoch.lines).step -/
noncomputable def s278 (q : Bool) (e : Ex) (v0 v1 : Value) (G : GS) : Option (Value × GS) :=
  bP (pNil v0) fun x0 =>
  bP (fa Q q 282 2 4 x0) fun x1 =>
  bP (ld Q q 4 x1 G) fun x2 =>
  bP (un Q q .not x2) fun x3 =>
  bS (gd x3 false (some (v0, G)) G) fun x4 G5 =>
  bS (gd x3 false (bP (pNil x4) fun y => some (y, G5)) G5) fun x6 G7 =>
  bS (gd x3 false (bP (fa Q q 282 1 3 x6) fun y => some (y, G7)) G7) fun x8 G9 =>
  bS (gd x3 false (bP (ld Q q 3 x8 G9) fun y => some (y, G9)) G9) fun x10 G11 =>
  bS (gd x3 false (bP (bn Q q .eql 3 (.tmp 14) (.const (.int .i64 (-1))) x10 (.int .i64 (-1))) fun y => some (y, G11)) G11) fun x12 G13 =>
  bP (pickV x3 (.bool true) x12) fun x14 =>
  ifV x14 (
  some ((.bool true), G13)) (
  bP (pNil v0) fun x15 =>
  bP (fa Q q 282 1 3 x15) fun x16 =>
  bP (ld Q q 3 x16 (G13.room 11)) fun x17 =>
  bP (pNil v0) fun x18 =>
  bP (fa Q q 282 0 0 x18) fun x19 =>
  bP (iaa Q q 280 3 1 x19 x17) fun x20 =>
  bP (ld Q q 124 x20 (G13.room 11)) fun x21 =>
  bS (cValue e.ev x21 [v1] (G13.room 11)) fun x23 G22 =>
  bP (pNil v0) fun x24 =>
  bP (fa Q q 282 1 3 x24) fun x25 =>
  bP (ld Q q 3 x25 G22) fun x26 =>
  bP (bn Q q .eql 3 (.tmp 31) (.const (.int .i64 (-1))) x26 (.int .i64 (-1))) fun x27 =>
  some (x27, G22))
theorem m278 {e : Ex} {E : Ev} (h : ExLe Q e E) (v0 v1 : Value) (G : GS) : Ref (s278 true e v0 v1 G) (s278 false (Ex.of E) v0 v1 G) := by
  unfold s278
  exact Ref.go
theorem f278 {orc : FuncId → Bool} {e : Ex} (h : ExLe Q e (E orc)) (v0 v1 : Value) (G : GS) : Ref (s278 true e v0 v1 G) ((E orc).cl 278 [v0, v1] G) :=
  fun r hr => cl_sxE_some Q orc (vs := [v0, v1]) G Tryz.func278 (by kernel_rfl) (by kernel_rfl) (by kernel_rfl) (by kernel_rfl) (by kernel_rfl) (by kernel_rfl) (m278 h v0 v1 G r hr)
/-- (*coxswain/find.Find).begin -/
noncomputable def s282 (q : Bool) (e : Ex) (v0 v1 : Value) (G : GS) : Option (Value × GS) :=
  bS (bx q v0 G) fun x0 G1 =>
  bS (bx q v1 G1) fun x2 G3 =>
  bP (ld Q q 373 x0 (G3.room 10)) fun x4 =>
  bP (pNil x4) fun x5 =>
  bP (fa Q q 413 0 0 x5) fun x6 =>
  bP (fa Q q 45 2 2 x6) fun x7 =>
  bP (ld Q q 3 x7 (G3.room 10)) fun x8 =>
  bP (ld Q q 373 x0 (G3.room 10)) fun x9 =>
  bP (pNil x9) fun x10 =>
  bP (fa Q q 413 5 20 x10) fun x11 =>
  bP (ld Q q 411 x11 (G3.room 10)) fun x12 =>
  bS (e.ev.cl 286 [x8, x12] (G3.room 10)) fun x14 G13 =>
  bX (xRange e.ev x14 #[16, 17] (subAt [1, 0, 1, 0, 0] (bodyOf Tryz.f282)) (subAt [1, 0, 1, 0, 1] (bodyOf Tryz.f282)) (lst 31 (tu (nth undef [v0, v1]) [(2, x0), (3, x2), (6, x4), (7, x5), (8, x6), (9, x7), (10, x8), (11, x9), (12, x10), (13, x11), (14, x12), (15, x14)])) G13) fun e15 T16 G17 =>
  bV q (nth undef T16 2) fun T16x2_ =>
  ifE e15 .normal (
  bP (ld Q q 373 T16x2_ G17) fun x18 =>
  bP (pNil x18) fun x19 =>
  bP (fa Q q 413 2 14 x19) fun x20 =>
  bP (st Q q 3 1 x20 (.int .i64 9) G17) fun G21 =>
  some (.tuple #[], G21)) (ifE e15 .ret (
  some (.tuple #[], G17)) (none))
theorem m282 {e : Ex} {E : Ev} (h : ExLe Q e E) (v0 v1 : Value) (G : GS) : Ref (s282 true e v0 v1 G) (s282 false (Ex.of E) v0 v1 G) := by
  unfold s282
  exact Ref.go
theorem f282 {orc : FuncId → Bool} {e : Ex} (h : ExLe Q e (E orc)) (v0 v1 : Value) (G : GS) : Ref (s282 true e v0 v1 G) ((E orc).cl 282 [v0, v1] G) :=
  fun r hr => cl_sxE_some Q orc (vs := [v0, v1]) G Tryz.func282 (by kernel_rfl) (by kernel_rfl) (by kernel_rfl) (by kernel_rfl) (by kernel_rfl) (by kernel_rfl) (m282 h v0 v1 G r hr)
/-- (coxswain/cells.deed).swap -/
noncomputable def s283 (q : Bool) (e : Ex) (v0 : Value) (G : GS) : Option (Value × GS) :=
  bS (bx q v0 G) fun x0 G1 =>
  bP (fa Q q 109 0 0 x0) fun x2 =>
  bP (ld Q q 106 x2 (G1.room 7)) fun x3 =>
  bP (pNil x3) fun x4 =>
  bP (ld Q q 96 x4 (G1.room 7)) fun x5 =>
  bP (fa Q q 109 1 1 x0) fun x6 =>
  bP (ld Q q 23 x6 (G1.room 7)) fun x7 =>
  bP (bn Q q .neq 23 (.tmp 7) (.tmp 9) x5 x7) fun x8 =>
  ifV x8 (
  bP (fa Q q 109 0 0 x0) fun x9 =>
  bP (ld Q q 106 x9 (G1.room 7)) fun x10 =>
  bP (pNil x10) fun x11 =>
  bP (ld Q q 96 x11 (G1.room 7)) fun x12 =>
  some (.tuple #[x12, (.bool false)], (G1.room 7))) (
  bP (fa Q q 109 2 2 x0) fun x13 =>
  bP (ld Q q 23 x13 (G1.room 7)) fun x14 =>
  some (.tuple #[x14, (.bool true)], (G1.room 7)))
theorem m283 {e : Ex} {E : Ev} (h : ExLe Q e E) (v0 : Value) (G : GS) : Ref (s283 true e v0 G) (s283 false (Ex.of E) v0 G) := by
  unfold s283
  exact Ref.go
theorem f283 {orc : FuncId → Bool} {e : Ex} (h : ExLe Q e (E orc)) (v0 : Value) (G : GS) : Ref (s283 true e v0 G) ((E orc).cl 283 [v0] G) :=
  fun r hr => cl_sxE_some Q orc (vs := [v0]) G Tryz.func283 (by kernel_rfl) (by kernel_rfl) (by kernel_rfl) (by kernel_rfl) (by kernel_rfl) (by kernel_rfl) (m283 h v0 G r hr)
/-- coxswain/find.down -/
noncomputable def s286 (q : Bool) (e : Ex) (v0 v1 : Value) (G : GS) : Option (Value × GS) :=
  bS (bx q v0 G) fun x0 G1 =>
  bS (bx q v1 G1) fun x2 G3 =>
  some ((.func (.func 290) #[] #[x0, x2]), G3)
theorem m286 {e : Ex} {E : Ev} (h : ExLe Q e E) (v0 v1 : Value) (G : GS) : Ref (s286 true e v0 v1 G) (s286 false (Ex.of E) v0 v1 G) := by
  unfold s286
  exact Ref.go
theorem f286 {orc : FuncId → Bool} {e : Ex} (h : ExLe Q e (E orc)) (v0 v1 : Value) (G : GS) : Ref (s286 true e v0 v1 G) ((E orc).cl 286 [v0, v1] G) :=
  fun r hr => cl_sxE_some Q orc (vs := [v0, v1]) G Tryz.func286 (by kernel_rfl) (by kernel_rfl) (by kernel_rfl) (by kernel_rfl) (by kernel_rfl) (by kernel_rfl) (m286 h v0 v1 G r hr)
noncomputable def b290_0 (q : Bool) (e : Ex) (lp : Env → GS → Option (Exit × Env × GS)) (τ : Env) (G : GS) : Option (Exit × Env × GS) :=
  bV q (τ 0) fun a0_ =>
  bV q (τ 2) fun a2_ =>
  bV q (τ 4) fun a4_ =>
  bV q (τ 5) fun a5_ =>
  bP (bn Q q .geq 3 (.tmp 9) (.const (.int .i64 0)) a5_ (.int .i64 0)) fun x0 =>
  ifV x0 (
  bP (fa Q q 410 0 0 a4_) fun x1 =>
  bP (st Q q 3 1 x1 a5_ G) fun G2 =>
  bP (fa Q q 410 3 3 a4_) fun x3 =>
  bP (st Q q 23 1 x3 (.int .u64 0) G2) fun G4 =>
  bP (lda Q q 410 4 a4_ G4) fun x5 =>
  bS (cValue e.ev a0_ [a5_, x5] G4) fun x6 G7 =>
  bP (un Q q .not x6) fun x8 =>
  ifV x8 (
  some (.ret, clq q 25 (tu τ [(0, a0_), (2, a2_), (4, a4_), (5, a5_), (9, a5_), (10, x0), (13, a5_), (14, x1), (15, x3), (16, a0_), (17, a5_), (18, x5), (19, x6), (20, x8)]), G7)) (
  bP (ld Q q 411 a2_ G7) fun x9 =>
  bP (ias Q q 411 4 x9 a5_) fun x10 =>
  bP (lda Q q 410 4 x10 G7) fun x11 =>
  bP (st Q q 410 4 a4_ x11 G7) fun G12 =>
  bP (bn Q q .sub 3 (.tmp 11) (.const (.int .i64 1)) a5_ (.int .i64 1)) fun x13 =>
  lp (tu τ [(0, a0_), (2, a2_), (4, a4_), (5, x13), (9, a5_), (10, x0), (11, a5_), (12, x13), (13, a5_), (14, x1), (15, x3), (16, a0_), (17, a5_), (18, x5), (19, x6), (20, x8), (21, x9), (22, a5_), (23, x10), (24, x11)]) G12)) (
  some ((.exit 0), clq q 25 (tu τ [(0, a0_), (2, a2_), (4, a4_), (5, a5_), (9, a5_), (10, x0)]), G))
theorem mb290_0 {e : Ex} {E : Ev} (h : ExLe Q e E) {lp lp' : Env → GS → Option (Exit × Env × GS)} (hlp : LpLe lp lp') (τ : Env) (G : GS) : Ref (b290_0 true e lp τ G) (b290_0 false (Ex.of E) lp' τ G) := by
  unfold b290_0
  exact Ref.go
theorem l290_0 {orc : FuncId → Bool} {e : Ex} (h : ExLe Q e (E orc)) (lp : Env → GS → Option (Exit × Env × GS)) (hlp : ∀ τ G, Ref (lp τ G) (mapE ((E orc).lp (subAt [1, 1, 0, 0] (bodyOf Tryz.f290)) (lst 25 τ) G))) (T : List Value) (G : GS) (hT : T.length = 25) : Ref (b290_0 true e lp (nth undef T) G) (mapE ((E orc).lp (subAt [1, 1, 0, 0] (bodyOf Tryz.f290)) T G)) :=
  fun r hr => lp_sxM Q orc G hT (by kernel_rfl) (mb290_0 h ⟨hlp⟩ _ _ r hr)
/-- coxswain/find.down$1 -/
noncomputable def s290 (q : Bool) (e : Ex) (v0 v1 v2 : Value) (G : GS) : Option (Value × GS) :=
  bP (bd Q q 410 z410 [(1, 1, 1)] [(.int .i64 (-1))]) fun x0 =>
  bS (al Q q 410 z410 G) fun x1 G2 =>
  bP (st Q q 410 4 x1 x0 G2) fun G3 =>
  bP (ld Q q 3 v1 G3) fun x4 =>
  bP (bn Q q .sub 3 (.tmp 7) (.const (.int .i64 1)) x4 (.int .i64 1)) fun x5 =>
  bL q e 290 0 (subAt [1, 1, 0, 0] (bodyOf Tryz.f290)) 25 (tu (nth undef [v0, v1, v2]) [(4, x1), (5, x5), (6, x0), (7, x4), (8, x5)]) G3 fun e6 t7 G8 =>
  ifE e6 (.exit 0) (
  some (.tuple #[], G8)) (ifE e6 .ret (
  some (.tuple #[], G8)) (none))
theorem m290 {e : Ex} {E : Ev} (h : ExLe Q e E) (v0 v1 v2 : Value) (G : GS) : Ref (s290 true e v0 v1 v2 G) (s290 false (Ex.of E) v0 v1 v2 G) := by
  unfold s290
  exact Ref.go
theorem f290 {orc : FuncId → Bool} {e : Ex} (h : ExLe Q e (E orc)) (v0 v1 v2 : Value) (G : GS) : Ref (s290 true e v0 v1 v2 G) ((E orc).cl 290 [v0, v1, v2] G) :=
  fun r hr => cl_sxE_some Q orc (vs := [v0, v1, v2]) G Tryz.func290 (by kernel_rfl) (by kernel_rfl) (by kernel_rfl) (by kernel_rfl) (by kernel_rfl) (by kernel_rfl) (m290 h v0 v1 v2 G r hr)
/-- (*coxswain/cells.Mem).Add -/
noncomputable def s296 (q : Bool) (e : Ex) (v0 v1 v2 : Value) (G : GS) : Option (Value × GS) :=
  bS (e.ev.cl 62 [v0, v1] G) fun x0 G1 =>
  bP (bd Q q 109 z109 [(0, 0, 1), (1, 1, 1)] [x0, v2]) fun x2 =>
  bS (al Q q 109 z109 G1) fun x3 G4 =>
  bP (st Q q 109 3 x3 x2 G4) fun G5 =>
  bP (fa Q q 109 0 0 x3) fun x6 =>
  bP (ld Q q 106 x6 G5) fun x7 =>
  bP (lda Q q 109 3 x3 G5) fun x8 =>
  bS (e.ev.cl 63 [v0, (.int .i64 4), v1, x7, (.func (.func 299) #[x8] #[])] G5) fun x9 G10 =>
  bP (fd Q q 82 3 3 x9) fun x11 =>
  some (x11, G10)
theorem m296 {e : Ex} {E : Ev} (h : ExLe Q e E) (v0 v1 v2 : Value) (G : GS) : Ref (s296 true e v0 v1 v2 G) (s296 false (Ex.of E) v0 v1 v2 G) := by
  unfold s296
  exact Ref.go
theorem f296 {orc : FuncId → Bool} {e : Ex} (h : ExLe Q e (E orc)) (v0 v1 v2 : Value) (G : GS) : Ref (s296 true e v0 v1 v2 G) ((E orc).cl 296 [v0, v1, v2] G) :=
  fun r hr => cl_sxE_some Q orc (vs := [v0, v1, v2]) G Tryz.func296 (by kernel_rfl) (by kernel_rfl) (by kernel_rfl) (by kernel_rfl) (by kernel_rfl) (by kernel_rfl) (m296 h v0 v1 v2 G r hr)
/-- (coxswain/cells.deed).add -/
noncomputable def s299 (q : Bool) (e : Ex) (v0 : Value) (G : GS) : Option (Value × GS) :=
  bS (bx q v0 G) fun x0 G1 =>
  bP (fa Q q 109 0 0 x0) fun x2 =>
  bP (ld Q q 106 x2 (G1.room 9)) fun x3 =>
  bP (pNil x3) fun x4 =>
  bP (ld Q q 96 x4 (G1.room 9)) fun x5 =>
  bP (fa Q q 109 1 1 x0) fun x6 =>
  bP (ld Q q 23 x6 (G1.room 9)) fun x7 =>
  bP (bn Q q .add 23 (.tmp 7) (.tmp 9) x5 x7) fun x8 =>
  some (.tuple #[x8, (.bool true)], (G1.room 9))
theorem m299 {e : Ex} {E : Ev} (h : ExLe Q e E) (v0 : Value) (G : GS) : Ref (s299 true e v0 G) (s299 false (Ex.of E) v0 G) := by
  unfold s299
  exact Ref.go
theorem f299 {orc : FuncId → Bool} {e : Ex} (h : ExLe Q e (E orc)) (v0 : Value) (G : GS) : Ref (s299 true e v0 G) ((E orc).cl 299 [v0] G) :=
  fun r hr => cl_sxE_some Q orc (vs := [v0]) G Tryz.func299 (by kernel_rfl) (by kernel_rfl) (by kernel_rfl) (by kernel_rfl) (by kernel_rfl) (by kernel_rfl) (m299 h v0 G r hr)
/-- (*coxswain/ready.part[*coxswain/claim.Peek]).run -/
noncomputable def s317 (q : Bool) (e : Ex) (v0 v1 : Value) (G : GS) : Option (Value × GS) :=
  bP (pNil v0) fun x0 =>
  bP (fa Q q 185 4 4 x0) fun x1 =>
  bP (ld Q q 4 x1 G) fun x2 =>
  bP (un Q q .not x2) fun x3 =>
  ifV x3 (
  bP (pNil v0) fun x4 =>
  bP (fa Q q 185 0 0 x4) fun x5 =>
  bP (ld Q q 181 x5 G) fun x6 =>
  bS (cValue e.ev x6 [] G) fun x7 G8 =>
  bP (pNil v0) fun x9 =>
  bP (fa Q q 185 3 3 x9) fun x10 =>
  bP (st Q q 179 1 x10 x7 G8) fun G11 =>
  bP (pNil v0) fun x12 =>
  bP (fa Q q 185 4 4 x12) fun x13 =>
  bP (st Q q 4 1 x13 (.bool true) G11) fun G14 =>
  bP (pNil v0) fun x15 =>
  bP (fa Q q 185 3 3 x15) fun x16 =>
  bP (ld Q q 179 x16 G14) fun x17 =>
  bP (ifc Q q 179 x17) fun x18 =>
  bS (cInvoke Q e.ev x18 "Step" [v1] G14) fun x19 G20 =>
  bP (pNil v0) fun x21 =>
  bP (fa Q q 185 1 1 x21) fun x22 =>
  bP (ld Q q 182 x22 G20) fun x23 =>
  bP (ef Q q true 182 (.tmp 34) (.const .nilFunc) x23 .nilFunc) fun x24 =>
  ifV x24 (
  bP (pNil v0) fun x25 =>
  bP (fa Q q 185 1 1 x25) fun x26 =>
  bP (ld Q q 182 x26 (G20.room 10)) fun x27 =>
  bP (pNil v0) fun x28 =>
  bP (fa Q q 185 3 3 x28) fun x29 =>
  bP (ld Q q 179 x29 (G20.room 10)) fun x30 =>
  bS (cValue e.ev x27 [x30] (G20.room 10)) fun x32 G31 =>
  bS (gd x19 true (some (v0, G31)) G31) fun x33 G34 =>
  bS (gd x19 true (bP (pNil x33) fun y => some (y, G34)) G34) fun x35 G36 =>
  bS (gd x19 true (bP (fa Q q 185 2 2 x35) fun y => some (y, G36)) G36) fun x37 G38 =>
  bS (gd x19 true (bP (ld Q q 183 x37 G38) fun y => some (y, G38)) G38) fun x39 G40 =>
  bS (gd x19 true (bP (ef Q q true 183 (.tmp 50) (.const .nilFunc) x39 .nilFunc) fun y => some (y, G40)) G40) fun x41 G42 =>
  bP (pickV x19 x41 (.bool false)) fun x43 =>
  ifV x43 (
  bP (pNil v0) fun x44 =>
  bP (fa Q q 185 2 2 x44) fun x45 =>
  bP (ld Q q 183 x45 (G42.room 9)) fun x46 =>
  bP (pNil v0) fun x47 =>
  bP (fa Q q 185 3 3 x47) fun x48 =>
  bP (ld Q q 179 x48 (G42.room 9)) fun x49 =>
  bS (cValue e.ev x46 [x49] (G42.room 9)) fun x51 G50 =>
  some (.tuple #[x19, x32], G50)) (
  some (.tuple #[x19, x32], G42))) (
  bS (gd x19 true (some (v0, G20)) G20) fun x52 G53 =>
  bS (gd x19 true (bP (pNil x52) fun y => some (y, G53)) G53) fun x54 G55 =>
  bS (gd x19 true (bP (fa Q q 185 2 2 x54) fun y => some (y, G55)) G55) fun x56 G57 =>
  bS (gd x19 true (bP (ld Q q 183 x56 G57) fun y => some (y, G57)) G57) fun x58 G59 =>
  bS (gd x19 true (bP (ef Q q true 183 (.tmp 50) (.const .nilFunc) x58 .nilFunc) fun y => some (y, G59)) G59) fun x60 G61 =>
  bP (pickV x19 x60 (.bool false)) fun x62 =>
  ifV x62 (
  bP (pNil v0) fun x63 =>
  bP (fa Q q 185 2 2 x63) fun x64 =>
  bP (ld Q q 183 x64 (G61.room 9)) fun x65 =>
  bP (pNil v0) fun x66 =>
  bP (fa Q q 185 3 3 x66) fun x67 =>
  bP (ld Q q 179 x67 (G61.room 9)) fun x68 =>
  bS (cValue e.ev x65 [x68] (G61.room 9)) fun x70 G69 =>
  some (.tuple #[x19, (.int .u64 0)], G69)) (
  some (.tuple #[x19, (.int .u64 0)], G61)))) (
  bP (pNil v0) fun x71 =>
  bP (fa Q q 185 3 3 x71) fun x72 =>
  bP (ld Q q 179 x72 G) fun x73 =>
  bP (ifc Q q 179 x73) fun x74 =>
  bS (cInvoke Q e.ev x74 "Step" [v1] G) fun x75 G76 =>
  bP (pNil v0) fun x77 =>
  bP (fa Q q 185 1 1 x77) fun x78 =>
  bP (ld Q q 182 x78 G76) fun x79 =>
  bP (ef Q q true 182 (.tmp 34) (.const .nilFunc) x79 .nilFunc) fun x80 =>
  ifV x80 (
  bP (pNil v0) fun x81 =>
  bP (fa Q q 185 1 1 x81) fun x82 =>
  bP (ld Q q 182 x82 (G76.room 10)) fun x83 =>
  bP (pNil v0) fun x84 =>
  bP (fa Q q 185 3 3 x84) fun x85 =>
  bP (ld Q q 179 x85 (G76.room 10)) fun x86 =>
  bS (cValue e.ev x83 [x86] (G76.room 10)) fun x88 G87 =>
  bS (gd x75 true (some (v0, G87)) G87) fun x89 G90 =>
  bS (gd x75 true (bP (pNil x89) fun y => some (y, G90)) G90) fun x91 G92 =>
  bS (gd x75 true (bP (fa Q q 185 2 2 x91) fun y => some (y, G92)) G92) fun x93 G94 =>
  bS (gd x75 true (bP (ld Q q 183 x93 G94) fun y => some (y, G94)) G94) fun x95 G96 =>
  bS (gd x75 true (bP (ef Q q true 183 (.tmp 50) (.const .nilFunc) x95 .nilFunc) fun y => some (y, G96)) G96) fun x97 G98 =>
  bP (pickV x75 x97 (.bool false)) fun x99 =>
  ifV x99 (
  bP (pNil v0) fun x100 =>
  bP (fa Q q 185 2 2 x100) fun x101 =>
  bP (ld Q q 183 x101 (G98.room 9)) fun x102 =>
  bP (pNil v0) fun x103 =>
  bP (fa Q q 185 3 3 x103) fun x104 =>
  bP (ld Q q 179 x104 (G98.room 9)) fun x105 =>
  bS (cValue e.ev x102 [x105] (G98.room 9)) fun x107 G106 =>
  some (.tuple #[x75, x88], G106)) (
  some (.tuple #[x75, x88], G98))) (
  bS (gd x75 true (some (v0, G76)) G76) fun x108 G109 =>
  bS (gd x75 true (bP (pNil x108) fun y => some (y, G109)) G109) fun x110 G111 =>
  bS (gd x75 true (bP (fa Q q 185 2 2 x110) fun y => some (y, G111)) G111) fun x112 G113 =>
  bS (gd x75 true (bP (ld Q q 183 x112 G113) fun y => some (y, G113)) G113) fun x114 G115 =>
  bS (gd x75 true (bP (ef Q q true 183 (.tmp 50) (.const .nilFunc) x114 .nilFunc) fun y => some (y, G115)) G115) fun x116 G117 =>
  bP (pickV x75 x116 (.bool false)) fun x118 =>
  ifV x118 (
  bP (pNil v0) fun x119 =>
  bP (fa Q q 185 2 2 x119) fun x120 =>
  bP (ld Q q 183 x120 (G117.room 9)) fun x121 =>
  bP (pNil v0) fun x122 =>
  bP (fa Q q 185 3 3 x122) fun x123 =>
  bP (ld Q q 179 x123 (G117.room 9)) fun x124 =>
  bS (cValue e.ev x121 [x124] (G117.room 9)) fun x126 G125 =>
  some (.tuple #[x75, (.int .u64 0)], G125)) (
  some (.tuple #[x75, (.int .u64 0)], G117))))
theorem m317 {e : Ex} {E : Ev} (h : ExLe Q e E) (v0 v1 : Value) (G : GS) : Ref (s317 true e v0 v1 G) (s317 false (Ex.of E) v0 v1 G) := by
  unfold s317
  exact Ref.go
theorem f317 {orc : FuncId → Bool} {e : Ex} (h : ExLe Q e (E orc)) (v0 v1 : Value) (G : GS) : Ref (s317 true e v0 v1 G) ((E orc).cl 317 [v0, v1] G) :=
  fun r hr => cl_sxE_some Q orc (vs := [v0, v1]) G Tryz.func317 (by kernel_rfl) (by kernel_rfl) (by kernel_rfl) (by kernel_rfl) (by kernel_rfl) (by kernel_rfl) (m317 h v0 v1 G r hr)
/-- (*coxswain/claim.Peek).Step -/
noncomputable def s318 (q : Bool) (e : Ex) (v0 v1 : Value) (G : GS) : Option (Value × GS) :=
  bP (ep Q q false 179 (.tmp 5) (.const (.pointer none)) v0 (.pointer none)) fun x0 =>
  bS (gd x0 false (some (v0, G)) G) fun x1 G2 =>
  bS (gd x0 false (bP (pNil x1) fun y => some (y, G2)) G2) fun x3 G4 =>
  bS (gd x0 false (bP (fa Q q 246 0 0 x3) fun y => some (y, G4)) G4) fun x5 G6 =>
  bS (gd x0 false (bS (e.ev.cl 319 [x5] G6) fun y G => some (y, G)) G6) fun x7 G8 =>
  bP (pickV x0 (.bool true) x7) fun x9 =>
  ifV x9 (
  some ((.bool true), G8)) (
  bP (pNil v0) fun x10 =>
  bP (fa Q q 246 0 0 x10) fun x11 =>
  bP (fa Q q 243 2 13 x11) fun x12 =>
  bP (ld Q q 3 x12 G8) fun x13 =>
  bP (bn Q q .eql 3 (.tmp 17) (.const (.int .i64 4)) x13 (.int .i64 4)) fun x14 =>
  ifV x14 (
  bP (pNil v0) fun x15 =>
  bP (fa Q q 246 0 0 x15) fun x16 =>
  bS (e.ev.cl 321 [x16, v1, (.int .i64 0)] G8) fun x17 G18 =>
  bP (pNil v0) fun x19 =>
  bP (fa Q q 246 0 0 x19) fun x20 =>
  bP (fa Q q 243 6 17 x20) fun x21 =>
  bP (fa Q q 120 0 0 x21) fun x22 =>
  bP (st Q q 23 1 x22 x17 G18) fun G23 =>
  bP (pNil v0) fun x24 =>
  bP (fa Q q 246 0 0 x24) fun x25 =>
  bP (fa Q q 243 2 13 x25) fun x26 =>
  bP (st Q q 3 1 x26 (.int .i64 5) G23) fun G27 =>
  bP (pNil v0) fun x28 =>
  bP (fa Q q 246 0 0 x28) fun x29 =>
  bP (fa Q q 243 2 13 x29) fun x30 =>
  bP (ld Q q 3 x30 G27) fun x31 =>
  bP (bn Q q .eql 3 (.tmp 54) (.const (.int .i64 99)) x31 (.int .i64 99)) fun x32 =>
  some (x32, G27)) (
  bP (bn Q q .eql 3 (.tmp 17) (.const (.int .i64 5)) x13 (.int .i64 5)) fun x33 =>
  ifV x33 (
  bP (pNil v0) fun x34 =>
  bP (fa Q q 246 0 0 x34) fun x35 =>
  bS (e.ev.cl 322 [x35, v1] G8) fun x36 G37 =>
  bP (pNil v0) fun x38 =>
  bP (fa Q q 246 0 0 x38) fun x39 =>
  bP (fa Q q 243 2 13 x39) fun x40 =>
  bP (st Q q 3 1 x40 (.int .i64 99) G37) fun G41 =>
  bP (pNil v0) fun x42 =>
  bP (fa Q q 246 0 0 x42) fun x43 =>
  bP (fa Q q 243 2 13 x43) fun x44 =>
  bP (ld Q q 3 x44 G41) fun x45 =>
  bP (bn Q q .eql 3 (.tmp 54) (.const (.int .i64 99)) x45 (.int .i64 99)) fun x46 =>
  some (x46, G41)) (
  bP (pNil v0) fun x47 =>
  bP (fa Q q 246 0 0 x47) fun x48 =>
  bS (e.ev.cl 320 [x48, v1] G8) fun x49 G50 =>
  bP (pNil v0) fun x51 =>
  bP (fa Q q 246 0 0 x51) fun x52 =>
  bP (fa Q q 243 2 13 x52) fun x53 =>
  bP (ld Q q 3 x53 G50) fun x54 =>
  bP (bn Q q .eql 3 (.tmp 54) (.const (.int .i64 99)) x54 (.int .i64 99)) fun x55 =>
  some (x55, G50))))
theorem m318 {e : Ex} {E : Ev} (h : ExLe Q e E) (v0 v1 : Value) (G : GS) : Ref (s318 true e v0 v1 G) (s318 false (Ex.of E) v0 v1 G) := by
  unfold s318
  exact Ref.go
theorem f318 {orc : FuncId → Bool} {e : Ex} (h : ExLe Q e (E orc)) (v0 v1 : Value) (G : GS) : Ref (s318 true e v0 v1 G) ((E orc).cl 318 [v0, v1] G) :=
  fun r hr => cl_sxE_some Q orc (vs := [v0, v1]) G Tryz.func318 (by kernel_rfl) (by kernel_rfl) (by kernel_rfl) (by kernel_rfl) (by kernel_rfl) (by kernel_rfl) (m318 h v0 v1 G r hr)
/-- (*coxswain/claim.seeker[struct{}]).done -/
noncomputable def s319 (q : Bool) (e : Ex) (v0 : Value) (G : GS) : Option (Value × GS) :=
  bP (pNil v0) fun x0 =>
  bP (fa Q q 243 8 20 x0) fun x1 =>
  bP (ld Q q 4 x1 G) fun x2 =>
  bP (un Q q .not x2) fun x3 =>
  bS (gd x3 false (some (v0, G)) G) fun x4 G5 =>
  bS (gd x3 false (bP (pNil x4) fun y => some (y, G5)) G5) fun x6 G7 =>
  bS (gd x3 false (bP (fa Q q 243 2 13 x6) fun y => some (y, G7)) G7) fun x8 G9 =>
  bS (gd x3 false (bP (ld Q q 3 x8 G9) fun y => some (y, G9)) G9) fun x10 G11 =>
  bS (gd x3 false (bP (bn Q q .eql 3 (.tmp 12) (.const (.int .i64 99)) x10 (.int .i64 99)) fun y => some (y, G11)) G11) fun x12 G13 =>
  bP (pickV x3 (.bool true) x12) fun x14 =>
  some (x14, G13)
theorem m319 {e : Ex} {E : Ev} (h : ExLe Q e E) (v0 : Value) (G : GS) : Ref (s319 true e v0 G) (s319 false (Ex.of E) v0 G) := by
  unfold s319
  exact Ref.go
theorem f319 {orc : FuncId → Bool} {e : Ex} (h : ExLe Q e (E orc)) (v0 : Value) (G : GS) : Ref (s319 true e v0 G) ((E orc).cl 319 [v0] G) :=
  fun r hr => cl_sxE_some Q orc (vs := [v0]) G Tryz.func319 (by kernel_rfl) (by kernel_rfl) (by kernel_rfl) (by kernel_rfl) (by kernel_rfl) (by kernel_rfl) (m319 h v0 G r hr)
/-- (*coxswain/claim.seeker[struct{}]).first -/
noncomputable def s320 (q : Bool) (e : Ex) (v0 v1 : Value) (G : GS) : Option (Value × GS) :=
  bP (pNil v0) fun x0 =>
  bP (fa Q q 243 2 13 x0) fun x1 =>
  bP (ld Q q 3 x1 G) fun x2 =>
  bP (bn Q q .eql 3 (.tmp 9) (.const (.int .i64 1)) x2 (.int .i64 1)) fun x3 =>
  ifV x3 (
  bP (pNil v0) fun x4 =>
  bP (fa Q q 243 7 19 x4) fun x5 =>
  bP (st Q q 23 1 x5 (.int .u64 0) G) fun G6 =>
  bP (pNil v0) fun x7 =>
  bP (fa Q q 243 0 0 x7) fun x8 =>
  bP (lda Q q 45 13 x8 G6) fun x9 =>
  bS (e.ev.cl 194 [x9, (.int .i64 (-1)), (.int .i64 0)] G6) fun x10 G11 =>
  bS (e.ev.cl 70 [v1, x10] G11) fun x12 G13 =>
  bP (pNil v0) fun x14 =>
  bP (fa Q q 243 3 14 x14) fun x15 =>
  bP (st Q q 23 1 x15 x12 G13) fun G16 =>
  bP (pNil v0) fun x17 =>
  bP (fa Q q 243 3 14 x17) fun x18 =>
  bP (ld Q q 23 x18 G16) fun x19 =>
  bS (e.ev.cl 262 [x19] G16) fun x20 G21 =>
  bP (pExtract x20 0) fun x22 =>
  bP (pExtract x20 1) fun x23 =>
  bS (al Q q 313 z313 G21) fun x24 G25 =>
  bP (st Q q 313 2 x24 x22 G25) fun G26 =>
  bP (fa Q q 313 0 0 x24) fun x27 =>
  bP (ld Q q 3 x27 G26) fun x28 =>
  bP (pNil v0) fun x29 =>
  bP (fa Q q 243 4 15 x29) fun x30 =>
  bP (st Q q 3 1 x30 x28 G26) fun G31 =>
  bP (pNil v0) fun x32 =>
  bP (fa Q q 243 2 13 x32) fun x33 =>
  bP (st Q q 3 1 x33 (.int .i64 2) G31) fun G34 =>
  bP (pNil v0) fun x35 =>
  bP (fa Q q 243 4 15 x35) fun x36 =>
  bP (ld Q q 3 x36 (G34.room 20)) fun x37 =>
  bP (bn Q q .lss 3 (.tmp 44) (.const (.int .i64 0)) x37 (.int .i64 0)) fun x38 =>
  bS (gd x38 false (some (v0, (G34.room 20))) (G34.room 20)) fun x39 _ =>
  bS (gd x38 false (bP (pNil x39) fun y => some (y, (G34.room 20))) (G34.room 20)) fun x40 _ =>
  bS (gd x38 false (bP (fa Q q 243 4 15 x40) fun y => some (y, (G34.room 20))) (G34.room 20)) fun x41 _ =>
  bS (gd x38 false (bP (ld Q q 3 x41 (G34.room 20)) fun y => some (y, (G34.room 20))) (G34.room 20)) fun x42 _ =>
  bS (gd x38 false (some (v0, (G34.room 20))) (G34.room 20)) fun x43 _ =>
  bS (gd x38 false (bP (pNil x43) fun y => some (y, (G34.room 20))) (G34.room 20)) fun x44 _ =>
  bS (gd x38 false (bP (fa Q q 243 0 0 x44) fun y => some (y, (G34.room 20))) (G34.room 20)) fun x45 _ =>
  bS (gd x38 false (bP (fa Q q 45 3 3 x45) fun y => some (y, (G34.room 20))) (G34.room 20)) fun x46 _ =>
  bS (gd x38 false (bP (fa Q q 43 0 0 x46) fun y => some (y, (G34.room 20))) (G34.room 20)) fun x47 _ =>
  bS (gd x38 false (bP (fa Q q 39 0 0 x47) fun y => some (y, (G34.room 20))) (G34.room 20)) fun x48 _ =>
  bS (gd x38 false (bP (fa Q q 37 2 2 x48) fun y => some (y, (G34.room 20))) (G34.room 20)) fun x49 _ =>
  bS (gd x38 false (bP (ld Q q 3 x49 (G34.room 20)) fun y => some (y, (G34.room 20))) (G34.room 20)) fun x50 _ =>
  bS (gd x38 false (bP (bn Q q .geq 3 (.tmp 50) (.tmp 58) x42 x50) fun y => some (y, (G34.room 20))) (G34.room 20)) fun x51 _ =>
  bP (pickV x38 (.bool true) x51) fun x52 =>
  ifV x52 (
  bP (pNil v0) fun x53 =>
  bP (fa Q q 243 2 13 x53) fun x54 =>
  bP (st Q q 3 1 x54 (.int .i64 99) (G34.room 20)) fun G55 =>
  bP (pNil v0) fun x56 =>
  bP (fa Q q 243 9 21 x56) fun x57 =>
  bP (st Q q 51 1 x57 (.int .i64 15) G55) fun G58 =>
  some (.tuple #[], G58)) (
  some (.tuple #[], (G34.room 20)))) (
  bP (bn Q q .eql 3 (.tmp 9) (.const (.int .i64 2)) x2 (.int .i64 2)) fun x59 =>
  ifV x59 (
  bS (e.ev.cl 321 [v0, v1, (.int .i64 4)] G) fun x60 G61 =>
  bP (pNil v0) fun x62 =>
  bP (fa Q q 243 5 16 x62) fun x63 =>
  bP (st Q q 241 1 x63 x60 G61) fun G64 =>
  bP (pNil v0) fun x65 =>
  bP (fa Q q 243 2 13 x65) fun x66 =>
  bP (st Q q 3 1 x66 (.int .i64 4) G64) fun G67 =>
  bP (pNil v0) fun x68 =>
  bP (fa Q q 243 5 16 x68) fun x69 =>
  bP (ld Q q 241 x69 G67) fun x70 =>
  bS (e.ev.cl 323 [x70] G67) fun x71 G72 =>
  ifV x71 (
  bP (pNil v0) fun x73 =>
  bP (fa Q q 243 2 13 x73) fun x74 =>
  bP (st Q q 3 1 x74 (.int .i64 3) G72) fun G75 =>
  some (.tuple #[], G75)) (
  some (.tuple #[], G72))) (
  bP (bn Q q .eql 3 (.tmp 9) (.const (.int .i64 3)) x2 (.int .i64 3)) fun x76 =>
  ifV x76 (
  bP (pNil v0) fun x77 =>
  bP (fa Q q 243 7 19 x77) fun x78 =>
  bP (st Q q 23 1 x78 (.int .u64 0) G) fun G79 =>
  bP (pNil v0) fun x80 =>
  bP (fa Q q 243 0 0 x80) fun x81 =>
  bP (lda Q q 45 13 x81 (G79.room 16)) fun x82 =>
  bS (e.ev.cl 194 [x82, (.int .i64 (-1)), (.int .i64 0)] (G79.room 16)) fun x84 G83 =>
  bP (pNil v0) fun x85 =>
  bP (fa Q q 243 3 14 x85) fun x86 =>
  bP (ld Q q 23 x86 G83) fun x87 =>
  chk ((sameO (ld Q q 23 x86 (G79.room 16)) x87 && true)) <|
  bP (pNil v0) fun x88 =>
  bP (fa Q q 243 5 16 x88) fun x89 =>
  bP (ld Q q 241 x89 G83) fun x90 =>
  chk ((sameO (ld Q q 241 x89 (G79.room 16)) x90 && true)) <|
  bS (e.ev.cl 324 [x90, (.bool false)] G83) fun x92 G91 =>
  chk ((sameO (ld Q q 23 x86 G91) x87 && true)) <|
  bS (e.ev.cl 276 [v1, x84, x87, x92] G91) fun x94 G93 =>
  bP (pNil v0) fun x95 =>
  bP (fa Q q 243 2 13 x95) fun x96 =>
  bP (st Q q 3 1 x96 (.int .i64 1) G93) fun G97 =>
  some (.tuple #[], G97)) (
  some (.tuple #[], G))))
theorem m320 {e : Ex} {E : Ev} (h : ExLe Q e E) (v0 v1 : Value) (G : GS) : Ref (s320 true e v0 v1 G) (s320 false (Ex.of E) v0 v1 G) := by
  unfold s320
  exact Ref.go
set_option maxHeartbeats 8000000 in
theorem f320 {orc : FuncId → Bool} {e : Ex} (h : ExLe Q e (E orc)) (v0 v1 : Value) (G : GS) : Ref (s320 true e v0 v1 G) ((E orc).cl 320 [v0, v1] G) :=
  fun r hr => cl_sxE_some Q orc (vs := [v0, v1]) G Tryz.func320 (by kernel_rfl) (by kernel_rfl) (by kernel_rfl) (by kernel_rfl) (by kernel_rfl) (by kernel_rfl) (m320 h v0 v1 G r hr)
/-- (*coxswain/claim.seeker[struct{}]).load -/
noncomputable def s321 (q : Bool) (e : Ex) (v0 v1 v2 : Value) (G : GS) : Option (Value × GS) :=
  bP (pNil v0) fun x0 =>
  bP (fa Q q 243 3 14 x0) fun x1 =>
  bP (ld Q q 23 x1 G) fun x2 =>
  bP (pNil v0) fun x3 =>
  bP (fa Q q 243 7 19 x3) fun x4 =>
  bP (st Q q 23 1 x4 x2 G) fun G5 =>
  bP (pNil v0) fun x6 =>
  bP (fa Q q 243 0 0 x6) fun x7 =>
  bP (lda Q q 45 13 x7 (G5.room 13)) fun x8 =>
  bP (pNil v0) fun x9 =>
  bP (fa Q q 243 4 15 x9) fun x10 =>
  bP (ld Q q 3 x10 (G5.room 13)) fun x11 =>
  bS (e.ev.cl 142 [x8, x11, v2] (G5.room 13)) fun x13 G12 =>
  bS (e.ev.cl 70 [v1, x13] G12) fun x15 G14 =>
  some (x15, G14)
theorem m321 {e : Ex} {E : Ev} (h : ExLe Q e E) (v0 v1 v2 : Value) (G : GS) : Ref (s321 true e v0 v1 v2 G) (s321 false (Ex.of E) v0 v1 v2 G) := by
  unfold s321
  exact Ref.go
theorem f321 {orc : FuncId → Bool} {e : Ex} (h : ExLe Q e (E orc)) (v0 v1 v2 : Value) (G : GS) : Ref (s321 true e v0 v1 v2 G) ((E orc).cl 321 [v0, v1, v2] G) :=
  fun r hr => cl_sxE_some Q orc (vs := [v0, v1, v2]) G Tryz.func321 (by kernel_rfl) (by kernel_rfl) (by kernel_rfl) (by kernel_rfl) (by kernel_rfl) (by kernel_rfl) (m321 h v0 v1 v2 G r hr)
/-- (*coxswain/claim.seeker[struct{}]).job -/
noncomputable def s322 (q : Bool) (e : Ex) (v0 v1 : Value) (G : GS) : Option (Value × GS) :=
  bS (e.ev.cl 321 [v0, v1, (.int .i64 1)] G) fun x0 G1 =>
  bP (bn Q q .and 23 (.tmp 7) (.const (.int .u64 65535)) x0 (.int .u64 65535)) fun x2 =>
  bP (cv Q q 23 3 .u64 .i64 x2) fun x3 =>
  bP (pNil v0) fun x4 =>
  bP (fa Q q 243 6 17 x4) fun x5 =>
  bP (fa Q q 120 1 1 x5) fun x6 =>
  bP (st Q q 3 1 x6 x3 G1) fun G7 =>
  some (.tuple #[], G7)
theorem m322 {e : Ex} {E : Ev} (h : ExLe Q e E) (v0 v1 : Value) (G : GS) : Ref (s322 true e v0 v1 G) (s322 false (Ex.of E) v0 v1 G) := by
  unfold s322
  exact Ref.go
theorem f322 {orc : FuncId → Bool} {e : Ex} (h : ExLe Q e (E orc)) (v0 v1 : Value) (G : GS) : Ref (s322 true e v0 v1 G) ((E orc).cl 322 [v0, v1] G) :=
  fun r hr => cl_sxE_some Q orc (vs := [v0, v1]) G Tryz.func322 (by kernel_rfl) (by kernel_rfl) (by kernel_rfl) (by kernel_rfl) (by kernel_rfl) (by kernel_rfl) (m322 h v0 v1 G r hr)
/-- (coxswain/claim.link).marked -/
noncomputable def s323 (q : Bool) (e : Ex) (v0 : Value) (G : GS) : Option (Value × GS) :=
  bS (e.ev.cl 264 [v0] G) fun x0 G1 =>
  some (x0, G1)
theorem m323 {e : Ex} {E : Ev} (h : ExLe Q e E) (v0 : Value) (G : GS) : Ref (s323 true e v0 G) (s323 false (Ex.of E) v0 G) := by
  unfold s323
  exact Ref.go
theorem f323 {orc : FuncId → Bool} {e : Ex} (h : ExLe Q e (E orc)) (v0 : Value) (G : GS) : Ref (s323 true e v0 G) ((E orc).cl 323 [v0] G) :=
  fun r hr => cl_sxE_some Q orc (vs := [v0]) G Tryz.func323 (by kernel_rfl) (by kernel_rfl) (by kernel_rfl) (by kernel_rfl) (by kernel_rfl) (by kernel_rfl) (m323 h v0 G r hr)
/-- (coxswain/claim.link).marks -/
noncomputable def s324 (q : Bool) (e : Ex) (v0 v1 : Value) (G : GS) : Option (Value × GS) :=
  bS (e.ev.cl 261 [v0, v1] G) fun x0 G1 =>
  some (x0, G1)
theorem m324 {e : Ex} {E : Ev} (h : ExLe Q e E) (v0 v1 : Value) (G : GS) : Ref (s324 true e v0 v1 G) (s324 false (Ex.of E) v0 v1 G) := by
  unfold s324
  exact Ref.go
theorem f324 {orc : FuncId → Bool} {e : Ex} (h : ExLe Q e (E orc)) (v0 v1 : Value) (G : GS) : Ref (s324 true e v0 v1 G) ((E orc).cl 324 [v0, v1] G) :=
  fun r hr => cl_sxE_some Q orc (vs := [v0, v1]) G Tryz.func324 (by kernel_rfl) (by kernel_rfl) (by kernel_rfl) (by kernel_rfl) (by kernel_rfl) (by kernel_rfl) (m324 h v0 v1 G r hr)
/-- (*coxswain/ready.part[*coxswain/epoch.Pin]).run -/
noncomputable def s326 (q : Bool) (e : Ex) (v0 v1 : Value) (G : GS) : Option (Value × GS) :=
  bP (pNil v0) fun x0 =>
  bP (fa Q q 229 4 4 x0) fun x1 =>
  bP (ld Q q 4 x1 G) fun x2 =>
  bP (un Q q .not x2) fun x3 =>
  ifV x3 (
  bP (pNil v0) fun x4 =>
  bP (fa Q q 229 0 0 x4) fun x5 =>
  bP (ld Q q 223 x5 G) fun x6 =>
  bS (cValue e.ev x6 [] G) fun x7 G8 =>
  bP (pNil v0) fun x9 =>
  bP (fa Q q 229 3 3 x9) fun x10 =>
  bP (st Q q 221 1 x10 x7 G8) fun G11 =>
  bP (pNil v0) fun x12 =>
  bP (fa Q q 229 4 4 x12) fun x13 =>
  bP (st Q q 4 1 x13 (.bool true) G11) fun G14 =>
  bP (pNil v0) fun x15 =>
  bP (fa Q q 229 3 3 x15) fun x16 =>
  bP (ld Q q 221 x16 G14) fun x17 =>
  bP (ifc Q q 221 x17) fun x18 =>
  bS (cInvoke Q e.ev x18 "Step" [v1] G14) fun x19 G20 =>
  bP (pNil v0) fun x21 =>
  bP (fa Q q 229 1 1 x21) fun x22 =>
  bP (ld Q q 227 x22 G20) fun x23 =>
  bP (ef Q q true 227 (.tmp 34) (.const .nilFunc) x23 .nilFunc) fun x24 =>
  ifV x24 (
  bP (pNil v0) fun x25 =>
  bP (fa Q q 229 1 1 x25) fun x26 =>
  bP (ld Q q 227 x26 (G20.room 10)) fun x27 =>
  bP (pNil v0) fun x28 =>
  bP (fa Q q 229 3 3 x28) fun x29 =>
  bP (ld Q q 221 x29 (G20.room 10)) fun x30 =>
  bS (cValue e.ev x27 [x30] (G20.room 10)) fun x32 G31 =>
  bS (gd x19 true (some (v0, G31)) G31) fun x33 G34 =>
  bS (gd x19 true (bP (pNil x33) fun y => some (y, G34)) G34) fun x35 G36 =>
  bS (gd x19 true (bP (fa Q q 229 2 2 x35) fun y => some (y, G36)) G36) fun x37 G38 =>
  bS (gd x19 true (bP (ld Q q 226 x37 G38) fun y => some (y, G38)) G38) fun x39 G40 =>
  bS (gd x19 true (bP (ef Q q true 226 (.tmp 50) (.const .nilFunc) x39 .nilFunc) fun y => some (y, G40)) G40) fun x41 G42 =>
  bP (pickV x19 x41 (.bool false)) fun x43 =>
  ifV x43 (
  bP (pNil v0) fun x44 =>
  bP (fa Q q 229 2 2 x44) fun x45 =>
  bP (ld Q q 226 x45 (G42.room 9)) fun x46 =>
  bP (pNil v0) fun x47 =>
  bP (fa Q q 229 3 3 x47) fun x48 =>
  bP (ld Q q 221 x48 (G42.room 9)) fun x49 =>
  bS (cValue e.ev x46 [x49] (G42.room 9)) fun x51 G50 =>
  some (.tuple #[x19, x32], G50)) (
  some (.tuple #[x19, x32], G42))) (
  bS (gd x19 true (some (v0, G20)) G20) fun x52 G53 =>
  bS (gd x19 true (bP (pNil x52) fun y => some (y, G53)) G53) fun x54 G55 =>
  bS (gd x19 true (bP (fa Q q 229 2 2 x54) fun y => some (y, G55)) G55) fun x56 G57 =>
  bS (gd x19 true (bP (ld Q q 226 x56 G57) fun y => some (y, G57)) G57) fun x58 G59 =>
  bS (gd x19 true (bP (ef Q q true 226 (.tmp 50) (.const .nilFunc) x58 .nilFunc) fun y => some (y, G59)) G59) fun x60 G61 =>
  bP (pickV x19 x60 (.bool false)) fun x62 =>
  ifV x62 (
  bP (pNil v0) fun x63 =>
  bP (fa Q q 229 2 2 x63) fun x64 =>
  bP (ld Q q 226 x64 (G61.room 9)) fun x65 =>
  bP (pNil v0) fun x66 =>
  bP (fa Q q 229 3 3 x66) fun x67 =>
  bP (ld Q q 221 x67 (G61.room 9)) fun x68 =>
  bS (cValue e.ev x65 [x68] (G61.room 9)) fun x70 G69 =>
  some (.tuple #[x19, (.int .u64 0)], G69)) (
  some (.tuple #[x19, (.int .u64 0)], G61)))) (
  bP (pNil v0) fun x71 =>
  bP (fa Q q 229 3 3 x71) fun x72 =>
  bP (ld Q q 221 x72 G) fun x73 =>
  bP (ifc Q q 221 x73) fun x74 =>
  bS (cInvoke Q e.ev x74 "Step" [v1] G) fun x75 G76 =>
  bP (pNil v0) fun x77 =>
  bP (fa Q q 229 1 1 x77) fun x78 =>
  bP (ld Q q 227 x78 G76) fun x79 =>
  bP (ef Q q true 227 (.tmp 34) (.const .nilFunc) x79 .nilFunc) fun x80 =>
  ifV x80 (
  bP (pNil v0) fun x81 =>
  bP (fa Q q 229 1 1 x81) fun x82 =>
  bP (ld Q q 227 x82 (G76.room 10)) fun x83 =>
  bP (pNil v0) fun x84 =>
  bP (fa Q q 229 3 3 x84) fun x85 =>
  bP (ld Q q 221 x85 (G76.room 10)) fun x86 =>
  bS (cValue e.ev x83 [x86] (G76.room 10)) fun x88 G87 =>
  bS (gd x75 true (some (v0, G87)) G87) fun x89 G90 =>
  bS (gd x75 true (bP (pNil x89) fun y => some (y, G90)) G90) fun x91 G92 =>
  bS (gd x75 true (bP (fa Q q 229 2 2 x91) fun y => some (y, G92)) G92) fun x93 G94 =>
  bS (gd x75 true (bP (ld Q q 226 x93 G94) fun y => some (y, G94)) G94) fun x95 G96 =>
  bS (gd x75 true (bP (ef Q q true 226 (.tmp 50) (.const .nilFunc) x95 .nilFunc) fun y => some (y, G96)) G96) fun x97 G98 =>
  bP (pickV x75 x97 (.bool false)) fun x99 =>
  ifV x99 (
  bP (pNil v0) fun x100 =>
  bP (fa Q q 229 2 2 x100) fun x101 =>
  bP (ld Q q 226 x101 (G98.room 9)) fun x102 =>
  bP (pNil v0) fun x103 =>
  bP (fa Q q 229 3 3 x103) fun x104 =>
  bP (ld Q q 221 x104 (G98.room 9)) fun x105 =>
  bS (cValue e.ev x102 [x105] (G98.room 9)) fun x107 G106 =>
  some (.tuple #[x75, x88], G106)) (
  some (.tuple #[x75, x88], G98))) (
  bS (gd x75 true (some (v0, G76)) G76) fun x108 G109 =>
  bS (gd x75 true (bP (pNil x108) fun y => some (y, G109)) G109) fun x110 G111 =>
  bS (gd x75 true (bP (fa Q q 229 2 2 x110) fun y => some (y, G111)) G111) fun x112 G113 =>
  bS (gd x75 true (bP (ld Q q 226 x112 G113) fun y => some (y, G113)) G113) fun x114 G115 =>
  bS (gd x75 true (bP (ef Q q true 226 (.tmp 50) (.const .nilFunc) x114 .nilFunc) fun y => some (y, G115)) G115) fun x116 G117 =>
  bP (pickV x75 x116 (.bool false)) fun x118 =>
  ifV x118 (
  bP (pNil v0) fun x119 =>
  bP (fa Q q 229 2 2 x119) fun x120 =>
  bP (ld Q q 226 x120 (G117.room 9)) fun x121 =>
  bP (pNil v0) fun x122 =>
  bP (fa Q q 229 3 3 x122) fun x123 =>
  bP (ld Q q 221 x123 (G117.room 9)) fun x124 =>
  bS (cValue e.ev x121 [x124] (G117.room 9)) fun x126 G125 =>
  some (.tuple #[x75, (.int .u64 0)], G125)) (
  some (.tuple #[x75, (.int .u64 0)], G117))))
theorem m326 {e : Ex} {E : Ev} (h : ExLe Q e E) (v0 v1 : Value) (G : GS) : Ref (s326 true e v0 v1 G) (s326 false (Ex.of E) v0 v1 G) := by
  unfold s326
  exact Ref.go
theorem f326 {orc : FuncId → Bool} {e : Ex} (h : ExLe Q e (E orc)) (v0 v1 : Value) (G : GS) : Ref (s326 true e v0 v1 G) ((E orc).cl 326 [v0, v1] G) :=
  fun r hr => cl_sxE_some Q orc (vs := [v0, v1]) G Tryz.func326 (by kernel_rfl) (by kernel_rfl) (by kernel_rfl) (by kernel_rfl) (by kernel_rfl) (by kernel_rfl) (m326 h v0 v1 G r hr)
/-- (*coxswain/epoch.Pin).Step -/
noncomputable def s327 (q : Bool) (e : Ex) (v0 v1 : Value) (G : GS) : Option (Value × GS) :=
  bP (ep Q q false 221 (.tmp 5) (.const (.pointer none)) v0 (.pointer none)) fun x0 =>
  bS (gd x0 false (some (v0, G)) G) fun x1 G2 =>
  bS (gd x0 false (bP (pNil x1) fun y => some (y, G2)) G2) fun x3 G4 =>
  bS (gd x0 false (bP (fa Q q 285 0 0 x3) fun y => some (y, G4)) G4) fun x5 G6 =>
  bS (gd x0 false (some (v1, G6)) G6) fun x7 G8 =>
  bS (gd x0 false (bS (e.ev.cl 278 [x5, x7] G8) fun y G => some (y, G)) G8) fun x9 G10 =>
  bP (pickV x0 (.bool true) x9) fun x11 =>
  some (x11, G10)
theorem m327 {e : Ex} {E : Ev} (h : ExLe Q e E) (v0 v1 : Value) (G : GS) : Ref (s327 true e v0 v1 G) (s327 false (Ex.of E) v0 v1 G) := by
  unfold s327
  exact Ref.go
theorem f327 {orc : FuncId → Bool} {e : Ex} (h : ExLe Q e (E orc)) (v0 v1 : Value) (G : GS) : Ref (s327 true e v0 v1 G) ((E orc).cl 327 [v0, v1] G) :=
  fun r hr => cl_sxE_some Q orc (vs := [v0, v1]) G Tryz.func327 (by kernel_rfl) (by kernel_rfl) (by kernel_rfl) (by kernel_rfl) (by kernel_rfl) (by kernel_rfl) (m327 h v0 v1 G r hr)
/-- (*coxswain/ready.part[*coxswain/arena.Alloc]).run -/
noncomputable def s328 (q : Bool) (e : Ex) (v0 v1 : Value) (G : GS) : Option (Value × GS) :=
  bP (pNil v0) fun x0 =>
  bP (fa Q q 237 4 4 x0) fun x1 =>
  bP (ld Q q 4 x1 G) fun x2 =>
  bP (un Q q .not x2) fun x3 =>
  ifV x3 (
  bP (pNil v0) fun x4 =>
  bP (fa Q q 237 0 0 x4) fun x5 =>
  bP (ld Q q 233 x5 G) fun x6 =>
  bS (cValue e.ev x6 [] G) fun x7 G8 =>
  bP (pNil v0) fun x9 =>
  bP (fa Q q 237 3 3 x9) fun x10 =>
  bP (st Q q 231 1 x10 x7 G8) fun G11 =>
  bP (pNil v0) fun x12 =>
  bP (fa Q q 237 4 4 x12) fun x13 =>
  bP (st Q q 4 1 x13 (.bool true) G11) fun G14 =>
  bP (pNil v0) fun x15 =>
  bP (fa Q q 237 3 3 x15) fun x16 =>
  bP (ld Q q 231 x16 G14) fun x17 =>
  bP (ifc Q q 231 x17) fun x18 =>
  bS (cInvoke Q e.ev x18 "Step" [v1] G14) fun x19 G20 =>
  bP (pNil v0) fun x21 =>
  bP (fa Q q 237 1 1 x21) fun x22 =>
  bP (ld Q q 235 x22 G20) fun x23 =>
  bP (ef Q q true 235 (.tmp 34) (.const .nilFunc) x23 .nilFunc) fun x24 =>
  ifV x24 (
  bP (pNil v0) fun x25 =>
  bP (fa Q q 237 1 1 x25) fun x26 =>
  bP (ld Q q 235 x26 (G20.room 10)) fun x27 =>
  bP (pNil v0) fun x28 =>
  bP (fa Q q 237 3 3 x28) fun x29 =>
  bP (ld Q q 231 x29 (G20.room 10)) fun x30 =>
  bS (cValue e.ev x27 [x30] (G20.room 10)) fun x32 G31 =>
  bS (gd x19 true (some (v0, G31)) G31) fun x33 G34 =>
  bS (gd x19 true (bP (pNil x33) fun y => some (y, G34)) G34) fun x35 G36 =>
  bS (gd x19 true (bP (fa Q q 237 2 2 x35) fun y => some (y, G36)) G36) fun x37 G38 =>
  bS (gd x19 true (bP (ld Q q 234 x37 G38) fun y => some (y, G38)) G38) fun x39 G40 =>
  bS (gd x19 true (bP (ef Q q true 234 (.tmp 50) (.const .nilFunc) x39 .nilFunc) fun y => some (y, G40)) G40) fun x41 G42 =>
  bP (pickV x19 x41 (.bool false)) fun x43 =>
  ifV x43 (
  bP (pNil v0) fun x44 =>
  bP (fa Q q 237 2 2 x44) fun x45 =>
  bP (ld Q q 234 x45 (G42.room 9)) fun x46 =>
  bP (pNil v0) fun x47 =>
  bP (fa Q q 237 3 3 x47) fun x48 =>
  bP (ld Q q 231 x48 (G42.room 9)) fun x49 =>
  bS (cValue e.ev x46 [x49] (G42.room 9)) fun x51 G50 =>
  some (.tuple #[x19, x32], G50)) (
  some (.tuple #[x19, x32], G42))) (
  bS (gd x19 true (some (v0, G20)) G20) fun x52 G53 =>
  bS (gd x19 true (bP (pNil x52) fun y => some (y, G53)) G53) fun x54 G55 =>
  bS (gd x19 true (bP (fa Q q 237 2 2 x54) fun y => some (y, G55)) G55) fun x56 G57 =>
  bS (gd x19 true (bP (ld Q q 234 x56 G57) fun y => some (y, G57)) G57) fun x58 G59 =>
  bS (gd x19 true (bP (ef Q q true 234 (.tmp 50) (.const .nilFunc) x58 .nilFunc) fun y => some (y, G59)) G59) fun x60 G61 =>
  bP (pickV x19 x60 (.bool false)) fun x62 =>
  ifV x62 (
  bP (pNil v0) fun x63 =>
  bP (fa Q q 237 2 2 x63) fun x64 =>
  bP (ld Q q 234 x64 (G61.room 9)) fun x65 =>
  bP (pNil v0) fun x66 =>
  bP (fa Q q 237 3 3 x66) fun x67 =>
  bP (ld Q q 231 x67 (G61.room 9)) fun x68 =>
  bS (cValue e.ev x65 [x68] (G61.room 9)) fun x70 G69 =>
  some (.tuple #[x19, (.int .u64 0)], G69)) (
  some (.tuple #[x19, (.int .u64 0)], G61)))) (
  bP (pNil v0) fun x71 =>
  bP (fa Q q 237 3 3 x71) fun x72 =>
  bP (ld Q q 231 x72 G) fun x73 =>
  bP (ifc Q q 231 x73) fun x74 =>
  bS (cInvoke Q e.ev x74 "Step" [v1] G) fun x75 G76 =>
  bP (pNil v0) fun x77 =>
  bP (fa Q q 237 1 1 x77) fun x78 =>
  bP (ld Q q 235 x78 G76) fun x79 =>
  bP (ef Q q true 235 (.tmp 34) (.const .nilFunc) x79 .nilFunc) fun x80 =>
  ifV x80 (
  bP (pNil v0) fun x81 =>
  bP (fa Q q 237 1 1 x81) fun x82 =>
  bP (ld Q q 235 x82 (G76.room 10)) fun x83 =>
  bP (pNil v0) fun x84 =>
  bP (fa Q q 237 3 3 x84) fun x85 =>
  bP (ld Q q 231 x85 (G76.room 10)) fun x86 =>
  bS (cValue e.ev x83 [x86] (G76.room 10)) fun x88 G87 =>
  bS (gd x75 true (some (v0, G87)) G87) fun x89 G90 =>
  bS (gd x75 true (bP (pNil x89) fun y => some (y, G90)) G90) fun x91 G92 =>
  bS (gd x75 true (bP (fa Q q 237 2 2 x91) fun y => some (y, G92)) G92) fun x93 G94 =>
  bS (gd x75 true (bP (ld Q q 234 x93 G94) fun y => some (y, G94)) G94) fun x95 G96 =>
  bS (gd x75 true (bP (ef Q q true 234 (.tmp 50) (.const .nilFunc) x95 .nilFunc) fun y => some (y, G96)) G96) fun x97 G98 =>
  bP (pickV x75 x97 (.bool false)) fun x99 =>
  ifV x99 (
  bP (pNil v0) fun x100 =>
  bP (fa Q q 237 2 2 x100) fun x101 =>
  bP (ld Q q 234 x101 (G98.room 9)) fun x102 =>
  bP (pNil v0) fun x103 =>
  bP (fa Q q 237 3 3 x103) fun x104 =>
  bP (ld Q q 231 x104 (G98.room 9)) fun x105 =>
  bS (cValue e.ev x102 [x105] (G98.room 9)) fun x107 G106 =>
  some (.tuple #[x75, x88], G106)) (
  some (.tuple #[x75, x88], G98))) (
  bS (gd x75 true (some (v0, G76)) G76) fun x108 G109 =>
  bS (gd x75 true (bP (pNil x108) fun y => some (y, G109)) G109) fun x110 G111 =>
  bS (gd x75 true (bP (fa Q q 237 2 2 x110) fun y => some (y, G111)) G111) fun x112 G113 =>
  bS (gd x75 true (bP (ld Q q 234 x112 G113) fun y => some (y, G113)) G113) fun x114 G115 =>
  bS (gd x75 true (bP (ef Q q true 234 (.tmp 50) (.const .nilFunc) x114 .nilFunc) fun y => some (y, G115)) G115) fun x116 G117 =>
  bP (pickV x75 x116 (.bool false)) fun x118 =>
  ifV x118 (
  bP (pNil v0) fun x119 =>
  bP (fa Q q 237 2 2 x119) fun x120 =>
  bP (ld Q q 234 x120 (G117.room 9)) fun x121 =>
  bP (pNil v0) fun x122 =>
  bP (fa Q q 237 3 3 x122) fun x123 =>
  bP (ld Q q 231 x123 (G117.room 9)) fun x124 =>
  bS (cValue e.ev x121 [x124] (G117.room 9)) fun x126 G125 =>
  some (.tuple #[x75, (.int .u64 0)], G125)) (
  some (.tuple #[x75, (.int .u64 0)], G117))))
theorem m328 {e : Ex} {E : Ev} (h : ExLe Q e E) (v0 v1 : Value) (G : GS) : Ref (s328 true e v0 v1 G) (s328 false (Ex.of E) v0 v1 G) := by
  unfold s328
  exact Ref.go
theorem f328 {orc : FuncId → Bool} {e : Ex} (h : ExLe Q e (E orc)) (v0 v1 : Value) (G : GS) : Ref (s328 true e v0 v1 G) ((E orc).cl 328 [v0, v1] G) :=
  fun r hr => cl_sxE_some Q orc (vs := [v0, v1]) G Tryz.func328 (by kernel_rfl) (by kernel_rfl) (by kernel_rfl) (by kernel_rfl) (by kernel_rfl) (by kernel_rfl) (m328 h v0 v1 G r hr)
/-- (*coxswain/arena.Alloc).Step -/
noncomputable def s329 (q : Bool) (e : Ex) (v0 v1 : Value) (G : GS) : Option (Value × GS) :=
  bP (ep Q q false 231 (.tmp 5) (.const (.pointer none)) v0 (.pointer none)) fun x0 =>
  bS (gd x0 false (some (v0, G)) G) fun x1 G2 =>
  bS (gd x0 false (bP (pNil x1) fun y => some (y, G2)) G2) fun x3 G4 =>
  bS (gd x0 false (bP (fa Q q 291 3 8 x3) fun y => some (y, G4)) G4) fun x5 G6 =>
  bS (gd x0 false (bP (ld Q q 289 x5 G6) fun y => some (y, G6)) G6) fun x7 G8 =>
  bS (gd x0 false (bP (ef Q q false 289 (.tmp 11) (.const .nilFunc) x7 .nilFunc) fun y => some (y, G8)) G8) fun x9 G10 =>
  bP (pickV x0 (.bool true) x9) fun x11 =>
  ifV x11 (
  some ((.bool true), G10)) (
  bP (pNil v0) fun x12 =>
  bP (fa Q q 291 3 8 x12) fun x13 =>
  bP (ld Q q 289 x13 G10) fun x14 =>
  bS (cValue e.ev x14 [v0, v1] G10) fun x15 G16 =>
  bP (pNil v0) fun x17 =>
  bP (fa Q q 291 3 8 x17) fun x18 =>
  bP (ld Q q 289 x18 G16) fun x19 =>
  bP (ef Q q false 289 (.tmp 24) (.const .nilFunc) x19 .nilFunc) fun x20 =>
  some (x20, G16))
theorem m329 {e : Ex} {E : Ev} (h : ExLe Q e E) (v0 v1 : Value) (G : GS) : Ref (s329 true e v0 v1 G) (s329 false (Ex.of E) v0 v1 G) := by
  unfold s329
  exact Ref.go
theorem f329 {orc : FuncId → Bool} {e : Ex} (h : ExLe Q e (E orc)) (v0 v1 : Value) (G : GS) : Ref (s329 true e v0 v1 G) ((E orc).cl 329 [v0, v1] G) :=
  fun r hr => cl_sxE_some Q orc (vs := [v0, v1]) G Tryz.func329 (by kernel_rfl) (by kernel_rfl) (by kernel_rfl) (by kernel_rfl) (by kernel_rfl) (by kernel_rfl) (m329 h v0 v1 G r hr)
/-- (*coxswain/ready.part[*coxswain/epoch.Unpin]).run -/
noncomputable def s330 (q : Bool) (e : Ex) (v0 v1 : Value) (G : GS) : Option (Value × GS) :=
  bP (pNil v0) fun x0 =>
  bP (fa Q q 254 4 4 x0) fun x1 =>
  bP (ld Q q 4 x1 G) fun x2 =>
  bP (un Q q .not x2) fun x3 =>
  ifV x3 (
  bP (pNil v0) fun x4 =>
  bP (fa Q q 254 0 0 x4) fun x5 =>
  bP (ld Q q 250 x5 G) fun x6 =>
  bS (cValue e.ev x6 [] G) fun x7 G8 =>
  bP (pNil v0) fun x9 =>
  bP (fa Q q 254 3 3 x9) fun x10 =>
  bP (st Q q 248 1 x10 x7 G8) fun G11 =>
  bP (pNil v0) fun x12 =>
  bP (fa Q q 254 4 4 x12) fun x13 =>
  bP (st Q q 4 1 x13 (.bool true) G11) fun G14 =>
  bP (pNil v0) fun x15 =>
  bP (fa Q q 254 3 3 x15) fun x16 =>
  bP (ld Q q 248 x16 G14) fun x17 =>
  bP (ifc Q q 248 x17) fun x18 =>
  bS (cInvoke Q e.ev x18 "Step" [v1] G14) fun x19 G20 =>
  bP (pNil v0) fun x21 =>
  bP (fa Q q 254 1 1 x21) fun x22 =>
  bP (ld Q q 251 x22 G20) fun x23 =>
  bP (ef Q q true 251 (.tmp 34) (.const .nilFunc) x23 .nilFunc) fun x24 =>
  ifV x24 (
  bP (pNil v0) fun x25 =>
  bP (fa Q q 254 1 1 x25) fun x26 =>
  bP (ld Q q 251 x26 (G20.room 10)) fun x27 =>
  bP (pNil v0) fun x28 =>
  bP (fa Q q 254 3 3 x28) fun x29 =>
  bP (ld Q q 248 x29 (G20.room 10)) fun x30 =>
  bS (cValue e.ev x27 [x30] (G20.room 10)) fun x32 G31 =>
  bS (gd x19 true (some (v0, G31)) G31) fun x33 G34 =>
  bS (gd x19 true (bP (pNil x33) fun y => some (y, G34)) G34) fun x35 G36 =>
  bS (gd x19 true (bP (fa Q q 254 2 2 x35) fun y => some (y, G36)) G36) fun x37 G38 =>
  bS (gd x19 true (bP (ld Q q 252 x37 G38) fun y => some (y, G38)) G38) fun x39 G40 =>
  bS (gd x19 true (bP (ef Q q true 252 (.tmp 50) (.const .nilFunc) x39 .nilFunc) fun y => some (y, G40)) G40) fun x41 G42 =>
  bP (pickV x19 x41 (.bool false)) fun x43 =>
  ifV x43 (
  bP (pNil v0) fun x44 =>
  bP (fa Q q 254 2 2 x44) fun x45 =>
  bP (ld Q q 252 x45 (G42.room 9)) fun x46 =>
  bP (pNil v0) fun x47 =>
  bP (fa Q q 254 3 3 x47) fun x48 =>
  bP (ld Q q 248 x48 (G42.room 9)) fun x49 =>
  bS (cValue e.ev x46 [x49] (G42.room 9)) fun x51 G50 =>
  some (.tuple #[x19, x32], G50)) (
  some (.tuple #[x19, x32], G42))) (
  bS (gd x19 true (some (v0, G20)) G20) fun x52 G53 =>
  bS (gd x19 true (bP (pNil x52) fun y => some (y, G53)) G53) fun x54 G55 =>
  bS (gd x19 true (bP (fa Q q 254 2 2 x54) fun y => some (y, G55)) G55) fun x56 G57 =>
  bS (gd x19 true (bP (ld Q q 252 x56 G57) fun y => some (y, G57)) G57) fun x58 G59 =>
  bS (gd x19 true (bP (ef Q q true 252 (.tmp 50) (.const .nilFunc) x58 .nilFunc) fun y => some (y, G59)) G59) fun x60 G61 =>
  bP (pickV x19 x60 (.bool false)) fun x62 =>
  ifV x62 (
  bP (pNil v0) fun x63 =>
  bP (fa Q q 254 2 2 x63) fun x64 =>
  bP (ld Q q 252 x64 (G61.room 9)) fun x65 =>
  bP (pNil v0) fun x66 =>
  bP (fa Q q 254 3 3 x66) fun x67 =>
  bP (ld Q q 248 x67 (G61.room 9)) fun x68 =>
  bS (cValue e.ev x65 [x68] (G61.room 9)) fun x70 G69 =>
  some (.tuple #[x19, (.int .u64 0)], G69)) (
  some (.tuple #[x19, (.int .u64 0)], G61)))) (
  bP (pNil v0) fun x71 =>
  bP (fa Q q 254 3 3 x71) fun x72 =>
  bP (ld Q q 248 x72 G) fun x73 =>
  bP (ifc Q q 248 x73) fun x74 =>
  bS (cInvoke Q e.ev x74 "Step" [v1] G) fun x75 G76 =>
  bP (pNil v0) fun x77 =>
  bP (fa Q q 254 1 1 x77) fun x78 =>
  bP (ld Q q 251 x78 G76) fun x79 =>
  bP (ef Q q true 251 (.tmp 34) (.const .nilFunc) x79 .nilFunc) fun x80 =>
  ifV x80 (
  bP (pNil v0) fun x81 =>
  bP (fa Q q 254 1 1 x81) fun x82 =>
  bP (ld Q q 251 x82 (G76.room 10)) fun x83 =>
  bP (pNil v0) fun x84 =>
  bP (fa Q q 254 3 3 x84) fun x85 =>
  bP (ld Q q 248 x85 (G76.room 10)) fun x86 =>
  bS (cValue e.ev x83 [x86] (G76.room 10)) fun x88 G87 =>
  bS (gd x75 true (some (v0, G87)) G87) fun x89 G90 =>
  bS (gd x75 true (bP (pNil x89) fun y => some (y, G90)) G90) fun x91 G92 =>
  bS (gd x75 true (bP (fa Q q 254 2 2 x91) fun y => some (y, G92)) G92) fun x93 G94 =>
  bS (gd x75 true (bP (ld Q q 252 x93 G94) fun y => some (y, G94)) G94) fun x95 G96 =>
  bS (gd x75 true (bP (ef Q q true 252 (.tmp 50) (.const .nilFunc) x95 .nilFunc) fun y => some (y, G96)) G96) fun x97 G98 =>
  bP (pickV x75 x97 (.bool false)) fun x99 =>
  ifV x99 (
  bP (pNil v0) fun x100 =>
  bP (fa Q q 254 2 2 x100) fun x101 =>
  bP (ld Q q 252 x101 (G98.room 9)) fun x102 =>
  bP (pNil v0) fun x103 =>
  bP (fa Q q 254 3 3 x103) fun x104 =>
  bP (ld Q q 248 x104 (G98.room 9)) fun x105 =>
  bS (cValue e.ev x102 [x105] (G98.room 9)) fun x107 G106 =>
  some (.tuple #[x75, x88], G106)) (
  some (.tuple #[x75, x88], G98))) (
  bS (gd x75 true (some (v0, G76)) G76) fun x108 G109 =>
  bS (gd x75 true (bP (pNil x108) fun y => some (y, G109)) G109) fun x110 G111 =>
  bS (gd x75 true (bP (fa Q q 254 2 2 x110) fun y => some (y, G111)) G111) fun x112 G113 =>
  bS (gd x75 true (bP (ld Q q 252 x112 G113) fun y => some (y, G113)) G113) fun x114 G115 =>
  bS (gd x75 true (bP (ef Q q true 252 (.tmp 50) (.const .nilFunc) x114 .nilFunc) fun y => some (y, G115)) G115) fun x116 G117 =>
  bP (pickV x75 x116 (.bool false)) fun x118 =>
  ifV x118 (
  bP (pNil v0) fun x119 =>
  bP (fa Q q 254 2 2 x119) fun x120 =>
  bP (ld Q q 252 x120 (G117.room 9)) fun x121 =>
  bP (pNil v0) fun x122 =>
  bP (fa Q q 254 3 3 x122) fun x123 =>
  bP (ld Q q 248 x123 (G117.room 9)) fun x124 =>
  bS (cValue e.ev x121 [x124] (G117.room 9)) fun x126 G125 =>
  some (.tuple #[x75, (.int .u64 0)], G125)) (
  some (.tuple #[x75, (.int .u64 0)], G117))))
theorem m330 {e : Ex} {E : Ev} (h : ExLe Q e E) (v0 v1 : Value) (G : GS) : Ref (s330 true e v0 v1 G) (s330 false (Ex.of E) v0 v1 G) := by
  unfold s330
  exact Ref.go
theorem f330 {orc : FuncId → Bool} {e : Ex} (h : ExLe Q e (E orc)) (v0 v1 : Value) (G : GS) : Ref (s330 true e v0 v1 G) ((E orc).cl 330 [v0, v1] G) :=
  fun r hr => cl_sxE_some Q orc (vs := [v0, v1]) G Tryz.func330 (by kernel_rfl) (by kernel_rfl) (by kernel_rfl) (by kernel_rfl) (by kernel_rfl) (by kernel_rfl) (m330 h v0 v1 G r hr)
/-- (*coxswain/epoch.Unpin).Step -/
noncomputable def s332 (q : Bool) (e : Ex) (v0 v1 : Value) (G : GS) : Option (Value × GS) :=
  bP (ep Q q false 248 (.tmp 5) (.const (.pointer none)) v0 (.pointer none)) fun x0 =>
  bS (gd x0 false (some (v0, G)) G) fun x1 G2 =>
  bS (gd x0 false (bP (pNil x1) fun y => some (y, G2)) G2) fun x3 G4 =>
  bS (gd x0 false (bP (fa Q q 298 0 0 x3) fun y => some (y, G4)) G4) fun x5 G6 =>
  bS (gd x0 false (some (v1, G6)) G6) fun x7 G8 =>
  bS (gd x0 false (bS (e.ev.cl 278 [x5, x7] G8) fun y G => some (y, G)) G8) fun x9 G10 =>
  bP (pickV x0 (.bool true) x9) fun x11 =>
  some (x11, G10)
theorem m332 {e : Ex} {E : Ev} (h : ExLe Q e E) (v0 v1 : Value) (G : GS) : Ref (s332 true e v0 v1 G) (s332 false (Ex.of E) v0 v1 G) := by
  unfold s332
  exact Ref.go
theorem f332 {orc : FuncId → Bool} {e : Ex} (h : ExLe Q e (E orc)) (v0 v1 : Value) (G : GS) : Ref (s332 true e v0 v1 G) ((E orc).cl 332 [v0, v1] G) :=
  fun r hr => cl_sxE_some Q orc (vs := [v0, v1]) G Tryz.func332 (by kernel_rfl) (by kernel_rfl) (by kernel_rfl) (by kernel_rfl) (by kernel_rfl) (by kernel_rfl) (m332 h v0 v1 G r hr)
/-- (coxswain/tower.node).cells -/
noncomputable def s333 (q : Bool) (e : Ex) (v0 : Value) (G : GS) : Option (Value × GS) :=
  bP (bn Q q .add 3 (.const (.int .i64 4)) (.tmp 3) (.int .i64 4) v0) fun x0 =>
  some (x0, G)
theorem m333 {e : Ex} {E : Ev} (h : ExLe Q e E) (v0 : Value) (G : GS) : Ref (s333 true e v0 G) (s333 false (Ex.of E) v0 G) := by
  unfold s333
  exact Ref.go
theorem f333 {orc : FuncId → Bool} {e : Ex} (h : ExLe Q e (E orc)) (v0 : Value) (G : GS) : Ref (s333 true e v0 G) ((E orc).cl 333 [v0] G) :=
  fun r hr => cl_sxE_some Q orc (vs := [v0]) G Tryz.func333 (by kernel_rfl) (by kernel_rfl) (by kernel_rfl) (by kernel_rfl) (by kernel_rfl) (by kernel_rfl) (m333 h v0 G r hr)
/-- (coxswain/tower.head).cells -/
noncomputable def s334 (q : Bool) (e : Ex) (v0 : Value) (G : GS) : Option (Value × GS) :=
  some (v0, G)
theorem m334 {e : Ex} {E : Ev} (h : ExLe Q e E) (v0 : Value) (G : GS) : Ref (s334 true e v0 G) (s334 false (Ex.of E) v0 G) := by
  unfold s334
  exact Ref.go
theorem f334 {orc : FuncId → Bool} {e : Ex} (h : ExLe Q e (E orc)) (v0 : Value) (G : GS) : Ref (s334 true e v0 G) ((E orc).cl 334 [v0] G) :=
  fun r hr => cl_sxE_some Q orc (vs := [v0]) G Tryz.func334 (by kernel_rfl) (by kernel_rfl) (by kernel_rfl) (by kernel_rfl) (by kernel_rfl) (by kernel_rfl) (m334 h v0 G r hr)
/-- (*coxswain/ready.part[*coxswain/tower.Lay]).run -/
noncomputable def s335 (q : Bool) (e : Ex) (v0 v1 : Value) (G : GS) : Option (Value × GS) :=
  bP (pNil v0) fun x0 =>
  bP (fa Q q 327 4 4 x0) fun x1 =>
  bP (ld Q q 4 x1 G) fun x2 =>
  bP (un Q q .not x2) fun x3 =>
  ifV x3 (
  bP (pNil v0) fun x4 =>
  bP (fa Q q 327 0 0 x4) fun x5 =>
  bP (ld Q q 323 x5 G) fun x6 =>
  bS (cValue e.ev x6 [] G) fun x7 G8 =>
  bP (pNil v0) fun x9 =>
  bP (fa Q q 327 3 3 x9) fun x10 =>
  bP (st Q q 321 1 x10 x7 G8) fun G11 =>
  bP (pNil v0) fun x12 =>
  bP (fa Q q 327 4 4 x12) fun x13 =>
  bP (st Q q 4 1 x13 (.bool true) G11) fun G14 =>
  bP (pNil v0) fun x15 =>
  bP (fa Q q 327 3 3 x15) fun x16 =>
  bP (ld Q q 321 x16 G14) fun x17 =>
  bP (ifc Q q 321 x17) fun x18 =>
  bS (cInvoke Q e.ev x18 "Step" [v1] G14) fun x19 G20 =>
  bP (pNil v0) fun x21 =>
  bP (fa Q q 327 1 1 x21) fun x22 =>
  bP (ld Q q 324 x22 G20) fun x23 =>
  bP (ef Q q true 324 (.tmp 34) (.const .nilFunc) x23 .nilFunc) fun x24 =>
  ifV x24 (
  bP (pNil v0) fun x25 =>
  bP (fa Q q 327 1 1 x25) fun x26 =>
  bP (ld Q q 324 x26 (G20.room 10)) fun x27 =>
  bP (pNil v0) fun x28 =>
  bP (fa Q q 327 3 3 x28) fun x29 =>
  bP (ld Q q 321 x29 (G20.room 10)) fun x30 =>
  bS (cValue e.ev x27 [x30] (G20.room 10)) fun x32 G31 =>
  bS (gd x19 true (some (v0, G31)) G31) fun x33 G34 =>
  bS (gd x19 true (bP (pNil x33) fun y => some (y, G34)) G34) fun x35 G36 =>
  bS (gd x19 true (bP (fa Q q 327 2 2 x35) fun y => some (y, G36)) G36) fun x37 G38 =>
  bS (gd x19 true (bP (ld Q q 325 x37 G38) fun y => some (y, G38)) G38) fun x39 G40 =>
  bS (gd x19 true (bP (ef Q q true 325 (.tmp 50) (.const .nilFunc) x39 .nilFunc) fun y => some (y, G40)) G40) fun x41 G42 =>
  bP (pickV x19 x41 (.bool false)) fun x43 =>
  ifV x43 (
  bP (pNil v0) fun x44 =>
  bP (fa Q q 327 2 2 x44) fun x45 =>
  bP (ld Q q 325 x45 (G42.room 9)) fun x46 =>
  bP (pNil v0) fun x47 =>
  bP (fa Q q 327 3 3 x47) fun x48 =>
  bP (ld Q q 321 x48 (G42.room 9)) fun x49 =>
  bS (cValue e.ev x46 [x49] (G42.room 9)) fun x51 G50 =>
  some (.tuple #[x19, x32], G50)) (
  some (.tuple #[x19, x32], G42))) (
  bS (gd x19 true (some (v0, G20)) G20) fun x52 G53 =>
  bS (gd x19 true (bP (pNil x52) fun y => some (y, G53)) G53) fun x54 G55 =>
  bS (gd x19 true (bP (fa Q q 327 2 2 x54) fun y => some (y, G55)) G55) fun x56 G57 =>
  bS (gd x19 true (bP (ld Q q 325 x56 G57) fun y => some (y, G57)) G57) fun x58 G59 =>
  bS (gd x19 true (bP (ef Q q true 325 (.tmp 50) (.const .nilFunc) x58 .nilFunc) fun y => some (y, G59)) G59) fun x60 G61 =>
  bP (pickV x19 x60 (.bool false)) fun x62 =>
  ifV x62 (
  bP (pNil v0) fun x63 =>
  bP (fa Q q 327 2 2 x63) fun x64 =>
  bP (ld Q q 325 x64 (G61.room 9)) fun x65 =>
  bP (pNil v0) fun x66 =>
  bP (fa Q q 327 3 3 x66) fun x67 =>
  bP (ld Q q 321 x67 (G61.room 9)) fun x68 =>
  bS (cValue e.ev x65 [x68] (G61.room 9)) fun x70 G69 =>
  some (.tuple #[x19, (.int .u64 0)], G69)) (
  some (.tuple #[x19, (.int .u64 0)], G61)))) (
  bP (pNil v0) fun x71 =>
  bP (fa Q q 327 3 3 x71) fun x72 =>
  bP (ld Q q 321 x72 G) fun x73 =>
  bP (ifc Q q 321 x73) fun x74 =>
  bS (cInvoke Q e.ev x74 "Step" [v1] G) fun x75 G76 =>
  bP (pNil v0) fun x77 =>
  bP (fa Q q 327 1 1 x77) fun x78 =>
  bP (ld Q q 324 x78 G76) fun x79 =>
  bP (ef Q q true 324 (.tmp 34) (.const .nilFunc) x79 .nilFunc) fun x80 =>
  ifV x80 (
  bP (pNil v0) fun x81 =>
  bP (fa Q q 327 1 1 x81) fun x82 =>
  bP (ld Q q 324 x82 (G76.room 10)) fun x83 =>
  bP (pNil v0) fun x84 =>
  bP (fa Q q 327 3 3 x84) fun x85 =>
  bP (ld Q q 321 x85 (G76.room 10)) fun x86 =>
  bS (cValue e.ev x83 [x86] (G76.room 10)) fun x88 G87 =>
  bS (gd x75 true (some (v0, G87)) G87) fun x89 G90 =>
  bS (gd x75 true (bP (pNil x89) fun y => some (y, G90)) G90) fun x91 G92 =>
  bS (gd x75 true (bP (fa Q q 327 2 2 x91) fun y => some (y, G92)) G92) fun x93 G94 =>
  bS (gd x75 true (bP (ld Q q 325 x93 G94) fun y => some (y, G94)) G94) fun x95 G96 =>
  bS (gd x75 true (bP (ef Q q true 325 (.tmp 50) (.const .nilFunc) x95 .nilFunc) fun y => some (y, G96)) G96) fun x97 G98 =>
  bP (pickV x75 x97 (.bool false)) fun x99 =>
  ifV x99 (
  bP (pNil v0) fun x100 =>
  bP (fa Q q 327 2 2 x100) fun x101 =>
  bP (ld Q q 325 x101 (G98.room 9)) fun x102 =>
  bP (pNil v0) fun x103 =>
  bP (fa Q q 327 3 3 x103) fun x104 =>
  bP (ld Q q 321 x104 (G98.room 9)) fun x105 =>
  bS (cValue e.ev x102 [x105] (G98.room 9)) fun x107 G106 =>
  some (.tuple #[x75, x88], G106)) (
  some (.tuple #[x75, x88], G98))) (
  bS (gd x75 true (some (v0, G76)) G76) fun x108 G109 =>
  bS (gd x75 true (bP (pNil x108) fun y => some (y, G109)) G109) fun x110 G111 =>
  bS (gd x75 true (bP (fa Q q 327 2 2 x110) fun y => some (y, G111)) G111) fun x112 G113 =>
  bS (gd x75 true (bP (ld Q q 325 x112 G113) fun y => some (y, G113)) G113) fun x114 G115 =>
  bS (gd x75 true (bP (ef Q q true 325 (.tmp 50) (.const .nilFunc) x114 .nilFunc) fun y => some (y, G115)) G115) fun x116 G117 =>
  bP (pickV x75 x116 (.bool false)) fun x118 =>
  ifV x118 (
  bP (pNil v0) fun x119 =>
  bP (fa Q q 327 2 2 x119) fun x120 =>
  bP (ld Q q 325 x120 (G117.room 9)) fun x121 =>
  bP (pNil v0) fun x122 =>
  bP (fa Q q 327 3 3 x122) fun x123 =>
  bP (ld Q q 321 x123 (G117.room 9)) fun x124 =>
  bS (cValue e.ev x121 [x124] (G117.room 9)) fun x126 G125 =>
  some (.tuple #[x75, (.int .u64 0)], G125)) (
  some (.tuple #[x75, (.int .u64 0)], G117))))
theorem m335 {e : Ex} {E : Ev} (h : ExLe Q e E) (v0 v1 : Value) (G : GS) : Ref (s335 true e v0 v1 G) (s335 false (Ex.of E) v0 v1 G) := by
  unfold s335
  exact Ref.go
theorem f335 {orc : FuncId → Bool} {e : Ex} (h : ExLe Q e (E orc)) (v0 v1 : Value) (G : GS) : Ref (s335 true e v0 v1 G) ((E orc).cl 335 [v0, v1] G) :=
  fun r hr => cl_sxE_some Q orc (vs := [v0, v1]) G Tryz.func335 (by kernel_rfl) (by kernel_rfl) (by kernel_rfl) (by kernel_rfl) (by kernel_rfl) (by kernel_rfl) (m335 h v0 v1 G r hr)
noncomputable def b336_0 (q : Bool) (e : Ex) (lp : Env → GS → Option (Exit × Env × GS)) (τ : Env) (G : GS) : Option (Exit × Env × GS) :=
  bV q (τ 0) fun a0_ =>
  bV q (τ 1) fun a1_ =>
  bV q (τ 12) fun a12_ =>
  bV q (τ 13) fun a13_ =>
  bP (bn Q q .lss 3 (.tmp 13) (.const (.int .i64 4)) a13_ (.int .i64 4)) fun x0 =>
  ifV x0 (
  bP (ix Q q 367 4 a12_ a13_) fun x1 =>
  bP (pNil a0_) fun x2 =>
  bP (fa Q q 369 3 6 x2) fun x3 =>
  bP (ld Q q 3 x3 G) fun x4 =>
  bP (bn Q q .eql 3 (.tmp 17) (.tmp 21) a13_ x4) fun x5 =>
  ifV x5 (
  bS (cValue e.ev x1 [a1_] G) fun x6 G7 =>
  some ((.exit 0), clq q 36 (tu τ [(0, a0_), (1, a1_), (12, a12_), (13, a13_), (5, a13_), (6, x1), (14, x0), (15, a13_), (16, x1), (17, a13_), (18, a0_), (19, x2), (20, x3), (21, x4), (22, x5), (23, x1), (24, a1_), (25, x6)]), G7)) (
  bP (bn Q q .add 3 (.tmp 13) (.const (.int .i64 1)) a13_ (.int .i64 1)) fun x8 =>
  lp (tu τ [(0, a0_), (1, a1_), (12, a12_), (13, x8), (5, a13_), (6, x1), (14, x0), (15, a13_), (16, x1), (17, a13_), (18, a0_), (19, x2), (20, x3), (21, x4), (22, x5), (26, x8)]) G)) (
  some ((.exit 0), clq q 36 (tu τ [(0, a0_), (1, a1_), (12, a12_), (13, a13_), (14, x0)]), G))
theorem mb336_0 {e : Ex} {E : Ev} (h : ExLe Q e E) {lp lp' : Env → GS → Option (Exit × Env × GS)} (hlp : LpLe lp lp') (τ : Env) (G : GS) : Ref (b336_0 true e lp τ G) (b336_0 false (Ex.of E) lp' τ G) := by
  unfold b336_0
  exact Ref.go
theorem l336_0 {orc : FuncId → Bool} {e : Ex} (h : ExLe Q e (E orc)) (lp : Env → GS → Option (Exit × Env × GS)) (hlp : ∀ τ G, Ref (lp τ G) (mapE ((E orc).lp (subAt [1, 1, 0, 1, 0, 0] (bodyOf Tryz.f336)) (lst 36 τ) G))) (T : List Value) (G : GS) (hT : T.length = 36) : Ref (b336_0 true e lp (nth undef T) G) (mapE ((E orc).lp (subAt [1, 1, 0, 1, 0, 0] (bodyOf Tryz.f336)) T G)) :=
  fun r hr => lp_sxM Q orc G hT (by kernel_rfl) (mb336_0 h ⟨hlp⟩ _ _ r hr)
/-- (*coxswain/tower.Lay).Step -/
noncomputable def s336 (q : Bool) (e : Ex) (v0 v1 : Value) (G : GS) : Option (Value × GS) :=
  bS (e.ev.cl 337 [v0] G) fun x0 G1 =>
  ifV x0 (
  some ((.bool true), G1)) (
  bP (pNil v0) fun x2 =>
  bP (fa Q q 369 2 2 x2) fun x3 =>
  bP (lda Q q 367 4 x3 G1) fun x4 =>
  bL q e 336 0 (subAt [1, 1, 0, 1, 0, 0] (bodyOf Tryz.f336)) 36 (tu (nth undef [v0, v1]) [(4, (.bool false)), (7, v0), (8, x0), (9, v0), (10, x2), (11, x3), (12, x4), (13, (.int .i64 0))]) G1 fun e5 t6 G7 =>
  bV q (t6 0) fun t6x0_ =>
  ifE e5 (.exit 0) (
  bP (pNil t6x0_) fun x8 =>
  bP (fa Q q 369 3 6 x8) fun x9 =>
  bP (ld Q q 3 x9 G7) fun x10 =>
  bP (bn Q q .add 3 (.tmp 30) (.const (.int .i64 1)) x10 (.int .i64 1)) fun x11 =>
  bP (pNil t6x0_) fun x12 =>
  bP (fa Q q 369 3 6 x12) fun x13 =>
  bP (st Q q 3 1 x13 x11 G7) fun G14 =>
  bS (e.ev.cl 337 [t6x0_] G14) fun x15 G16 =>
  some (x15, G16)) (none))
theorem m336 {e : Ex} {E : Ev} (h : ExLe Q e E) (v0 v1 : Value) (G : GS) : Ref (s336 true e v0 v1 G) (s336 false (Ex.of E) v0 v1 G) := by
  unfold s336
  exact Ref.go
theorem f336 {orc : FuncId → Bool} {e : Ex} (h : ExLe Q e (E orc)) (v0 v1 : Value) (G : GS) : Ref (s336 true e v0 v1 G) ((E orc).cl 336 [v0, v1] G) :=
  fun r hr => cl_sxE_some Q orc (vs := [v0, v1]) G Tryz.func336 (by kernel_rfl) (by kernel_rfl) (by kernel_rfl) (by kernel_rfl) (by kernel_rfl) (by kernel_rfl) (m336 h v0 v1 G r hr)
/-- (*coxswain/tower.Lay).over -/
noncomputable def s337 (q : Bool) (e : Ex) (v0 : Value) (G : GS) : Option (Value × GS) :=
  bP (ep Q q false 321 (.tmp 3) (.const (.pointer none)) v0 (.pointer none)) fun x0 =>
  bS (gd x0 false (some (v0, G)) G) fun x1 G2 =>
  bS (gd x0 false (bP (pNil x1) fun y => some (y, G2)) G2) fun x3 G4 =>
  bS (gd x0 false (bP (fa Q q 369 0 0 x3) fun y => some (y, G4)) G4) fun x5 G6 =>
  bS (gd x0 false (bP (ld Q q 4 x5 G6) fun y => some (y, G6)) G6) fun x7 G8 =>
  bS (gd x0 false (bP (un Q q .not x7) fun y => some (y, G8)) G8) fun x9 G10 =>
  bP (pickV x0 (.bool true) x9) fun x11 =>
  bS (gd x11 false (some (v0, G10)) G10) fun x12 G13 =>
  bS (gd x11 false (bP (pNil x12) fun y => some (y, G13)) G13) fun x14 G15 =>
  bS (gd x11 false (bP (fa Q q 369 3 6 x14) fun y => some (y, G15)) G15) fun x16 G17 =>
  bS (gd x11 false (bP (ld Q q 3 x16 G17) fun y => some (y, G17)) G17) fun x18 G19 =>
  bS (gd x11 false (bP (bn Q q .eql 3 (.tmp 16) (.const (.int .i64 4)) x18 (.int .i64 4)) fun y => some (y, G19)) G19) fun x20 G21 =>
  bP (pickV x11 (.bool true) x20) fun x22 =>
  some (x22, G21)
theorem m337 {e : Ex} {E : Ev} (h : ExLe Q e E) (v0 : Value) (G : GS) : Ref (s337 true e v0 G) (s337 false (Ex.of E) v0 G) := by
  unfold s337
  exact Ref.go
theorem f337 {orc : FuncId → Bool} {e : Ex} (h : ExLe Q e (E orc)) (v0 : Value) (G : GS) : Ref (s337 true e v0 G) ((E orc).cl 337 [v0] G) :=
  fun r hr => cl_sxE_some Q orc (vs := [v0]) G Tryz.func337 (by kernel_rfl) (by kernel_rfl) (by kernel_rfl) (by kernel_rfl) (by kernel_rfl) (by kernel_rfl) (m337 h v0 G r hr)
/-- (*coxswain/ready.part[*coxswain/insert.Insert]).run -/
noncomputable def s338 (q : Bool) (e : Ex) (v0 v1 : Value) (G : GS) : Option (Value × GS) :=
  bP (pNil v0) fun x0 =>
  bP (fa Q q 335 4 4 x0) fun x1 =>
  bP (ld Q q 4 x1 G) fun x2 =>
  bP (un Q q .not x2) fun x3 =>
  ifV x3 (
  bP (pNil v0) fun x4 =>
  bP (fa Q q 335 0 0 x4) fun x5 =>
  bP (ld Q q 331 x5 G) fun x6 =>
  bS (cValue e.ev x6 [] G) fun x7 G8 =>
  bP (pNil v0) fun x9 =>
  bP (fa Q q 335 3 3 x9) fun x10 =>
  bP (st Q q 329 1 x10 x7 G8) fun G11 =>
  bP (pNil v0) fun x12 =>
  bP (fa Q q 335 4 4 x12) fun x13 =>
  bP (st Q q 4 1 x13 (.bool true) G11) fun G14 =>
  bP (pNil v0) fun x15 =>
  bP (fa Q q 335 3 3 x15) fun x16 =>
  bP (ld Q q 329 x16 G14) fun x17 =>
  bP (ifc Q q 329 x17) fun x18 =>
  bS (cInvoke Q e.ev x18 "Step" [v1] G14) fun x19 G20 =>
  bP (pNil v0) fun x21 =>
  bP (fa Q q 335 1 1 x21) fun x22 =>
  bP (ld Q q 332 x22 G20) fun x23 =>
  bP (ef Q q true 332 (.tmp 34) (.const .nilFunc) x23 .nilFunc) fun x24 =>
  ifV x24 (
  bP (pNil v0) fun x25 =>
  bP (fa Q q 335 1 1 x25) fun x26 =>
  bP (ld Q q 332 x26 (G20.room 10)) fun x27 =>
  bP (pNil v0) fun x28 =>
  bP (fa Q q 335 3 3 x28) fun x29 =>
  bP (ld Q q 329 x29 (G20.room 10)) fun x30 =>
  bS (cValue e.ev x27 [x30] (G20.room 10)) fun x32 G31 =>
  bS (gd x19 true (some (v0, G31)) G31) fun x33 G34 =>
  bS (gd x19 true (bP (pNil x33) fun y => some (y, G34)) G34) fun x35 G36 =>
  bS (gd x19 true (bP (fa Q q 335 2 2 x35) fun y => some (y, G36)) G36) fun x37 G38 =>
  bS (gd x19 true (bP (ld Q q 333 x37 G38) fun y => some (y, G38)) G38) fun x39 G40 =>
  bS (gd x19 true (bP (ef Q q true 333 (.tmp 50) (.const .nilFunc) x39 .nilFunc) fun y => some (y, G40)) G40) fun x41 G42 =>
  bP (pickV x19 x41 (.bool false)) fun x43 =>
  ifV x43 (
  bP (pNil v0) fun x44 =>
  bP (fa Q q 335 2 2 x44) fun x45 =>
  bP (ld Q q 333 x45 (G42.room 9)) fun x46 =>
  bP (pNil v0) fun x47 =>
  bP (fa Q q 335 3 3 x47) fun x48 =>
  bP (ld Q q 329 x48 (G42.room 9)) fun x49 =>
  bS (cValue e.ev x46 [x49] (G42.room 9)) fun x51 G50 =>
  some (.tuple #[x19, x32], G50)) (
  some (.tuple #[x19, x32], G42))) (
  bS (gd x19 true (some (v0, G20)) G20) fun x52 G53 =>
  bS (gd x19 true (bP (pNil x52) fun y => some (y, G53)) G53) fun x54 G55 =>
  bS (gd x19 true (bP (fa Q q 335 2 2 x54) fun y => some (y, G55)) G55) fun x56 G57 =>
  bS (gd x19 true (bP (ld Q q 333 x56 G57) fun y => some (y, G57)) G57) fun x58 G59 =>
  bS (gd x19 true (bP (ef Q q true 333 (.tmp 50) (.const .nilFunc) x58 .nilFunc) fun y => some (y, G59)) G59) fun x60 G61 =>
  bP (pickV x19 x60 (.bool false)) fun x62 =>
  ifV x62 (
  bP (pNil v0) fun x63 =>
  bP (fa Q q 335 2 2 x63) fun x64 =>
  bP (ld Q q 333 x64 (G61.room 9)) fun x65 =>
  bP (pNil v0) fun x66 =>
  bP (fa Q q 335 3 3 x66) fun x67 =>
  bP (ld Q q 329 x67 (G61.room 9)) fun x68 =>
  bS (cValue e.ev x65 [x68] (G61.room 9)) fun x70 G69 =>
  some (.tuple #[x19, (.int .u64 0)], G69)) (
  some (.tuple #[x19, (.int .u64 0)], G61)))) (
  bP (pNil v0) fun x71 =>
  bP (fa Q q 335 3 3 x71) fun x72 =>
  bP (ld Q q 329 x72 G) fun x73 =>
  bP (ifc Q q 329 x73) fun x74 =>
  bS (cInvoke Q e.ev x74 "Step" [v1] G) fun x75 G76 =>
  bP (pNil v0) fun x77 =>
  bP (fa Q q 335 1 1 x77) fun x78 =>
  bP (ld Q q 332 x78 G76) fun x79 =>
  bP (ef Q q true 332 (.tmp 34) (.const .nilFunc) x79 .nilFunc) fun x80 =>
  ifV x80 (
  bP (pNil v0) fun x81 =>
  bP (fa Q q 335 1 1 x81) fun x82 =>
  bP (ld Q q 332 x82 (G76.room 10)) fun x83 =>
  bP (pNil v0) fun x84 =>
  bP (fa Q q 335 3 3 x84) fun x85 =>
  bP (ld Q q 329 x85 (G76.room 10)) fun x86 =>
  bS (cValue e.ev x83 [x86] (G76.room 10)) fun x88 G87 =>
  bS (gd x75 true (some (v0, G87)) G87) fun x89 G90 =>
  bS (gd x75 true (bP (pNil x89) fun y => some (y, G90)) G90) fun x91 G92 =>
  bS (gd x75 true (bP (fa Q q 335 2 2 x91) fun y => some (y, G92)) G92) fun x93 G94 =>
  bS (gd x75 true (bP (ld Q q 333 x93 G94) fun y => some (y, G94)) G94) fun x95 G96 =>
  bS (gd x75 true (bP (ef Q q true 333 (.tmp 50) (.const .nilFunc) x95 .nilFunc) fun y => some (y, G96)) G96) fun x97 G98 =>
  bP (pickV x75 x97 (.bool false)) fun x99 =>
  ifV x99 (
  bP (pNil v0) fun x100 =>
  bP (fa Q q 335 2 2 x100) fun x101 =>
  bP (ld Q q 333 x101 (G98.room 9)) fun x102 =>
  bP (pNil v0) fun x103 =>
  bP (fa Q q 335 3 3 x103) fun x104 =>
  bP (ld Q q 329 x104 (G98.room 9)) fun x105 =>
  bS (cValue e.ev x102 [x105] (G98.room 9)) fun x107 G106 =>
  some (.tuple #[x75, x88], G106)) (
  some (.tuple #[x75, x88], G98))) (
  bS (gd x75 true (some (v0, G76)) G76) fun x108 G109 =>
  bS (gd x75 true (bP (pNil x108) fun y => some (y, G109)) G109) fun x110 G111 =>
  bS (gd x75 true (bP (fa Q q 335 2 2 x110) fun y => some (y, G111)) G111) fun x112 G113 =>
  bS (gd x75 true (bP (ld Q q 333 x112 G113) fun y => some (y, G113)) G113) fun x114 G115 =>
  bS (gd x75 true (bP (ef Q q true 333 (.tmp 50) (.const .nilFunc) x114 .nilFunc) fun y => some (y, G115)) G115) fun x116 G117 =>
  bP (pickV x75 x116 (.bool false)) fun x118 =>
  ifV x118 (
  bP (pNil v0) fun x119 =>
  bP (fa Q q 335 2 2 x119) fun x120 =>
  bP (ld Q q 333 x120 (G117.room 9)) fun x121 =>
  bP (pNil v0) fun x122 =>
  bP (fa Q q 335 3 3 x122) fun x123 =>
  bP (ld Q q 329 x123 (G117.room 9)) fun x124 =>
  bS (cValue e.ev x121 [x124] (G117.room 9)) fun x126 G125 =>
  some (.tuple #[x75, (.int .u64 0)], G125)) (
  some (.tuple #[x75, (.int .u64 0)], G117))))
theorem m338 {e : Ex} {E : Ev} (h : ExLe Q e E) (v0 v1 : Value) (G : GS) : Ref (s338 true e v0 v1 G) (s338 false (Ex.of E) v0 v1 G) := by
  unfold s338
  exact Ref.go
theorem f338 {orc : FuncId → Bool} {e : Ex} (h : ExLe Q e (E orc)) (v0 v1 : Value) (G : GS) : Ref (s338 true e v0 v1 G) ((E orc).cl 338 [v0, v1] G) :=
  fun r hr => cl_sxE_some Q orc (vs := [v0, v1]) G Tryz.func338 (by kernel_rfl) (by kernel_rfl) (by kernel_rfl) (by kernel_rfl) (by kernel_rfl) (by kernel_rfl) (m338 h v0 v1 G r hr)
/-- (*coxswain/insert.Insert).Step -/
noncomputable def s339 (q : Bool) (e : Ex) (v0 v1 : Value) (G : GS) : Option (Value × GS) :=
  bP (ep Q q false 329 (.tmp 6) (.const (.pointer none)) v0 (.pointer none)) fun x0 =>
  bS (gd x0 false (some (v0, G)) G) fun x1 G2 =>
  bS (gd x0 false (bP (pNil x1) fun y => some (y, G2)) G2) fun x3 G4 =>
  bS (gd x0 false (bP (fa Q q 376 7 19 x3) fun y => some (y, G4)) G4) fun x5 G6 =>
  bS (gd x0 false (bP (ld Q q 372 x5 G6) fun y => some (y, G6)) G6) fun x7 G8 =>
  bS (gd x0 false (bP (bn Q q .eql 372 (.tmp 12) (.const (.int .i64 0)) x7 (.int .i64 0)) fun y => some (y, G8)) G8) fun x9 G10 =>
  bP (pickV x0 (.bool true) x9) fun x11 =>
  ifV x11 (
  some ((.bool true), G10)) (
  bS (e.ev.cl 340 [] G10) fun x12 G13 =>
  bS (al Q q 445 z445 G13) fun x14 G15 =>
  bP (st Q q 445 13 x14 x12 G15) fun G16 =>
  bP (pNil v0) fun x17 =>
  bP (fa Q q 376 7 19 x17) fun x18 =>
  bP (ld Q q 372 x18 G16) fun x19 =>
  bP (iaa Q q 445 13 1 x14 x19) fun x20 =>
  bP (ld Q q 444 x20 G16) fun x21 =>
  bS (cValue e.ev x21 [v0, v1] G16) fun x22 G23 =>
  bP (pNil v0) fun x24 =>
  bP (fa Q q 376 7 19 x24) fun x25 =>
  bP (st Q q 372 1 x25 x22 G23) fun G26 =>
  bP (pNil v0) fun x27 =>
  bP (fa Q q 376 7 19 x27) fun x28 =>
  bP (ld Q q 372 x28 G26) fun x29 =>
  bP (bn Q q .eql 372 (.tmp 31) (.const (.int .i64 0)) x29 (.int .i64 0)) fun x30 =>
  some (x30, G26))
theorem m339 {e : Ex} {E : Ev} (h : ExLe Q e E) (v0 v1 : Value) (G : GS) : Ref (s339 true e v0 v1 G) (s339 false (Ex.of E) v0 v1 G) := by
  unfold s339
  exact Ref.go
theorem f339 {orc : FuncId → Bool} {e : Ex} (h : ExLe Q e (E orc)) (v0 v1 : Value) (G : GS) : Ref (s339 true e v0 v1 G) ((E orc).cl 339 [v0, v1] G) :=
  fun r hr => cl_sxE_some Q orc (vs := [v0, v1]) G Tryz.func339 (by kernel_rfl) (by kernel_rfl) (by kernel_rfl) (by kernel_rfl) (by kernel_rfl) (by kernel_rfl) (m339 h v0 v1 G r hr)
/-- coxswain/insert.table -/
noncomputable def s340 (q : Bool) (e : Ex) (G : GS) : Option (Value × GS) :=
  bS (al Q q 445 z445 G) fun x0 G1 =>
  bP (bd Q q 445 z445 [(1, 1, 1), (2, 2, 1), (3, 3, 1), (4, 4, 1), (5, 5, 1), (6, 6, 1), (7, 7, 1), (8, 8, 1), (9, 9, 1), (10, 10, 1), (11, 11, 1), (12, 12, 1)] [(.func (.func 341) #[] #[]), (.func (.func 342) #[] #[]), (.func (.func 343) #[] #[]), (.func (.func 344) #[] #[]), (.func (.func 345) #[] #[]), (.func (.func 346) #[] #[]), (.func (.func 347) #[] #[]), (.func (.func 348) #[] #[]), (.func (.func 349) #[] #[]), (.func (.func 350) #[] #[]), (.func (.func 351) #[] #[]), (.func (.func 352) #[] #[])]) fun x2 =>
  bP (st Q q 445 13 x0 x2 G1) fun G3 =>
  bP (lda Q q 445 13 x0 G3) fun x4 =>
  some (x4, G3)
theorem m340 {e : Ex} {E : Ev} (h : ExLe Q e E) (G : GS) : Ref (s340 true e  G) (s340 false (Ex.of E)  G) := by
  unfold s340
  exact Ref.go
theorem f340 {orc : FuncId → Bool} {e : Ex} (h : ExLe Q e (E orc)) (ho : orc 340 = false) (G : GS) : Ref (s340 true e  G) ((E orc).cl 340 [] G) :=
  fun r hr => cl_sxE_some Q orc (vs := []) G Tryz.func340 (by kernel_rfl) (by kernel_rfl) ho (by kernel_rfl) (by kernel_rfl) (by kernel_rfl) (m340 h  G r hr)
/-- (*coxswain/insert.Insert).find -/
noncomputable def s341 (q : Bool) (e : Ex) (v0 v1 : Value) (G : GS) : Option (Value × GS) :=
  bS (e.ev.cl 353 [v0, v1] G) fun x0 G1 =>
  bP (un Q q .not x0) fun x2 =>
  ifV x2 (
  some ((.int .i64 1), G1)) (
  bP (pNil v0) fun x3 =>
  bP (fa Q q 376 8 20 x3) fun x4 =>
  bP (st Q q 3 1 x4 (.int .i64 0) G1) fun G5 =>
  some ((.int .i64 2), G5))
theorem m341 {e : Ex} {E : Ev} (h : ExLe Q e E) (v0 v1 : Value) (G : GS) : Ref (s341 true e v0 v1 G) (s341 false (Ex.of E) v0 v1 G) := by
  unfold s341
  exact Ref.go
theorem f341 {orc : FuncId → Bool} {e : Ex} (h : ExLe Q e (E orc)) (v0 v1 : Value) (G : GS) : Ref (s341 true e v0 v1 G) ((E orc).cl 341 [v0, v1] G) :=
  fun r hr => cl_sxE_some Q orc (vs := [v0, v1]) G Tryz.func341 (by kernel_rfl) (by kernel_rfl) (by kernel_rfl) (by kernel_rfl) (by kernel_rfl) (by kernel_rfl) (m341 h v0 v1 G r hr)
noncomputable def b342_0 (q : Bool) (e : Ex) (lp : Env → GS → Option (Exit × Env × GS)) (τ : Env) (G : GS) : Option (Exit × Env × GS) :=
  bV q (τ 0) fun a0_ =>
  bV q (τ 1) fun a1_ =>
  bV q (τ 16) fun a16_ =>
  bV q (τ 17) fun a17_ =>
  bP (bn Q q .lss 3 (.tmp 17) (.tmp 16) a17_ a16_) fun x0 =>
  ifV x0 (
  bP (pNil a0_) fun x1 =>
  bP (fa Q q 376 8 20 x1) fun x2 =>
  bP (ld Q q 3 x2 G) fun x3 =>
  bP (bn Q q .neq 3 (.tmp 20) (.tmp 24) a17_ x3) fun x4 =>
  ifV x4 (
  bP (bn Q q .add 3 (.tmp 17) (.const (.int .i64 1)) a17_ (.int .i64 1)) fun x5 =>
  lp (tu τ [(0, a0_), (1, a1_), (16, a16_), (17, x5), (5, a17_), (18, x0), (19, a17_), (20, a17_), (21, a0_), (22, x1), (23, x2), (24, x3), (25, x4), (46, x5)]) G) (
  bP (pNil a0_) fun x6 =>
  bP (fa Q q 376 0 0 x6) fun x7 =>
  bP (lda Q q 45 13 x7 (G.room 20)) fun x8 =>
  bP (pNil a0_) fun x9 =>
  bP (fa Q q 376 5 17 x9) fun x10 =>
  bP (ld Q q 3 x10 (G.room 20)) fun x11 =>
  bS (e.ev.cl 194 [x8, x11, a17_] (G.room 20)) fun x13 G12 =>
  bP (pNil a0_) fun x14 =>
  bP (fa Q q 376 10 22 x14) fun x15 =>
  bP (ld Q q 373 x15 G12) fun x16 =>
  chk ((sameO (ld Q q 373 x15 (G.room 20)) x16 && true)) <|
  bS (e.ev.cl 354 [x16] G12) fun x18 G17 =>
  bP (ias Q q 22 1 x18 a17_) fun x19 =>
  bP (ld Q q 23 x19 G17) fun x20 =>
  bS (e.ev.cl 23 [a1_, x13, x20] G17) fun x22 G21 =>
  bP (bn Q q .add 3 (.tmp 17) (.const (.int .i64 1)) a17_ (.int .i64 1)) fun x23 =>
  lp (tu τ [(0, a0_), (1, a1_), (16, a16_), (17, x23), (5, a17_), (18, x0), (19, a17_), (20, a17_), (21, a0_), (22, x1), (23, x2), (24, x3), (25, x4), (26, a1_), (27, a0_), (28, x6), (29, x7), (30, x8), (31, a0_), (32, x9), (33, x10), (34, x11), (35, a17_), (36, x13), (37, a0_), (38, x14), (39, x15), (40, x16), (41, x18), (42, a17_), (43, x19), (44, x20), (45, x22), (46, x23)]) G21)) (
  some ((.exit 0), clq q 66 (tu τ [(0, a0_), (1, a1_), (16, a16_), (17, a17_), (18, x0)]), G))
theorem mb342_0 {e : Ex} {E : Ev} (h : ExLe Q e E) {lp lp' : Env → GS → Option (Exit × Env × GS)} (hlp : LpLe lp lp') (τ : Env) (G : GS) : Ref (b342_0 true e lp τ G) (b342_0 false (Ex.of E) lp' τ G) := by
  unfold b342_0
  exact Ref.go
theorem l342_0 {orc : FuncId → Bool} {e : Ex} (h : ExLe Q e (E orc)) (lp : Env → GS → Option (Exit × Env × GS)) (hlp : ∀ τ G, Ref (lp τ G) (mapE ((E orc).lp (subAt [1, 0, 1, 1, 0, 1, 0, 0] (bodyOf Tryz.f342)) (lst 66 τ) G))) (T : List Value) (G : GS) (hT : T.length = 66) : Ref (b342_0 true e lp (nth undef T) G) (mapE ((E orc).lp (subAt [1, 0, 1, 1, 0, 1, 0, 0] (bodyOf Tryz.f342)) T G)) :=
  fun r hr => lp_sxM Q orc G hT (by kernel_rfl) (mb342_0 h ⟨hlp⟩ _ _ r hr)
/-- (*coxswain/insert.Insert).store -/
noncomputable def s342 (q : Bool) (e : Ex) (v0 v1 : Value) (G : GS) : Option (Value × GS) :=
  bP (pNil v0) fun x0 =>
  bP (fa Q q 376 3 15 x0) fun x1 =>
  bP (ld Q q 23 x1 G) fun x2 =>
  bP (pNil v0) fun x3 =>
  bP (fa Q q 376 12 24 x3) fun x4 =>
  bP (st Q q 23 1 x4 x2 G) fun G5 =>
  bP (pNil v0) fun x6 =>
  bP (fa Q q 376 6 18 x6) fun x7 =>
  bP (ld Q q 3 x7 G5) fun x8 =>
  bL q e 342 0 (subAt [1, 0, 1, 1, 0, 1, 0, 0] (bodyOf Tryz.f342)) 66 (tu (nth undef [v0, v1]) [(4, (.int .i64 0)), (6, v0), (7, v0), (8, x0), (9, x1), (10, x2), (11, x3), (12, x4), (13, v0), (14, x6), (15, x7), (16, x8), (17, (.int .i64 0))]) G5 fun e9 t10 G11 =>
  bV q (t10 0) fun t10x0_ =>
  ifE e9 (.exit 0) (
  bP (pNil t10x0_) fun x12 =>
  bP (fa Q q 376 8 20 x12) fun x13 =>
  bP (ld Q q 3 x13 G11) fun x14 =>
  bP (bn Q q .add 3 (.tmp 50) (.const (.int .i64 1)) x14 (.int .i64 1)) fun x15 =>
  bP (pNil t10x0_) fun x16 =>
  bP (fa Q q 376 8 20 x16) fun x17 =>
  bP (st Q q 3 1 x17 x15 G11) fun G18 =>
  bP (pNil t10x0_) fun x19 =>
  bP (fa Q q 376 8 20 x19) fun x20 =>
  bP (ld Q q 3 x20 (G18.room 9)) fun x21 =>
  bP (pNil t10x0_) fun x22 =>
  bP (fa Q q 376 6 18 x22) fun x23 =>
  bP (ld Q q 3 x23 (G18.room 9)) fun x24 =>
  bP (bn Q q .lss 3 (.tmp 57) (.tmp 61) x21 x24) fun x25 =>
  ifV x25 (
  some ((.int .i64 2), (G18.room 9))) (
  bP (pNil t10x0_) fun x26 =>
  bP (fa Q q 376 8 20 x26) fun x27 =>
  bP (st Q q 3 1 x27 (.int .i64 0) (G18.room 9)) fun G28 =>
  some ((.int .i64 3), G28))) (none)
theorem m342 {e : Ex} {E : Ev} (h : ExLe Q e E) (v0 v1 : Value) (G : GS) : Ref (s342 true e v0 v1 G) (s342 false (Ex.of E) v0 v1 G) := by
  unfold s342
  exact Ref.go
theorem f342 {orc : FuncId → Bool} {e : Ex} (h : ExLe Q e (E orc)) (v0 v1 : Value) (G : GS) : Ref (s342 true e v0 v1 G) ((E orc).cl 342 [v0, v1] G) :=
  fun r hr => cl_sxE_some Q orc (vs := [v0, v1]) G Tryz.func342 (by kernel_rfl) (by kernel_rfl) (by kernel_rfl) (by kernel_rfl) (by kernel_rfl) (by kernel_rfl) (m342 h v0 v1 G r hr)
/-- (*coxswain/insert.Insert).enter -/
noncomputable def s343 (q : Bool) (e : Ex) (v0 v1 : Value) (G : GS) : Option (Value × GS) :=
  bS (e.ev.cl 355 [v0, v1] G) fun x0 G1 =>
  bP (un Q q .not x0) fun x2 =>
  ifV x2 (
  bS (e.ev.cl 251 [v0, (.int .i64 1)] G1) fun x3 G4 =>
  some (x3, G4)) (
  bP (pNil v0) fun x5 =>
  bP (fa Q q 376 2 14 x5) fun x6 =>
  bP (st Q q 4 1 x6 (.bool true) G1) fun G7 =>
  bP (pNil v0) fun x8 =>
  bP (fa Q q 376 8 20 x8) fun x9 =>
  bP (st Q q 3 1 x9 (.int .i64 1) G7) fun G10 =>
  bS (e.ev.cl 356 [v0] G10) fun x11 G12 =>
  some (x11, G12))
theorem m343 {e : Ex} {E : Ev} (h : ExLe Q e E) (v0 v1 : Value) (G : GS) : Ref (s343 true e v0 v1 G) (s343 false (Ex.of E) v0 v1 G) := by
  unfold s343
  exact Ref.go
theorem f343 {orc : FuncId → Bool} {e : Ex} (h : ExLe Q e (E orc)) (v0 v1 : Value) (G : GS) : Ref (s343 true e v0 v1 G) ((E orc).cl 343 [v0, v1] G) :=
  fun r hr => cl_sxE_some Q orc (vs := [v0, v1]) G Tryz.func343 (by kernel_rfl) (by kernel_rfl) (by kernel_rfl) (by kernel_rfl) (by kernel_rfl) (by kernel_rfl) (m343 h v0 v1 G r hr)
/-- (*coxswain/insert.Insert).load -/
noncomputable def s344 (q : Bool) (e : Ex) (v0 v1 : Value) (G : GS) : Option (Value × GS) :=
  bP (pNil v0) fun x0 =>
  bP (fa Q q 376 8 20 x0) fun x1 =>
  bP (ld Q q 3 x1 G) fun x2 =>
  bS (e.ev.cl 357 [v0, v1, x2] G) fun x3 G4 =>
  bP (pNil v0) fun x5 =>
  bP (fa Q q 376 9 21 x5) fun x6 =>
  bP (st Q q 23 1 x6 x3 G4) fun G7 =>
  bP (pNil v0) fun x8 =>
  bP (fa Q q 376 9 21 x8) fun x9 =>
  bP (ld Q q 23 x9 G7) fun x10 =>
  bS (e.ev.cl 264 [x10] G7) fun x11 G12 =>
  ifV x11 (
  some ((.int .i64 9), G12)) (
  bP (pNil v0) fun x13 =>
  bP (fa Q q 376 9 21 x13) fun x14 =>
  bP (ld Q q 23 x14 (G12.room 17)) fun x15 =>
  bP (pNil v0) fun x16 =>
  bP (fa Q q 376 10 22 x16) fun x17 =>
  bP (ld Q q 373 x17 (G12.room 17)) fun x18 =>
  bS (e.ev.cl 354 [x18] (G12.room 17)) fun x20 G19 =>
  chk ((sameO (ld Q q 23 x14 G19) x15 && true)) <|
  bP (pNil v0) fun x21 =>
  bP (fa Q q 376 8 20 x21) fun x22 =>
  bP (ld Q q 3 x22 G19) fun x23 =>
  chk ((sameO (ld Q q 3 x22 (G12.room 17)) x23 && true)) <|
  bP (ias Q q 22 1 x20 x23) fun x24 =>
  bP (ld Q q 23 x24 G19) fun x25 =>
  bP (bn Q q .neq 23 (.tmp 25) (.tmp 36) x15 x25) fun x26 =>
  ifV x26 (
  some ((.int .i64 5), G19)) (
  some ((.int .i64 6), G19)))
theorem m344 {e : Ex} {E : Ev} (h : ExLe Q e E) (v0 v1 : Value) (G : GS) : Ref (s344 true e v0 v1 G) (s344 false (Ex.of E) v0 v1 G) := by
  unfold s344
  exact Ref.go
theorem f344 {orc : FuncId → Bool} {e : Ex} (h : ExLe Q e (E orc)) (v0 v1 : Value) (G : GS) : Ref (s344 true e v0 v1 G) ((E orc).cl 344 [v0, v1] G) :=
  fun r hr => cl_sxE_some Q orc (vs := [v0, v1]) G Tryz.func344 (by kernel_rfl) (by kernel_rfl) (by kernel_rfl) (by kernel_rfl) (by kernel_rfl) (by kernel_rfl) (m344 h v0 v1 G r hr)
/-- (*coxswain/insert.Insert).turn -/
noncomputable def s345 (q : Bool) (e : Ex) (v0 v1 : Value) (G : GS) : Option (Value × GS) :=
  bP (pNil v0) fun x0 =>
  bP (fa Q q 376 0 0 x0) fun x1 =>
  bP (lda Q q 45 13 x1 (G.room 31)) fun x2 =>
  bP (pNil v0) fun x3 =>
  bP (fa Q q 376 5 17 x3) fun x4 =>
  bP (ld Q q 3 x4 (G.room 31)) fun x5 =>
  bP (pNil v0) fun x6 =>
  bP (fa Q q 376 8 20 x6) fun x7 =>
  bP (ld Q q 3 x7 (G.room 31)) fun x8 =>
  bS (e.ev.cl 194 [x2, x5, x8] (G.room 31)) fun x10 G9 =>
  bP (pNil v0) fun x11 =>
  bP (fa Q q 376 9 21 x11) fun x12 =>
  bP (ld Q q 23 x12 G9) fun x13 =>
  chk ((sameO (ld Q q 23 x12 (G.room 31)) x13 && true)) <|
  bP (pNil v0) fun x14 =>
  bP (fa Q q 376 10 22 x14) fun x15 =>
  bP (ld Q q 373 x15 G9) fun x16 =>
  chk ((sameO (ld Q q 373 x15 (G.room 31)) x16 && true)) <|
  bS (e.ev.cl 354 [x16] G9) fun x18 G17 =>
  chk ((sameO (ld Q q 23 x12 G17) x13 && true)) <|
  bP (pNil v0) fun x19 =>
  bP (fa Q q 376 8 20 x19) fun x20 =>
  bP (ld Q q 3 x20 G17) fun x21 =>
  chk ((sameO (ld Q q 3 x20 G9) x21 && (sameO (ld Q q 3 x20 (G.room 31)) x21 && true))) <|
  bP (ias Q q 22 1 x18 x21) fun x22 =>
  bP (ld Q q 23 x22 G17) fun x23 =>
  bS (e.ev.cl 358 [v0, v1, x10, x13, x23] G17) fun x25 G24 =>
  ifV x25 (
  some ((.int .i64 6), G24)) (
  some ((.int .i64 9), G24))
theorem m345 {e : Ex} {E : Ev} (h : ExLe Q e E) (v0 v1 : Value) (G : GS) : Ref (s345 true e v0 v1 G) (s345 false (Ex.of E) v0 v1 G) := by
  unfold s345
  exact Ref.go
theorem f345 {orc : FuncId → Bool} {e : Ex} (h : ExLe Q e (E orc)) (v0 v1 : Value) (G : GS) : Ref (s345 true e v0 v1 G) ((E orc).cl 345 [v0, v1] G) :=
  fun r hr => cl_sxE_some Q orc (vs := [v0, v1]) G Tryz.func345 (by kernel_rfl) (by kernel_rfl) (by kernel_rfl) (by kernel_rfl) (by kernel_rfl) (by kernel_rfl) (m345 h v0 v1 G r hr)
/-- (*coxswain/insert.Insert).link -/
noncomputable def s346 (q : Bool) (e : Ex) (v0 v1 : Value) (G : GS) : Option (Value × GS) :=
  bS (e.ev.cl 355 [v0, v1] G) fun x0 G1 =>
  bP (un Q q .not x0) fun x2 =>
  ifV x2 (
  bS (e.ev.cl 251 [v0, (.int .i64 7)] G1) fun x3 G4 =>
  some (x3, G4)) (
  bP (pNil v0) fun x5 =>
  bP (fa Q q 376 8 20 x5) fun x6 =>
  bP (ld Q q 3 x6 G1) fun x7 =>
  bP (bn Q q .add 3 (.tmp 14) (.const (.int .i64 1)) x7 (.int .i64 1)) fun x8 =>
  bP (pNil v0) fun x9 =>
  bP (fa Q q 376 8 20 x9) fun x10 =>
  bP (st Q q 3 1 x10 x8 G1) fun G11 =>
  bS (e.ev.cl 356 [v0] G11) fun x12 G13 =>
  some (x12, G13))
theorem m346 {e : Ex} {E : Ev} (h : ExLe Q e E) (v0 v1 : Value) (G : GS) : Ref (s346 true e v0 v1 G) (s346 false (Ex.of E) v0 v1 G) := by
  unfold s346
  exact Ref.go
theorem f346 {orc : FuncId → Bool} {e : Ex} (h : ExLe Q e (E orc)) (v0 v1 : Value) (G : GS) : Ref (s346 true e v0 v1 G) ((E orc).cl 346 [v0, v1] G) :=
  fun r hr => cl_sxE_some Q orc (vs := [v0, v1]) G Tryz.func346 (by kernel_rfl) (by kernel_rfl) (by kernel_rfl) (by kernel_rfl) (by kernel_rfl) (by kernel_rfl) (m346 h v0 v1 G r hr)
/-- (*coxswain/insert.Insert).findAgain -/
noncomputable def s347 (q : Bool) (e : Ex) (v0 v1 : Value) (G : GS) : Option (Value × GS) :=
  bS (e.ev.cl 353 [v0, v1] G) fun x0 G1 =>
  ifV x0 (
  some ((.int .i64 8), G1)) (
  some ((.int .i64 7), G1))
theorem m347 {e : Ex} {E : Ev} (h : ExLe Q e E) (v0 v1 : Value) (G : GS) : Ref (s347 true e v0 v1 G) (s347 false (Ex.of E) v0 v1 G) := by
  unfold s347
  exact Ref.go
theorem f347 {orc : FuncId → Bool} {e : Ex} (h : ExLe Q e (E orc)) (v0 v1 : Value) (G : GS) : Ref (s347 true e v0 v1 G) ((E orc).cl 347 [v0, v1] G) :=
  fun r hr => cl_sxE_some Q orc (vs := [v0, v1]) G Tryz.func347 (by kernel_rfl) (by kernel_rfl) (by kernel_rfl) (by kernel_rfl) (by kernel_rfl) (by kernel_rfl) (m347 h v0 v1 G r hr)
/-- (*coxswain/insert.Insert).look -/
noncomputable def s348 (q : Bool) (e : Ex) (v0 v1 : Value) (G : GS) : Option (Value × GS) :=
  bS (e.ev.cl 357 [v0, v1, (.int .i64 0)] G) fun x0 G1 =>
  bS (e.ev.cl 264 [x0] G1) fun x2 G3 =>
  ifV x2 (
  bS (e.ev.cl 251 [v0, (.int .i64 10)] G3) fun x4 G5 =>
  some (x4, G5)) (
  some ((.int .i64 4), G3))
theorem m348 {e : Ex} {E : Ev} (h : ExLe Q e E) (v0 v1 : Value) (G : GS) : Ref (s348 true e v0 v1 G) (s348 false (Ex.of E) v0 v1 G) := by
  unfold s348
  exact Ref.go
theorem f348 {orc : FuncId → Bool} {e : Ex} (h : ExLe Q e (E orc)) (v0 v1 : Value) (G : GS) : Ref (s348 true e v0 v1 G) ((E orc).cl 348 [v0, v1] G) :=
  fun r hr => cl_sxE_some Q orc (vs := [v0, v1]) G Tryz.func348 (by kernel_rfl) (by kernel_rfl) (by kernel_rfl) (by kernel_rfl) (by kernel_rfl) (by kernel_rfl) (m348 h v0 v1 G r hr)
/-- (*coxswain/insert.Insert).ask -/
noncomputable def s349 (q : Bool) (e : Ex) (v0 v1 : Value) (G : GS) : Option (Value × GS) :=
  bS (e.ev.cl 357 [v0, v1, (.int .i64 0)] G) fun x0 G1 =>
  bS (e.ev.cl 264 [x0] G1) fun x2 G3 =>
  ifV x2 (
  bS (e.ev.cl 251 [v0, (.int .i64 10)] G3) fun x4 G5 =>
  some (x4, G5)) (
  some ((.int .i64 11), G3))
theorem m349 {e : Ex} {E : Ev} (h : ExLe Q e E) (v0 v1 : Value) (G : GS) : Ref (s349 true e v0 v1 G) (s349 false (Ex.of E) v0 v1 G) := by
  unfold s349
  exact Ref.go
theorem f349 {orc : FuncId → Bool} {e : Ex} (h : ExLe Q e (E orc)) (v0 v1 : Value) (G : GS) : Ref (s349 true e v0 v1 G) ((E orc).cl 349 [v0, v1] G) :=
  fun r hr => cl_sxE_some Q orc (vs := [v0, v1]) G Tryz.func349 (by kernel_rfl) (by kernel_rfl) (by kernel_rfl) (by kernel_rfl) (by kernel_rfl) (by kernel_rfl) (m349 h v0 v1 G r hr)
/-- (*coxswain/insert.Insert).clear -/
noncomputable def s350 (q : Bool) (e : Ex) (v0 v1 : Value) (G : GS) : Option (Value × GS) :=
  bS (e.ev.cl 353 [v0, v1] G) fun x0 G1 =>
  ifV x0 (
  some ((.int .i64 11), G1)) (
  some ((.int .i64 10), G1))
theorem m350 {e : Ex} {E : Ev} (h : ExLe Q e E) (v0 v1 : Value) (G : GS) : Ref (s350 true e v0 v1 G) (s350 false (Ex.of E) v0 v1 G) := by
  unfold s350
  exact Ref.go
theorem f350 {orc : FuncId → Bool} {e : Ex} (h : ExLe Q e (E orc)) (v0 v1 : Value) (G : GS) : Ref (s350 true e v0 v1 G) ((E orc).cl 350 [v0, v1] G) :=
  fun r hr => cl_sxE_some Q orc (vs := [v0, v1]) G Tryz.func350 (by kernel_rfl) (by kernel_rfl) (by kernel_rfl) (by kernel_rfl) (by kernel_rfl) (by kernel_rfl) (m350 h v0 v1 G r hr)
/-- (*coxswain/insert.Insert).let -/
noncomputable def s351 (q : Bool) (e : Ex) (v0 v1 : Value) (G : GS) : Option (Value × GS) :=
  bP (pNil v0) fun x0 =>
  bP (fa Q q 376 3 15 x0) fun x1 =>
  bP (ld Q q 23 x1 G) fun x2 =>
  bP (pNil v0) fun x3 =>
  bP (fa Q q 376 12 24 x3) fun x4 =>
  bP (st Q q 23 1 x4 x2 G) fun G5 =>
  bP (pNil v0) fun x6 =>
  bP (fa Q q 376 0 0 x6) fun x7 =>
  bP (lda Q q 45 13 x7 (G5.room 12)) fun x8 =>
  bP (pNil v0) fun x9 =>
  bP (fa Q q 376 5 17 x9) fun x10 =>
  bP (ld Q q 3 x10 (G5.room 12)) fun x11 =>
  bS (e.ev.cl 142 [x8, x11, (.int .i64 3)] (G5.room 12)) fun x13 G12 =>
  bS (e.ev.cl 296 [v1, x13, (.int .u64 18446744073709551615)] G12) fun x15 G14 =>
  bP (bn Q q .neq 23 (.tmp 22) (.const (.int .u64 0)) x15 (.int .u64 0)) fun x16 =>
  ifV x16 (
  some ((.int .i64 0), G14)) (
  bP (pNil v0) fun x17 =>
  bP (fa Q q 376 0 0 x17) fun x18 =>
  bP (fa Q q 45 3 3 x18) fun x19 =>
  bP (lda Q q 43 10 x19 (G14.room 14)) fun x20 =>
  bP (pNil v0) fun x21 =>
  bP (fa Q q 376 5 17 x21) fun x22 =>
  bP (ld Q q 3 x22 (G14.room 14)) fun x23 =>
  bS (e.ev.cl 359 [x20, x23] (G14.room 14)) fun x25 G24 =>
  bP (pNil v0) fun x26 =>
  bP (fa Q q 376 11 23 x26) fun x27 =>
  bP (st Q q 374 1 x27 x25 G24) fun G28 =>
  some ((.int .i64 12), G28))
theorem m351 {e : Ex} {E : Ev} (h : ExLe Q e E) (v0 v1 : Value) (G : GS) : Ref (s351 true e v0 v1 G) (s351 false (Ex.of E) v0 v1 G) := by
  unfold s351
  exact Ref.go
theorem f351 {orc : FuncId → Bool} {e : Ex} (h : ExLe Q e (E orc)) (v0 v1 : Value) (G : GS) : Ref (s351 true e v0 v1 G) ((E orc).cl 351 [v0, v1] G) :=
  fun r hr => cl_sxE_some Q orc (vs := [v0, v1]) G Tryz.func351 (by kernel_rfl) (by kernel_rfl) (by kernel_rfl) (by kernel_rfl) (by kernel_rfl) (by kernel_rfl) (m351 h v0 v1 G r hr)
/-- (*coxswain/insert.Insert).wait -/
noncomputable def s352 (q : Bool) (e : Ex) (v0 v1 : Value) (G : GS) : Option (Value × GS) :=
  bP (pNil v0) fun x0 =>
  bP (fa Q q 376 12 24 x0) fun x1 =>
  bP (st Q q 23 1 x1 (.int .u64 0) G) fun G2 =>
  bP (pNil v0) fun x3 =>
  bP (fa Q q 376 11 23 x3) fun x4 =>
  bP (ld Q q 374 x4 G2) fun x5 =>
  bS (e.ev.cl 360 [x5, v1] G2) fun x6 G7 =>
  ifV x6 (
  some ((.int .i64 0), G7)) (
  some ((.int .i64 12), G7))
theorem m352 {e : Ex} {E : Ev} (h : ExLe Q e E) (v0 v1 : Value) (G : GS) : Ref (s352 true e v0 v1 G) (s352 false (Ex.of E) v0 v1 G) := by
  unfold s352
  exact Ref.go
theorem f352 {orc : FuncId → Bool} {e : Ex} (h : ExLe Q e (E orc)) (v0 v1 : Value) (G : GS) : Ref (s352 true e v0 v1 G) ((E orc).cl 352 [v0, v1] G) :=
  fun r hr => cl_sxE_some Q orc (vs := [v0, v1]) G Tryz.func352 (by kernel_rfl) (by kernel_rfl) (by kernel_rfl) (by kernel_rfl) (by kernel_rfl) (by kernel_rfl) (m352 h v0 v1 G r hr)
/-- (*coxswain/insert.Insert).seeks -/
noncomputable def s353 (q : Bool) (e : Ex) (v0 v1 : Value) (G : GS) : Option (Value × GS) :=
  bP (pNil v0) fun x0 =>
  bP (fa Q q 376 10 22 x0) fun x1 =>
  bP (ld Q q 373 x1 G) fun x2 =>
  bS (e.ev.cl 361 [x2, v1] G) fun x3 G4 =>
  bP (pNil v0) fun x5 =>
  bP (fa Q q 376 10 22 x5) fun x6 =>
  bP (ld Q q 373 x6 G4) fun x7 =>
  bS (e.ev.cl 362 [x7] G4) fun x8 G9 =>
  bP (pNil v0) fun x10 =>
  bP (fa Q q 376 12 24 x10) fun x11 =>
  bP (st Q q 23 1 x11 x8 G9) fun G12 =>
  some (x3, G12)
theorem m353 {e : Ex} {E : Ev} (h : ExLe Q e E) (v0 v1 : Value) (G : GS) : Ref (s353 true e v0 v1 G) (s353 false (Ex.of E) v0 v1 G) := by
  unfold s353
  exact Ref.go
theorem f353 {orc : FuncId → Bool} {e : Ex} (h : ExLe Q e (E orc)) (v0 v1 : Value) (G : GS) : Ref (s353 true e v0 v1 G) ((E orc).cl 353 [v0, v1] G) :=
  fun r hr => cl_sxE_some Q orc (vs := [v0, v1]) G Tryz.func353 (by kernel_rfl) (by kernel_rfl) (by kernel_rfl) (by kernel_rfl) (by kernel_rfl) (by kernel_rfl) (m353 h v0 v1 G r hr)
noncomputable def b354_0 (q : Bool) (e : Ex) (lp : Env → GS → Option (Exit × Env × GS)) (τ : Env) (G : GS) : Option (Exit × Env × GS) :=
  bV q (τ 3) fun a3_ =>
  bV q (τ 7) fun a7_ =>
  bV q (τ 8) fun a8_ =>
  bV q (τ 9) fun a9_ =>
  bP (bn Q q .lss 3 (.tmp 9) (.tmp 8) a9_ a8_) fun x0 =>
  ifV x0 (
  bP (ias Q q 411 4 a7_ a9_) fun x1 =>
  bP (lda Q q 410 4 x1 G) fun x2 =>
  bS (al Q q 410 z410 G) fun x3 G4 =>
  bP (st Q q 410 4 x3 x2 G4) fun G5 =>
  bP (fa Q q 410 3 3 x3) fun x6 =>
  bP (ld Q q 23 x6 G5) fun x7 =>
  bS (bs Q q 22 1 (rep z23 1) 1 [(0, 0, 1)] [x7] G5) fun x8 G9 =>
  bS (ap Q q 22 22 1 8 a3_ x8 G9) fun x10 G11 =>
  bP (bn Q q .add 3 (.tmp 9) (.const (.int .i64 1)) a9_ (.int .i64 1)) fun x12 =>
  lp (tu τ [(3, x10), (7, a7_), (8, a8_), (9, x12), (5, x3), (10, x0), (11, x1), (12, x2), (13, a3_), (14, x6), (15, x7), (16, x8), (17, x10), (18, x12)]) G11) (
  some ((.exit 0), clq q 20 (tu τ [(3, a3_), (7, a7_), (8, a8_), (9, a9_), (10, x0)]), G))
theorem mb354_0 {e : Ex} {E : Ev} (h : ExLe Q e E) {lp lp' : Env → GS → Option (Exit × Env × GS)} (hlp : LpLe lp lp') (τ : Env) (G : GS) : Ref (b354_0 true e lp τ G) (b354_0 false (Ex.of E) lp' τ G) := by
  unfold b354_0
  exact Ref.go
theorem l354_0 {orc : FuncId → Bool} {e : Ex} (h : ExLe Q e (E orc)) (lp : Env → GS → Option (Exit × Env × GS)) (hlp : ∀ τ G, Ref (lp τ G) (mapE ((E orc).lp (subAt [1, 1, 0, 1, 0, 0] (bodyOf Tryz.f354)) (lst 20 τ) G))) (T : List Value) (G : GS) (hT : T.length = 20) : Ref (b354_0 true e lp (nth undef T) G) (mapE ((E orc).lp (subAt [1, 1, 0, 1, 0, 0] (bodyOf Tryz.f354)) T G)) :=
  fun r hr => lp_sxM Q orc G hT (by kernel_rfl) (mb354_0 h ⟨hlp⟩ _ _ r hr)
/-- (*coxswain/find.Find).Succs -/
noncomputable def s354 (q : Bool) (e : Ex) (v0 : Value) (G : GS) : Option (Value × GS) :=
  bS (e.ev.cl 363 [v0] G) fun x0 G1 =>
  bP (ln Q q 411 x0) fun x2 =>
  bL q e 354 0 (subAt [1, 1, 0, 1, 0, 0] (bodyOf Tryz.f354)) 20 (tu (nth undef [v0]) [(2, (.slice none 0 0)), (3, (.slice none 0 0)), (6, v0), (7, x0), (8, x2), (9, (.int .i64 0))]) G1 fun e3 t4 G5 =>
  bV q (t4 3) fun t4x3_ =>
  ifE e3 (.exit 0) (
  some (t4x3_, G5)) (none)
theorem m354 {e : Ex} {E : Ev} (h : ExLe Q e E) (v0 : Value) (G : GS) : Ref (s354 true e v0 G) (s354 false (Ex.of E) v0 G) := by
  unfold s354
  exact Ref.go
theorem f354 {orc : FuncId → Bool} {e : Ex} (h : ExLe Q e (E orc)) (v0 : Value) (G : GS) : Ref (s354 true e v0 G) ((E orc).cl 354 [v0] G) :=
  fun r hr => cl_sxE_some Q orc (vs := [v0]) G Tryz.func354 (by kernel_rfl) (by kernel_rfl) (by kernel_rfl) (by kernel_rfl) (by kernel_rfl) (by kernel_rfl) (m354 h v0 G r hr)
/-- (*coxswain/insert.Insert).hangs -/
noncomputable def s355 (q : Bool) (e : Ex) (v0 v1 : Value) (G : GS) : Option (Value × GS) :=
  bP (pNil v0) fun x0 =>
  bP (fa Q q 376 10 22 x0) fun x1 =>
  bP (ld Q q 373 x1 (G.room 15)) fun x2 =>
  bS (e.ev.cl 364 [x2] (G.room 15)) fun x4 G3 =>
  bP (pNil v0) fun x5 =>
  bP (fa Q q 376 8 20 x5) fun x6 =>
  bP (ld Q q 3 x6 G3) fun x7 =>
  chk ((sameO (ld Q q 3 x6 (G.room 15)) x7 && true)) <|
  bP (ias Q q 22 1 x4 x7) fun x8 =>
  bP (ld Q q 23 x8 G3) fun x9 =>
  bP (pNil v0) fun x10 =>
  bP (fa Q q 376 12 24 x10) fun x11 =>
  bP (st Q q 23 1 x11 x9 G3) fun G12 =>
  bP (pNil v0) fun x13 =>
  bP (fa Q q 376 0 0 x13) fun x14 =>
  bP (lda Q q 45 13 x14 (G12.room 38)) fun x15 =>
  bP (pNil v0) fun x16 =>
  bP (fa Q q 376 10 22 x16) fun x17 =>
  bP (ld Q q 373 x17 (G12.room 38)) fun x18 =>
  bS (e.ev.cl 365 [x18] (G12.room 38)) fun x20 G19 =>
  chk ((sameO (lda Q q 45 13 x14 G19) x15 && true)) <|
  bP (pNil v0) fun x21 =>
  bP (fa Q q 376 8 20 x21) fun x22 =>
  bP (ld Q q 3 x22 G19) fun x23 =>
  chk ((sameO (ld Q q 3 x22 (G12.room 38)) x23 && true)) <|
  bP (ias Q q 35 1 x20 x23) fun x24 =>
  bP (ld Q q 3 x24 G19) fun x25 =>
  bP (pNil v0) fun x26 =>
  bP (fa Q q 376 8 20 x26) fun x27 =>
  bP (ld Q q 3 x27 G19) fun x28 =>
  chk ((sameO (ld Q q 3 x27 (G12.room 38)) x28 && true)) <|
  bS (e.ev.cl 194 [x15, x25, x28] G19) fun x30 G29 =>
  bP (pNil v0) fun x31 =>
  bP (fa Q q 376 10 22 x31) fun x32 =>
  bP (ld Q q 373 x32 G29) fun x33 =>
  chk ((sameO (ld Q q 373 x32 G19) x33 && (sameO (ld Q q 373 x32 (G12.room 38)) x33 && true))) <|
  bS (e.ev.cl 354 [x33] G29) fun x35 G34 =>
  bP (pNil v0) fun x36 =>
  bP (fa Q q 376 8 20 x36) fun x37 =>
  bP (ld Q q 3 x37 G34) fun x38 =>
  chk ((sameO (ld Q q 3 x37 G29) x38 && (sameO (ld Q q 3 x37 G19) x38 && (sameO (ld Q q 3 x37 (G12.room 38)) x38 && true)))) <|
  bP (ias Q q 22 1 x35 x38) fun x39 =>
  bP (ld Q q 23 x39 G34) fun x40 =>
  bP (pNil v0) fun x41 =>
  bP (fa Q q 376 3 15 x41) fun x42 =>
  bP (ld Q q 23 x42 G34) fun x43 =>
  chk ((sameO (ld Q q 23 x42 G29) x43 && (sameO (ld Q q 23 x42 G19) x43 && (sameO (ld Q q 23 x42 (G12.room 38)) x43 && true)))) <|
  bS (e.ev.cl 276 [v1, x30, x40, x43] G34) fun x45 G44 =>
  some (x45, G44)
theorem m355 {e : Ex} {E : Ev} (h : ExLe Q e E) (v0 v1 : Value) (G : GS) : Ref (s355 true e v0 v1 G) (s355 false (Ex.of E) v0 v1 G) := by
  unfold s355
  exact Ref.go
theorem f355 {orc : FuncId → Bool} {e : Ex} (h : ExLe Q e (E orc)) (v0 v1 : Value) (G : GS) : Ref (s355 true e v0 v1 G) ((E orc).cl 355 [v0, v1] G) :=
  fun r hr => cl_sxE_some Q orc (vs := [v0, v1]) G Tryz.func355 (by kernel_rfl) (by kernel_rfl) (by kernel_rfl) (by kernel_rfl) (by kernel_rfl) (by kernel_rfl) (m355 h v0 v1 G r hr)
/-- (*coxswain/insert.Insert).up -/
noncomputable def s356 (q : Bool) (e : Ex) (v0 : Value) (G : GS) : Option (Value × GS) :=
  bP (pNil v0) fun x0 =>
  bP (fa Q q 376 8 20 x0) fun x1 =>
  bP (ld Q q 3 x1 (G.room 9)) fun x2 =>
  bP (pNil v0) fun x3 =>
  bP (fa Q q 376 6 18 x3) fun x4 =>
  bP (ld Q q 3 x4 (G.room 9)) fun x5 =>
  bP (bn Q q .geq 3 (.tmp 6) (.tmp 10) x2 x5) fun x6 =>
  ifV x6 (
  some ((.int .i64 9), (G.room 9))) (
  some ((.int .i64 4), (G.room 9)))
theorem m356 {e : Ex} {E : Ev} (h : ExLe Q e E) (v0 : Value) (G : GS) : Ref (s356 true e v0 G) (s356 false (Ex.of E) v0 G) := by
  unfold s356
  exact Ref.go
theorem f356 {orc : FuncId → Bool} {e : Ex} (h : ExLe Q e (E orc)) (v0 : Value) (G : GS) : Ref (s356 true e v0 G) ((E orc).cl 356 [v0] G) :=
  fun r hr => cl_sxE_some Q orc (vs := [v0]) G Tryz.func356 (by kernel_rfl) (by kernel_rfl) (by kernel_rfl) (by kernel_rfl) (by kernel_rfl) (by kernel_rfl) (m356 h v0 G r hr)
/-- (*coxswain/insert.Insert).read -/
noncomputable def s357 (q : Bool) (e : Ex) (v0 v1 v2 : Value) (G : GS) : Option (Value × GS) :=
  bP (pNil v0) fun x0 =>
  bP (fa Q q 376 3 15 x0) fun x1 =>
  bP (ld Q q 23 x1 G) fun x2 =>
  bP (pNil v0) fun x3 =>
  bP (fa Q q 376 12 24 x3) fun x4 =>
  bP (st Q q 23 1 x4 x2 G) fun G5 =>
  bP (pNil v0) fun x6 =>
  bP (fa Q q 376 0 0 x6) fun x7 =>
  bP (lda Q q 45 13 x7 (G5.room 13)) fun x8 =>
  bP (pNil v0) fun x9 =>
  bP (fa Q q 376 5 17 x9) fun x10 =>
  bP (ld Q q 3 x10 (G5.room 13)) fun x11 =>
  bS (e.ev.cl 194 [x8, x11, v2] (G5.room 13)) fun x13 G12 =>
  bS (e.ev.cl 70 [v1, x13] G12) fun x15 G14 =>
  some (x15, G14)
theorem m357 {e : Ex} {E : Ev} (h : ExLe Q e E) (v0 v1 v2 : Value) (G : GS) : Ref (s357 true e v0 v1 v2 G) (s357 false (Ex.of E) v0 v1 v2 G) := by
  unfold s357
  exact Ref.go
theorem f357 {orc : FuncId → Bool} {e : Ex} (h : ExLe Q e (E orc)) (v0 v1 v2 : Value) (G : GS) : Ref (s357 true e v0 v1 v2 G) ((E orc).cl 357 [v0, v1, v2] G) :=
  fun r hr => cl_sxE_some Q orc (vs := [v0, v1, v2]) G Tryz.func357 (by kernel_rfl) (by kernel_rfl) (by kernel_rfl) (by kernel_rfl) (by kernel_rfl) (by kernel_rfl) (m357 h v0 v1 v2 G r hr)
/-- (*coxswain/insert.Insert).swap -/
noncomputable def s358 (q : Bool) (e : Ex) (v0 v1 v2 v3 v4 : Value) (G : GS) : Option (Value × GS) :=
  bP (pNil v0) fun x0 =>
  bP (fa Q q 376 3 15 x0) fun x1 =>
  bP (ld Q q 23 x1 G) fun x2 =>
  bP (pNil v0) fun x3 =>
  bP (fa Q q 376 12 24 x3) fun x4 =>
  bP (st Q q 23 1 x4 x2 G) fun G5 =>
  bS (e.ev.cl 276 [v1, v2, v3, v4] G5) fun x6 G7 =>
  some (x6, G7)
theorem m358 {e : Ex} {E : Ev} (h : ExLe Q e E) (v0 v1 v2 v3 v4 : Value) (G : GS) : Ref (s358 true e v0 v1 v2 v3 v4 G) (s358 false (Ex.of E) v0 v1 v2 v3 v4 G) := by
  unfold s358
  exact Ref.go
theorem f358 {orc : FuncId → Bool} {e : Ex} (h : ExLe Q e (E orc)) (v0 v1 v2 v3 v4 : Value) (G : GS) : Ref (s358 true e v0 v1 v2 v3 v4 G) ((E orc).cl 358 [v0, v1, v2, v3, v4] G) :=
  fun r hr => cl_sxE_some Q orc (vs := [v0, v1, v2, v3, v4]) G Tryz.func358 (by kernel_rfl) (by kernel_rfl) (by kernel_rfl) (by kernel_rfl) (by kernel_rfl) (by kernel_rfl) (m358 h v0 v1 v2 v3 v4 G r hr)
noncomputable def b361_0 (q : Bool) (e : Ex) (lp : Env → GS → Option (Exit × Env × GS)) (τ : Env) (G : GS) : Option (Exit × Env × GS) :=
  bV q (τ 0) fun a0_ =>
  bV q (τ 1) fun a1_ =>
  bV q (τ 5) fun a5_ =>
  bV q (τ 6) fun a6_ =>
  bP (pNil a0_) fun x0 =>
  bP (fa Q q 413 2 14 x0) fun x1 =>
  bP (ld Q q 3 x1 G) fun x2 =>
  bP (bn Q q .eql 3 (.tmp 56) (.const (.int .i64 1)) x2 (.int .i64 1)) fun x3 =>
  ifV x3 (
  bS (e.ev.cl 70 [a1_, a5_] G) fun x4 G5 =>
  bP (pNil a0_) fun x6 =>
  bP (fa Q q 413 3 15 x6) fun x7 =>
  bP (fa Q q 410 3 3 x7) fun x8 =>
  bP (st Q q 23 1 x8 x4 G5) fun G9 =>
  bP (pNil a0_) fun x10 =>
  bP (fa Q q 413 3 15 x10) fun x11 =>
  bP (fa Q q 410 3 3 x11) fun x12 =>
  bP (ld Q q 23 x12 G9) fun x13 =>
  bS (e.ev.cl 264 [x13] G9) fun x14 G15 =>
  ifV x14 (
  bS (e.ev.cl 274 [a0_] G15) fun x16 G17 =>
  some ((.exit 0), clq q 195 (tu τ [(0, a0_), (1, a1_), (5, a5_), (6, a6_), (53, a0_), (54, x0), (55, x1), (56, x2), (60, x3), (61, x3), (62, a0_), (63, a1_), (64, a5_), (65, x4), (66, x6), (67, x7), (68, x8), (69, a0_), (70, x10), (71, x11), (72, x12), (73, x13), (74, x14), (75, a0_), (76, x16)]), G17)) (
  bS (e.ev.cl 370 [a0_] G15) fun x18 G19 =>
  some ((.exit 0), clq q 195 (tu τ [(0, a0_), (1, a1_), (5, a5_), (6, a6_), (53, a0_), (54, x0), (55, x1), (56, x2), (60, x3), (61, x3), (62, a0_), (63, a1_), (64, a5_), (65, x4), (66, x6), (67, x7), (68, x8), (69, a0_), (70, x10), (71, x11), (72, x12), (73, x13), (74, x14), (188, a0_), (189, x18)]), G19))) (
  bP (bn Q q .eql 3 (.tmp 56) (.const (.int .i64 2)) x2 (.int .i64 2)) fun x20 =>
  ifV x20 (
  bP (pNil a0_) fun x21 =>
  bP (fa Q q 413 3 15 x21) fun x22 =>
  bP (fa Q q 410 3 3 x22) fun x23 =>
  bP (ld Q q 23 x23 G) fun x24 =>
  bP (pNil a0_) fun x25 =>
  bP (fa Q q 413 6 21 x25) fun x26 =>
  bP (st Q q 23 1 x26 x24 G) fun G27 =>
  bP (pNil a0_) fun x28 =>
  bP (fa Q q 413 0 0 x28) fun x29 =>
  bP (lda Q q 45 13 x29 (G27.room 17)) fun x30 =>
  bP (pNil a0_) fun x31 =>
  bP (fa Q q 413 3 15 x31) fun x32 =>
  bP (fa Q q 410 0 0 x32) fun x33 =>
  bP (ld Q q 3 x33 (G27.room 17)) fun x34 =>
  bS (e.ev.cl 194 [x30, a6_, x34] (G27.room 17)) fun x36 G35 =>
  bS (e.ev.cl 70 [a1_, x36] G35) fun x38 G37 =>
  bP (pNil a0_) fun x39 =>
  bP (fa Q q 413 4 19 x39) fun x40 =>
  bP (st Q q 23 1 x40 x38 G37) fun G41 =>
  bP (pNil a0_) fun x42 =>
  bP (fa Q q 413 2 14 x42) fun x43 =>
  bP (st Q q 3 1 x43 (.int .i64 4) G41) fun G44 =>
  bP (pNil a0_) fun x45 =>
  bP (fa Q q 413 4 19 x45) fun x46 =>
  bP (ld Q q 23 x46 G44) fun x47 =>
  bS (e.ev.cl 264 [x47] G44) fun x48 G49 =>
  ifV x48 (
  bP (pNil a0_) fun x50 =>
  bP (fa Q q 413 2 14 x50) fun x51 =>
  bP (st Q q 3 1 x51 (.int .i64 3) G49) fun G52 =>
  some ((.exit 0), clq q 195 (tu τ [(0, a0_), (1, a1_), (5, a5_), (6, a6_), (53, a0_), (54, x0), (55, x1), (56, x2), (60, x3), (61, x3), (77, x20), (78, x20), (79, a0_), (80, a0_), (81, x21), (82, x22), (83, x23), (84, x24), (85, x25), (86, x26), (87, a0_), (88, a1_), (89, a0_), (90, x28), (91, x29), (92, x30), (93, a6_), (94, a0_), (95, x31), (96, x32), (97, x33), (98, x34), (99, x36), (100, x38), (101, x39), (102, x40), (103, a0_), (104, x42), (105, x43), (106, a0_), (107, x45), (108, x46), (109, x47), (110, x48), (111, a0_), (112, x50), (113, x51)]), G52)) (
  some ((.exit 0), clq q 195 (tu τ [(0, a0_), (1, a1_), (5, a5_), (6, a6_), (53, a0_), (54, x0), (55, x1), (56, x2), (60, x3), (61, x3), (77, x20), (78, x20), (79, a0_), (80, a0_), (81, x21), (82, x22), (83, x23), (84, x24), (85, x25), (86, x26), (87, a0_), (88, a1_), (89, a0_), (90, x28), (91, x29), (92, x30), (93, a6_), (94, a0_), (95, x31), (96, x32), (97, x33), (98, x34), (99, x36), (100, x38), (101, x39), (102, x40), (103, a0_), (104, x42), (105, x43), (106, a0_), (107, x45), (108, x46), (109, x47), (110, x48)]), G49))) (
  bP (bn Q q .eql 3 (.tmp 56) (.const (.int .i64 3)) x2 (.int .i64 3)) fun x53 =>
  ifV x53 (
  bP (pNil a0_) fun x54 =>
  bP (fa Q q 413 3 15 x54) fun x55 =>
  bP (fa Q q 410 3 3 x55) fun x56 =>
  bP (ld Q q 23 x56 (G.room 14)) fun x57 =>
  bP (pNil a0_) fun x58 =>
  bP (fa Q q 413 4 19 x58) fun x59 =>
  bP (ld Q q 23 x59 (G.room 14)) fun x60 =>
  bS (e.ev.cl 261 [x60, (.bool false)] (G.room 14)) fun x62 G61 =>
  chk ((sameO (ld Q q 23 x56 G61) x57 && true)) <|
  bS (e.ev.cl 276 [a1_, a5_, x57, x62] G61) fun x64 G63 =>
  bP (un Q q .not x64) fun x65 =>
  ifV x65 (
  bS (e.ev.cl 274 [a0_] G63) fun x66 G67 =>
  some ((.exit 0), clq q 195 (tu τ [(0, a0_), (1, a1_), (5, a5_), (6, a6_), (53, a0_), (54, x0), (55, x1), (56, x2), (60, x3), (61, x3), (77, x20), (78, x20), (114, x53), (115, x53), (116, a1_), (117, a5_), (118, a0_), (119, x54), (120, x55), (121, x56), (122, x57), (123, a0_), (124, x58), (125, x59), (126, x60), (127, x62), (128, x64), (129, x65), (130, a0_), (131, x66)]), G67)) (
  bP (pNil a0_) fun x68 =>
  bP (fa Q q 413 4 19 x68) fun x69 =>
  bP (ld Q q 23 x69 G63) fun x70 =>
  bS (e.ev.cl 261 [x70, (.bool false)] G63) fun x71 G72 =>
  bP (pNil a0_) fun x73 =>
  bP (fa Q q 413 3 15 x73) fun x74 =>
  bP (fa Q q 410 3 3 x74) fun x75 =>
  bP (st Q q 23 1 x75 x71 G72) fun G76 =>
  bS (e.ev.cl 370 [a0_] G76) fun x77 G78 =>
  some ((.exit 0), clq q 195 (tu τ [(0, a0_), (1, a1_), (5, a5_), (6, a6_), (53, a0_), (54, x0), (55, x1), (56, x2), (60, x3), (61, x3), (77, x20), (78, x20), (114, x53), (115, x53), (116, a1_), (117, a5_), (118, a0_), (119, x54), (120, x55), (121, x56), (122, x57), (123, a0_), (124, x58), (125, x59), (126, x60), (127, x62), (128, x64), (129, x65), (132, a0_), (133, a0_), (134, x68), (135, x69), (136, x70), (137, x71), (138, x73), (139, x74), (140, x75), (188, a0_), (189, x77)]), G78))) (
  bP (bn Q q .eql 3 (.tmp 56) (.const (.int .i64 4)) x2 (.int .i64 4)) fun x79 =>
  ifV x79 (
  bP (pNil a0_) fun x80 =>
  bP (fa Q q 413 3 15 x80) fun x81 =>
  bP (fa Q q 410 3 3 x81) fun x82 =>
  bP (ld Q q 23 x82 G) fun x83 =>
  bP (pNil a0_) fun x84 =>
  bP (fa Q q 413 6 21 x84) fun x85 =>
  bP (st Q q 23 1 x85 x83 G) fun G86 =>
  bP (pNil a0_) fun x87 =>
  bP (fa Q q 413 0 0 x87) fun x88 =>
  bP (lda Q q 45 13 x88 (G86.room 13)) fun x89 =>
  bS (e.ev.cl 142 [x89, a6_, (.int .i64 0)] (G86.room 13)) fun x91 G90 =>
  bS (e.ev.cl 70 [a1_, x91] G90) fun x93 G92 =>
  bP (pNil a0_) fun x94 =>
  bP (fa Q q 413 1 13 x94) fun x95 =>
  bP (ld Q q 23 x95 G92) fun x96 =>
  chk ((sameO (ld Q q 23 x95 G90) x96 && (sameO (ld Q q 23 x95 (G86.room 13)) x96 && true))) <|
  bP (bn Q q .geq 23 (.tmp 158) (.tmp 162) x93 x96) fun x97 =>
  ifV x97 (
  bS (e.ev.cl 369 [a0_] G92) fun x98 G99 =>
  some ((.exit 0), clq q 195 (tu τ [(0, a0_), (1, a1_), (5, a5_), (6, a6_), (53, a0_), (54, x0), (55, x1), (56, x2), (60, x3), (61, x3), (77, x20), (78, x20), (114, x53), (115, x53), (141, x79), (142, x79), (143, a0_), (144, a0_), (145, x80), (146, x81), (147, x82), (148, x83), (149, x84), (150, x85), (151, a1_), (152, a0_), (153, x87), (154, x88), (155, x89), (156, a6_), (157, x91), (158, x93), (159, a0_), (160, x94), (161, x95), (162, x96), (163, x97), (164, a0_), (165, x98)]), G99)) (
  bP (pNil a0_) fun x100 =>
  bP (fa Q q 413 3 15 x100) fun x101 =>
  bP (fa Q q 410 3 3 x101) fun x102 =>
  bP (ld Q q 23 x102 (G92.room 25)) fun x103 =>
  bP (pNil a0_) fun x104 =>
  bP (fa Q q 413 4 19 x104) fun x105 =>
  bP (ld Q q 23 x105 (G92.room 25)) fun x106 =>
  bP (pNil a0_) fun x107 =>
  bP (fa Q q 413 3 15 x107) fun x108 =>
  bP (fa Q q 410 1 1 x108) fun x109 =>
  bP (st Q q 3 1 x109 a6_ (G92.room 25)) fun G110 =>
  bP (pNil a0_) fun x111 =>
  bP (fa Q q 413 3 15 x111) fun x112 =>
  bP (fa Q q 410 2 2 x112) fun x113 =>
  bP (st Q q 23 1 x113 x103 G110) fun G114 =>
  bP (pNil a0_) fun x115 =>
  bP (fa Q q 413 3 15 x115) fun x116 =>
  bP (fa Q q 410 3 3 x116) fun x117 =>
  bP (st Q q 23 1 x117 x106 G114) fun G118 =>
  bS (e.ev.cl 370 [a0_] G118) fun x119 G120 =>
  some ((.exit 0), clq q 195 (tu τ [(0, a0_), (1, a1_), (5, a5_), (6, a6_), (53, a0_), (54, x0), (55, x1), (56, x2), (60, x3), (61, x3), (77, x20), (78, x20), (114, x53), (115, x53), (141, x79), (142, x79), (143, a0_), (144, a0_), (145, x80), (146, x81), (147, x82), (148, x83), (149, x84), (150, x85), (151, a1_), (152, a0_), (153, x87), (154, x88), (155, x89), (156, a6_), (157, x91), (158, x93), (159, a0_), (160, x94), (161, x95), (162, x96), (163, x97), (166, a0_), (167, a0_), (168, a0_), (169, a6_), (170, a0_), (171, x100), (172, x101), (173, x102), (174, x103), (175, a0_), (176, x104), (177, x105), (178, x106), (179, x107), (180, x108), (181, x109), (182, x111), (183, x112), (184, x113), (185, x115), (186, x116), (187, x117), (188, a0_), (189, x119)]), G120))) (
  bP (pNil a0_) fun x121 =>
  bP (fa Q q 413 2 14 x121) fun x122 =>
  bP (st Q q 3 1 x122 (.int .i64 1) G) fun G123 =>
  lp (tu τ [(0, a0_), (1, a1_), (5, a5_), (6, a6_), (53, a0_), (54, x0), (55, x1), (56, x2), (57, a0_), (58, x121), (59, x122), (60, x3), (61, x3), (77, x20), (78, x20), (114, x53), (115, x53), (141, x79), (142, x79)]) G123))))
theorem mb361_0 {e : Ex} {E : Ev} (h : ExLe Q e E) {lp lp' : Env → GS → Option (Exit × Env × GS)} (hlp : LpLe lp lp') (τ : Env) (G : GS) : Ref (b361_0 true e lp τ G) (b361_0 false (Ex.of E) lp' τ G) := by
  unfold b361_0
  exact Ref.go
set_option maxHeartbeats 8000000 in
theorem l361_0 {orc : FuncId → Bool} {e : Ex} (h : ExLe Q e (E orc)) (lp : Env → GS → Option (Exit × Env × GS)) (hlp : ∀ τ G, Ref (lp τ G) (mapE ((E orc).lp (subAt [1, 0, 1, 1, 1, 1, 1, 0, 0, 0] (bodyOf Tryz.f361)) (lst 195 τ) G))) (T : List Value) (G : GS) (hT : T.length = 195) : Ref (b361_0 true e lp (nth undef T) G) (mapE ((E orc).lp (subAt [1, 0, 1, 1, 1, 1, 1, 0, 0, 0] (bodyOf Tryz.f361)) T G)) :=
  fun r hr => lp_sxM Q orc G hT (by kernel_rfl) (mb361_0 h ⟨hlp⟩ _ _ r hr)
/-- (*coxswain/find.Find).Step -/
noncomputable def s361 (q : Bool) (e : Ex) (v0 v1 : Value) (G : GS) : Option (Value × GS) :=
  bP (ep Q q false 373 (.tmp 7) (.const (.pointer none)) v0 (.pointer none)) fun x0 =>
  bS (gd x0 false (some (v0, G)) G) fun x1 G2 =>
  bS (gd x0 false (bP (pNil x1) fun y => some (y, G2)) G2) fun x3 G4 =>
  bS (gd x0 false (bP (fa Q q 413 7 22 x3) fun y => some (y, G4)) G4) fun x5 G6 =>
  bS (gd x0 false (bP (ld Q q 4 x5 G6) fun y => some (y, G6)) G6) fun x7 G8 =>
  bS (gd x0 false (bP (un Q q .not x7) fun y => some (y, G8)) G8) fun x9 G10 =>
  bP (pickV x0 (.bool true) x9) fun x11 =>
  bS (gd x11 false (some (v0, G10)) G10) fun x12 G13 =>
  bS (gd x11 false (bP (pNil x12) fun y => some (y, G13)) G13) fun x14 G15 =>
  bS (gd x11 false (bP (fa Q q 413 2 14 x14) fun y => some (y, G15)) G15) fun x16 G17 =>
  bS (gd x11 false (bP (ld Q q 3 x16 G17) fun y => some (y, G17)) G17) fun x18 G19 =>
  bS (gd x11 false (bP (bn Q q .eql 3 (.tmp 20) (.const (.int .i64 9)) x18 (.int .i64 9)) fun y => some (y, G19)) G19) fun x20 G21 =>
  bP (pickV x11 (.bool true) x20) fun x22 =>
  ifV x22 (
  some ((.bool true), G21)) (
  bP (pNil v0) fun x23 =>
  bP (fa Q q 413 0 0 x23) fun x24 =>
  bP (lda Q q 45 13 x24 (G21.room 16)) fun x25 =>
  bP (pNil v0) fun x26 =>
  bP (fa Q q 413 3 15 x26) fun x27 =>
  bP (fa Q q 410 1 1 x27) fun x28 =>
  bP (ld Q q 3 x28 (G21.room 16)) fun x29 =>
  bP (pNil v0) fun x30 =>
  bP (fa Q q 413 3 15 x30) fun x31 =>
  bP (fa Q q 410 0 0 x31) fun x32 =>
  bP (ld Q q 3 x32 (G21.room 16)) fun x33 =>
  bS (e.ev.cl 194 [x25, x29, x33] (G21.room 16)) fun x35 G34 =>
  bP (pNil v0) fun x36 =>
  bP (fa Q q 413 3 15 x36) fun x37 =>
  bP (fa Q q 410 3 3 x37) fun x38 =>
  bP (ld Q q 23 x38 G34) fun x39 =>
  bS (e.ev.cl 368 [v0, x39] G34) fun x40 G41 =>
  bP (pNil v0) fun x42 =>
  bP (fa Q q 413 3 15 x42) fun x43 =>
  bP (fa Q q 410 2 2 x43) fun x44 =>
  bP (ld Q q 23 x44 G41) fun x45 =>
  bP (pNil v0) fun x46 =>
  bP (fa Q q 413 6 21 x46) fun x47 =>
  bP (st Q q 23 1 x47 x45 G41) fun G48 =>
  bL q e 361 0 (subAt [1, 0, 1, 1, 1, 1, 1, 0, 0, 0] (bodyOf Tryz.f361)) 195 (tu (nth undef [v0, v1]) [(4, (.bool false)), (5, x35), (6, x40), (7, v0), (8, x0), (9, x0), (10, x1), (11, x3), (12, x5), (13, x7), (14, x9), (15, x11), (16, x11), (17, x12), (18, x14), (19, x16), (20, x18), (21, x20), (22, x22), (23, v0), (24, x23), (25, x24), (26, x25), (27, v0), (28, x26), (29, x27), (30, x28), (31, x29), (32, v0), (33, x30), (34, x31), (35, x32), (36, x33), (37, x35), (38, v0), (39, v0), (40, x36), (41, x37), (42, x38), (43, x39), (44, x40), (45, v0), (46, v0), (47, x42), (48, x43), (49, x44), (50, x45), (51, x46), (52, x47)]) G48 fun e49 t50 G51 =>
  bV q (t50 0) fun t50x0_ =>
  ifE e49 (.exit 0) (
  bP (pNil t50x0_) fun x52 =>
  bP (fa Q q 413 2 14 x52) fun x53 =>
  bP (ld Q q 3 x53 G51) fun x54 =>
  bP (bn Q q .eql 3 (.tmp 193) (.const (.int .i64 9)) x54 (.int .i64 9)) fun x55 =>
  some (x55, G51)) (none))
theorem m361 {e : Ex} {E : Ev} (h : ExLe Q e E) (v0 v1 : Value) (G : GS) : Ref (s361 true e v0 v1 G) (s361 false (Ex.of E) v0 v1 G) := by
  unfold s361
  exact Ref.go
set_option maxHeartbeats 8000000 in
theorem f361 {orc : FuncId → Bool} {e : Ex} (h : ExLe Q e (E orc)) (v0 v1 : Value) (G : GS) : Ref (s361 true e v0 v1 G) ((E orc).cl 361 [v0, v1] G) :=
  fun r hr => cl_sxE_some Q orc (vs := [v0, v1]) G Tryz.func361 (by kernel_rfl) (by kernel_rfl) (by kernel_rfl) (by kernel_rfl) (by kernel_rfl) (by kernel_rfl) (m361 h v0 v1 G r hr)
/-- (*coxswain/find.Find).By -/
noncomputable def s362 (q : Bool) (e : Ex) (v0 : Value) (G : GS) : Option (Value × GS) :=
  bP (ep Q q false 373 (.tmp 3) (.const (.pointer none)) v0 (.pointer none)) fun x0 =>
  ifV x0 (
  some ((.int .u64 0), G)) (
  bP (pNil v0) fun x1 =>
  bP (fa Q q 413 6 21 x1) fun x2 =>
  bP (ld Q q 23 x2 G) fun x3 =>
  some (x3, G))
theorem m362 {e : Ex} {E : Ev} (h : ExLe Q e E) (v0 : Value) (G : GS) : Ref (s362 true e v0 G) (s362 false (Ex.of E) v0 G) := by
  unfold s362
  exact Ref.go
theorem f362 {orc : FuncId → Bool} {e : Ex} (h : ExLe Q e (E orc)) (v0 : Value) (G : GS) : Ref (s362 true e v0 G) ((E orc).cl 362 [v0] G) :=
  fun r hr => cl_sxE_some Q orc (vs := [v0]) G Tryz.func362 (by kernel_rfl) (by kernel_rfl) (by kernel_rfl) (by kernel_rfl) (by kernel_rfl) (by kernel_rfl) (m362 h v0 G r hr)
/-- (*coxswain/find.Find).all -/
noncomputable def s363 (q : Bool) (e : Ex) (v0 : Value) (G : GS) : Option (Value × GS) :=
  bS (e.ev.cl 371 [v0] G) fun x0 G1 =>
  bP (bn Q q .neq 51 (.tmp 4) (.const (.int .i64 0)) x0 (.int .i64 0)) fun x2 =>
  ifV x2 (
  some ((.slice none 0 0), G1)) (
  bP (pNil v0) fun x3 =>
  bP (fa Q q 413 5 20 x3) fun x4 =>
  bP (ld Q q 411 x4 G1) fun x5 =>
  some (x5, G1))
theorem m363 {e : Ex} {E : Ev} (h : ExLe Q e E) (v0 : Value) (G : GS) : Ref (s363 true e v0 G) (s363 false (Ex.of E) v0 G) := by
  unfold s363
  exact Ref.go
theorem f363 {orc : FuncId → Bool} {e : Ex} (h : ExLe Q e (E orc)) (v0 : Value) (G : GS) : Ref (s363 true e v0 G) ((E orc).cl 363 [v0] G) :=
  fun r hr => cl_sxE_some Q orc (vs := [v0]) G Tryz.func363 (by kernel_rfl) (by kernel_rfl) (by kernel_rfl) (by kernel_rfl) (by kernel_rfl) (by kernel_rfl) (m363 h v0 G r hr)
noncomputable def b364_0 (q : Bool) (e : Ex) (lp : Env → GS → Option (Exit × Env × GS)) (τ : Env) (G : GS) : Option (Exit × Env × GS) :=
  bV q (τ 3) fun a3_ =>
  bV q (τ 7) fun a7_ =>
  bV q (τ 8) fun a8_ =>
  bV q (τ 9) fun a9_ =>
  bP (bn Q q .lss 3 (.tmp 9) (.tmp 8) a9_ a8_) fun x0 =>
  ifV x0 (
  bP (ias Q q 411 4 a7_ a9_) fun x1 =>
  bP (lda Q q 410 4 x1 G) fun x2 =>
  bS (al Q q 410 z410 G) fun x3 G4 =>
  bP (st Q q 410 4 x3 x2 G4) fun G5 =>
  bP (fa Q q 410 2 2 x3) fun x6 =>
  bP (ld Q q 23 x6 G5) fun x7 =>
  bS (bs Q q 22 1 (rep z23 1) 1 [(0, 0, 1)] [x7] G5) fun x8 G9 =>
  bS (ap Q q 22 22 1 8 a3_ x8 G9) fun x10 G11 =>
  bP (bn Q q .add 3 (.tmp 9) (.const (.int .i64 1)) a9_ (.int .i64 1)) fun x12 =>
  lp (tu τ [(3, x10), (7, a7_), (8, a8_), (9, x12), (5, x3), (10, x0), (11, x1), (12, x2), (13, a3_), (14, x6), (15, x7), (16, x8), (17, x10), (18, x12)]) G11) (
  some ((.exit 0), clq q 20 (tu τ [(3, a3_), (7, a7_), (8, a8_), (9, a9_), (10, x0)]), G))
theorem mb364_0 {e : Ex} {E : Ev} (h : ExLe Q e E) {lp lp' : Env → GS → Option (Exit × Env × GS)} (hlp : LpLe lp lp') (τ : Env) (G : GS) : Ref (b364_0 true e lp τ G) (b364_0 false (Ex.of E) lp' τ G) := by
  unfold b364_0
  exact Ref.go
theorem l364_0 {orc : FuncId → Bool} {e : Ex} (h : ExLe Q e (E orc)) (lp : Env → GS → Option (Exit × Env × GS)) (hlp : ∀ τ G, Ref (lp τ G) (mapE ((E orc).lp (subAt [1, 1, 0, 1, 0, 0] (bodyOf Tryz.f364)) (lst 20 τ) G))) (T : List Value) (G : GS) (hT : T.length = 20) : Ref (b364_0 true e lp (nth undef T) G) (mapE ((E orc).lp (subAt [1, 1, 0, 1, 0, 0] (bodyOf Tryz.f364)) T G)) :=
  fun r hr => lp_sxM Q orc G hT (by kernel_rfl) (mb364_0 h ⟨hlp⟩ _ _ r hr)
/-- (*coxswain/find.Find).Known -/
noncomputable def s364 (q : Bool) (e : Ex) (v0 : Value) (G : GS) : Option (Value × GS) :=
  bS (e.ev.cl 363 [v0] G) fun x0 G1 =>
  bP (ln Q q 411 x0) fun x2 =>
  bL q e 364 0 (subAt [1, 1, 0, 1, 0, 0] (bodyOf Tryz.f364)) 20 (tu (nth undef [v0]) [(2, (.slice none 0 0)), (3, (.slice none 0 0)), (6, v0), (7, x0), (8, x2), (9, (.int .i64 0))]) G1 fun e3 t4 G5 =>
  bV q (t4 3) fun t4x3_ =>
  ifE e3 (.exit 0) (
  some (t4x3_, G5)) (none)
theorem m364 {e : Ex} {E : Ev} (h : ExLe Q e E) (v0 : Value) (G : GS) : Ref (s364 true e v0 G) (s364 false (Ex.of E) v0 G) := by
  unfold s364
  exact Ref.go
theorem f364 {orc : FuncId → Bool} {e : Ex} (h : ExLe Q e (E orc)) (v0 : Value) (G : GS) : Ref (s364 true e v0 G) ((E orc).cl 364 [v0] G) :=
  fun r hr => cl_sxE_some Q orc (vs := [v0]) G Tryz.func364 (by kernel_rfl) (by kernel_rfl) (by kernel_rfl) (by kernel_rfl) (by kernel_rfl) (by kernel_rfl) (m364 h v0 G r hr)
noncomputable def b365_0 (q : Bool) (e : Ex) (lp : Env → GS → Option (Exit × Env × GS)) (τ : Env) (G : GS) : Option (Exit × Env × GS) :=
  bV q (τ 3) fun a3_ =>
  bV q (τ 7) fun a7_ =>
  bV q (τ 8) fun a8_ =>
  bV q (τ 9) fun a9_ =>
  bP (bn Q q .lss 3 (.tmp 9) (.tmp 8) a9_ a8_) fun x0 =>
  ifV x0 (
  bP (ias Q q 411 4 a7_ a9_) fun x1 =>
  bP (lda Q q 410 4 x1 G) fun x2 =>
  bS (al Q q 410 z410 G) fun x3 G4 =>
  bP (st Q q 410 4 x3 x2 G4) fun G5 =>
  bP (fa Q q 410 1 1 x3) fun x6 =>
  bP (ld Q q 3 x6 G5) fun x7 =>
  bS (bs Q q 35 1 (rep z3 1) 1 [(0, 0, 1)] [x7] G5) fun x8 G9 =>
  bS (ap Q q 35 35 1 8 a3_ x8 G9) fun x10 G11 =>
  bP (bn Q q .add 3 (.tmp 9) (.const (.int .i64 1)) a9_ (.int .i64 1)) fun x12 =>
  lp (tu τ [(3, x10), (7, a7_), (8, a8_), (9, x12), (5, x3), (10, x0), (11, x1), (12, x2), (13, a3_), (14, x6), (15, x7), (16, x8), (17, x10), (18, x12)]) G11) (
  some ((.exit 0), clq q 20 (tu τ [(3, a3_), (7, a7_), (8, a8_), (9, a9_), (10, x0)]), G))
theorem mb365_0 {e : Ex} {E : Ev} (h : ExLe Q e E) {lp lp' : Env → GS → Option (Exit × Env × GS)} (hlp : LpLe lp lp') (τ : Env) (G : GS) : Ref (b365_0 true e lp τ G) (b365_0 false (Ex.of E) lp' τ G) := by
  unfold b365_0
  exact Ref.go
theorem l365_0 {orc : FuncId → Bool} {e : Ex} (h : ExLe Q e (E orc)) (lp : Env → GS → Option (Exit × Env × GS)) (hlp : ∀ τ G, Ref (lp τ G) (mapE ((E orc).lp (subAt [1, 1, 0, 1, 0, 0] (bodyOf Tryz.f365)) (lst 20 τ) G))) (T : List Value) (G : GS) (hT : T.length = 20) : Ref (b365_0 true e lp (nth undef T) G) (mapE ((E orc).lp (subAt [1, 1, 0, 1, 0, 0] (bodyOf Tryz.f365)) T G)) :=
  fun r hr => lp_sxM Q orc G hT (by kernel_rfl) (mb365_0 h ⟨hlp⟩ _ _ r hr)
/-- (*coxswain/find.Find).Preds -/
noncomputable def s365 (q : Bool) (e : Ex) (v0 : Value) (G : GS) : Option (Value × GS) :=
  bS (e.ev.cl 363 [v0] G) fun x0 G1 =>
  bP (ln Q q 411 x0) fun x2 =>
  bL q e 365 0 (subAt [1, 1, 0, 1, 0, 0] (bodyOf Tryz.f365)) 20 (tu (nth undef [v0]) [(2, (.slice none 0 0)), (3, (.slice none 0 0)), (6, v0), (7, x0), (8, x2), (9, (.int .i64 0))]) G1 fun e3 t4 G5 =>
  bV q (t4 3) fun t4x3_ =>
  ifE e3 (.exit 0) (
  some (t4x3_, G5)) (none)
theorem m365 {e : Ex} {E : Ev} (h : ExLe Q e E) (v0 : Value) (G : GS) : Ref (s365 true e v0 G) (s365 false (Ex.of E) v0 G) := by
  unfold s365
  exact Ref.go
theorem f365 {orc : FuncId → Bool} {e : Ex} (h : ExLe Q e (E orc)) (v0 : Value) (G : GS) : Ref (s365 true e v0 G) ((E orc).cl 365 [v0] G) :=
  fun r hr => cl_sxE_some Q orc (vs := [v0]) G Tryz.func365 (by kernel_rfl) (by kernel_rfl) (by kernel_rfl) (by kernel_rfl) (by kernel_rfl) (by kernel_rfl) (m365 h v0 G r hr)
/-- (*coxswain/find.Find).index -/
noncomputable def s368 (q : Bool) (e : Ex) (v0 v1 : Value) (G : GS) : Option (Value × GS) :=
  bS (e.ev.cl 262 [v1] G) fun x0 G1 =>
  bP (pExtract x0 0) fun x2 =>
  bP (pExtract x0 1) fun x3 =>
  bS (al Q q 313 z313 G1) fun x4 G5 =>
  bP (st Q q 313 2 x4 x2 G5) fun G6 =>
  bP (fa Q q 313 0 0 x4) fun x7 =>
  bP (ld Q q 3 x7 (G6.room 11)) fun x8 =>
  bP (pNil v0) fun x9 =>
  bP (fa Q q 413 0 0 x9) fun x10 =>
  bP (fa Q q 45 3 3 x10) fun x11 =>
  bP (fa Q q 43 0 0 x11) fun x12 =>
  bP (fa Q q 39 0 0 x12) fun x13 =>
  bP (fa Q q 37 2 2 x13) fun x14 =>
  bP (ld Q q 3 x14 (G6.room 11)) fun x15 =>
  bP (bn Q q .geq 3 (.tmp 13) (.tmp 21) x8 x15) fun x16 =>
  ifV x16 (
  some ((.int .i64 (-1)), (G6.room 11))) (
  bP (fa Q q 313 0 0 x4) fun x17 =>
  bP (ld Q q 3 x17 (G6.room 11)) fun x18 =>
  some (x18, (G6.room 11)))
theorem m368 {e : Ex} {E : Ev} (h : ExLe Q e E) (v0 v1 : Value) (G : GS) : Ref (s368 true e v0 v1 G) (s368 false (Ex.of E) v0 v1 G) := by
  unfold s368
  exact Ref.go
theorem f368 {orc : FuncId → Bool} {e : Ex} (h : ExLe Q e (E orc)) (v0 v1 : Value) (G : GS) : Ref (s368 true e v0 v1 G) ((E orc).cl 368 [v0, v1] G) :=
  fun r hr => cl_sxE_some Q orc (vs := [v0, v1]) G Tryz.func368 (by kernel_rfl) (by kernel_rfl) (by kernel_rfl) (by kernel_rfl) (by kernel_rfl) (by kernel_rfl) (m368 h v0 v1 G r hr)
/-- (*coxswain/find.Find).done -/
noncomputable def s369 (q : Bool) (e : Ex) (v0 : Value) (G : GS) : Option (Value × GS) :=
  bP (pNil v0) fun x0 =>
  bP (fa Q q 413 5 20 x0) fun x1 =>
  bP (ld Q q 411 x1 (G.room 15)) fun x2 =>
  bP (pNil v0) fun x3 =>
  bP (fa Q q 413 3 15 x3) fun x4 =>
  bP (fa Q q 410 0 0 x4) fun x5 =>
  bP (ld Q q 3 x5 (G.room 15)) fun x6 =>
  bP (pNil v0) fun x7 =>
  bP (fa Q q 413 3 15 x7) fun x8 =>
  bP (lda Q q 410 4 x8 (G.room 15)) fun x9 =>
  bP (ias Q q 411 4 x2 x6) fun x10 =>
  bP (st Q q 410 4 x10 x9 (G.room 15)) fun G11 =>
  bP (pNil v0) fun x12 =>
  bP (fa Q q 413 3 15 x12) fun x13 =>
  bP (fa Q q 410 0 0 x13) fun x14 =>
  bP (ld Q q 3 x14 G11) fun x15 =>
  bP (bn Q q .sub 3 (.tmp 21) (.const (.int .i64 1)) x15 (.int .i64 1)) fun x16 =>
  bS (e.ev.cl 282 [v0, x16] G11) fun x17 G18 =>
  some (.tuple #[], G18)
theorem m369 {e : Ex} {E : Ev} (h : ExLe Q e E) (v0 : Value) (G : GS) : Ref (s369 true e v0 G) (s369 false (Ex.of E) v0 G) := by
  unfold s369
  exact Ref.go
theorem f369 {orc : FuncId → Bool} {e : Ex} (h : ExLe Q e (E orc)) (v0 : Value) (G : GS) : Ref (s369 true e v0 G) ((E orc).cl 369 [v0] G) :=
  fun r hr => cl_sxE_some Q orc (vs := [v0]) G Tryz.func369 (by kernel_rfl) (by kernel_rfl) (by kernel_rfl) (by kernel_rfl) (by kernel_rfl) (by kernel_rfl) (m369 h v0 G r hr)
/-- (*coxswain/find.Find).looks -/
noncomputable def s370 (q : Bool) (e : Ex) (v0 : Value) (G : GS) : Option (Value × GS) :=
  bP (pNil v0) fun x0 =>
  bP (fa Q q 413 2 14 x0) fun x1 =>
  bP (st Q q 3 1 x1 (.int .i64 2) G) fun G2 =>
  bP (pNil v0) fun x3 =>
  bP (fa Q q 413 3 15 x3) fun x4 =>
  bP (fa Q q 410 3 3 x4) fun x5 =>
  bP (ld Q q 23 x5 G2) fun x6 =>
  bS (e.ev.cl 368 [v0, x6] G2) fun x7 G8 =>
  bP (bn Q q .lss 3 (.tmp 11) (.const (.int .i64 0)) x7 (.int .i64 0)) fun x9 =>
  ifV x9 (
  bS (e.ev.cl 369 [v0] G8) fun x10 G11 =>
  some (.tuple #[], G11)) (
  some (.tuple #[], G8))
theorem m370 {e : Ex} {E : Ev} (h : ExLe Q e E) (v0 : Value) (G : GS) : Ref (s370 true e v0 G) (s370 false (Ex.of E) v0 G) := by
  unfold s370
  exact Ref.go
theorem f370 {orc : FuncId → Bool} {e : Ex} (h : ExLe Q e (E orc)) (v0 : Value) (G : GS) : Ref (s370 true e v0 G) ((E orc).cl 370 [v0] G) :=
  fun r hr => cl_sxE_some Q orc (vs := [v0]) G Tryz.func370 (by kernel_rfl) (by kernel_rfl) (by kernel_rfl) (by kernel_rfl) (by kernel_rfl) (by kernel_rfl) (m370 h v0 G r hr)
/-- (*coxswain/find.Find).Err -/
noncomputable def s371 (q : Bool) (e : Ex) (v0 : Value) (G : GS) : Option (Value × GS) :=
  bP (ep Q q false 373 (.tmp 4) (.const (.pointer none)) v0 (.pointer none)) fun x0 =>
  bS (gd x0 false (some (v0, G)) G) fun x1 G2 =>
  bS (gd x0 false (bP (pNil x1) fun y => some (y, G2)) G2) fun x3 G4 =>
  bS (gd x0 false (bP (fa Q q 413 7 22 x3) fun y => some (y, G4)) G4) fun x5 G6 =>
  bS (gd x0 false (bP (ld Q q 4 x5 G6) fun y => some (y, G6)) G6) fun x7 G8 =>
  bS (gd x0 false (bP (un Q q .not x7) fun y => some (y, G8)) G8) fun x9 G10 =>
  bP (pickV x0 (.bool true) x9) fun x11 =>
  ifV x11 (
  some ((.int .i64 1), G10)) (
  bP (pNil v0) fun x12 =>
  bP (fa Q q 413 2 14 x12) fun x13 =>
  bP (ld Q q 3 x13 G10) fun x14 =>
  bP (bn Q q .neq 3 (.tmp 17) (.const (.int .i64 9)) x14 (.int .i64 9)) fun x15 =>
  ifV x15 (
  some ((.int .i64 14), G10)) (
  bP (pNil v0) fun x16 =>
  bP (fa Q q 413 8 23 x16) fun x17 =>
  bP (ld Q q 51 x17 G10) fun x18 =>
  some (x18, G10)))
theorem m371 {e : Ex} {E : Ev} (h : ExLe Q e E) (v0 : Value) (G : GS) : Ref (s371 true e v0 G) (s371 false (Ex.of E) v0 G) := by
  unfold s371
  exact Ref.go
theorem f371 {orc : FuncId → Bool} {e : Ex} (h : ExLe Q e (E orc)) (v0 : Value) (G : GS) : Ref (s371 true e v0 G) ((E orc).cl 371 [v0] G) :=
  fun r hr => cl_sxE_some Q orc (vs := [v0]) G Tryz.func371 (by kernel_rfl) (by kernel_rfl) (by kernel_rfl) (by kernel_rfl) (by kernel_rfl) (by kernel_rfl) (m371 h v0 G r hr)
noncomputable def clT (orc : FuncId → Bool) (e : Ex) (f : FuncId) (vs : List Value) (G : GS) : Option (Value × GS) :=
  fork f 193 (
fork f 100 (
fork f 53 (
fork f 25 (
fork f 19 (
fork f 11 (
fork f 7 (
leaf f 7 (app0 (orc 7) (hasTab Q G) (s7 true e) vs G)) (
fork f 9 (
leaf f 9 (app2 (s9 true e) vs G)) (
leaf f 11 (app2 (s11 true e) vs G)))) (
fork f 13 (
leaf f 13 (app2 (s13 true e) vs G)) (
fork f 15 (
leaf f 15 (app0 (orc 15) (hasTab Q G) (s15 true e) vs G)) (
leaf f 19 (app1 (s19 true e) vs G))))) (
fork f 22 (
fork f 20 (
leaf f 20 (app2 (s20 true e) vs G)) (
fork f 21 (
leaf f 21 (app2 (s21 true e) vs G)) (
leaf f 22 (app5 (s22 true e) vs G)))) (
fork f 23 (
leaf f 23 (app3 (s23 true e) vs G)) (
fork f 24 (
leaf f 24 (app1 (s24 true e) vs G)) (
leaf f 25 (app3 (s25 true e) vs G)))))) (
fork f 47 (
fork f 28 (
fork f 26 (
leaf f 26 (app2 (s26 true e) vs G)) (
fork f 27 (
leaf f 27 (app1 (s27 true e) vs G)) (
leaf f 28 (app1 (s28 true e) vs G)))) (
fork f 29 (
leaf f 29 (app2 (s29 true e) vs G)) (
fork f 46 (
leaf f 46 (app0 (orc 46) (hasTab Q G) (s46 true e) vs G)) (
leaf f 47 (app2 (s47 true e) vs G))))) (
fork f 50 (
fork f 48 (
leaf f 48 (app0 (orc 48) (hasTab Q G) (s48 true e) vs G)) (
fork f 49 (
leaf f 49 (app3 (s49 true e) vs G)) (
leaf f 50 (app4 (s50 true e) vs G)))) (
fork f 51 (
leaf f 51 (app0 (orc 51) (hasTab Q G) (s51 true e) vs G)) (
fork f 52 (
leaf f 52 (app2 (s52 true e) vs G)) (
leaf f 53 (app2 (s53 true e) vs G))))))) (
fork f 66 (
fork f 60 (
fork f 57 (
fork f 54 (
leaf f 54 (srt vs G)) (
fork f 56 (
leaf f 56 (app1 (s56 true e) vs G)) (
leaf f 57 (app2 (s57 true e) vs G)))) (
fork f 58 (
leaf f 58 (app1 (s58 true e) vs G)) (
fork f 59 (
leaf f 59 (app5 (s59 true e) vs G)) (
leaf f 60 (app2 (s60 true e) vs G))))) (
fork f 63 (
fork f 61 (
leaf f 61 (app1 (s61 true e) vs G)) (
fork f 62 (
leaf f 62 (app2 (s62 true e) vs G)) (
leaf f 63 (app5 (s63 true e) vs G)))) (
fork f 64 (
leaf f 64 (app1 (s64 true e) vs G)) (
fork f 65 (
leaf f 65 (app2 (s65 true e) vs G)) (
leaf f 66 (app1 (s66 true e) vs G)))))) (
fork f 91 (
fork f 69 (
fork f 67 (
leaf f 67 (app2 (s67 true e) vs G)) (
fork f 68 (
leaf f 68 (app2 (s68 true e) vs G)) (
leaf f 69 (app1 (s69 true e) vs G)))) (
fork f 70 (
leaf f 70 (app2 (s70 true e) vs G)) (
fork f 82 (
leaf f 82 (app2 (s82 true e) vs G)) (
leaf f 91 (app3 (s91 true e) vs G))))) (
fork f 96 (
fork f 92 (
leaf f 92 (app2 (s92 true e) vs G)) (
fork f 93 (
leaf f 93 (app1 (s93 true e) vs G)) (
leaf f 96 (app2 (s96 true e) vs G)))) (
fork f 98 (
fork f 97 (
leaf f 97 (app2 (s97 true e) vs G)) (
leaf f 98 (app2 (s98 true e) vs G))) (
fork f 99 (
leaf f 99 (app2 (s99 true e) vs G)) (
leaf f 100 (app1 (s100 true e) vs G)))))))) (
fork f 148 (
fork f 112 (
fork f 106 (
fork f 103 (
fork f 101 (
leaf f 101 (app1 (s101 true e) vs G)) (
fork f 102 (
leaf f 102 (app2 (s102 true e) vs G)) (
leaf f 103 (app1 (s103 true e) vs G)))) (
fork f 104 (
leaf f 104 (app1 (s104 true e) vs G)) (
fork f 105 (
leaf f 105 (app1 (s105 true e) vs G)) (
leaf f 106 (app1 (s106 true e) vs G))))) (
fork f 109 (
fork f 107 (
leaf f 107 (app1 (s107 true e) vs G)) (
fork f 108 (
leaf f 108 (app2 (s108 true e) vs G)) (
leaf f 109 (app1 (s109 true e) vs G)))) (
fork f 110 (
leaf f 110 (app1 (s110 true e) vs G)) (
fork f 111 (
leaf f 111 (app2 (s111 true e) vs G)) (
leaf f 112 (app2 (s112 true e) vs G)))))) (
fork f 141 (
fork f 138 (
fork f 113 (
leaf f 113 (app1 (s113 true e) vs G)) (
fork f 114 (
leaf f 114 (app1 (s114 true e) vs G)) (
leaf f 138 (app1 (s138 true e) vs G)))) (
fork f 139 (
leaf f 139 (app2 (s139 true e) vs G)) (
fork f 140 (
leaf f 140 (app1 (s140 true e) vs G)) (
leaf f 141 (app1 (s141 true e) vs G))))) (
fork f 144 (
fork f 142 (
leaf f 142 (app3 (s142 true e) vs G)) (
fork f 143 (
leaf f 143 (app1 (s143 true e) vs G)) (
leaf f 144 (app2 (s144 true e) vs G)))) (
fork f 146 (
fork f 145 (
leaf f 145 (app2 (s145 true e) vs G)) (
leaf f 146 (app1 (s146 true e) vs G))) (
fork f 147 (
leaf f 147 (app1 (s147 true e) vs G)) (
leaf f 148 (app1 (s148 true e) vs G))))))) (
fork f 180 (
fork f 174 (
fork f 151 (
fork f 149 (
leaf f 149 (app2 (s149 true e) vs G)) (
fork f 150 (
leaf f 150 (app1 (s150 true e) vs G)) (
leaf f 151 (app1 (s151 true e) vs G)))) (
fork f 152 (
leaf f 152 (app1 (s152 true e) vs G)) (
fork f 153 (
leaf f 153 (app2 (s153 true e) vs G)) (
leaf f 174 (app1 (s174 true e) vs G))))) (
fork f 177 (
fork f 175 (
leaf f 175 (app1 (s175 true e) vs G)) (
fork f 176 (
leaf f 176 (app2 (s176 true e) vs G)) (
leaf f 177 (app1 (s177 true e) vs G)))) (
fork f 178 (
leaf f 178 (app3 (s178 true e) vs G)) (
fork f 179 (
leaf f 179 (app1 (s179 true e) vs G)) (
leaf f 180 (app3 (s180 true e) vs G)))))) (
fork f 186 (
fork f 183 (
fork f 181 (
leaf f 181 (app2 (s181 true e) vs G)) (
fork f 182 (
leaf f 182 (app2 (s182 true e) vs G)) (
leaf f 183 (app2 (s183 true e) vs G)))) (
fork f 184 (
leaf f 184 (app2 (s184 true e) vs G)) (
fork f 185 (
leaf f 185 (app2 (s185 true e) vs G)) (
leaf f 186 (app1 (s186 true e) vs G))))) (
fork f 189 (
fork f 187 (
leaf f 187 (app1 (s187 true e) vs G)) (
fork f 188 (
leaf f 188 (app2 (s188 true e) vs G)) (
leaf f 189 (app1 (s189 true e) vs G)))) (
fork f 191 (
fork f 190 (
leaf f 190 (app1 (s190 true e) vs G)) (
leaf f 191 (app1 (s191 true e) vs G))) (
fork f 192 (
leaf f 192 (app1 (s192 true e) vs G)) (
leaf f 193 (app2 (s193 true e) vs G))))))))) (
fork f 296 (
fork f 245 (
fork f 221 (
fork f 215 (
fork f 212 (
fork f 194 (
leaf f 194 (app3 (s194 true e) vs G)) (
fork f 195 (
leaf f 195 (app2 (s195 true e) vs G)) (
leaf f 212 (app1 (s212 true e) vs G)))) (
fork f 213 (
leaf f 213 (app2 (s213 true e) vs G)) (
fork f 214 (
leaf f 214 (app2 (s214 true e) vs G)) (
leaf f 215 (app1 (s215 true e) vs G))))) (
fork f 218 (
fork f 216 (
leaf f 216 (app2 (s216 true e) vs G)) (
fork f 217 (
leaf f 217 (app2 (s217 true e) vs G)) (
leaf f 218 (app1 (s218 true e) vs G)))) (
fork f 219 (
leaf f 219 (app5 (s219 true e) vs G)) (
fork f 220 (
leaf f 220 (app1 (s220 true e) vs G)) (
leaf f 221 (app1 (s221 true e) vs G)))))) (
fork f 238 (
fork f 235 (
fork f 222 (
leaf f 222 (app4 (s222 true e) vs G)) (
fork f 223 (
leaf f 223 (app1 (s223 true e) vs G)) (
leaf f 235 (app1 (s235 true e) vs G)))) (
fork f 236 (
leaf f 236 (app0 (orc 236) (hasTab Q G) (s236 true e) vs G)) (
fork f 237 (
leaf f 237 (app2 (s237 true e) vs G)) (
leaf f 238 (app2 (s238 true e) vs G))))) (
fork f 241 (
fork f 239 (
leaf f 239 (app2 (s239 true e) vs G)) (
fork f 240 (
leaf f 240 (app2 (s240 true e) vs G)) (
leaf f 241 (app1 (s241 true e) vs G)))) (
fork f 243 (
fork f 242 (
leaf f 242 (app1 (s242 true e) vs G)) (
leaf f 243 (app1 (s243 true e) vs G))) (
fork f 244 (
leaf f 244 (app1 (s244 true e) vs G)) (
leaf f 245 (app4 (s245 true e) vs G))))))) (
fork f 261 (
fork f 251 (
fork f 248 (
fork f 246 (
leaf f 246 (app2 (s246 true e) vs G)) (
fork f 247 (
leaf f 247 (app4 (s247 true e) vs G)) (
leaf f 248 (app5 (s248 true e) vs G)))) (
fork f 249 (
leaf f 249 (app3 (s249 true e) vs G)) (
fork f 250 (
leaf f 250 (app1 (s250 true e) vs G)) (
leaf f 251 (app2 (s251 true e) vs G))))) (
fork f 258 (
fork f 256 (
leaf f 256 (app3 (s256 true e) vs G)) (
fork f 257 (
leaf f 257 (app2 (s257 true e) vs G)) (
leaf f 258 (app2 (s258 true e) vs G)))) (
fork f 259 (
leaf f 259 (app1 (s259 true e) vs G)) (
fork f 260 (
leaf f 260 (app0 (orc 260) (hasTab Q G) (s260 true e) vs G)) (
leaf f 261 (app2 (s261 true e) vs G)))))) (
fork f 274 (
fork f 264 (
fork f 262 (
leaf f 262 (app1 (s262 true e) vs G)) (
fork f 263 (
leaf f 263 (app2 (s263 true e) vs G)) (
leaf f 264 (app1 (s264 true e) vs G)))) (
fork f 265 (
leaf f 265 (app2 (s265 true e) vs G)) (
fork f 273 (
leaf f 273 (app3 (s273 true e) vs G)) (
leaf f 274 (app1 (s274 true e) vs G))))) (
fork f 282 (
fork f 276 (
leaf f 276 (app4 (s276 true e) vs G)) (
fork f 278 (
leaf f 278 (app2 (s278 true e) vs G)) (
leaf f 282 (app2 (s282 true e) vs G)))) (
fork f 286 (
fork f 283 (
leaf f 283 (app1 (s283 true e) vs G)) (
leaf f 286 (app2 (s286 true e) vs G))) (
fork f 290 (
leaf f 290 (app3 (s290 true e) vs G)) (
leaf f 296 (app3 (s296 true e) vs G)))))))) (
fork f 342 (
fork f 328 (
fork f 321 (
fork f 318 (
fork f 299 (
leaf f 299 (app1 (s299 true e) vs G)) (
fork f 317 (
leaf f 317 (app2 (s317 true e) vs G)) (
leaf f 318 (app2 (s318 true e) vs G)))) (
fork f 319 (
leaf f 319 (app1 (s319 true e) vs G)) (
fork f 320 (
leaf f 320 (app2 (s320 true e) vs G)) (
leaf f 321 (app3 (s321 true e) vs G))))) (
fork f 324 (
fork f 322 (
leaf f 322 (app2 (s322 true e) vs G)) (
fork f 323 (
leaf f 323 (app1 (s323 true e) vs G)) (
leaf f 324 (app2 (s324 true e) vs G)))) (
fork f 326 (
leaf f 326 (app2 (s326 true e) vs G)) (
fork f 327 (
leaf f 327 (app2 (s327 true e) vs G)) (
leaf f 328 (app2 (s328 true e) vs G)))))) (
fork f 335 (
fork f 332 (
fork f 329 (
leaf f 329 (app2 (s329 true e) vs G)) (
fork f 330 (
leaf f 330 (app2 (s330 true e) vs G)) (
leaf f 332 (app2 (s332 true e) vs G)))) (
fork f 333 (
leaf f 333 (app1 (s333 true e) vs G)) (
fork f 334 (
leaf f 334 (app1 (s334 true e) vs G)) (
leaf f 335 (app2 (s335 true e) vs G))))) (
fork f 338 (
fork f 336 (
leaf f 336 (app2 (s336 true e) vs G)) (
fork f 337 (
leaf f 337 (app1 (s337 true e) vs G)) (
leaf f 338 (app2 (s338 true e) vs G)))) (
fork f 340 (
fork f 339 (
leaf f 339 (app2 (s339 true e) vs G)) (
leaf f 340 (app0 (orc 340) (hasTab Q G) (s340 true e) vs G))) (
fork f 341 (
leaf f 341 (app2 (s341 true e) vs G)) (
leaf f 342 (app2 (s342 true e) vs G))))))) (
fork f 354 (
fork f 348 (
fork f 345 (
fork f 343 (
leaf f 343 (app2 (s343 true e) vs G)) (
fork f 344 (
leaf f 344 (app2 (s344 true e) vs G)) (
leaf f 345 (app2 (s345 true e) vs G)))) (
fork f 346 (
leaf f 346 (app2 (s346 true e) vs G)) (
fork f 347 (
leaf f 347 (app2 (s347 true e) vs G)) (
leaf f 348 (app2 (s348 true e) vs G))))) (
fork f 351 (
fork f 349 (
leaf f 349 (app2 (s349 true e) vs G)) (
fork f 350 (
leaf f 350 (app2 (s350 true e) vs G)) (
leaf f 351 (app2 (s351 true e) vs G)))) (
fork f 352 (
leaf f 352 (app2 (s352 true e) vs G)) (
fork f 353 (
leaf f 353 (app2 (s353 true e) vs G)) (
leaf f 354 (app1 (s354 true e) vs G)))))) (
fork f 362 (
fork f 357 (
fork f 355 (
leaf f 355 (app2 (s355 true e) vs G)) (
fork f 356 (
leaf f 356 (app1 (s356 true e) vs G)) (
leaf f 357 (app3 (s357 true e) vs G)))) (
fork f 358 (
leaf f 358 (app5 (s358 true e) vs G)) (
fork f 361 (
leaf f 361 (app2 (s361 true e) vs G)) (
leaf f 362 (app1 (s362 true e) vs G))))) (
fork f 365 (
fork f 363 (
leaf f 363 (app1 (s363 true e) vs G)) (
fork f 364 (
leaf f 364 (app1 (s364 true e) vs G)) (
leaf f 365 (app1 (s365 true e) vs G)))) (
fork f 369 (
fork f 368 (
leaf f 368 (app2 (s368 true e) vs G)) (
leaf f 369 (app1 (s369 true e) vs G))) (
fork f 370 (
leaf f 370 (app1 (s370 true e) vs G)) (
leaf f 371 (app1 (s371 true e) vs G)))))))))
theorem clT_ok {orc : FuncId → Bool} {e : Ex} (h : ExLe Q e (E orc)) (f : FuncId) (vs : List Value) (G : GS) : Ref (clT orc e f vs G) ((E orc).cl f vs G) :=
  Ref.fork (
Ref.fork (
Ref.fork (
Ref.fork (
Ref.fork (
Ref.fork (
Ref.fork (
Ref.leaf (y := fun f => (E orc).cl f vs G) (Ref.app0 (fun ho G => f7 h ho G) vs G)) (
Ref.fork (
Ref.leaf (y := fun f => (E orc).cl f vs G) (Ref.app2 (fun u0 u1 G => f9 h u0 u1 G) vs G)) (
Ref.leaf (y := fun f => (E orc).cl f vs G) (Ref.app2 (fun u0 u1 G => f11 h u0 u1 G) vs G)))) (
Ref.fork (
Ref.leaf (y := fun f => (E orc).cl f vs G) (Ref.app2 (fun u0 u1 G => f13 h u0 u1 G) vs G)) (
Ref.fork (
Ref.leaf (y := fun f => (E orc).cl f vs G) (Ref.app0 (fun ho G => f15 h ho G) vs G)) (
Ref.leaf (y := fun f => (E orc).cl f vs G) (Ref.app1 (fun u0 G => f19 h u0 G) vs G))))) (
Ref.fork (
Ref.fork (
Ref.leaf (y := fun f => (E orc).cl f vs G) (Ref.app2 (fun u0 u1 G => f20 h u0 u1 G) vs G)) (
Ref.fork (
Ref.leaf (y := fun f => (E orc).cl f vs G) (Ref.app2 (fun u0 u1 G => f21 h u0 u1 G) vs G)) (
Ref.leaf (y := fun f => (E orc).cl f vs G) (Ref.app5 (fun u0 u1 u2 u3 u4 G => f22 h u0 u1 u2 u3 u4 G) vs G)))) (
Ref.fork (
Ref.leaf (y := fun f => (E orc).cl f vs G) (Ref.app3 (fun u0 u1 u2 G => f23 h u0 u1 u2 G) vs G)) (
Ref.fork (
Ref.leaf (y := fun f => (E orc).cl f vs G) (Ref.app1 (fun u0 G => f24 h u0 G) vs G)) (
Ref.leaf (y := fun f => (E orc).cl f vs G) (Ref.app3 (fun u0 u1 u2 G => f25 h u0 u1 u2 G) vs G)))))) (
Ref.fork (
Ref.fork (
Ref.fork (
Ref.leaf (y := fun f => (E orc).cl f vs G) (Ref.app2 (fun u0 u1 G => f26 h u0 u1 G) vs G)) (
Ref.fork (
Ref.leaf (y := fun f => (E orc).cl f vs G) (Ref.app1 (fun u0 G => f27 h u0 G) vs G)) (
Ref.leaf (y := fun f => (E orc).cl f vs G) (Ref.app1 (fun u0 G => f28 h u0 G) vs G)))) (
Ref.fork (
Ref.leaf (y := fun f => (E orc).cl f vs G) (Ref.app2 (fun u0 u1 G => f29 h u0 u1 G) vs G)) (
Ref.fork (
Ref.leaf (y := fun f => (E orc).cl f vs G) (Ref.app0 (fun ho G => f46 h ho G) vs G)) (
Ref.leaf (y := fun f => (E orc).cl f vs G) (Ref.app2 (fun u0 u1 G => f47 h u0 u1 G) vs G))))) (
Ref.fork (
Ref.fork (
Ref.leaf (y := fun f => (E orc).cl f vs G) (Ref.app0 (fun ho G => f48 h ho G) vs G)) (
Ref.fork (
Ref.leaf (y := fun f => (E orc).cl f vs G) (Ref.app3 (fun u0 u1 u2 G => f49 h u0 u1 u2 G) vs G)) (
Ref.leaf (y := fun f => (E orc).cl f vs G) (Ref.app4 (fun u0 u1 u2 u3 G => f50 h u0 u1 u2 u3 G) vs G)))) (
Ref.fork (
Ref.leaf (y := fun f => (E orc).cl f vs G) (Ref.app0 (fun ho G => f51 h ho G) vs G)) (
Ref.fork (
Ref.leaf (y := fun f => (E orc).cl f vs G) (Ref.app2 (fun u0 u1 G => f52 h u0 u1 G) vs G)) (
Ref.leaf (y := fun f => (E orc).cl f vs G) (Ref.app2 (fun u0 u1 G => f53 h u0 u1 G) vs G))))))) (
Ref.fork (
Ref.fork (
Ref.fork (
Ref.fork (
Ref.leaf (y := fun f => (E orc).cl f vs G) (Ref.srt (P := Q) (by kernel_rfl) (by kernel_rfl) vs G)) (
Ref.fork (
Ref.leaf (y := fun f => (E orc).cl f vs G) (Ref.app1 (fun u0 G => f56 h u0 G) vs G)) (
Ref.leaf (y := fun f => (E orc).cl f vs G) (Ref.app2 (fun u0 u1 G => f57 h u0 u1 G) vs G)))) (
Ref.fork (
Ref.leaf (y := fun f => (E orc).cl f vs G) (Ref.app1 (fun u0 G => f58 h u0 G) vs G)) (
Ref.fork (
Ref.leaf (y := fun f => (E orc).cl f vs G) (Ref.app5 (fun u0 u1 u2 u3 u4 G => f59 h u0 u1 u2 u3 u4 G) vs G)) (
Ref.leaf (y := fun f => (E orc).cl f vs G) (Ref.app2 (fun u0 u1 G => f60 h u0 u1 G) vs G))))) (
Ref.fork (
Ref.fork (
Ref.leaf (y := fun f => (E orc).cl f vs G) (Ref.app1 (fun u0 G => f61 h u0 G) vs G)) (
Ref.fork (
Ref.leaf (y := fun f => (E orc).cl f vs G) (Ref.app2 (fun u0 u1 G => f62 h u0 u1 G) vs G)) (
Ref.leaf (y := fun f => (E orc).cl f vs G) (Ref.app5 (fun u0 u1 u2 u3 u4 G => f63 h u0 u1 u2 u3 u4 G) vs G)))) (
Ref.fork (
Ref.leaf (y := fun f => (E orc).cl f vs G) (Ref.app1 (fun u0 G => f64 h u0 G) vs G)) (
Ref.fork (
Ref.leaf (y := fun f => (E orc).cl f vs G) (Ref.app2 (fun u0 u1 G => f65 h u0 u1 G) vs G)) (
Ref.leaf (y := fun f => (E orc).cl f vs G) (Ref.app1 (fun u0 G => f66 h u0 G) vs G)))))) (
Ref.fork (
Ref.fork (
Ref.fork (
Ref.leaf (y := fun f => (E orc).cl f vs G) (Ref.app2 (fun u0 u1 G => f67 h u0 u1 G) vs G)) (
Ref.fork (
Ref.leaf (y := fun f => (E orc).cl f vs G) (Ref.app2 (fun u0 u1 G => f68 h u0 u1 G) vs G)) (
Ref.leaf (y := fun f => (E orc).cl f vs G) (Ref.app1 (fun u0 G => f69 h u0 G) vs G)))) (
Ref.fork (
Ref.leaf (y := fun f => (E orc).cl f vs G) (Ref.app2 (fun u0 u1 G => f70 h u0 u1 G) vs G)) (
Ref.fork (
Ref.leaf (y := fun f => (E orc).cl f vs G) (Ref.app2 (fun u0 u1 G => f82 h u0 u1 G) vs G)) (
Ref.leaf (y := fun f => (E orc).cl f vs G) (Ref.app3 (fun u0 u1 u2 G => f91 h u0 u1 u2 G) vs G))))) (
Ref.fork (
Ref.fork (
Ref.leaf (y := fun f => (E orc).cl f vs G) (Ref.app2 (fun u0 u1 G => f92 h u0 u1 G) vs G)) (
Ref.fork (
Ref.leaf (y := fun f => (E orc).cl f vs G) (Ref.app1 (fun u0 G => f93 h u0 G) vs G)) (
Ref.leaf (y := fun f => (E orc).cl f vs G) (Ref.app2 (fun u0 u1 G => f96 h u0 u1 G) vs G)))) (
Ref.fork (
Ref.fork (
Ref.leaf (y := fun f => (E orc).cl f vs G) (Ref.app2 (fun u0 u1 G => f97 h u0 u1 G) vs G)) (
Ref.leaf (y := fun f => (E orc).cl f vs G) (Ref.app2 (fun u0 u1 G => f98 h u0 u1 G) vs G))) (
Ref.fork (
Ref.leaf (y := fun f => (E orc).cl f vs G) (Ref.app2 (fun u0 u1 G => f99 h u0 u1 G) vs G)) (
Ref.leaf (y := fun f => (E orc).cl f vs G) (Ref.app1 (fun u0 G => f100 h u0 G) vs G)))))))) (
Ref.fork (
Ref.fork (
Ref.fork (
Ref.fork (
Ref.fork (
Ref.leaf (y := fun f => (E orc).cl f vs G) (Ref.app1 (fun u0 G => f101 h u0 G) vs G)) (
Ref.fork (
Ref.leaf (y := fun f => (E orc).cl f vs G) (Ref.app2 (fun u0 u1 G => f102 h u0 u1 G) vs G)) (
Ref.leaf (y := fun f => (E orc).cl f vs G) (Ref.app1 (fun u0 G => f103 h u0 G) vs G)))) (
Ref.fork (
Ref.leaf (y := fun f => (E orc).cl f vs G) (Ref.app1 (fun u0 G => f104 h u0 G) vs G)) (
Ref.fork (
Ref.leaf (y := fun f => (E orc).cl f vs G) (Ref.app1 (fun u0 G => f105 h u0 G) vs G)) (
Ref.leaf (y := fun f => (E orc).cl f vs G) (Ref.app1 (fun u0 G => f106 h u0 G) vs G))))) (
Ref.fork (
Ref.fork (
Ref.leaf (y := fun f => (E orc).cl f vs G) (Ref.app1 (fun u0 G => f107 h u0 G) vs G)) (
Ref.fork (
Ref.leaf (y := fun f => (E orc).cl f vs G) (Ref.app2 (fun u0 u1 G => f108 h u0 u1 G) vs G)) (
Ref.leaf (y := fun f => (E orc).cl f vs G) (Ref.app1 (fun u0 G => f109 h u0 G) vs G)))) (
Ref.fork (
Ref.leaf (y := fun f => (E orc).cl f vs G) (Ref.app1 (fun u0 G => f110 h u0 G) vs G)) (
Ref.fork (
Ref.leaf (y := fun f => (E orc).cl f vs G) (Ref.app2 (fun u0 u1 G => f111 h u0 u1 G) vs G)) (
Ref.leaf (y := fun f => (E orc).cl f vs G) (Ref.app2 (fun u0 u1 G => f112 h u0 u1 G) vs G)))))) (
Ref.fork (
Ref.fork (
Ref.fork (
Ref.leaf (y := fun f => (E orc).cl f vs G) (Ref.app1 (fun u0 G => f113 h u0 G) vs G)) (
Ref.fork (
Ref.leaf (y := fun f => (E orc).cl f vs G) (Ref.app1 (fun u0 G => f114 h u0 G) vs G)) (
Ref.leaf (y := fun f => (E orc).cl f vs G) (Ref.app1 (fun u0 G => f138 h u0 G) vs G)))) (
Ref.fork (
Ref.leaf (y := fun f => (E orc).cl f vs G) (Ref.app2 (fun u0 u1 G => f139 h u0 u1 G) vs G)) (
Ref.fork (
Ref.leaf (y := fun f => (E orc).cl f vs G) (Ref.app1 (fun u0 G => f140 h u0 G) vs G)) (
Ref.leaf (y := fun f => (E orc).cl f vs G) (Ref.app1 (fun u0 G => f141 h u0 G) vs G))))) (
Ref.fork (
Ref.fork (
Ref.leaf (y := fun f => (E orc).cl f vs G) (Ref.app3 (fun u0 u1 u2 G => f142 h u0 u1 u2 G) vs G)) (
Ref.fork (
Ref.leaf (y := fun f => (E orc).cl f vs G) (Ref.app1 (fun u0 G => f143 h u0 G) vs G)) (
Ref.leaf (y := fun f => (E orc).cl f vs G) (Ref.app2 (fun u0 u1 G => f144 h u0 u1 G) vs G)))) (
Ref.fork (
Ref.fork (
Ref.leaf (y := fun f => (E orc).cl f vs G) (Ref.app2 (fun u0 u1 G => f145 h u0 u1 G) vs G)) (
Ref.leaf (y := fun f => (E orc).cl f vs G) (Ref.app1 (fun u0 G => f146 h u0 G) vs G))) (
Ref.fork (
Ref.leaf (y := fun f => (E orc).cl f vs G) (Ref.app1 (fun u0 G => f147 h u0 G) vs G)) (
Ref.leaf (y := fun f => (E orc).cl f vs G) (Ref.app1 (fun u0 G => f148 h u0 G) vs G))))))) (
Ref.fork (
Ref.fork (
Ref.fork (
Ref.fork (
Ref.leaf (y := fun f => (E orc).cl f vs G) (Ref.app2 (fun u0 u1 G => f149 h u0 u1 G) vs G)) (
Ref.fork (
Ref.leaf (y := fun f => (E orc).cl f vs G) (Ref.app1 (fun u0 G => f150 h u0 G) vs G)) (
Ref.leaf (y := fun f => (E orc).cl f vs G) (Ref.app1 (fun u0 G => f151 h u0 G) vs G)))) (
Ref.fork (
Ref.leaf (y := fun f => (E orc).cl f vs G) (Ref.app1 (fun u0 G => f152 h u0 G) vs G)) (
Ref.fork (
Ref.leaf (y := fun f => (E orc).cl f vs G) (Ref.app2 (fun u0 u1 G => f153 h u0 u1 G) vs G)) (
Ref.leaf (y := fun f => (E orc).cl f vs G) (Ref.app1 (fun u0 G => f174 h u0 G) vs G))))) (
Ref.fork (
Ref.fork (
Ref.leaf (y := fun f => (E orc).cl f vs G) (Ref.app1 (fun u0 G => f175 h u0 G) vs G)) (
Ref.fork (
Ref.leaf (y := fun f => (E orc).cl f vs G) (Ref.app2 (fun u0 u1 G => f176 h u0 u1 G) vs G)) (
Ref.leaf (y := fun f => (E orc).cl f vs G) (Ref.app1 (fun u0 G => f177 h u0 G) vs G)))) (
Ref.fork (
Ref.leaf (y := fun f => (E orc).cl f vs G) (Ref.app3 (fun u0 u1 u2 G => f178 h u0 u1 u2 G) vs G)) (
Ref.fork (
Ref.leaf (y := fun f => (E orc).cl f vs G) (Ref.app1 (fun u0 G => f179 h u0 G) vs G)) (
Ref.leaf (y := fun f => (E orc).cl f vs G) (Ref.app3 (fun u0 u1 u2 G => f180 h u0 u1 u2 G) vs G)))))) (
Ref.fork (
Ref.fork (
Ref.fork (
Ref.leaf (y := fun f => (E orc).cl f vs G) (Ref.app2 (fun u0 u1 G => f181 h u0 u1 G) vs G)) (
Ref.fork (
Ref.leaf (y := fun f => (E orc).cl f vs G) (Ref.app2 (fun u0 u1 G => f182 h u0 u1 G) vs G)) (
Ref.leaf (y := fun f => (E orc).cl f vs G) (Ref.app2 (fun u0 u1 G => f183 h u0 u1 G) vs G)))) (
Ref.fork (
Ref.leaf (y := fun f => (E orc).cl f vs G) (Ref.app2 (fun u0 u1 G => f184 h u0 u1 G) vs G)) (
Ref.fork (
Ref.leaf (y := fun f => (E orc).cl f vs G) (Ref.app2 (fun u0 u1 G => f185 h u0 u1 G) vs G)) (
Ref.leaf (y := fun f => (E orc).cl f vs G) (Ref.app1 (fun u0 G => f186 h u0 G) vs G))))) (
Ref.fork (
Ref.fork (
Ref.leaf (y := fun f => (E orc).cl f vs G) (Ref.app1 (fun u0 G => f187 h u0 G) vs G)) (
Ref.fork (
Ref.leaf (y := fun f => (E orc).cl f vs G) (Ref.app2 (fun u0 u1 G => f188 h u0 u1 G) vs G)) (
Ref.leaf (y := fun f => (E orc).cl f vs G) (Ref.app1 (fun u0 G => f189 h u0 G) vs G)))) (
Ref.fork (
Ref.fork (
Ref.leaf (y := fun f => (E orc).cl f vs G) (Ref.app1 (fun u0 G => f190 h u0 G) vs G)) (
Ref.leaf (y := fun f => (E orc).cl f vs G) (Ref.app1 (fun u0 G => f191 h u0 G) vs G))) (
Ref.fork (
Ref.leaf (y := fun f => (E orc).cl f vs G) (Ref.app1 (fun u0 G => f192 h u0 G) vs G)) (
Ref.leaf (y := fun f => (E orc).cl f vs G) (Ref.app2 (fun u0 u1 G => f193 h u0 u1 G) vs G))))))))) (
Ref.fork (
Ref.fork (
Ref.fork (
Ref.fork (
Ref.fork (
Ref.fork (
Ref.leaf (y := fun f => (E orc).cl f vs G) (Ref.app3 (fun u0 u1 u2 G => f194 h u0 u1 u2 G) vs G)) (
Ref.fork (
Ref.leaf (y := fun f => (E orc).cl f vs G) (Ref.app2 (fun u0 u1 G => f195 h u0 u1 G) vs G)) (
Ref.leaf (y := fun f => (E orc).cl f vs G) (Ref.app1 (fun u0 G => f212 h u0 G) vs G)))) (
Ref.fork (
Ref.leaf (y := fun f => (E orc).cl f vs G) (Ref.app2 (fun u0 u1 G => f213 h u0 u1 G) vs G)) (
Ref.fork (
Ref.leaf (y := fun f => (E orc).cl f vs G) (Ref.app2 (fun u0 u1 G => f214 h u0 u1 G) vs G)) (
Ref.leaf (y := fun f => (E orc).cl f vs G) (Ref.app1 (fun u0 G => f215 h u0 G) vs G))))) (
Ref.fork (
Ref.fork (
Ref.leaf (y := fun f => (E orc).cl f vs G) (Ref.app2 (fun u0 u1 G => f216 h u0 u1 G) vs G)) (
Ref.fork (
Ref.leaf (y := fun f => (E orc).cl f vs G) (Ref.app2 (fun u0 u1 G => f217 h u0 u1 G) vs G)) (
Ref.leaf (y := fun f => (E orc).cl f vs G) (Ref.app1 (fun u0 G => f218 h u0 G) vs G)))) (
Ref.fork (
Ref.leaf (y := fun f => (E orc).cl f vs G) (Ref.app5 (fun u0 u1 u2 u3 u4 G => f219 h u0 u1 u2 u3 u4 G) vs G)) (
Ref.fork (
Ref.leaf (y := fun f => (E orc).cl f vs G) (Ref.app1 (fun u0 G => f220 h u0 G) vs G)) (
Ref.leaf (y := fun f => (E orc).cl f vs G) (Ref.app1 (fun u0 G => f221 h u0 G) vs G)))))) (
Ref.fork (
Ref.fork (
Ref.fork (
Ref.leaf (y := fun f => (E orc).cl f vs G) (Ref.app4 (fun u0 u1 u2 u3 G => f222 h u0 u1 u2 u3 G) vs G)) (
Ref.fork (
Ref.leaf (y := fun f => (E orc).cl f vs G) (Ref.app1 (fun u0 G => f223 h u0 G) vs G)) (
Ref.leaf (y := fun f => (E orc).cl f vs G) (Ref.app1 (fun u0 G => f235 h u0 G) vs G)))) (
Ref.fork (
Ref.leaf (y := fun f => (E orc).cl f vs G) (Ref.app0 (fun ho G => f236 h ho G) vs G)) (
Ref.fork (
Ref.leaf (y := fun f => (E orc).cl f vs G) (Ref.app2 (fun u0 u1 G => f237 h u0 u1 G) vs G)) (
Ref.leaf (y := fun f => (E orc).cl f vs G) (Ref.app2 (fun u0 u1 G => f238 h u0 u1 G) vs G))))) (
Ref.fork (
Ref.fork (
Ref.leaf (y := fun f => (E orc).cl f vs G) (Ref.app2 (fun u0 u1 G => f239 h u0 u1 G) vs G)) (
Ref.fork (
Ref.leaf (y := fun f => (E orc).cl f vs G) (Ref.app2 (fun u0 u1 G => f240 h u0 u1 G) vs G)) (
Ref.leaf (y := fun f => (E orc).cl f vs G) (Ref.app1 (fun u0 G => f241 h u0 G) vs G)))) (
Ref.fork (
Ref.fork (
Ref.leaf (y := fun f => (E orc).cl f vs G) (Ref.app1 (fun u0 G => f242 h u0 G) vs G)) (
Ref.leaf (y := fun f => (E orc).cl f vs G) (Ref.app1 (fun u0 G => f243 h u0 G) vs G))) (
Ref.fork (
Ref.leaf (y := fun f => (E orc).cl f vs G) (Ref.app1 (fun u0 G => f244 h u0 G) vs G)) (
Ref.leaf (y := fun f => (E orc).cl f vs G) (Ref.app4 (fun u0 u1 u2 u3 G => f245 h u0 u1 u2 u3 G) vs G))))))) (
Ref.fork (
Ref.fork (
Ref.fork (
Ref.fork (
Ref.leaf (y := fun f => (E orc).cl f vs G) (Ref.app2 (fun u0 u1 G => f246 h u0 u1 G) vs G)) (
Ref.fork (
Ref.leaf (y := fun f => (E orc).cl f vs G) (Ref.app4 (fun u0 u1 u2 u3 G => f247 h u0 u1 u2 u3 G) vs G)) (
Ref.leaf (y := fun f => (E orc).cl f vs G) (Ref.app5 (fun u0 u1 u2 u3 u4 G => f248 h u0 u1 u2 u3 u4 G) vs G)))) (
Ref.fork (
Ref.leaf (y := fun f => (E orc).cl f vs G) (Ref.app3 (fun u0 u1 u2 G => f249 h u0 u1 u2 G) vs G)) (
Ref.fork (
Ref.leaf (y := fun f => (E orc).cl f vs G) (Ref.app1 (fun u0 G => f250 h u0 G) vs G)) (
Ref.leaf (y := fun f => (E orc).cl f vs G) (Ref.app2 (fun u0 u1 G => f251 h u0 u1 G) vs G))))) (
Ref.fork (
Ref.fork (
Ref.leaf (y := fun f => (E orc).cl f vs G) (Ref.app3 (fun u0 u1 u2 G => f256 h u0 u1 u2 G) vs G)) (
Ref.fork (
Ref.leaf (y := fun f => (E orc).cl f vs G) (Ref.app2 (fun u0 u1 G => f257 h u0 u1 G) vs G)) (
Ref.leaf (y := fun f => (E orc).cl f vs G) (Ref.app2 (fun u0 u1 G => f258 h u0 u1 G) vs G)))) (
Ref.fork (
Ref.leaf (y := fun f => (E orc).cl f vs G) (Ref.app1 (fun u0 G => f259 h u0 G) vs G)) (
Ref.fork (
Ref.leaf (y := fun f => (E orc).cl f vs G) (Ref.app0 (fun ho G => f260 h ho G) vs G)) (
Ref.leaf (y := fun f => (E orc).cl f vs G) (Ref.app2 (fun u0 u1 G => f261 h u0 u1 G) vs G)))))) (
Ref.fork (
Ref.fork (
Ref.fork (
Ref.leaf (y := fun f => (E orc).cl f vs G) (Ref.app1 (fun u0 G => f262 h u0 G) vs G)) (
Ref.fork (
Ref.leaf (y := fun f => (E orc).cl f vs G) (Ref.app2 (fun u0 u1 G => f263 h u0 u1 G) vs G)) (
Ref.leaf (y := fun f => (E orc).cl f vs G) (Ref.app1 (fun u0 G => f264 h u0 G) vs G)))) (
Ref.fork (
Ref.leaf (y := fun f => (E orc).cl f vs G) (Ref.app2 (fun u0 u1 G => f265 h u0 u1 G) vs G)) (
Ref.fork (
Ref.leaf (y := fun f => (E orc).cl f vs G) (Ref.app3 (fun u0 u1 u2 G => f273 h u0 u1 u2 G) vs G)) (
Ref.leaf (y := fun f => (E orc).cl f vs G) (Ref.app1 (fun u0 G => f274 h u0 G) vs G))))) (
Ref.fork (
Ref.fork (
Ref.leaf (y := fun f => (E orc).cl f vs G) (Ref.app4 (fun u0 u1 u2 u3 G => f276 h u0 u1 u2 u3 G) vs G)) (
Ref.fork (
Ref.leaf (y := fun f => (E orc).cl f vs G) (Ref.app2 (fun u0 u1 G => f278 h u0 u1 G) vs G)) (
Ref.leaf (y := fun f => (E orc).cl f vs G) (Ref.app2 (fun u0 u1 G => f282 h u0 u1 G) vs G)))) (
Ref.fork (
Ref.fork (
Ref.leaf (y := fun f => (E orc).cl f vs G) (Ref.app1 (fun u0 G => f283 h u0 G) vs G)) (
Ref.leaf (y := fun f => (E orc).cl f vs G) (Ref.app2 (fun u0 u1 G => f286 h u0 u1 G) vs G))) (
Ref.fork (
Ref.leaf (y := fun f => (E orc).cl f vs G) (Ref.app3 (fun u0 u1 u2 G => f290 h u0 u1 u2 G) vs G)) (
Ref.leaf (y := fun f => (E orc).cl f vs G) (Ref.app3 (fun u0 u1 u2 G => f296 h u0 u1 u2 G) vs G)))))))) (
Ref.fork (
Ref.fork (
Ref.fork (
Ref.fork (
Ref.fork (
Ref.leaf (y := fun f => (E orc).cl f vs G) (Ref.app1 (fun u0 G => f299 h u0 G) vs G)) (
Ref.fork (
Ref.leaf (y := fun f => (E orc).cl f vs G) (Ref.app2 (fun u0 u1 G => f317 h u0 u1 G) vs G)) (
Ref.leaf (y := fun f => (E orc).cl f vs G) (Ref.app2 (fun u0 u1 G => f318 h u0 u1 G) vs G)))) (
Ref.fork (
Ref.leaf (y := fun f => (E orc).cl f vs G) (Ref.app1 (fun u0 G => f319 h u0 G) vs G)) (
Ref.fork (
Ref.leaf (y := fun f => (E orc).cl f vs G) (Ref.app2 (fun u0 u1 G => f320 h u0 u1 G) vs G)) (
Ref.leaf (y := fun f => (E orc).cl f vs G) (Ref.app3 (fun u0 u1 u2 G => f321 h u0 u1 u2 G) vs G))))) (
Ref.fork (
Ref.fork (
Ref.leaf (y := fun f => (E orc).cl f vs G) (Ref.app2 (fun u0 u1 G => f322 h u0 u1 G) vs G)) (
Ref.fork (
Ref.leaf (y := fun f => (E orc).cl f vs G) (Ref.app1 (fun u0 G => f323 h u0 G) vs G)) (
Ref.leaf (y := fun f => (E orc).cl f vs G) (Ref.app2 (fun u0 u1 G => f324 h u0 u1 G) vs G)))) (
Ref.fork (
Ref.leaf (y := fun f => (E orc).cl f vs G) (Ref.app2 (fun u0 u1 G => f326 h u0 u1 G) vs G)) (
Ref.fork (
Ref.leaf (y := fun f => (E orc).cl f vs G) (Ref.app2 (fun u0 u1 G => f327 h u0 u1 G) vs G)) (
Ref.leaf (y := fun f => (E orc).cl f vs G) (Ref.app2 (fun u0 u1 G => f328 h u0 u1 G) vs G)))))) (
Ref.fork (
Ref.fork (
Ref.fork (
Ref.leaf (y := fun f => (E orc).cl f vs G) (Ref.app2 (fun u0 u1 G => f329 h u0 u1 G) vs G)) (
Ref.fork (
Ref.leaf (y := fun f => (E orc).cl f vs G) (Ref.app2 (fun u0 u1 G => f330 h u0 u1 G) vs G)) (
Ref.leaf (y := fun f => (E orc).cl f vs G) (Ref.app2 (fun u0 u1 G => f332 h u0 u1 G) vs G)))) (
Ref.fork (
Ref.leaf (y := fun f => (E orc).cl f vs G) (Ref.app1 (fun u0 G => f333 h u0 G) vs G)) (
Ref.fork (
Ref.leaf (y := fun f => (E orc).cl f vs G) (Ref.app1 (fun u0 G => f334 h u0 G) vs G)) (
Ref.leaf (y := fun f => (E orc).cl f vs G) (Ref.app2 (fun u0 u1 G => f335 h u0 u1 G) vs G))))) (
Ref.fork (
Ref.fork (
Ref.leaf (y := fun f => (E orc).cl f vs G) (Ref.app2 (fun u0 u1 G => f336 h u0 u1 G) vs G)) (
Ref.fork (
Ref.leaf (y := fun f => (E orc).cl f vs G) (Ref.app1 (fun u0 G => f337 h u0 G) vs G)) (
Ref.leaf (y := fun f => (E orc).cl f vs G) (Ref.app2 (fun u0 u1 G => f338 h u0 u1 G) vs G)))) (
Ref.fork (
Ref.fork (
Ref.leaf (y := fun f => (E orc).cl f vs G) (Ref.app2 (fun u0 u1 G => f339 h u0 u1 G) vs G)) (
Ref.leaf (y := fun f => (E orc).cl f vs G) (Ref.app0 (fun ho G => f340 h ho G) vs G))) (
Ref.fork (
Ref.leaf (y := fun f => (E orc).cl f vs G) (Ref.app2 (fun u0 u1 G => f341 h u0 u1 G) vs G)) (
Ref.leaf (y := fun f => (E orc).cl f vs G) (Ref.app2 (fun u0 u1 G => f342 h u0 u1 G) vs G))))))) (
Ref.fork (
Ref.fork (
Ref.fork (
Ref.fork (
Ref.leaf (y := fun f => (E orc).cl f vs G) (Ref.app2 (fun u0 u1 G => f343 h u0 u1 G) vs G)) (
Ref.fork (
Ref.leaf (y := fun f => (E orc).cl f vs G) (Ref.app2 (fun u0 u1 G => f344 h u0 u1 G) vs G)) (
Ref.leaf (y := fun f => (E orc).cl f vs G) (Ref.app2 (fun u0 u1 G => f345 h u0 u1 G) vs G)))) (
Ref.fork (
Ref.leaf (y := fun f => (E orc).cl f vs G) (Ref.app2 (fun u0 u1 G => f346 h u0 u1 G) vs G)) (
Ref.fork (
Ref.leaf (y := fun f => (E orc).cl f vs G) (Ref.app2 (fun u0 u1 G => f347 h u0 u1 G) vs G)) (
Ref.leaf (y := fun f => (E orc).cl f vs G) (Ref.app2 (fun u0 u1 G => f348 h u0 u1 G) vs G))))) (
Ref.fork (
Ref.fork (
Ref.leaf (y := fun f => (E orc).cl f vs G) (Ref.app2 (fun u0 u1 G => f349 h u0 u1 G) vs G)) (
Ref.fork (
Ref.leaf (y := fun f => (E orc).cl f vs G) (Ref.app2 (fun u0 u1 G => f350 h u0 u1 G) vs G)) (
Ref.leaf (y := fun f => (E orc).cl f vs G) (Ref.app2 (fun u0 u1 G => f351 h u0 u1 G) vs G)))) (
Ref.fork (
Ref.leaf (y := fun f => (E orc).cl f vs G) (Ref.app2 (fun u0 u1 G => f352 h u0 u1 G) vs G)) (
Ref.fork (
Ref.leaf (y := fun f => (E orc).cl f vs G) (Ref.app2 (fun u0 u1 G => f353 h u0 u1 G) vs G)) (
Ref.leaf (y := fun f => (E orc).cl f vs G) (Ref.app1 (fun u0 G => f354 h u0 G) vs G)))))) (
Ref.fork (
Ref.fork (
Ref.fork (
Ref.leaf (y := fun f => (E orc).cl f vs G) (Ref.app2 (fun u0 u1 G => f355 h u0 u1 G) vs G)) (
Ref.fork (
Ref.leaf (y := fun f => (E orc).cl f vs G) (Ref.app1 (fun u0 G => f356 h u0 G) vs G)) (
Ref.leaf (y := fun f => (E orc).cl f vs G) (Ref.app3 (fun u0 u1 u2 G => f357 h u0 u1 u2 G) vs G)))) (
Ref.fork (
Ref.leaf (y := fun f => (E orc).cl f vs G) (Ref.app5 (fun u0 u1 u2 u3 u4 G => f358 h u0 u1 u2 u3 u4 G) vs G)) (
Ref.fork (
Ref.leaf (y := fun f => (E orc).cl f vs G) (Ref.app2 (fun u0 u1 G => f361 h u0 u1 G) vs G)) (
Ref.leaf (y := fun f => (E orc).cl f vs G) (Ref.app1 (fun u0 G => f362 h u0 G) vs G))))) (
Ref.fork (
Ref.fork (
Ref.leaf (y := fun f => (E orc).cl f vs G) (Ref.app1 (fun u0 G => f363 h u0 G) vs G)) (
Ref.fork (
Ref.leaf (y := fun f => (E orc).cl f vs G) (Ref.app1 (fun u0 G => f364 h u0 G) vs G)) (
Ref.leaf (y := fun f => (E orc).cl f vs G) (Ref.app1 (fun u0 G => f365 h u0 G) vs G)))) (
Ref.fork (
Ref.fork (
Ref.leaf (y := fun f => (E orc).cl f vs G) (Ref.app2 (fun u0 u1 G => f368 h u0 u1 G) vs G)) (
Ref.leaf (y := fun f => (E orc).cl f vs G) (Ref.app1 (fun u0 G => f369 h u0 G) vs G))) (
Ref.fork (
Ref.leaf (y := fun f => (E orc).cl f vs G) (Ref.app1 (fun u0 G => f370 h u0 G) vs G)) (
Ref.leaf (y := fun f => (E orc).cl f vs G) (Ref.app1 (fun u0 G => f371 h u0 G) vs G)))))))))
noncomputable def lpT (FUEL : Nat) (e : Ex) (f k : Nat) (τ : Env) (G : GS) : Option (Exit × Env × GS) :=
  fork f 92 (
fork f 24 (
fork f 20 (
fork f 11 (
leaf f 11 (leaf k 0 (lpS 30 (b11_0 true e) FUEL τ G))) (
fork f 13 (
leaf f 13 (leaf k 0 (lpS 31 (b13_0 true e) FUEL τ G))) (
leaf f 20 (leaf k 0 (lpS 24 (b20_0 true e) FUEL τ G))))) (
fork f 21 (
leaf f 21 (leaf k 0 (lpS 26 (b21_0 true e) FUEL τ G))) (
fork f 22 (
leaf f 22 (leaf k 0 (lpS 34 (b22_0 true e) FUEL τ G))) (
leaf f 24 (leaf k 0 (lpS 42 (b24_0 true e) FUEL τ G)))))) (
fork f 52 (
fork f 49 (
leaf f 49 (leaf k 0 (lpS 44 (b49_0 true e) FUEL τ G))) (
fork f 50 (
leaf f 50 (leaf k 0 (lpS 47 (b50_0 true e) FUEL τ G))) (
leaf f 52 (leaf k 0 (lpS 30 (b52_0 true e) FUEL τ G))))) (
fork f 82 (
fork f 57 (
leaf f 57 (leaf k 0 (lpS 23 (b57_0 true e) FUEL τ G))) (
leaf f 82 (leaf k 0 (lpS 25 (b82_0 true e) FUEL τ G)))) (
fork f 91 (
leaf f 91 (leaf k 0 (lpS 44 (b91_0 true e) FUEL τ G))) (
leaf f 92 (leaf k 0 (lpS 18 (b92_0 true e) FUEL τ G))))))) (
fork f 237 (
fork f 149 (
fork f 96 (
leaf f 96 (leaf k 0 (lpS 29 (b96_0 true e) FUEL τ G))) (
fork f 139 (
leaf f 139 (leaf k 0 (lpS 34 (b139_0 true e) FUEL τ G))) (
leaf f 149 (leaf k 0 (lpS 91 (b149_0 true e) FUEL τ G))))) (
fork f 176 (
leaf f 176 (leaf k 0 (lpS 18 (b176_0 true e) FUEL τ G))) (
fork f 235 (
leaf f 235 (leaf k 0 (lpS 24 (b235_0 true e) FUEL τ G))) (
leaf f 237 (leaf k 0 (lpS 24 (b237_0 true e) FUEL τ G)))))) (
fork f 342 (
fork f 290 (
leaf f 290 (leaf k 0 (lpS 25 (b290_0 true e) FUEL τ G))) (
fork f 336 (
leaf f 336 (leaf k 0 (lpS 36 (b336_0 true e) FUEL τ G))) (
leaf f 342 (leaf k 0 (lpS 66 (b342_0 true e) FUEL τ G))))) (
fork f 361 (
fork f 354 (
leaf f 354 (leaf k 0 (lpS 20 (b354_0 true e) FUEL τ G))) (
leaf f 361 (leaf k 0 (lpS 195 (b361_0 true e) FUEL τ G)))) (
fork f 364 (
leaf f 364 (leaf k 0 (lpS 20 (b364_0 true e) FUEL τ G))) (
leaf f 365 (leaf k 0 (lpS 20 (b365_0 true e) FUEL τ G)))))))
theorem lpT_ok {orc : FuncId → Bool} {e : Ex} (h : ExLe Q e (E orc)) (FUEL f k : Nat) (τ : Env) (G : GS) : Ref (lpT FUEL e f k τ G) (mapE ((E orc).lp (codeAt Q f k) (lst (nOf Q f) τ) G)) :=
  Ref.fork (
Ref.fork (
Ref.fork (
Ref.fork (
Ref.leaf (y := fun f => mapE ((E orc).lp (codeAt Q f k) (lst (nOf Q f) τ) G)) (Ref.leaf (y := fun k => mapE ((E orc).lp (codeAt Q 11 k) (lst (nOf Q 11) τ) G)) (lp_leaf (c := (subAt [1, 1, 0, 1, 0, 0] (bodyOf Tryz.f11))) (l11_0 h) _ _ _))) (
Ref.fork (
Ref.leaf (y := fun f => mapE ((E orc).lp (codeAt Q f k) (lst (nOf Q f) τ) G)) (Ref.leaf (y := fun k => mapE ((E orc).lp (codeAt Q 13 k) (lst (nOf Q 13) τ) G)) (lp_leaf (c := (subAt [1, 1, 0, 1, 0, 0] (bodyOf Tryz.f13))) (l13_0 h) _ _ _))) (
Ref.leaf (y := fun f => mapE ((E orc).lp (codeAt Q f k) (lst (nOf Q f) τ) G)) (Ref.leaf (y := fun k => mapE ((E orc).lp (codeAt Q 20 k) (lst (nOf Q 20) τ) G)) (lp_leaf (c := (subAt [1, 1, 1, 1, 0, 0] (bodyOf Tryz.f20))) (l20_0 h) _ _ _))))) (
Ref.fork (
Ref.leaf (y := fun f => mapE ((E orc).lp (codeAt Q f k) (lst (nOf Q f) τ) G)) (Ref.leaf (y := fun k => mapE ((E orc).lp (codeAt Q 21 k) (lst (nOf Q 21) τ) G)) (lp_leaf (c := (subAt [1, 1, 1, 0, 0] (bodyOf Tryz.f21))) (l21_0 h) _ _ _))) (
Ref.fork (
Ref.leaf (y := fun f => mapE ((E orc).lp (codeAt Q f k) (lst (nOf Q f) τ) G)) (Ref.leaf (y := fun k => mapE ((E orc).lp (codeAt Q 22 k) (lst (nOf Q 22) τ) G)) (lp_leaf (c := (subAt [1, 1, 0, 1, 0, 0] (bodyOf Tryz.f22))) (l22_0 h) _ _ _))) (
Ref.leaf (y := fun f => mapE ((E orc).lp (codeAt Q f k) (lst (nOf Q f) τ) G)) (Ref.leaf (y := fun k => mapE ((E orc).lp (codeAt Q 24 k) (lst (nOf Q 24) τ) G)) (lp_leaf (c := (subAt [1, 1, 1, 0, 1, 0, 0] (bodyOf Tryz.f24))) (l24_0 h) _ _ _)))))) (
Ref.fork (
Ref.fork (
Ref.leaf (y := fun f => mapE ((E orc).lp (codeAt Q f k) (lst (nOf Q f) τ) G)) (Ref.leaf (y := fun k => mapE ((E orc).lp (codeAt Q 49 k) (lst (nOf Q 49) τ) G)) (lp_leaf (c := (subAt [1, 1, 1, 0, 1, 0, 0] (bodyOf Tryz.f49))) (l49_0 h) _ _ _))) (
Ref.fork (
Ref.leaf (y := fun f => mapE ((E orc).lp (codeAt Q f k) (lst (nOf Q f) τ) G)) (Ref.leaf (y := fun k => mapE ((E orc).lp (codeAt Q 50 k) (lst (nOf Q 50) τ) G)) (lp_leaf (c := (subAt [1, 1, 0, 1, 0, 0] (bodyOf Tryz.f50))) (l50_0 h) _ _ _))) (
Ref.leaf (y := fun f => mapE ((E orc).lp (codeAt Q f k) (lst (nOf Q f) τ) G)) (Ref.leaf (y := fun k => mapE ((E orc).lp (codeAt Q 52 k) (lst (nOf Q 52) τ) G)) (lp_leaf (c := (subAt [1, 1, 0, 1, 0, 0] (bodyOf Tryz.f52))) (l52_0 h) _ _ _))))) (
Ref.fork (
Ref.fork (
Ref.leaf (y := fun f => mapE ((E orc).lp (codeAt Q f k) (lst (nOf Q f) τ) G)) (Ref.leaf (y := fun k => mapE ((E orc).lp (codeAt Q 57 k) (lst (nOf Q 57) τ) G)) (lp_leaf (c := (subAt [1, 1, 1, 1, 0, 0] (bodyOf Tryz.f57))) (l57_0 h) _ _ _))) (
Ref.leaf (y := fun f => mapE ((E orc).lp (codeAt Q f k) (lst (nOf Q f) τ) G)) (Ref.leaf (y := fun k => mapE ((E orc).lp (codeAt Q 82 k) (lst (nOf Q 82) τ) G)) (lp_leaf (c := (subAt [1, 1, 0, 1, 0, 0] (bodyOf Tryz.f82))) (l82_0 h) _ _ _)))) (
Ref.fork (
Ref.leaf (y := fun f => mapE ((E orc).lp (codeAt Q f k) (lst (nOf Q f) τ) G)) (Ref.leaf (y := fun k => mapE ((E orc).lp (codeAt Q 91 k) (lst (nOf Q 91) τ) G)) (lp_leaf (c := (subAt [1, 1, 1, 1, 0, 1, 0, 0] (bodyOf Tryz.f91))) (l91_0 h) _ _ _))) (
Ref.leaf (y := fun f => mapE ((E orc).lp (codeAt Q f k) (lst (nOf Q f) τ) G)) (Ref.leaf (y := fun k => mapE ((E orc).lp (codeAt Q 92 k) (lst (nOf Q 92) τ) G)) (lp_leaf (c := (subAt [1, 0, 1, 0, 0] (bodyOf Tryz.f92))) (l92_0 h) _ _ _))))))) (
Ref.fork (
Ref.fork (
Ref.fork (
Ref.leaf (y := fun f => mapE ((E orc).lp (codeAt Q f k) (lst (nOf Q f) τ) G)) (Ref.leaf (y := fun k => mapE ((E orc).lp (codeAt Q 96 k) (lst (nOf Q 96) τ) G)) (lp_leaf (c := (subAt [1, 1, 1, 1, 1, 0, 0] (bodyOf Tryz.f96))) (l96_0 h) _ _ _))) (
Ref.fork (
Ref.leaf (y := fun f => mapE ((E orc).lp (codeAt Q f k) (lst (nOf Q f) τ) G)) (Ref.leaf (y := fun k => mapE ((E orc).lp (codeAt Q 139 k) (lst (nOf Q 139) τ) G)) (lp_leaf (c := (subAt [1, 1, 1, 1, 0, 0] (bodyOf Tryz.f139))) (l139_0 h) _ _ _))) (
Ref.leaf (y := fun f => mapE ((E orc).lp (codeAt Q f k) (lst (nOf Q f) τ) G)) (Ref.leaf (y := fun k => mapE ((E orc).lp (codeAt Q 149 k) (lst (nOf Q 149) τ) G)) (lp_leaf (c := (subAt [1, 0, 1, 1, 1, 1, 1, 0, 0] (bodyOf Tryz.f149))) (l149_0 h) _ _ _))))) (
Ref.fork (
Ref.leaf (y := fun f => mapE ((E orc).lp (codeAt Q f k) (lst (nOf Q f) τ) G)) (Ref.leaf (y := fun k => mapE ((E orc).lp (codeAt Q 176 k) (lst (nOf Q 176) τ) G)) (lp_leaf (c := (subAt [1, 0, 0] (bodyOf Tryz.f176))) (l176_0 h) _ _ _))) (
Ref.fork (
Ref.leaf (y := fun f => mapE ((E orc).lp (codeAt Q f k) (lst (nOf Q f) τ) G)) (Ref.leaf (y := fun k => mapE ((E orc).lp (codeAt Q 235 k) (lst (nOf Q 235) τ) G)) (lp_leaf (c := (subAt [1, 0, 1, 0, 0] (bodyOf Tryz.f235))) (l235_0 h) _ _ _))) (
Ref.leaf (y := fun f => mapE ((E orc).lp (codeAt Q f k) (lst (nOf Q f) τ) G)) (Ref.leaf (y := fun k => mapE ((E orc).lp (codeAt Q 237 k) (lst (nOf Q 237) τ) G)) (lp_leaf (c := (subAt [1, 1, 0, 1, 0, 0] (bodyOf Tryz.f237))) (l237_0 h) _ _ _)))))) (
Ref.fork (
Ref.fork (
Ref.leaf (y := fun f => mapE ((E orc).lp (codeAt Q f k) (lst (nOf Q f) τ) G)) (Ref.leaf (y := fun k => mapE ((E orc).lp (codeAt Q 290 k) (lst (nOf Q 290) τ) G)) (lp_leaf (c := (subAt [1, 1, 0, 0] (bodyOf Tryz.f290))) (l290_0 h) _ _ _))) (
Ref.fork (
Ref.leaf (y := fun f => mapE ((E orc).lp (codeAt Q f k) (lst (nOf Q f) τ) G)) (Ref.leaf (y := fun k => mapE ((E orc).lp (codeAt Q 336 k) (lst (nOf Q 336) τ) G)) (lp_leaf (c := (subAt [1, 1, 0, 1, 0, 0] (bodyOf Tryz.f336))) (l336_0 h) _ _ _))) (
Ref.leaf (y := fun f => mapE ((E orc).lp (codeAt Q f k) (lst (nOf Q f) τ) G)) (Ref.leaf (y := fun k => mapE ((E orc).lp (codeAt Q 342 k) (lst (nOf Q 342) τ) G)) (lp_leaf (c := (subAt [1, 0, 1, 1, 0, 1, 0, 0] (bodyOf Tryz.f342))) (l342_0 h) _ _ _))))) (
Ref.fork (
Ref.fork (
Ref.leaf (y := fun f => mapE ((E orc).lp (codeAt Q f k) (lst (nOf Q f) τ) G)) (Ref.leaf (y := fun k => mapE ((E orc).lp (codeAt Q 354 k) (lst (nOf Q 354) τ) G)) (lp_leaf (c := (subAt [1, 1, 0, 1, 0, 0] (bodyOf Tryz.f354))) (l354_0 h) _ _ _))) (
Ref.leaf (y := fun f => mapE ((E orc).lp (codeAt Q f k) (lst (nOf Q f) τ) G)) (Ref.leaf (y := fun k => mapE ((E orc).lp (codeAt Q 361 k) (lst (nOf Q 361) τ) G)) (lp_leaf (c := (subAt [1, 0, 1, 1, 1, 1, 1, 0, 0, 0] (bodyOf Tryz.f361))) (l361_0 h) _ _ _)))) (
Ref.fork (
Ref.leaf (y := fun f => mapE ((E orc).lp (codeAt Q f k) (lst (nOf Q f) τ) G)) (Ref.leaf (y := fun k => mapE ((E orc).lp (codeAt Q 364 k) (lst (nOf Q 364) τ) G)) (lp_leaf (c := (subAt [1, 1, 0, 1, 0, 0] (bodyOf Tryz.f364))) (l364_0 h) _ _ _))) (
Ref.leaf (y := fun f => mapE ((E orc).lp (codeAt Q f k) (lst (nOf Q f) τ) G)) (Ref.leaf (y := fun k => mapE ((E orc).lp (codeAt Q 365 k) (lst (nOf Q 365) τ) G)) (lp_leaf (c := (subAt [1, 1, 0, 1, 0, 0] (bodyOf Tryz.f365))) (l365_0 h) _ _ _)))))))
noncomputable def kE (orc : FuncId → Bool) (n : Nat) : Ex := Nat.rec (motive := fun _ => Ex) ⟨Ev.zero, fun _ _ _ _ => none⟩ (fun _ e => ⟨⟨(evO Q orc 0).ex, clT orc e, (evO Q orc 2000).rd, (evO Q orc 2000).sc, (evO Q orc 0).lp⟩, lpT 6000 e⟩) n
theorem kE_ok (orc : FuncId → Bool) : ∀ n, ExLe Q (kE orc n) (E orc)
  | 0 => ⟨zero_le _, fun _ _ _ _ => .nil _⟩
  | n + 1 => ⟨⟨(le_evL Q orc 0).ex, fun f vs G r hr => clT_ok (kE_ok orc n) f vs G r hr, (le_evL Q orc 2000).rd, (le_evL Q orc 2000).sc, (le_evL Q orc 0).lp⟩, lpT_ok (kE_ok orc n) 6000⟩
/-- what the tables find true is true -/
theorem at_kE {orc : FuncId → Bool} {n f : Nat} {vs : List Value} (h : isTrue ((kE orc n).ev.cl f vs GS.empty) = true) : ∃ G', (E orc).cl f vs GS.empty = some (.bool true, G') := isTrue_of ((kE_ok orc n).ev.cl f vs GS.empty) h
theorem closed_kE {orc : FuncId → Bool} (ho : OrcOk Q orc) (hmix : Q.follows .mixedOrders = true) {n f : Nat} (h : isTrue ((kE orc n).ev.cl f [] GS.empty) = true) (w : World) : Calls Q f #[] w fun e w' => e = .returned (.bool true) ∧ Go.RowKit.Below w.heap.size w w' :=
  let ⟨_, hG⟩ := at_kE h
  law_plain hmix ho hG fun _ => trivial
end Go.Proofs.YtedmgpchggogpaaGreat.LiftK
