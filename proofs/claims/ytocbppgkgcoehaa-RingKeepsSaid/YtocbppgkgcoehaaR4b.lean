/- the program's code, spelled out by a program of ours (lift3.lean) -/
import Derived.Test.YtocbppgkgcoehaaR4a
namespace Go.Proofs.Ytocbppgkgcoehaa.Lift
open Go Go.Proofs.Ytocbppgkgcoehaa.Gh Go.Proofs
set_option linter.unusedVariables false
set_option maxRecDepth 100000
/-- (*coxswain/coxswainref02.Mem).CAS -/
noncomputable def s98 (q : Bool) (e : Ex) (v0 v1 v2 v3 : Value) (G : GS) : Option (Value × GS) :=
  bS (e.ev.cl 79 [v0, v1] G) fun x0 G1 =>
  bP (bn Q q .eql 31 (.tmp 13) (.tmp 14) x0 v2) fun x2 =>
  bS (e.ev.cl 95 [v0, (.int .i64 3), v1, x2, v3] G1) fun x3 G4 =>
  bP (pNil v0) fun x5 =>
  bP (fa Q q 133 1 1 x5) fun x6 =>
  bP (fa Q q 95 4 4 x6) fun x7 =>
  bP (ld Q q 4 x7 G4) fun x8 =>
  some (x8, G4)
theorem m98 {e : Ex} {E : Ev} (h : ExLe Q e E) (v0 v1 v2 v3 : Value) (G : GS) : Ref (s98 true e v0 v1 v2 v3 G) (s98 false (Ex.of E) v0 v1 v2 v3 G) := by
  unfold s98
  exact Ref.gq
theorem f98 {orc : FuncId → Bool} {e : Ex} (h : ExLe Q e (E orc)) (v0 v1 v2 v3 : Value) (G : GS) : Ref (s98 true e v0 v1 v2 v3 G) ((E orc).cl 98 [v0, v1, v2, v3] G) :=
  fun r hr => cl_sxE_some Q orc (vs := [v0, v1, v2, v3]) G Try.func98 (by kernel_rfl) (by kernel_rfl) (by kernel_rfl) (by kernel_rfl) (by kernel_rfl) (by kernel_rfl) (m98 h v0 v1 v2 v3 G r hr)
/-- coxswain/coxswainref14.told -/
noncomputable def s99 (q : Bool) (e : Ex) (v0 v1 : Value) (G : GS) : Option (Value × GS) :=
  bP (bn Q q .neq 3 (.tmp 5) (.const (.int .i64 9)) v0 (.int .i64 9)) fun x0 =>
  ifV x0 (
  some ((.int .i64 14), G)) (
  some (v1, G))
theorem m99 {e : Ex} {E : Ev} (h : ExLe Q e E) (v0 v1 : Value) (G : GS) : Ref (s99 true e v0 v1 G) (s99 false (Ex.of E) v0 v1 G) := by
  unfold s99
  exact Ref.gq
theorem f99 {orc : FuncId → Bool} {e : Ex} (h : ExLe Q e (E orc)) (v0 v1 : Value) (G : GS) : Ref (s99 true e v0 v1 G) ((E orc).cl 99 [v0, v1] G) :=
  fun r hr => cl_sxE_some Q orc (vs := [v0, v1]) G Try.func99 (by kernel_rfl) (by kernel_rfl) (by kernel_rfl) (by kernel_rfl) (by kernel_rfl) (by kernel_rfl) (m99 h v0 v1 G r hr)
/-- (coxswain/ring.slot).empty -/
noncomputable def s100 (q : Bool) (e : Ex) (v0 v1 : Value) (G : GS) : Option (Value × GS) :=
  bP (bn Q q .shr 51 (.tmp 5) (.const (.int .u64 32)) v0 (.int .u64 32)) fun x0 =>
  bP (cv Q q 51 138 .u64 .u32 x0) fun x1 =>
  bP (bn Q q .eql 138 (.tmp 7) (.tmp 8) x1 v1) fun x2 =>
  bS (gd x2 true (some (v0, G)) G) fun x3 G4 =>
  bS (gd x2 true (bP (bn Q q .and 51 (.tmp 11) (.const (.int .u64 65536)) x3 (.int .u64 65536)) fun y => some (y, G4)) G4) fun x5 G6 =>
  bS (gd x2 true (bP (bn Q q .eql 51 (.tmp 12) (.const (.int .u64 0)) x5 (.int .u64 0)) fun y => some (y, G6)) G6) fun x7 G8 =>
  bP (pickV x2 x7 (.bool false)) fun x9 =>
  some (x9, G8)
theorem m100 {e : Ex} {E : Ev} (h : ExLe Q e E) (v0 v1 : Value) (G : GS) : Ref (s100 true e v0 v1 G) (s100 false (Ex.of E) v0 v1 G) := by
  unfold s100
  exact Ref.gq
theorem f100 {orc : FuncId → Bool} {e : Ex} (h : ExLe Q e (E orc)) (v0 v1 : Value) (G : GS) : Ref (s100 true e v0 v1 G) ((E orc).cl 100 [v0, v1] G) :=
  fun r hr => cl_sxE_some Q orc (vs := [v0, v1]) G Try.func100 (by kernel_rfl) (by kernel_rfl) (by kernel_rfl) (by kernel_rfl) (by kernel_rfl) (by kernel_rfl) (m100 h v0 v1 G r hr)
/-- (*coxswain/ring.Push).lay -/
noncomputable def s101 (q : Bool) (e : Ex) (v0 v1 : Value) (G : GS) : Option (Value × GS) :=
  bP (pNil v0) fun x0 =>
  bP (fa Q q 53 0 0 x0) fun x1 =>
  bP (fa Q q 50 1 4 x1) fun x2 =>
  bP (st Q q 48 1 x2 (.func (.func 102) #[v0] #[]) G) fun G3 =>
  bP (pNil v0) fun x4 =>
  bP (fa Q q 53 0 0 x4) fun x5 =>
  bP (fa Q q 50 0 0 x5) fun x6 =>
  bP (lda Q q 28 4 x6 (G3.room 32)) fun x7 =>
  bP (pNil v0) fun x8 =>
  bP (fa Q q 53 2 8 x8) fun x9 =>
  bP (ld Q q 31 x9 (G3.room 32)) fun x10 =>
  bS (e.ev.cl 57 [x7, x10] (G3.room 32)) fun x12 G11 =>
  bP (pNil v0) fun x13 =>
  bP (fa Q q 53 3 9 x13) fun x14 =>
  bP (ld Q q 51 x14 G11) fun x15 =>
  chk ((sameO (ld Q q 51 x14 (G3.room 32)) x15 && true)) <|
  bP (pNil v0) fun x16 =>
  bP (fa Q q 53 0 0 x16) fun x17 =>
  bP (fa Q q 50 0 0 x17) fun x18 =>
  bP (lda Q q 28 4 x18 G11) fun x19 =>
  chk ((sameO (lda Q q 28 4 x18 (G3.room 32)) x19 && true)) <|
  bP (pNil v0) fun x20 =>
  bP (fa Q q 53 2 8 x20) fun x21 =>
  bP (ld Q q 31 x21 G11) fun x22 =>
  chk ((sameO (ld Q q 31 x21 (G3.room 32)) x22 && true)) <|
  bS (e.ev.cl 88 [x19, x22] G11) fun x24 G23 =>
  chk ((sameO (ld Q q 51 x14 G23) x15 && true)) <|
  bS (e.ev.cl 90 [x24] G23) fun x26 G25 =>
  chk ((sameO (ld Q q 51 x14 G25) x15 && true)) <|
  bP (pNil v0) fun x27 =>
  bP (fa Q q 53 1 7 x27) fun x28 =>
  bP (ld Q q 3 x28 G25) fun x29 =>
  chk ((sameO (ld Q q 3 x28 G23) x29 && (sameO (ld Q q 3 x28 G11) x29 && (sameO (ld Q q 3 x28 (G3.room 32)) x29 && true)))) <|
  bS (e.ev.cl 108 [x26, x29] G25) fun x31 G30 =>
  chk ((sameO (ld Q q 51 x14 G30) x15 && true)) <|
  bS (e.ev.cl 107 [v1, x12, x15, x31] G30) fun x33 G32 =>
  ifV x33 (
  bP (pNil v0) fun x34 =>
  bP (fa Q q 53 0 0 x34) fun x35 =>
  bP (fa Q q 50 1 4 x35) fun x36 =>
  bP (st Q q 48 1 x36 (.func (.func 109) #[v0] #[]) G32) fun G37 =>
  some (.tuple #[], G37)) (
  some (.tuple #[], G32))
theorem m101 {e : Ex} {E : Ev} (h : ExLe Q e E) (v0 v1 : Value) (G : GS) : Ref (s101 true e v0 v1 G) (s101 false (Ex.of E) v0 v1 G) := by
  unfold s101
  exact Ref.gq
theorem f101 {orc : FuncId → Bool} {e : Ex} (h : ExLe Q e (E orc)) (v0 v1 : Value) (G : GS) : Ref (s101 true e v0 v1 G) ((E orc).cl 101 [v0, v1] G) :=
  fun r hr => cl_sxE_some Q orc (vs := [v0, v1]) G Try.func101 (by kernel_rfl) (by kernel_rfl) (by kernel_rfl) (by kernel_rfl) (by kernel_rfl) (by kernel_rfl) (m101 h v0 v1 G r hr)
/-- (*coxswain/ring.Push).help -/
noncomputable def s102 (q : Bool) (e : Ex) (v0 v1 : Value) (G : GS) : Option (Value × GS) :=
  bP (pNil v0) fun x0 =>
  bP (fa Q q 53 0 0 x0) fun x1 =>
  bP (fa Q q 50 0 0 x1) fun x2 =>
  bP (fa Q q 28 1 1 x2) fun x3 =>
  bP (ld Q q 3 x3 (G.room 17)) fun x4 =>
  bP (pNil v0) fun x5 =>
  bP (fa Q q 53 2 8 x5) fun x6 =>
  bP (ld Q q 31 x6 (G.room 17)) fun x7 =>
  bP (pNil v0) fun x8 =>
  bP (fa Q q 53 2 8 x8) fun x9 =>
  bP (ld Q q 31 x9 (G.room 17)) fun x10 =>
  bP (bn Q q .add 31 (.tmp 18) (.const (.int .u64 1)) x10 (.int .u64 1)) fun x11 =>
  bS (e.ev.cl 107 [v1, x4, x7, x11] (G.room 17)) fun x13 G12 =>
  bP (pNil v0) fun x14 =>
  bP (fa Q q 53 0 0 x14) fun x15 =>
  bP (fa Q q 50 1 4 x15) fun x16 =>
  bP (st Q q 48 1 x16 (.func (.func 48) #[v0] #[]) G12) fun G17 =>
  some (.tuple #[], G17)
theorem m102 {e : Ex} {E : Ev} (h : ExLe Q e E) (v0 v1 : Value) (G : GS) : Ref (s102 true e v0 v1 G) (s102 false (Ex.of E) v0 v1 G) := by
  unfold s102
  exact Ref.gq
theorem f102 {orc : FuncId → Bool} {e : Ex} (h : ExLe Q e (E orc)) (v0 v1 : Value) (G : GS) : Ref (s102 true e v0 v1 G) ((E orc).cl 102 [v0, v1] G) :=
  fun r hr => cl_sxE_some Q orc (vs := [v0, v1]) G Try.func102 (by kernel_rfl) (by kernel_rfl) (by kernel_rfl) (by kernel_rfl) (by kernel_rfl) (by kernel_rfl) (m102 h v0 v1 G r hr)
/-- (*coxswain/coxswainlaw14.crew).slot -/
noncomputable def s103 (q : Bool) (e : Ex) (v0 : Value) (G : GS) : Option (Value × GS) :=
  bP (pNil v0) fun x0 =>
  bP (fa Q q 74 1 4 x0) fun x1 =>
  bP (ld Q q 22 x1 (G.room 13)) fun x2 =>
  bS (e.ev.cl 42 [x2] (G.room 13)) fun x4 G3 =>
  bP (fd Q q 95 1 1 x4) fun x5 =>
  bP (pNil v0) fun x6 =>
  bP (fa Q q 74 0 0 x6) fun x7 =>
  bP (fa Q q 28 2 2 x7) fun x8 =>
  bP (ld Q q 3 x8 G3) fun x9 =>
  chk ((sameO (ld Q q 3 x8 (G.room 13)) x9 && true)) <|
  bP (bn Q q .geq 3 (.tmp 8) (.tmp 13) x5 x9) fun x10 =>
  some (x10, G3)
theorem m103 {e : Ex} {E : Ev} (h : ExLe Q e E) (v0 : Value) (G : GS) : Ref (s103 true e v0 G) (s103 false (Ex.of E) v0 G) := by
  unfold s103
  exact Ref.gq
theorem f103 {orc : FuncId → Bool} {e : Ex} (h : ExLe Q e (E orc)) (v0 : Value) (G : GS) : Ref (s103 true e v0 G) ((E orc).cl 103 [v0] G) :=
  fun r hr => cl_sxE_some Q orc (vs := [v0]) G Try.func103 (by kernel_rfl) (by kernel_rfl) (by kernel_rfl) (by kernel_rfl) (by kernel_rfl) (by kernel_rfl) (m103 h v0 G r hr)
/-- coxswain/coxswainkit.CopyInts -/
noncomputable def s104 (q : Bool) (e : Ex) (v0 : Value) (G : GS) : Option (Value × GS) :=
  bS (bs Q q 38 0 (rep z3 0) 1 [] [] G) fun x0 G1 =>
  bS (ap Q q 38 38 1 8 x0 v0 G1) fun x2 G3 =>
  some (x2, G3)
theorem m104 {e : Ex} {E : Ev} (h : ExLe Q e E) (v0 : Value) (G : GS) : Ref (s104 true e v0 G) (s104 false (Ex.of E) v0 G) := by
  unfold s104
  exact Ref.gq
theorem f104 {orc : FuncId → Bool} {e : Ex} (h : ExLe Q e (E orc)) (v0 : Value) (G : GS) : Ref (s104 true e v0 G) ((E orc).cl 104 [v0] G) :=
  fun r hr => cl_sxE_some Q orc (vs := [v0]) G Try.func104 (by kernel_rfl) (by kernel_rfl) (by kernel_rfl) (by kernel_rfl) (by kernel_rfl) (by kernel_rfl) (m104 h v0 G r hr)
/-- (*coxswain/coxswainlaw14.crew).ends -/
noncomputable def s105 (q : Bool) (e : Ex) (v0 v1 v2 : Value) (G : GS) : Option (Value × GS) :=
  bS (bx q v2 G) fun x0 G1 =>
  bP (pNil v0) fun x2 =>
  bP (fa Q q 74 13 16 x2) fun x3 =>
  bP (ld Q q 3 x3 G1) fun x4 =>
  bP (bn Q q .add 3 (.tmp 9) (.const (.int .i64 1)) x4 (.int .i64 1)) fun x5 =>
  bP (pNil v0) fun x6 =>
  bP (fa Q q 74 13 16 x6) fun x7 =>
  bP (st Q q 3 1 x7 x5 G1) fun G8 =>
  bP (pNil v0) fun x9 =>
  bP (fa Q q 74 11 14 x9) fun x10 =>
  bP (ld Q q 72 x10 (G8.room 18)) fun x11 =>
  bP (pNil v0) fun x12 =>
  bP (fa Q q 74 12 15 x12) fun x13 =>
  bP (ld Q q 38 x13 (G8.room 18)) fun x14 =>
  bP (ias Q q 38 1 x14 v1) fun x15 =>
  bP (ld Q q 3 x15 (G8.room 18)) fun x16 =>
  bP (pNil v0) fun x17 =>
  bP (fa Q q 74 13 16 x17) fun x18 =>
  bP (ld Q q 3 x18 (G8.room 18)) fun x19 =>
  bP (ias Q q 72 10 x11 x16) fun x20 =>
  bP (fa Q q 146 2 2 x20) fun x21 =>
  bP (st Q q 3 1 x21 x19 (G8.room 18)) fun G22 =>
  bP (pNil v0) fun x23 =>
  bP (fa Q q 74 11 14 x23) fun x24 =>
  bP (ld Q q 72 x24 (G22.room 15)) fun x25 =>
  bP (pNil v0) fun x26 =>
  bP (fa Q q 74 12 15 x26) fun x27 =>
  bP (ld Q q 38 x27 (G22.room 15)) fun x28 =>
  bP (ias Q q 38 1 x28 v1) fun x29 =>
  bP (ld Q q 3 x29 (G22.room 15)) fun x30 =>
  bP (lda Q q 144 3 x0 (G22.room 15)) fun x31 =>
  bP (ias Q q 72 10 x25 x30) fun x32 =>
  bP (fa Q q 146 4 7 x32) fun x33 =>
  bP (st Q q 144 3 x33 x31 (G22.room 15)) fun G34 =>
  bP (pNil v0) fun x35 =>
  bP (fa Q q 74 12 15 x35) fun x36 =>
  bP (ld Q q 38 x36 G34) fun x37 =>
  bP (ias Q q 38 1 x37 v1) fun x38 =>
  bP (st Q q 3 1 x38 (.int .i64 (-1)) G34) fun G39 =>
  some (.tuple #[], G39)
theorem m105 {e : Ex} {E : Ev} (h : ExLe Q e E) (v0 v1 v2 : Value) (G : GS) : Ref (s105 true e v0 v1 v2 G) (s105 false (Ex.of E) v0 v1 v2 G) := by
  unfold s105
  exact Ref.gq
theorem f105 {orc : FuncId → Bool} {e : Ex} (h : ExLe Q e (E orc)) (v0 v1 v2 : Value) (G : GS) : Ref (s105 true e v0 v1 v2 G) ((E orc).cl 105 [v0, v1, v2] G) :=
  fun r hr => cl_sxE_some Q orc (vs := [v0, v1, v2]) G Try.func105 (by kernel_rfl) (by kernel_rfl) (by kernel_rfl) (by kernel_rfl) (by kernel_rfl) (by kernel_rfl) (m105 h v0 v1 v2 G r hr)
/-- coxswain/coxswainref14.empty -/
noncomputable def s106 (q : Bool) (e : Ex) (v0 v1 : Value) (G : GS) : Option (Value × GS) :=
  bP (bn Q q .shr 31 (.tmp 5) (.const (.int .u64 32)) v0 (.int .u64 32)) fun x0 =>
  bP (bn Q q .eql 31 (.tmp 6) (.tmp 7) x0 v1) fun x1 =>
  bS (gd x1 true (some (v0, G)) G) fun x2 G3 =>
  bS (gd x1 true (bP (bn Q q .shr 31 (.tmp 10) (.const (.int .u64 16)) x2 (.int .u64 16)) fun y => some (y, G3)) G3) fun x4 G5 =>
  bS (gd x1 true (bP (bn Q q .rem 31 (.tmp 11) (.const (.int .u64 2)) x4 (.int .u64 2)) fun y => some (y, G5)) G5) fun x6 G7 =>
  bS (gd x1 true (bP (bn Q q .eql 31 (.tmp 12) (.const (.int .u64 0)) x6 (.int .u64 0)) fun y => some (y, G7)) G7) fun x8 G9 =>
  bP (pickV x1 x8 (.bool false)) fun x10 =>
  some (x10, G9)
theorem m106 {e : Ex} {E : Ev} (h : ExLe Q e E) (v0 v1 : Value) (G : GS) : Ref (s106 true e v0 v1 G) (s106 false (Ex.of E) v0 v1 G) := by
  unfold s106
  exact Ref.gq
theorem f106 {orc : FuncId → Bool} {e : Ex} (h : ExLe Q e (E orc)) (v0 v1 : Value) (G : GS) : Ref (s106 true e v0 v1 G) ((E orc).cl 106 [v0, v1] G) :=
  fun r hr => cl_sxE_some Q orc (vs := [v0, v1]) G Try.func106 (by kernel_rfl) (by kernel_rfl) (by kernel_rfl) (by kernel_rfl) (by kernel_rfl) (by kernel_rfl) (m106 h v0 v1 G r hr)
/-- (*coxswain/cells.Mem).CAS -/
noncomputable def s107 (q : Bool) (e : Ex) (v0 v1 v2 v3 : Value) (G : GS) : Option (Value × GS) :=
  bS (e.ev.cl 49 [v0, v1] G) fun x0 G1 =>
  bP (bd Q q 104 z104 [(0, 0, 1), (1, 1, 1), (2, 2, 1)] [x0, v2, v3]) fun x2 =>
  bS (al Q q 104 z104 G1) fun x3 G4 =>
  bP (st Q q 104 3 x3 x2 G4) fun G5 =>
  bP (fa Q q 104 0 0 x3) fun x6 =>
  bP (ld Q q 101 x6 G5) fun x7 =>
  bP (lda Q q 104 3 x3 G5) fun x8 =>
  bS (e.ev.cl 50 [v0, (.int .i64 3), v1, x7, (.func (.func 110) #[x8] #[])] G5) fun x9 G10 =>
  bP (fd Q q 95 4 4 x9) fun x11 =>
  some (x11, G10)
theorem m107 {e : Ex} {E : Ev} (h : ExLe Q e E) (v0 v1 v2 v3 : Value) (G : GS) : Ref (s107 true e v0 v1 v2 v3 G) (s107 false (Ex.of E) v0 v1 v2 v3 G) := by
  unfold s107
  exact Ref.gq
theorem f107 {orc : FuncId → Bool} {e : Ex} (h : ExLe Q e (E orc)) (v0 v1 v2 v3 : Value) (G : GS) : Ref (s107 true e v0 v1 v2 v3 G) ((E orc).cl 107 [v0, v1, v2, v3] G) :=
  fun r hr => cl_sxE_some Q orc (vs := [v0, v1, v2, v3]) G Try.func107 (by kernel_rfl) (by kernel_rfl) (by kernel_rfl) (by kernel_rfl) (by kernel_rfl) (by kernel_rfl) (m107 h v0 v1 v2 v3 G r hr)
/-- (coxswain/ring.slot).with -/
noncomputable def s108 (q : Bool) (e : Ex) (v0 v1 : Value) (G : GS) : Option (Value × GS) :=
  bP (bn Q q .andNot 51 (.tmp 5) (.const (.int .u64 65535)) v0 (.int .u64 65535)) fun x0 =>
  bP (bn Q q .or 51 (.tmp 6) (.const (.int .u64 65536)) x0 (.int .u64 65536)) fun x1 =>
  bP (cv Q q 3 51 .i64 .u64 v1) fun x2 =>
  bP (bn Q q .or 51 (.tmp 7) (.tmp 9) x1 x2) fun x3 =>
  some (x3, G)
theorem m108 {e : Ex} {E : Ev} (h : ExLe Q e E) (v0 v1 : Value) (G : GS) : Ref (s108 true e v0 v1 G) (s108 false (Ex.of E) v0 v1 G) := by
  unfold s108
  exact Ref.gq
theorem f108 {orc : FuncId → Bool} {e : Ex} (h : ExLe Q e (E orc)) (v0 v1 : Value) (G : GS) : Ref (s108 true e v0 v1 G) ((E orc).cl 108 [v0, v1] G) :=
  fun r hr => cl_sxE_some Q orc (vs := [v0, v1]) G Try.func108 (by kernel_rfl) (by kernel_rfl) (by kernel_rfl) (by kernel_rfl) (by kernel_rfl) (by kernel_rfl) (m108 h v0 v1 G r hr)
/-- (*coxswain/ring.Push).last -/
noncomputable def s109 (q : Bool) (e : Ex) (v0 v1 : Value) (G : GS) : Option (Value × GS) :=
  bP (pNil v0) fun x0 =>
  bP (fa Q q 53 0 0 x0) fun x1 =>
  bP (fa Q q 50 0 0 x1) fun x2 =>
  bP (fa Q q 28 1 1 x2) fun x3 =>
  bP (ld Q q 3 x3 (G.room 17)) fun x4 =>
  bP (pNil v0) fun x5 =>
  bP (fa Q q 53 2 8 x5) fun x6 =>
  bP (ld Q q 31 x6 (G.room 17)) fun x7 =>
  bP (pNil v0) fun x8 =>
  bP (fa Q q 53 2 8 x8) fun x9 =>
  bP (ld Q q 31 x9 (G.room 17)) fun x10 =>
  bP (bn Q q .add 31 (.tmp 18) (.const (.int .u64 1)) x10 (.int .u64 1)) fun x11 =>
  bS (e.ev.cl 107 [v1, x4, x7, x11] (G.room 17)) fun x13 G12 =>
  bP (pNil v0) fun x14 =>
  bP (fa Q q 53 0 0 x14) fun x15 =>
  bS (e.ev.cl 47 [x15, (.int .i64 0)] G12) fun x16 G17 =>
  some (.tuple #[], G17)
theorem m109 {e : Ex} {E : Ev} (h : ExLe Q e E) (v0 v1 : Value) (G : GS) : Ref (s109 true e v0 v1 G) (s109 false (Ex.of E) v0 v1 G) := by
  unfold s109
  exact Ref.gq
theorem f109 {orc : FuncId → Bool} {e : Ex} (h : ExLe Q e (E orc)) (v0 v1 : Value) (G : GS) : Ref (s109 true e v0 v1 G) ((E orc).cl 109 [v0, v1] G) :=
  fun r hr => cl_sxE_some Q orc (vs := [v0, v1]) G Try.func109 (by kernel_rfl) (by kernel_rfl) (by kernel_rfl) (by kernel_rfl) (by kernel_rfl) (by kernel_rfl) (m109 h v0 v1 G r hr)
/-- (coxswain/cells.deed).swap -/
noncomputable def s110 (q : Bool) (e : Ex) (v0 : Value) (G : GS) : Option (Value × GS) :=
  bS (bx q v0 G) fun x0 G1 =>
  bP (fa Q q 104 0 0 x0) fun x2 =>
  bP (ld Q q 101 x2 (G1.room 7)) fun x3 =>
  bP (pNil x3) fun x4 =>
  bP (ld Q q 113 x4 (G1.room 7)) fun x5 =>
  bP (fa Q q 104 1 1 x0) fun x6 =>
  bP (ld Q q 31 x6 (G1.room 7)) fun x7 =>
  bP (bn Q q .neq 31 (.tmp 7) (.tmp 9) x5 x7) fun x8 =>
  ifV x8 (
  bP (fa Q q 104 0 0 x0) fun x9 =>
  bP (ld Q q 101 x9 (G1.room 7)) fun x10 =>
  bP (pNil x10) fun x11 =>
  bP (ld Q q 113 x11 (G1.room 7)) fun x12 =>
  some (.tuple #[x12, (.bool false)], (G1.room 7))) (
  bP (fa Q q 104 2 2 x0) fun x13 =>
  bP (ld Q q 31 x13 (G1.room 7)) fun x14 =>
  some (.tuple #[x14, (.bool true)], (G1.room 7)))
theorem m110 {e : Ex} {E : Ev} (h : ExLe Q e E) (v0 : Value) (G : GS) : Ref (s110 true e v0 G) (s110 false (Ex.of E) v0 G) := by
  unfold s110
  exact Ref.gq
theorem f110 {orc : FuncId → Bool} {e : Ex} (h : ExLe Q e (E orc)) (v0 : Value) (G : GS) : Ref (s110 true e v0 G) ((E orc).cl 110 [v0] G) :=
  fun r hr => cl_sxE_some Q orc (vs := [v0]) G Try.func110 (by kernel_rfl) (by kernel_rfl) (by kernel_rfl) (by kernel_rfl) (by kernel_rfl) (by kernel_rfl) (m110 h v0 G r hr)
noncomputable def clT (orc : FuncId → Bool) (e : Ex) (f : FuncId) (vs : List Value) (G : GS) : Option (Value × GS) :=
  fork f 56 (
fork f 29 (
fork f 16 (
fork f 9 (
fork f 6 (
fork f 3 (
leaf f 3 (app0 (orc 3) (hasTab Q G) (s3 true e) vs G)) (
fork f 5 (
leaf f 5 (app2 (s5 true e) vs G)) (
leaf f 6 (app4 (s6 true e) vs G)))) (
fork f 7 (
leaf f 7 (app0 (orc 7) (hasTab Q G) (s7 true e) vs G)) (
fork f 8 (
leaf f 8 (app4 (s8 true e) vs G)) (
leaf f 9 (app2 (s9 true e) vs G))))) (
fork f 12 (
fork f 10 (
leaf f 10 (app0 (orc 10) (hasTab Q G) (s10 true e) vs G)) (
fork f 11 (
leaf f 11 (app2 (s11 true e) vs G)) (
leaf f 12 (app3 (s12 true e) vs G)))) (
fork f 14 (
fork f 13 (
leaf f 13 (app2 (s13 true e) vs G)) (
leaf f 14 (app0 (orc 14) (hasTab Q G) (s14 true e) vs G))) (
fork f 15 (
leaf f 15 (app2 (s15 true e) vs G)) (
leaf f 16 (app1 (s16 true e) vs G)))))) (
fork f 22 (
fork f 19 (
fork f 17 (
leaf f 17 (app2 (s17 true e) vs G)) (
fork f 18 (
leaf f 18 (app2 (s18 true e) vs G)) (
leaf f 19 (app1 (s19 true e) vs G)))) (
fork f 20 (
leaf f 20 (app1 (s20 true e) vs G)) (
fork f 21 (
leaf f 21 (app2 (s21 true e) vs G)) (
leaf f 22 (app0 (orc 22) (hasTab Q G) (s22 true e) vs G))))) (
fork f 25 (
fork f 23 (
leaf f 23 (app1 (s23 true e) vs G)) (
fork f 24 (
leaf f 24 (app2 (s24 true e) vs G)) (
leaf f 25 (app2 (s25 true e) vs G)))) (
fork f 27 (
fork f 26 (
leaf f 26 (app1 (s26 true e) vs G)) (
leaf f 27 (app1 (s27 true e) vs G))) (
fork f 28 (
leaf f 28 (app2 (s28 true e) vs G)) (
leaf f 29 (app2 (s29 true e) vs G))))))) (
fork f 42 (
fork f 35 (
fork f 32 (
fork f 30 (
leaf f 30 (app1 (s30 true e) vs G)) (
fork f 31 (
leaf f 31 (app1 (s31 true e) vs G)) (
leaf f 32 (app2 (s32 true e) vs G)))) (
fork f 33 (
leaf f 33 (app2 (s33 true e) vs G)) (
fork f 34 (
leaf f 34 (app2 (s34 true e) vs G)) (
leaf f 35 (app3 (s35 true e) vs G))))) (
fork f 38 (
fork f 36 (
leaf f 36 (app2 (s36 true e) vs G)) (
fork f 37 (
leaf f 37 (app4 (s37 true e) vs G)) (
leaf f 38 (app2 (s38 true e) vs G)))) (
fork f 40 (
fork f 39 (
leaf f 39 (app2 (s39 true e) vs G)) (
leaf f 40 (app1 (s40 true e) vs G))) (
fork f 41 (
leaf f 41 (app1 (s41 true e) vs G)) (
leaf f 42 (app1 (s42 true e) vs G)))))) (
fork f 49 (
fork f 45 (
fork f 43 (
leaf f 43 (app1 (s43 true e) vs G)) (
fork f 44 (
leaf f 44 (app1 (s44 true e) vs G)) (
leaf f 45 (app1 (s45 true e) vs G)))) (
fork f 47 (
fork f 46 (
leaf f 46 (app1 (s46 true e) vs G)) (
leaf f 47 (app2 (s47 true e) vs G))) (
fork f 48 (
leaf f 48 (app2 (s48 true e) vs G)) (
leaf f 49 (app2 (s49 true e) vs G))))) (
fork f 52 (
fork f 50 (
leaf f 50 (app5 (s50 true e) vs G)) (
fork f 51 (
leaf f 51 (app1 (s51 true e) vs G)) (
leaf f 52 (app2 (s52 true e) vs G)))) (
fork f 54 (
fork f 53 (
leaf f 53 (app1 (s53 true e) vs G)) (
leaf f 54 (app1 (s54 true e) vs G))) (
fork f 55 (
leaf f 55 (app2 (s55 true e) vs G)) (
leaf f 56 (app2 (s56 true e) vs G)))))))) (
fork f 83 (
fork f 69 (
fork f 62 (
fork f 59 (
fork f 57 (
leaf f 57 (app2 (s57 true e) vs G)) (
fork f 58 (
leaf f 58 (app1 (s58 true e) vs G)) (
leaf f 59 (app2 (s59 true e) vs G)))) (
fork f 60 (
leaf f 60 (app2 (s60 true e) vs G)) (
fork f 61 (
leaf f 61 (app3 (s61 true e) vs G)) (
leaf f 62 (app2 (s62 true e) vs G))))) (
fork f 65 (
fork f 63 (
leaf f 63 (app2 (s63 true e) vs G)) (
fork f 64 (
leaf f 64 (app2 (s64 true e) vs G)) (
leaf f 65 (app1 (s65 true e) vs G)))) (
fork f 67 (
fork f 66 (
leaf f 66 (app1 (s66 true e) vs G)) (
leaf f 67 (app2 (s67 true e) vs G))) (
fork f 68 (
leaf f 68 (app3 (s68 true e) vs G)) (
leaf f 69 (app2 (s69 true e) vs G)))))) (
fork f 76 (
fork f 72 (
fork f 70 (
leaf f 70 (app1 (s70 true e) vs G)) (
fork f 71 (
leaf f 71 (app2 (s71 true e) vs G)) (
leaf f 72 (app2 (s72 true e) vs G)))) (
fork f 74 (
fork f 73 (
leaf f 73 (app1 (s73 true e) vs G)) (
leaf f 74 (app2 (s74 true e) vs G))) (
fork f 75 (
leaf f 75 (app1 (s75 true e) vs G)) (
leaf f 76 (app1 (s76 true e) vs G))))) (
fork f 79 (
fork f 77 (
leaf f 77 (app2 (s77 true e) vs G)) (
fork f 78 (
leaf f 78 (app1 (s78 true e) vs G)) (
leaf f 79 (app2 (s79 true e) vs G)))) (
fork f 81 (
fork f 80 (
leaf f 80 (app2 (s80 true e) vs G)) (
leaf f 81 (app2 (s81 true e) vs G))) (
fork f 82 (
leaf f 82 (app2 (s82 true e) vs G)) (
leaf f 83 (app1 (s83 true e) vs G))))))) (
fork f 96 (
fork f 89 (
fork f 86 (
fork f 84 (
leaf f 84 (app2 (s84 true e) vs G)) (
fork f 85 (
leaf f 85 (app1 (s85 true e) vs G)) (
leaf f 86 (app3 (s86 true e) vs G)))) (
fork f 87 (
leaf f 87 (app2 (s87 true e) vs G)) (
fork f 88 (
leaf f 88 (app2 (s88 true e) vs G)) (
leaf f 89 (app2 (s89 true e) vs G))))) (
fork f 92 (
fork f 90 (
leaf f 90 (app1 (s90 true e) vs G)) (
fork f 91 (
leaf f 91 (app2 (s91 true e) vs G)) (
leaf f 92 (app1 (s92 true e) vs G)))) (
fork f 94 (
fork f 93 (
leaf f 93 (app2 (s93 true e) vs G)) (
leaf f 94 (app1 (s94 true e) vs G))) (
fork f 95 (
leaf f 95 (app5 (s95 true e) vs G)) (
leaf f 96 (app2 (s96 true e) vs G)))))) (
fork f 103 (
fork f 99 (
fork f 97 (
leaf f 97 (app2 (s97 true e) vs G)) (
fork f 98 (
leaf f 98 (app4 (s98 true e) vs G)) (
leaf f 99 (app2 (s99 true e) vs G)))) (
fork f 101 (
fork f 100 (
leaf f 100 (app2 (s100 true e) vs G)) (
leaf f 101 (app2 (s101 true e) vs G))) (
fork f 102 (
leaf f 102 (app2 (s102 true e) vs G)) (
leaf f 103 (app1 (s103 true e) vs G))))) (
fork f 106 (
fork f 104 (
leaf f 104 (app1 (s104 true e) vs G)) (
fork f 105 (
leaf f 105 (app3 (s105 true e) vs G)) (
leaf f 106 (app2 (s106 true e) vs G)))) (
fork f 108 (
fork f 107 (
leaf f 107 (app4 (s107 true e) vs G)) (
leaf f 108 (app2 (s108 true e) vs G))) (
fork f 109 (
leaf f 109 (app2 (s109 true e) vs G)) (
leaf f 110 (app1 (s110 true e) vs G))))))))
theorem clT_ok {orc : FuncId → Bool} {e : Ex} (h : ExLe Q e (E orc)) (f : FuncId) (vs : List Value) (G : GS) : Ref (clT orc e f vs G) ((E orc).cl f vs G) :=
  Ref.fork (
Ref.fork (
Ref.fork (
Ref.fork (
Ref.fork (
Ref.fork (
Ref.leaf (y := fun f => (E orc).cl f vs G) (Ref.app0 (fun ho G => f3 h ho G) vs G)) (
Ref.fork (
Ref.leaf (y := fun f => (E orc).cl f vs G) (Ref.app2 (fun u0 u1 G => f5 h u0 u1 G) vs G)) (
Ref.leaf (y := fun f => (E orc).cl f vs G) (Ref.app4 (fun u0 u1 u2 u3 G => f6 h u0 u1 u2 u3 G) vs G)))) (
Ref.fork (
Ref.leaf (y := fun f => (E orc).cl f vs G) (Ref.app0 (fun ho G => f7 h ho G) vs G)) (
Ref.fork (
Ref.leaf (y := fun f => (E orc).cl f vs G) (Ref.app4 (fun u0 u1 u2 u3 G => f8 h u0 u1 u2 u3 G) vs G)) (
Ref.leaf (y := fun f => (E orc).cl f vs G) (Ref.app2 (fun u0 u1 G => f9 h u0 u1 G) vs G))))) (
Ref.fork (
Ref.fork (
Ref.leaf (y := fun f => (E orc).cl f vs G) (Ref.app0 (fun ho G => f10 h ho G) vs G)) (
Ref.fork (
Ref.leaf (y := fun f => (E orc).cl f vs G) (Ref.app2 (fun u0 u1 G => f11 h u0 u1 G) vs G)) (
Ref.leaf (y := fun f => (E orc).cl f vs G) (Ref.app3 (fun u0 u1 u2 G => f12 h u0 u1 u2 G) vs G)))) (
Ref.fork (
Ref.fork (
Ref.leaf (y := fun f => (E orc).cl f vs G) (Ref.app2 (fun u0 u1 G => f13 h u0 u1 G) vs G)) (
Ref.leaf (y := fun f => (E orc).cl f vs G) (Ref.app0 (fun ho G => f14 h ho G) vs G))) (
Ref.fork (
Ref.leaf (y := fun f => (E orc).cl f vs G) (Ref.app2 (fun u0 u1 G => f15 h u0 u1 G) vs G)) (
Ref.leaf (y := fun f => (E orc).cl f vs G) (Ref.app1 (fun u0 G => f16 h u0 G) vs G)))))) (
Ref.fork (
Ref.fork (
Ref.fork (
Ref.leaf (y := fun f => (E orc).cl f vs G) (Ref.app2 (fun u0 u1 G => f17 h u0 u1 G) vs G)) (
Ref.fork (
Ref.leaf (y := fun f => (E orc).cl f vs G) (Ref.app2 (fun u0 u1 G => f18 h u0 u1 G) vs G)) (
Ref.leaf (y := fun f => (E orc).cl f vs G) (Ref.app1 (fun u0 G => f19 h u0 G) vs G)))) (
Ref.fork (
Ref.leaf (y := fun f => (E orc).cl f vs G) (Ref.app1 (fun u0 G => f20 h u0 G) vs G)) (
Ref.fork (
Ref.leaf (y := fun f => (E orc).cl f vs G) (Ref.app2 (fun u0 u1 G => f21 h u0 u1 G) vs G)) (
Ref.leaf (y := fun f => (E orc).cl f vs G) (Ref.app0 (fun ho G => f22 h ho G) vs G))))) (
Ref.fork (
Ref.fork (
Ref.leaf (y := fun f => (E orc).cl f vs G) (Ref.app1 (fun u0 G => f23 h u0 G) vs G)) (
Ref.fork (
Ref.leaf (y := fun f => (E orc).cl f vs G) (Ref.app2 (fun u0 u1 G => f24 h u0 u1 G) vs G)) (
Ref.leaf (y := fun f => (E orc).cl f vs G) (Ref.app2 (fun u0 u1 G => f25 h u0 u1 G) vs G)))) (
Ref.fork (
Ref.fork (
Ref.leaf (y := fun f => (E orc).cl f vs G) (Ref.app1 (fun u0 G => f26 h u0 G) vs G)) (
Ref.leaf (y := fun f => (E orc).cl f vs G) (Ref.app1 (fun u0 G => f27 h u0 G) vs G))) (
Ref.fork (
Ref.leaf (y := fun f => (E orc).cl f vs G) (Ref.app2 (fun u0 u1 G => f28 h u0 u1 G) vs G)) (
Ref.leaf (y := fun f => (E orc).cl f vs G) (Ref.app2 (fun u0 u1 G => f29 h u0 u1 G) vs G))))))) (
Ref.fork (
Ref.fork (
Ref.fork (
Ref.fork (
Ref.leaf (y := fun f => (E orc).cl f vs G) (Ref.app1 (fun u0 G => f30 h u0 G) vs G)) (
Ref.fork (
Ref.leaf (y := fun f => (E orc).cl f vs G) (Ref.app1 (fun u0 G => f31 h u0 G) vs G)) (
Ref.leaf (y := fun f => (E orc).cl f vs G) (Ref.app2 (fun u0 u1 G => f32 h u0 u1 G) vs G)))) (
Ref.fork (
Ref.leaf (y := fun f => (E orc).cl f vs G) (Ref.app2 (fun u0 u1 G => f33 h u0 u1 G) vs G)) (
Ref.fork (
Ref.leaf (y := fun f => (E orc).cl f vs G) (Ref.app2 (fun u0 u1 G => f34 h u0 u1 G) vs G)) (
Ref.leaf (y := fun f => (E orc).cl f vs G) (Ref.app3 (fun u0 u1 u2 G => f35 h u0 u1 u2 G) vs G))))) (
Ref.fork (
Ref.fork (
Ref.leaf (y := fun f => (E orc).cl f vs G) (Ref.app2 (fun u0 u1 G => f36 h u0 u1 G) vs G)) (
Ref.fork (
Ref.leaf (y := fun f => (E orc).cl f vs G) (Ref.app4 (fun u0 u1 u2 u3 G => f37 h u0 u1 u2 u3 G) vs G)) (
Ref.leaf (y := fun f => (E orc).cl f vs G) (Ref.app2 (fun u0 u1 G => f38 h u0 u1 G) vs G)))) (
Ref.fork (
Ref.fork (
Ref.leaf (y := fun f => (E orc).cl f vs G) (Ref.app2 (fun u0 u1 G => f39 h u0 u1 G) vs G)) (
Ref.leaf (y := fun f => (E orc).cl f vs G) (Ref.app1 (fun u0 G => f40 h u0 G) vs G))) (
Ref.fork (
Ref.leaf (y := fun f => (E orc).cl f vs G) (Ref.app1 (fun u0 G => f41 h u0 G) vs G)) (
Ref.leaf (y := fun f => (E orc).cl f vs G) (Ref.app1 (fun u0 G => f42 h u0 G) vs G)))))) (
Ref.fork (
Ref.fork (
Ref.fork (
Ref.leaf (y := fun f => (E orc).cl f vs G) (Ref.app1 (fun u0 G => f43 h u0 G) vs G)) (
Ref.fork (
Ref.leaf (y := fun f => (E orc).cl f vs G) (Ref.app1 (fun u0 G => f44 h u0 G) vs G)) (
Ref.leaf (y := fun f => (E orc).cl f vs G) (Ref.app1 (fun u0 G => f45 h u0 G) vs G)))) (
Ref.fork (
Ref.fork (
Ref.leaf (y := fun f => (E orc).cl f vs G) (Ref.app1 (fun u0 G => f46 h u0 G) vs G)) (
Ref.leaf (y := fun f => (E orc).cl f vs G) (Ref.app2 (fun u0 u1 G => f47 h u0 u1 G) vs G))) (
Ref.fork (
Ref.leaf (y := fun f => (E orc).cl f vs G) (Ref.app2 (fun u0 u1 G => f48 h u0 u1 G) vs G)) (
Ref.leaf (y := fun f => (E orc).cl f vs G) (Ref.app2 (fun u0 u1 G => f49 h u0 u1 G) vs G))))) (
Ref.fork (
Ref.fork (
Ref.leaf (y := fun f => (E orc).cl f vs G) (Ref.app5 (fun u0 u1 u2 u3 u4 G => f50 h u0 u1 u2 u3 u4 G) vs G)) (
Ref.fork (
Ref.leaf (y := fun f => (E orc).cl f vs G) (Ref.app1 (fun u0 G => f51 h u0 G) vs G)) (
Ref.leaf (y := fun f => (E orc).cl f vs G) (Ref.app2 (fun u0 u1 G => f52 h u0 u1 G) vs G)))) (
Ref.fork (
Ref.fork (
Ref.leaf (y := fun f => (E orc).cl f vs G) (Ref.app1 (fun u0 G => f53 h u0 G) vs G)) (
Ref.leaf (y := fun f => (E orc).cl f vs G) (Ref.app1 (fun u0 G => f54 h u0 G) vs G))) (
Ref.fork (
Ref.leaf (y := fun f => (E orc).cl f vs G) (Ref.app2 (fun u0 u1 G => f55 h u0 u1 G) vs G)) (
Ref.leaf (y := fun f => (E orc).cl f vs G) (Ref.app2 (fun u0 u1 G => f56 h u0 u1 G) vs G)))))))) (
Ref.fork (
Ref.fork (
Ref.fork (
Ref.fork (
Ref.fork (
Ref.leaf (y := fun f => (E orc).cl f vs G) (Ref.app2 (fun u0 u1 G => f57 h u0 u1 G) vs G)) (
Ref.fork (
Ref.leaf (y := fun f => (E orc).cl f vs G) (Ref.app1 (fun u0 G => f58 h u0 G) vs G)) (
Ref.leaf (y := fun f => (E orc).cl f vs G) (Ref.app2 (fun u0 u1 G => f59 h u0 u1 G) vs G)))) (
Ref.fork (
Ref.leaf (y := fun f => (E orc).cl f vs G) (Ref.app2 (fun u0 u1 G => f60 h u0 u1 G) vs G)) (
Ref.fork (
Ref.leaf (y := fun f => (E orc).cl f vs G) (Ref.app3 (fun u0 u1 u2 G => f61 h u0 u1 u2 G) vs G)) (
Ref.leaf (y := fun f => (E orc).cl f vs G) (Ref.app2 (fun u0 u1 G => f62 h u0 u1 G) vs G))))) (
Ref.fork (
Ref.fork (
Ref.leaf (y := fun f => (E orc).cl f vs G) (Ref.app2 (fun u0 u1 G => f63 h u0 u1 G) vs G)) (
Ref.fork (
Ref.leaf (y := fun f => (E orc).cl f vs G) (Ref.app2 (fun u0 u1 G => f64 h u0 u1 G) vs G)) (
Ref.leaf (y := fun f => (E orc).cl f vs G) (Ref.app1 (fun u0 G => f65 h u0 G) vs G)))) (
Ref.fork (
Ref.fork (
Ref.leaf (y := fun f => (E orc).cl f vs G) (Ref.app1 (fun u0 G => f66 h u0 G) vs G)) (
Ref.leaf (y := fun f => (E orc).cl f vs G) (Ref.app2 (fun u0 u1 G => f67 h u0 u1 G) vs G))) (
Ref.fork (
Ref.leaf (y := fun f => (E orc).cl f vs G) (Ref.app3 (fun u0 u1 u2 G => f68 h u0 u1 u2 G) vs G)) (
Ref.leaf (y := fun f => (E orc).cl f vs G) (Ref.app2 (fun u0 u1 G => f69 h u0 u1 G) vs G)))))) (
Ref.fork (
Ref.fork (
Ref.fork (
Ref.leaf (y := fun f => (E orc).cl f vs G) (Ref.app1 (fun u0 G => f70 h u0 G) vs G)) (
Ref.fork (
Ref.leaf (y := fun f => (E orc).cl f vs G) (Ref.app2 (fun u0 u1 G => f71 h u0 u1 G) vs G)) (
Ref.leaf (y := fun f => (E orc).cl f vs G) (Ref.app2 (fun u0 u1 G => f72 h u0 u1 G) vs G)))) (
Ref.fork (
Ref.fork (
Ref.leaf (y := fun f => (E orc).cl f vs G) (Ref.app1 (fun u0 G => f73 h u0 G) vs G)) (
Ref.leaf (y := fun f => (E orc).cl f vs G) (Ref.app2 (fun u0 u1 G => f74 h u0 u1 G) vs G))) (
Ref.fork (
Ref.leaf (y := fun f => (E orc).cl f vs G) (Ref.app1 (fun u0 G => f75 h u0 G) vs G)) (
Ref.leaf (y := fun f => (E orc).cl f vs G) (Ref.app1 (fun u0 G => f76 h u0 G) vs G))))) (
Ref.fork (
Ref.fork (
Ref.leaf (y := fun f => (E orc).cl f vs G) (Ref.app2 (fun u0 u1 G => f77 h u0 u1 G) vs G)) (
Ref.fork (
Ref.leaf (y := fun f => (E orc).cl f vs G) (Ref.app1 (fun u0 G => f78 h u0 G) vs G)) (
Ref.leaf (y := fun f => (E orc).cl f vs G) (Ref.app2 (fun u0 u1 G => f79 h u0 u1 G) vs G)))) (
Ref.fork (
Ref.fork (
Ref.leaf (y := fun f => (E orc).cl f vs G) (Ref.app2 (fun u0 u1 G => f80 h u0 u1 G) vs G)) (
Ref.leaf (y := fun f => (E orc).cl f vs G) (Ref.app2 (fun u0 u1 G => f81 h u0 u1 G) vs G))) (
Ref.fork (
Ref.leaf (y := fun f => (E orc).cl f vs G) (Ref.app2 (fun u0 u1 G => f82 h u0 u1 G) vs G)) (
Ref.leaf (y := fun f => (E orc).cl f vs G) (Ref.app1 (fun u0 G => f83 h u0 G) vs G))))))) (
Ref.fork (
Ref.fork (
Ref.fork (
Ref.fork (
Ref.leaf (y := fun f => (E orc).cl f vs G) (Ref.app2 (fun u0 u1 G => f84 h u0 u1 G) vs G)) (
Ref.fork (
Ref.leaf (y := fun f => (E orc).cl f vs G) (Ref.app1 (fun u0 G => f85 h u0 G) vs G)) (
Ref.leaf (y := fun f => (E orc).cl f vs G) (Ref.app3 (fun u0 u1 u2 G => f86 h u0 u1 u2 G) vs G)))) (
Ref.fork (
Ref.leaf (y := fun f => (E orc).cl f vs G) (Ref.app2 (fun u0 u1 G => f87 h u0 u1 G) vs G)) (
Ref.fork (
Ref.leaf (y := fun f => (E orc).cl f vs G) (Ref.app2 (fun u0 u1 G => f88 h u0 u1 G) vs G)) (
Ref.leaf (y := fun f => (E orc).cl f vs G) (Ref.app2 (fun u0 u1 G => f89 h u0 u1 G) vs G))))) (
Ref.fork (
Ref.fork (
Ref.leaf (y := fun f => (E orc).cl f vs G) (Ref.app1 (fun u0 G => f90 h u0 G) vs G)) (
Ref.fork (
Ref.leaf (y := fun f => (E orc).cl f vs G) (Ref.app2 (fun u0 u1 G => f91 h u0 u1 G) vs G)) (
Ref.leaf (y := fun f => (E orc).cl f vs G) (Ref.app1 (fun u0 G => f92 h u0 G) vs G)))) (
Ref.fork (
Ref.fork (
Ref.leaf (y := fun f => (E orc).cl f vs G) (Ref.app2 (fun u0 u1 G => f93 h u0 u1 G) vs G)) (
Ref.leaf (y := fun f => (E orc).cl f vs G) (Ref.app1 (fun u0 G => f94 h u0 G) vs G))) (
Ref.fork (
Ref.leaf (y := fun f => (E orc).cl f vs G) (Ref.app5 (fun u0 u1 u2 u3 u4 G => f95 h u0 u1 u2 u3 u4 G) vs G)) (
Ref.leaf (y := fun f => (E orc).cl f vs G) (Ref.app2 (fun u0 u1 G => f96 h u0 u1 G) vs G)))))) (
Ref.fork (
Ref.fork (
Ref.fork (
Ref.leaf (y := fun f => (E orc).cl f vs G) (Ref.app2 (fun u0 u1 G => f97 h u0 u1 G) vs G)) (
Ref.fork (
Ref.leaf (y := fun f => (E orc).cl f vs G) (Ref.app4 (fun u0 u1 u2 u3 G => f98 h u0 u1 u2 u3 G) vs G)) (
Ref.leaf (y := fun f => (E orc).cl f vs G) (Ref.app2 (fun u0 u1 G => f99 h u0 u1 G) vs G)))) (
Ref.fork (
Ref.fork (
Ref.leaf (y := fun f => (E orc).cl f vs G) (Ref.app2 (fun u0 u1 G => f100 h u0 u1 G) vs G)) (
Ref.leaf (y := fun f => (E orc).cl f vs G) (Ref.app2 (fun u0 u1 G => f101 h u0 u1 G) vs G))) (
Ref.fork (
Ref.leaf (y := fun f => (E orc).cl f vs G) (Ref.app2 (fun u0 u1 G => f102 h u0 u1 G) vs G)) (
Ref.leaf (y := fun f => (E orc).cl f vs G) (Ref.app1 (fun u0 G => f103 h u0 G) vs G))))) (
Ref.fork (
Ref.fork (
Ref.leaf (y := fun f => (E orc).cl f vs G) (Ref.app1 (fun u0 G => f104 h u0 G) vs G)) (
Ref.fork (
Ref.leaf (y := fun f => (E orc).cl f vs G) (Ref.app3 (fun u0 u1 u2 G => f105 h u0 u1 u2 G) vs G)) (
Ref.leaf (y := fun f => (E orc).cl f vs G) (Ref.app2 (fun u0 u1 G => f106 h u0 u1 G) vs G)))) (
Ref.fork (
Ref.fork (
Ref.leaf (y := fun f => (E orc).cl f vs G) (Ref.app4 (fun u0 u1 u2 u3 G => f107 h u0 u1 u2 u3 G) vs G)) (
Ref.leaf (y := fun f => (E orc).cl f vs G) (Ref.app2 (fun u0 u1 G => f108 h u0 u1 G) vs G))) (
Ref.fork (
Ref.leaf (y := fun f => (E orc).cl f vs G) (Ref.app2 (fun u0 u1 G => f109 h u0 u1 G) vs G)) (
Ref.leaf (y := fun f => (E orc).cl f vs G) (Ref.app1 (fun u0 G => f110 h u0 G) vs G))))))))
noncomputable def lpT (FUEL : Nat) (e : Ex) (f k : Nat) (τ : Env) (G : GS) : Option (Exit × Env × GS) :=
  fork f 33 (
fork f 17 (
fork f 6 (
leaf f 6 (leaf k 0 (lpS 141 (b6_0 true e) FUEL τ G))) (
fork f 8 (
leaf f 8 (leaf k 0 (lpS 32 (b8_0 true e) FUEL τ G))) (
leaf f 17 (leaf k 0 (lpS 31 (b17_0 true e) FUEL τ G))))) (
fork f 21 (
leaf f 21 (leaf k 0 (lpS 70 (b21_0 true e) FUEL τ G))) (
fork f 29 (
leaf f 29 (leaf k 0 (lpS 28 (b29_0 true e) FUEL τ G))) (
leaf f 33 (fork k 0 (leaf k 0 (lpS 59 (b33_0 true e) FUEL τ G)) (fork k 1 (leaf k 1 (lpS 59 (b33_1 true e) FUEL τ G)) (leaf k 2 (lpS 59 (b33_2 true e) FUEL τ G)))))))) (
fork f 39 (
fork f 35 (
leaf f 35 (leaf k 0 (lpS 61 (b35_0 true e) FUEL τ G))) (
fork f 38 (
leaf f 38 (leaf k 0 (lpS 44 (b38_0 true e) FUEL τ G))) (
leaf f 39 (leaf k 0 (lpS 31 (b39_0 true e) FUEL τ G))))) (
fork f 45 (
fork f 40 (
leaf f 40 (leaf k 0 (lpS 42 (b40_0 true e) FUEL τ G))) (
leaf f 45 (leaf k 0 (lpS 12 (b45_0 true e) FUEL τ G)))) (
fork f 67 (
leaf f 67 (leaf k 0 (lpS 29 (b67_0 true e) FUEL τ G))) (
leaf f 86 (leaf k 0 (lpS 32 (b86_0 true e) FUEL τ G))))))
theorem lpT_ok {orc : FuncId → Bool} {e : Ex} (h : ExLe Q e (E orc)) (FUEL f k : Nat) (τ : Env) (G : GS) : Ref (lpT FUEL e f k τ G) (mapE ((E orc).lp (codeAt Q f k) (lst (nOf Q f) τ) G)) :=
  Ref.fork (
Ref.fork (
Ref.fork (
Ref.leaf (y := fun f => mapE ((E orc).lp (codeAt Q f k) (lst (nOf Q f) τ) G)) (Ref.leaf (y := fun k => mapE ((E orc).lp (codeAt Q 6 k) (lst (nOf Q 6) τ) G)) (lp_leaf (c := (subAt [1, 1, 1, 1, 1, 1, 0, 1, 0, 0] (bodyOf Try.f6))) (l6_0 h) _ _ _))) (
Ref.fork (
Ref.leaf (y := fun f => mapE ((E orc).lp (codeAt Q f k) (lst (nOf Q f) τ) G)) (Ref.leaf (y := fun k => mapE ((E orc).lp (codeAt Q 8 k) (lst (nOf Q 8) τ) G)) (lp_leaf (c := (subAt [1, 0, 1, 0, 0] (bodyOf Try.f8))) (l8_0 h) _ _ _))) (
Ref.leaf (y := fun f => mapE ((E orc).lp (codeAt Q f k) (lst (nOf Q f) τ) G)) (Ref.leaf (y := fun k => mapE ((E orc).lp (codeAt Q 17 k) (lst (nOf Q 17) τ) G)) (lp_leaf (c := (subAt [1, 1, 0, 1, 0, 0] (bodyOf Try.f17))) (l17_0 h) _ _ _))))) (
Ref.fork (
Ref.leaf (y := fun f => mapE ((E orc).lp (codeAt Q f k) (lst (nOf Q f) τ) G)) (Ref.leaf (y := fun k => mapE ((E orc).lp (codeAt Q 21 k) (lst (nOf Q 21) τ) G)) (lp_leaf (c := (subAt [1, 1, 1, 0, 1, 0, 0] (bodyOf Try.f21))) (l21_0 h) _ _ _))) (
Ref.fork (
Ref.leaf (y := fun f => mapE ((E orc).lp (codeAt Q f k) (lst (nOf Q f) τ) G)) (Ref.leaf (y := fun k => mapE ((E orc).lp (codeAt Q 29 k) (lst (nOf Q 29) τ) G)) (lp_leaf (c := (subAt [1, 1, 1, 1, 1, 0, 0] (bodyOf Try.f29))) (l29_0 h) _ _ _))) (
Ref.leaf (y := fun f => mapE ((E orc).lp (codeAt Q f k) (lst (nOf Q f) τ) G)) (Ref.fork (Ref.leaf (y := fun k => mapE ((E orc).lp (codeAt Q 33 k) (lst (nOf Q 33) τ) G)) (lp_leaf (c := (subAt [1, 0, 1, 0, 0] (bodyOf Try.f33))) (l33_0 h) _ _ _)) (Ref.fork (Ref.leaf (y := fun k => mapE ((E orc).lp (codeAt Q 33 k) (lst (nOf Q 33) τ) G)) (lp_leaf (c := (subAt [1, 1, 0, 1, 0, 0] (bodyOf Try.f33))) (l33_1 h) _ _ _)) (Ref.leaf (y := fun k => mapE ((E orc).lp (codeAt Q 33 k) (lst (nOf Q 33) τ) G)) (lp_leaf (c := (subAt [1, 1, 0, 1, 0, 0, 1, 0, 0, 0, 1, 0, 0] (bodyOf Try.f33))) (l33_2 h) _ _ _)))))))) (
Ref.fork (
Ref.fork (
Ref.leaf (y := fun f => mapE ((E orc).lp (codeAt Q f k) (lst (nOf Q f) τ) G)) (Ref.leaf (y := fun k => mapE ((E orc).lp (codeAt Q 35 k) (lst (nOf Q 35) τ) G)) (lp_leaf (c := (subAt [1, 1, 1, 1, 1, 1, 0, 1, 0, 0] (bodyOf Try.f35))) (l35_0 h) _ _ _))) (
Ref.fork (
Ref.leaf (y := fun f => mapE ((E orc).lp (codeAt Q f k) (lst (nOf Q f) τ) G)) (Ref.leaf (y := fun k => mapE ((E orc).lp (codeAt Q 38 k) (lst (nOf Q 38) τ) G)) (lp_leaf (c := (subAt [1, 1, 1, 1, 0, 0, 0] (bodyOf Try.f38))) (l38_0 h) _ _ _))) (
Ref.leaf (y := fun f => mapE ((E orc).lp (codeAt Q f k) (lst (nOf Q f) τ) G)) (Ref.leaf (y := fun k => mapE ((E orc).lp (codeAt Q 39 k) (lst (nOf Q 39) τ) G)) (lp_leaf (c := (subAt [1, 1, 0, 1, 0, 0] (bodyOf Try.f39))) (l39_0 h) _ _ _))))) (
Ref.fork (
Ref.fork (
Ref.leaf (y := fun f => mapE ((E orc).lp (codeAt Q f k) (lst (nOf Q f) τ) G)) (Ref.leaf (y := fun k => mapE ((E orc).lp (codeAt Q 40 k) (lst (nOf Q 40) τ) G)) (lp_leaf (c := (subAt [1, 1, 1, 0, 1, 0, 0] (bodyOf Try.f40))) (l40_0 h) _ _ _))) (
Ref.leaf (y := fun f => mapE ((E orc).lp (codeAt Q f k) (lst (nOf Q f) τ) G)) (Ref.leaf (y := fun k => mapE ((E orc).lp (codeAt Q 45 k) (lst (nOf Q 45) τ) G)) (lp_leaf (c := (subAt [1, 0, 0] (bodyOf Try.f45))) (l45_0 h) _ _ _)))) (
Ref.fork (
Ref.leaf (y := fun f => mapE ((E orc).lp (codeAt Q f k) (lst (nOf Q f) τ) G)) (Ref.leaf (y := fun k => mapE ((E orc).lp (codeAt Q 67 k) (lst (nOf Q 67) τ) G)) (lp_leaf (c := (subAt [1, 1, 1, 1, 1, 0, 0] (bodyOf Try.f67))) (l67_0 h) _ _ _))) (
Ref.leaf (y := fun f => mapE ((E orc).lp (codeAt Q f k) (lst (nOf Q f) τ) G)) (Ref.leaf (y := fun k => mapE ((E orc).lp (codeAt Q 86 k) (lst (nOf Q 86) τ) G)) (lp_leaf (c := (subAt [1, 1, 0, 0] (bodyOf Try.f86))) (l86_0 h) _ _ _))))))
noncomputable def kE (orc : FuncId → Bool) (n : Nat) : Ex := Nat.rec (motive := fun _ => Ex) ⟨Ev.zero, fun _ _ _ _ => none⟩ (fun _ e => ⟨⟨(evO Q orc 0).ex, clT orc e, (evO Q orc 2000).rd, (evO Q orc 2000).sc, (evO Q orc 0).lp⟩, lpT 6000 e⟩) n
theorem kE_ok (orc : FuncId → Bool) : ∀ n, ExLe Q (kE orc n) (E orc)
  | 0 => ⟨zero_le _, fun _ _ _ _ => .nil _⟩
  | n + 1 => ⟨⟨(le_evL Q orc 0).ex, fun f vs G r hr => clT_ok (kE_ok orc n) f vs G r hr, (le_evL Q orc 2000).rd, (le_evL Q orc 2000).sc, (le_evL Q orc 0).lp⟩, lpT_ok (kE_ok orc n) 6000⟩
/-- what the tables find true is true -/
theorem at_kE {orc : FuncId → Bool} {n f : Nat} {vs : List Value} (h : isTrue ((kE orc n).ev.cl f vs GS.empty) = true) : ∃ G', (E orc).cl f vs GS.empty = some (.bool true, G') := isTrue_of ((kE_ok orc n).ev.cl f vs GS.empty) h
theorem closed_kE {orc : FuncId → Bool} (ho : OrcOk Q orc) (hmix : Q.follows .mixedOrders = true) {n f : Nat} (h : isTrue ((kE orc n).ev.cl f [] GS.empty) = true) (w : World) : Calls Q f #[] w fun e w' => e = .returned (.bool true) ∧ Go.RowKit.Below w.heap.size w w' :=
  let ⟨_, hG⟩ := at_kE h
  law_plain hmix ho hG fun _ => trivial
end Go.Proofs.Ytocbppgkgcoehaa.Lift
