/- the program's code, spelled out by a program of ours (lift2.lean) -/
import Derived.Test.YtglafaecdpilgaaProg
import Derived.Test.YtglafaecdpilgaaGhKO
import Derived.KernelRfl
namespace Go.Proofs.Ytglafaecdpilgaa.Lift
open Go Go.Proofs.Ytglafaecdpilgaa.Gh Go.Proofs
set_option linter.unusedVariables false
set_option maxRecDepth 100000
@[reducible] noncomputable def Q : Program := Try.prog
@[reducible] noncomputable def E (orc : FuncId → Bool) : Ev := evL Try.prog orc
instance iln22 : LnOk Q 22 := ⟨fun a n c => by kernel_rfl⟩
instance ilda25 : LdAOk Q 25 4 := ⟨fun b o s G => by kernel_rfl⟩
instance ilda28 : LdAOk Q 28 3 := ⟨fun b o s G => by kernel_rfl⟩
noncomputable abbrev z28 : List Value := [(.int .i64 0), (.int .i64 0), (.int .u64 0)]
instance ial28 : AlOk Q 28 z28 := ⟨fun G => by kernel_rfl⟩
instance ist28 : StOk Q 28 3 := ⟨fun b o s v G => by kernel_rfl⟩
instance ieb4 : EbOk Q 4 := ⟨fun neg x y a b => by cases neg <;> cases a <;> cases b <;> kernel_rfl⟩
instance icv3_23 : CvOk Q 3 23 .i64 .u64 := ⟨fun n => by kernel_rfl⟩
noncomputable abbrev z40 : List Value := [(.int .u64 0), (.int .i64 0)]
instance ibd40_0_1 : BdOk Q 40 z40 [(0, 0, 1), (1, 1, 1)] := bd_ok Q (by kernel_rfl) (by kernel_rfl) (by kernel_rfl)
instance ibs22_1_0 : BsOk Q 22 1 (rep z40 1) 2 [(0, 0, 2)] := bs_ok Q (z0 := z40) (by kernel_rfl) rfl (by decide) (by kernel_rfl)
instance iap22_22 : ApOk Q 22 22 2 16 := ⟨fun s x G => by kernel_rfl⟩
noncomputable abbrev z25 : List Value := [(.int .i64 0), (.int .i64 0), (.int .i64 0), (.int .u64 0)]
instance ibd25_0_3_1 : BdOk Q 25 z25 [(0, 0, 1), (3, 3, 1), (1, 1, 1)] := bd_ok Q (by kernel_rfl) (by kernel_rfl) (by kernel_rfl)
instance ial25 : AlOk Q 25 z25 := ⟨fun G => by kernel_rfl⟩
instance ist25 : StOk Q 25 4 := ⟨fun b o s v G => by kernel_rfl⟩
instance ibd28_ : BdOk Q 28 z28 [] := bd_ok Q (by kernel_rfl) (by kernel_rfl) (by kernel_rfl)
instance ifa25_0 : FaOk Q 25 0 0 := ⟨fun b o s => by kernel_rfl⟩
instance ild3 : LdOk Q 3 := ⟨fun b o s G => (show _ = loadOne b o G by kernel_rfl).trans (loadOne_eq b o G)⟩
instance ibd28_0 : BdOk Q 28 z28 [(0, 0, 1)] := bd_ok Q (by kernel_rfl) (by kernel_rfl) (by kernel_rfl)
instance ifa28_0 : FaOk Q 28 0 0 := ⟨fun b o s => by kernel_rfl⟩
instance ild26 : LdOk Q 26 := ⟨fun b o s G => (show _ = loadOne b o G by kernel_rfl).trans (loadOne_eq b o G)⟩
instance ifa25_3 : FaOk Q 25 3 3 := ⟨fun b o s => by kernel_rfl⟩
instance ild23 : LdOk Q 23 := ⟨fun b o s G => (show _ = loadOne b o G by kernel_rfl).trans (loadOne_eq b o G)⟩
instance iias22 : IasOk Q 22 2 := ⟨fun b o s n c k j => by kernel_rfl⟩
instance ilda40 : LdAOk Q 40 2 := ⟨fun b o s G => by kernel_rfl⟩
instance ifa25_1 : FaOk Q 25 1 1 := ⟨fun b o s => by kernel_rfl⟩
instance isl22 : SlOk Q 22 2 := ⟨fun a n c lo hi mx G => sl_eq Q (e := 40) (by kernel_rfl) (by kernel_rfl) a n c lo hi mx G⟩
instance ifa28_2 : FaOk Q 28 2 2 := ⟨fun b o s => by kernel_rfl⟩
instance ifa40_0 : FaOk Q 40 0 0 := ⟨fun b o s => by kernel_rfl⟩
instance ifa28_1 : FaOk Q 28 1 1 := ⟨fun b o s => by kernel_rfl⟩
instance ifa40_1 : FaOk Q 40 1 1 := ⟨fun b o s => by kernel_rfl⟩
instance ibd25_0 : BdOk Q 25 z25 [(0, 0, 1)] := bd_ok Q (by kernel_rfl) (by kernel_rfl) (by kernel_rfl)
instance ibs22_3_0_1_2 : BsOk Q 22 3 (rep z40 3) 2 [(0, 0, 2), (1, 2, 2), (2, 4, 2)] := bs_ok Q (z0 := z40) (by kernel_rfl) rfl (by decide) (by kernel_rfl)
instance ibd28_1_2 : BdOk Q 28 z28 [(1, 1, 1), (2, 2, 1)] := bd_ok Q (by kernel_rfl) (by kernel_rfl) (by kernel_rfl)
instance ibs22_0_ : BsOk Q 22 0 (rep z40 0) 2 [] := bs_ok Q (z0 := z40) (by kernel_rfl) rfl (by decide) (by kernel_rfl)
noncomputable abbrev z92 : List Value := [.nilFunc, .nilFunc, .nilFunc]
instance ial92 : AlOk Q 92 z92 := ⟨fun G => by kernel_rfl⟩
instance ist92 : StOk Q 92 3 := ⟨fun b o s v G => by kernel_rfl⟩
instance iiaa92 : IaaOk Q 92 3 1 := ⟨fun b o s k j => by kernel_rfl⟩
instance ild34 : LdOk Q 34 := ⟨fun b o s G => (show _ = loadOne b o G by kernel_rfl).trans (loadOne_eq b o G)⟩
instance ibd40_1 : BdOk Q 40 z40 [(1, 1, 1)] := bd_ok Q (by kernel_rfl) (by kernel_rfl) (by kernel_rfl)
instance ist40 : StOk Q 40 2 := ⟨fun b o s v G => by kernel_rfl⟩
instance ies22 : EsOk Q 22 := ⟨fun neg x y => by cases neg <;> kernel_rfl, fun neg x y a n c => by cases neg <;> kernel_rfl⟩
instance ibs22_2_0_1 : BsOk Q 22 2 (rep z40 2) 2 [(0, 0, 2), (1, 2, 2)] := bs_ok Q (z0 := z40) (by kernel_rfl) rfl (by decide) (by kernel_rfl)
instance ibd92_0_1_2 : BdOk Q 92 z92 [(0, 0, 1), (1, 1, 1), (2, 2, 1)] := bd_ok Q (by kernel_rfl) (by kernel_rfl) (by kernel_rfl)
instance ilda92 : LdAOk Q 92 3 := ⟨fun b o s G => by kernel_rfl⟩
/-- coxswain/coxswainlaw07.HeapNext -/
noncomputable def s3 (q : Bool) (e : Ex) (v0 v1 v2 : Value) (G : GS) : Option (Value × GS) :=
  bS (bx q v1 G) fun x0 G1 =>
  bS (bx q v2 G1) fun x2 G3 =>
  bP (ln Q q 22 v0) fun x4 =>
  bP (bn Q q .gtr 3 (.tmp 18) (.const (.int .i64 100)) x4 (.int .i64 100)) fun x5 =>
  ifV x5 (
  bS (e.ev.cl 13 [] G3) fun x6 G7 =>
  some (x6, G7)) (
  bS (e.ev.cl 14 [v0] G3) fun x8 G9 =>
  bP (lda Q q 25 4 x0 G9) fun x10 =>
  bP (lda Q q 28 3 x2 G9) fun x11 =>
  bS (e.ev.cl 15 [x8, x10, x11] G9) fun x12 G13 =>
  bP (pExtract x12 0) fun x14 =>
  bP (pExtract x12 1) fun x15 =>
  bP (lda Q q 25 4 x0 G13) fun x16 =>
  bP (lda Q q 28 3 x2 G13) fun x17 =>
  bS (e.ev.cl 16 [v0, x16, x17] G13) fun x18 G19 =>
  bP (pExtract x18 0) fun x20 =>
  bP (pExtract x18 1) fun x21 =>
  bP (lda Q q 25 4 x0 G19) fun x22 =>
  bS (e.ev.cl 17 [x8, x22] G19) fun x23 G24 =>
  bP (pExtract x23 0) fun x25 =>
  bP (pExtract x23 1) fun x26 =>
  bS (al Q q 28 z28 G24) fun x27 G28 =>
  bP (st Q q 28 3 x27 x25 G28) fun G29 =>
  bP (lda Q q 25 4 x0 G29) fun x30 =>
  bS (e.ev.cl 18 [v0, x30] G29) fun x31 G32 =>
  bP (pExtract x31 0) fun x33 =>
  bP (pExtract x31 1) fun x34 =>
  bS (al Q q 28 z28 G32) fun x35 G36 =>
  bP (st Q q 28 3 x35 x33 G36) fun G37 =>
  bS (e.ev.cl 19 [x14, x20] G37) fun x38 G39 =>
  bS (gd x38 true (some (x15, G39)) G39) fun x40 G41 =>
  bS (gd x38 true (some (x21, G41)) G41) fun x42 G43 =>
  bS (gd x38 true (bP (eb Q q false 4 (.tmp 53) (.tmp 54) x40 x42) fun y => some (y, G43)) G43) fun x44 G45 =>
  bP (pickV x38 x44 (.bool false)) fun x46 =>
  bS (gd x46 true (bP (lda Q q 28 3 x27 G45) fun y => some (y, G45)) G45) fun x47 G48 =>
  bS (gd x46 true (bP (lda Q q 28 3 x35 G48) fun y => some (y, G48)) G48) fun x49 G50 =>
  bS (gd x46 true (bP (bn Q q .eql 28 (.tmp 58) (.tmp 59) x47 x49) fun y => some (y, G50)) G50) fun x51 G52 =>
  bP (pickV x46 x51 (.bool false)) fun x53 =>
  bS (gd x53 true (some (x26, G52)) G52) fun x54 G55 =>
  bS (gd x53 true (some (x34, G55)) G55) fun x56 G57 =>
  bS (gd x53 true (bP (eb Q q false 4 (.tmp 63) (.tmp 64) x54 x56) fun y => some (y, G57)) G57) fun x58 G59 =>
  bP (pickV x53 x58 (.bool false)) fun x60 =>
  bS (e.ev.cl 20 [x14] G59) fun x61 G62 =>
  bS (gd x60 true (some (x8, G62)) G62) fun x63 G64 =>
  bS (gd x60 true (some (v0, G64)) G64) fun x65 G66 =>
  bS (gd x60 true (bS (e.ev.cl 19 [x63, x65] G66) fun y G => some (y, G)) G66) fun x67 G68 =>
  bP (pickV x60 x67 (.bool false)) fun x69 =>
  bS (gd x69 true (bS (e.ev.cl 13 [] G68) fun y G => some (y, G)) G68) fun x70 G71 =>
  bP (pickV x69 x70 (.bool false)) fun x72 =>
  some (x72, G71))
theorem m3 {e : Ex} {E : Ev} (h : ExLe Q e E) (v0 v1 v2 : Value) (G : GS) : Ref (s3 true e v0 v1 v2 G) (s3 false (Ex.of E) v0 v1 v2 G) := by
  unfold s3
  exact Ref.go
theorem f3 {orc : FuncId → Bool} {e : Ex} (h : ExLe Q e (E orc)) (v0 v1 v2 : Value) (G : GS) : Ref (s3 true e v0 v1 v2 G) ((E orc).cl 3 [v0, v1, v2] G) :=
  fun r hr => cl_sxE_some Q orc (vs := [v0, v1, v2]) G Try.func3 (by kernel_rfl) (by kernel_rfl) (by kernel_rfl) (by kernel_rfl) (by kernel_rfl) (m3 h v0 v1 v2 G r hr)
instance ilp4_0 : LpIs Q 4 0 (subAt [1, 1, 0, 1, 0, 0] (bodyOf Try.f4)) 88 := ⟨by kernel_rfl, by kernel_rfl⟩
noncomputable def b4_0 (q : Bool) (e : Ex) (lp : Env → GS → Option (Exit × Env × GS)) (τ : Env) (G : GS) : Option (Exit × Env × GS) :=
  bV q (τ 0) fun a0_ =>
  bV q (τ 5) fun a5_ =>
  bV q (τ 6) fun a6_ =>
  bS (e.ev.cl 21 [a0_, (.int .i64 11)] G) fun x0 G1 =>
  bP (bn Q q .add 3 (.const (.int .i64 1018)) (.tmp 18) (.int .i64 1018) x0) fun x2 =>
  bP (bn Q q .lss 3 (.tmp 16) (.tmp 19) a6_ x2) fun x3 =>
  ifV x3 (
  bP (bn Q q .mul 3 (.const (.int .i64 2)) (.tmp 24) (.int .i64 2) a6_) fun x4 =>
  bP (bn Q q .add 3 (.tmp 25) (.const (.int .i64 1)) x4 (.int .i64 1)) fun x5 =>
  bP (cv Q q 3 23 .i64 .u64 x5) fun x6 =>
  bP (bd Q q 40 z40 [(0, 0, 1), (1, 1, 1)] [x6, a6_]) fun x7 =>
  bS (bs Q q 22 1 (rep z40 1) 2 [(0, 0, 2)] [x7] G1) fun x8 G9 =>
  bS (ap Q q 22 22 2 16 a5_ x8 G9) fun x10 G11 =>
  bP (bn Q q .add 3 (.tmp 21) (.const (.int .i64 1)) a6_ (.int .i64 1)) fun x12 =>
  lp (tu τ [(0, a0_), (5, x10), (6, x12), (16, a6_), (17, a0_), (18, x0), (19, x2), (20, x3), (21, a6_), (22, x12), (23, a5_), (24, a6_), (25, x4), (26, x5), (27, x6), (28, a6_), (29, x7), (30, x8), (31, x10)]) G11) (
  some ((.exit 0), clq q 88 (tu τ [(0, a0_), (5, a5_), (6, a6_), (16, a6_), (17, a0_), (18, x0), (19, x2), (20, x3)]), G1))
theorem mb4_0 {e : Ex} {E : Ev} (h : ExLe Q e E) {lp lp' : Env → GS → Option (Exit × Env × GS)} (hlp : LpLe lp lp') (τ : Env) (G : GS) : Ref (b4_0 true e lp τ G) (b4_0 false (Ex.of E) lp' τ G) := by
  unfold b4_0
  exact Ref.go
theorem l4_0 {orc : FuncId → Bool} {e : Ex} (h : ExLe Q e (E orc)) (lp : Env → GS → Option (Exit × Env × GS)) (hlp : ∀ τ G, Ref (lp τ G) (mapE ((E orc).lp (subAt [1, 1, 0, 1, 0, 0] (bodyOf Try.f4)) (lst 88 τ) G))) (T : List Value) (G : GS) (hT : T.length = 88) : Ref (b4_0 true e lp (nth undef T) G) (mapE ((E orc).lp (subAt [1, 1, 0, 1, 0, 0] (bodyOf Try.f4)) T G)) :=
  fun r hr => lp_sxM Q orc G hT (by kernel_rfl) (mb4_0 h ⟨hlp⟩ _ _ r hr)
/-- coxswain/coxswainlaw07.HeapFull -/
noncomputable def s4 (q : Bool) (e : Ex) (v0 v1 : Value) (G : GS) : Option (Value × GS) :=
  bL q e 4 0 (subAt [1, 1, 0, 1, 0, 0] (bodyOf Try.f4)) 88 (tu (nth undef [v0, v1]) [(4, (.bool false)), (5, (.slice none 0 0)), (6, (.int .i64 0))]) G fun e0 t1 G2 =>
  bV q (t1 1) fun t1x1_ =>
  bV q (t1 5) fun t1x5_ =>
  ifE e0 (.exit 0) (
  bP (bd Q q 25 z25 [(0, 0, 1), (3, 3, 1), (1, 1, 1)] [(.int .i64 4), t1x1_, (.int .i64 5)]) fun x3 =>
  bS (al Q q 25 z25 G2) fun x4 G5 =>
  bP (st Q q 25 4 x4 x3 G5) fun G6 =>
  bP (lda Q q 25 4 x4 G6) fun x7 =>
  bP (bd Q q 28 z28 [] []) fun x8 =>
  bS (e.ev.cl 15 [t1x5_, x7, x8] G6) fun x9 G10 =>
  bP (pExtract x9 0) fun x11 =>
  bP (pExtract x9 1) fun x12 =>
  bP (lda Q q 25 4 x4 G10) fun x13 =>
  bP (bd Q q 28 z28 [] []) fun x14 =>
  bS (e.ev.cl 16 [t1x5_, x13, x14] G10) fun x15 G16 =>
  bP (pExtract x15 0) fun x17 =>
  bP (pExtract x15 1) fun x18 =>
  bP (lda Q q 25 4 x4 G16) fun x19 =>
  bS (e.ev.cl 17 [t1x5_, x19] G16) fun x20 G21 =>
  bP (pExtract x20 0) fun x22 =>
  bP (pExtract x20 1) fun x23 =>
  bS (al Q q 28 z28 G21) fun x24 G25 =>
  bP (st Q q 28 3 x24 x22 G25) fun G26 =>
  bP (lda Q q 25 4 x4 G26) fun x27 =>
  bS (e.ev.cl 18 [t1x5_, x27] G26) fun x28 G29 =>
  bP (pExtract x28 0) fun x30 =>
  bP (pExtract x28 1) fun x31 =>
  bS (al Q q 28 z28 G29) fun x32 G33 =>
  bP (st Q q 28 3 x32 x30 G33) fun G34 =>
  bS (e.ev.cl 19 [x11, x17] G34) fun x35 G36 =>
  bS (gd x35 true (some (x12, G36)) G36) fun x37 G38 =>
  bS (gd x35 true (some (x18, G38)) G38) fun x39 G40 =>
  bS (gd x35 true (bP (eb Q q false 4 (.tmp 64) (.tmp 65) x37 x39) fun y => some (y, G40)) G40) fun x41 G42 =>
  bP (pickV x35 x41 (.bool false)) fun x43 =>
  bS (gd x43 true (bP (lda Q q 28 3 x24 G42) fun y => some (y, G42)) G42) fun x44 G45 =>
  bS (gd x43 true (bP (lda Q q 28 3 x32 G45) fun y => some (y, G45)) G45) fun x46 G47 =>
  bS (gd x43 true (bP (bn Q q .eql 28 (.tmp 69) (.tmp 70) x44 x46) fun y => some (y, G47)) G47) fun x48 G49 =>
  bP (pickV x43 x48 (.bool false)) fun x50 =>
  bS (gd x50 true (some (x23, G49)) G49) fun x51 G52 =>
  bS (gd x50 true (some (x31, G52)) G52) fun x53 G54 =>
  bS (gd x50 true (bP (eb Q q false 4 (.tmp 74) (.tmp 75) x51 x53) fun y => some (y, G54)) G54) fun x55 G56 =>
  bP (pickV x50 x55 (.bool false)) fun x57 =>
  bS (gd x57 true (some (t1x5_, G56)) G56) fun x58 G59 =>
  bS (gd x57 true (bS (e.ev.cl 22 [x58] G59) fun y G => some (y, G)) G59) fun x60 G61 =>
  bS (gd x57 true (some (t1x5_, G61)) G61) fun x62 G63 =>
  bS (gd x57 true (bS (e.ev.cl 23 [x62] G63) fun y G => some (y, G)) G63) fun x64 G65 =>
  bS (gd x57 true (bP (bn Q q .eql 26 (.tmp 80) (.tmp 82) x60 x64) fun y => some (y, G65)) G65) fun x66 G67 =>
  bP (pickV x57 x66 (.bool false)) fun x68 =>
  bS (gd x68 true (bS (e.ev.cl 13 [] G67) fun y G => some (y, G)) G67) fun x69 G70 =>
  bP (pickV x68 x69 (.bool false)) fun x71 =>
  some (x71, G70)) (none)
theorem m4 {e : Ex} {E : Ev} (h : ExLe Q e E) (v0 v1 : Value) (G : GS) : Ref (s4 true e v0 v1 G) (s4 false (Ex.of E) v0 v1 G) := by
  unfold s4
  exact Ref.go
theorem f4 {orc : FuncId → Bool} {e : Ex} (h : ExLe Q e (E orc)) (v0 v1 : Value) (G : GS) : Ref (s4 true e v0 v1 G) ((E orc).cl 4 [v0, v1] G) :=
  fun r hr => cl_sxE_some Q orc (vs := [v0, v1]) G Try.func4 (by kernel_rfl) (by kernel_rfl) (by kernel_rfl) (by kernel_rfl) (by kernel_rfl) (m4 h v0 v1 G r hr)
/-- coxswain/coxswainlaw07.HeapPlaces -/
noncomputable def s5 (q : Bool) (e : Ex) (v0 v1 v2 : Value) (G : GS) : Option (Value × GS) :=
  bP (ln Q q 22 v0) fun x0 =>
  bP (bn Q q .gtr 3 (.tmp 15) (.const (.int .i64 100)) x0 (.int .i64 100)) fun x1 =>
  ifV x1 (
  bS (e.ev.cl 13 [] G) fun x2 G3 =>
  some (x2, G3)) (
  bS (e.ev.cl 14 [v0] G) fun x4 G5 =>
  bS (e.ev.cl 24 [x4, v1] G5) fun x6 G7 =>
  bS (e.ev.cl 25 [x4, v2] G7) fun x8 G9 =>
  bP (pExtract x8 0) fun x10 =>
  bP (pExtract x8 1) fun x11 =>
  bS (e.ev.cl 26 [v0, v2] G9) fun x12 G13 =>
  bP (pExtract x12 0) fun x14 =>
  bP (pExtract x12 1) fun x15 =>
  bS (e.ev.cl 27 [v0, v1] G13) fun x16 G17 =>
  bS (e.ev.cl 19 [x6, x16] G17) fun x18 G19 =>
  bS (gd x18 true (some (x10, G19)) G19) fun x20 G21 =>
  bS (gd x18 true (some (x14, G21)) G21) fun x22 G23 =>
  bS (gd x18 true (bP (bn Q q .eql 3 (.tmp 41) (.tmp 42) x20 x22) fun y => some (y, G23)) G23) fun x24 G25 =>
  bP (pickV x18 x24 (.bool false)) fun x26 =>
  bS (gd x26 true (some (x11, G25)) G25) fun x27 G28 =>
  bS (gd x26 true (some (x15, G28)) G28) fun x29 G30 =>
  bS (gd x26 true (bP (eb Q q false 4 (.tmp 46) (.tmp 47) x27 x29) fun y => some (y, G30)) G30) fun x31 G32 =>
  bP (pickV x26 x31 (.bool false)) fun x33 =>
  bS (gd x33 true (some (x4, G32)) G32) fun x34 G35 =>
  bS (gd x33 true (bS (e.ev.cl 22 [x34] G35) fun y G => some (y, G)) G35) fun x36 G37 =>
  bS (gd x33 true (some (v0, G37)) G37) fun x38 G39 =>
  bS (gd x33 true (bS (e.ev.cl 23 [x38] G39) fun y G => some (y, G)) G39) fun x40 G41 =>
  bS (gd x33 true (bP (bn Q q .eql 26 (.tmp 52) (.tmp 54) x36 x40) fun y => some (y, G41)) G41) fun x42 G43 =>
  bP (pickV x33 x42 (.bool false)) fun x44 =>
  bS (e.ev.cl 20 [x6] G43) fun x45 G46 =>
  bS (gd x44 true (some (x4, G46)) G46) fun x47 G48 =>
  bS (gd x44 true (some (v0, G48)) G48) fun x49 G50 =>
  bS (gd x44 true (bS (e.ev.cl 19 [x47, x49] G50) fun y G => some (y, G)) G50) fun x51 G52 =>
  bP (pickV x44 x51 (.bool false)) fun x53 =>
  bS (gd x53 true (bS (e.ev.cl 13 [] G52) fun y G => some (y, G)) G52) fun x54 G55 =>
  bP (pickV x53 x54 (.bool false)) fun x56 =>
  some (x56, G55))
theorem m5 {e : Ex} {E : Ev} (h : ExLe Q e E) (v0 v1 v2 : Value) (G : GS) : Ref (s5 true e v0 v1 v2 G) (s5 false (Ex.of E) v0 v1 v2 G) := by
  unfold s5
  exact Ref.go
theorem f5 {orc : FuncId → Bool} {e : Ex} (h : ExLe Q e (E orc)) (v0 v1 v2 : Value) (G : GS) : Ref (s5 true e v0 v1 v2 G) ((E orc).cl 5 [v0, v1, v2] G) :=
  fun r hr => cl_sxE_some Q orc (vs := [v0, v1, v2]) G Try.func5 (by kernel_rfl) (by kernel_rfl) (by kernel_rfl) (by kernel_rfl) (by kernel_rfl) (m5 h v0 v1 v2 G r hr)
/-- coxswain/coxswainlaw07.HeapGoes -/
noncomputable def s7 (q : Bool) (e : Ex) (v0 v1 v2 : Value) (G : GS) : Option (Value × GS) :=
  bS (bx q v1 G) fun x0 G1 =>
  bS (bx q v2 G1) fun x2 G3 =>
  bS (e.ev.cl 6 [] G3) fun x4 G5 =>
  bP (ln Q q 22 v0) fun x6 =>
  bP (bn Q q .gtr 3 (.tmp 17) (.const (.int .i64 40)) x6 (.int .i64 40)) fun x7 =>
  bS (gd x7 false (some (v0, G5)) G5) fun x8 G9 =>
  bS (gd x7 false (bS (e.ev.cl 22 [x8] G9) fun y G => some (y, G)) G9) fun x10 G11 =>
  bS (gd x7 false (bP (bn Q q .neq 26 (.tmp 21) (.const (.int .i64 0)) x10 (.int .i64 0)) fun y => some (y, G11)) G11) fun x12 G13 =>
  bP (pickV x7 (.bool true) x12) fun x14 =>
  ifV x14 (
  some (x4, G13)) (
  bP (lda Q q 25 4 x0 G13) fun x15 =>
  bS (e.ev.cl 17 [v0, x15] G13) fun x16 G17 =>
  bP (pExtract x16 0) fun x18 =>
  bP (pExtract x16 1) fun x19 =>
  bS (al Q q 28 z28 G17) fun x20 G21 =>
  bP (st Q q 28 3 x20 x18 G21) fun G22 =>
  bP (lda Q q 25 4 x0 G22) fun x23 =>
  bP (lda Q q 28 3 x2 G22) fun x24 =>
  bS (e.ev.cl 15 [v0, x23, x24] G22) fun x25 G26 =>
  bP (pExtract x25 0) fun x27 =>
  bP (pExtract x25 1) fun x28 =>
  bP (fa Q q 25 0 0 x0) fun x29 =>
  bP (ld Q q 3 x29 G26) fun x30 =>
  bP (bn Q q .eql 3 (.tmp 39) (.const (.int .i64 4)) x30 (.int .i64 4)) fun x31 =>
  bS (gd x31 true (bP (lda Q q 28 3 x2 G26) fun y => some (y, G26)) G26) fun x32 G33 =>
  bS (gd x31 true (bP (bd Q q 28 z28 [(0, 0, 1)] [(.int .i64 7)]) fun y => some (y, G33)) G33) fun x34 G35 =>
  bS (gd x31 true (bP (bn Q q .eql 28 (.tmp 42) (.tmp 43) x32 x34) fun y => some (y, G35)) G35) fun x36 G37 =>
  bS (gd x31 true (some (x36, G37)) G37) fun x38 G39 =>
  bS (gd x38 false (bP (lda Q q 28 3 x2 G39) fun y => some (y, G39)) G39) fun x40 G41 =>
  bS (gd x38 false (bP (bd Q q 28 z28 [(0, 0, 1)] [(.int .i64 12)]) fun y => some (y, G41)) G41) fun x42 G43 =>
  bS (gd x38 false (bP (bn Q q .eql 28 (.tmp 46) (.tmp 47) x40 x42) fun y => some (y, G43)) G43) fun x44 G45 =>
  bS (gd x31 true (bP (pickV x38 (.bool true) x44) fun y => some (y, G45)) G45) fun x46 G47 =>
  bP (pickV x31 x46 (.bool false)) fun x48 =>
  bS (gd x48 false (some (x19, G47)) G47) fun x49 G50 =>
  bS (gd x48 false (some (x49, G50)) G50) fun x51 G52 =>
  bS (gd x51 true (bP (lda Q q 28 3 x2 G52) fun y => some (y, G52)) G52) fun x53 G54 =>
  bS (gd x51 true (bP (lda Q q 28 3 x20 G54) fun y => some (y, G54)) G54) fun x55 G56 =>
  bS (gd x51 true (bP (bn Q q .eql 28 (.tmp 56) (.tmp 57) x53 x55) fun y => some (y, G56)) G56) fun x57 G58 =>
  bS (gd x48 false (bP (pickV x51 x57 (.bool false)) fun y => some (y, G58)) G58) fun x59 G60 =>
  bP (pickV x48 (.bool true) x59) fun x61 =>
  bP (eb Q q true 4 (.tmp 51) (.tmp 60) x28 x61) fun x62 =>
  bS (gd x62 false (some (x28, G60)) G60) fun x63 G64 =>
  bS (gd x62 false (some (x63, G64)) G64) fun x65 G66 =>
  bS (gd x65 true (some (x27, G66)) G66) fun x67 G68 =>
  bS (gd x65 true (bS (e.ev.cl 22 [x67] G68) fun y G => some (y, G)) G68) fun x69 G70 =>
  bS (gd x65 true (bP (bn Q q .neq 26 (.tmp 66) (.const (.int .i64 0)) x69 (.int .i64 0)) fun y => some (y, G70)) G70) fun x71 G72 =>
  bS (gd x62 false (bP (pickV x65 x71 (.bool false)) fun y => some (y, G72)) G72) fun x73 G74 =>
  bP (pickV x62 (.bool true) x73) fun x75 =>
  ifV x75 (
  some ((.bool false), G74)) (
  bP (un Q q .not x28) fun x76 =>
  bS (gd x76 false (some (x48, G74)) G74) fun x77 G78 =>
  bP (pickV x76 (.bool true) x77) fun x79 =>
  bS (gd x79 false (bP (fa Q q 28 0 0 x2) fun y => some (y, G78)) G78) fun x80 G81 =>
  bS (gd x79 false (bP (ld Q q 26 x80 G81) fun y => some (y, G81)) G81) fun x82 G83 =>
  bS (gd x79 false (bP (bn Q q .neq 26 (.tmp 77) (.const (.int .i64 0)) x82 (.int .i64 0)) fun y => some (y, G83)) G83) fun x84 G85 =>
  bP (pickV x79 (.bool true) x84) fun x86 =>
  bS (gd x86 false (bP (fa Q q 25 0 0 x0) fun y => some (y, G85)) G85) fun x87 G88 =>
  bS (gd x86 false (bP (ld Q q 3 x87 G88) fun y => some (y, G88)) G88) fun x89 G90 =>
  bS (gd x86 false (bP (bn Q q .eql 3 (.tmp 82) (.const (.int .i64 6)) x89 (.int .i64 6)) fun y => some (y, G90)) G90) fun x91 G92 =>
  bP (pickV x86 (.bool true) x91) fun x93 =>
  ifV x93 (
  bS (gd x4 true (some (x28, G92)) G92) fun x94 G95 =>
  bS (gd x4 true (bP (un Q q .not x94) fun y => some (y, G95)) G95) fun x96 G97 =>
  bS (gd x4 true (some (x96, G97)) G97) fun x98 G99 =>
  bS (gd x98 false (some (x27, G99)) G99) fun x100 G101 =>
  bS (gd x98 false (some (v0, G101)) G101) fun x102 G103 =>
  bS (gd x98 false (bS (e.ev.cl 19 [x100, x102] G103) fun y G => some (y, G)) G103) fun x104 G105 =>
  bS (gd x4 true (bP (pickV x98 (.bool true) x104) fun y => some (y, G105)) G105) fun x106 G107 =>
  bP (pickV x4 x106 (.bool false)) fun x108 =>
  some (x108, G107)) (
  bP (fa Q q 25 0 0 x0) fun x109 =>
  bP (ld Q q 3 x109 G92) fun x110 =>
  bP (bn Q q .eql 3 (.tmp 96) (.const (.int .i64 4)) x110 (.int .i64 4)) fun x111 =>
  ifV x111 (
  bP (fa Q q 25 3 3 x0) fun x112 =>
  bP (ld Q q 23 x112 G92) fun x113 =>
  bS (e.ev.cl 25 [x27, x113] G92) fun x114 G115 =>
  bP (pExtract x114 0) fun x116 =>
  bP (pExtract x114 1) fun x117 =>
  bS (gd x4 true (some (x117, (G115.room 44))) (G115.room 44)) fun x118 _ =>
  bP (pickV x4 x118 (.bool false)) fun x119 =>
  bS (gd x119 true (some (x27, (G115.room 44))) (G115.room 44)) fun x120 _ =>
  bS (gd x119 true (bP (ln Q q 22 x120) fun y => some (y, (G115.room 44))) (G115.room 44)) fun x121 _ =>
  bS (gd x119 true (some (v0, (G115.room 44))) (G115.room 44)) fun x122 _ =>
  bS (gd x119 true (bP (ln Q q 22 x122) fun y => some (y, (G115.room 44))) (G115.room 44)) fun x123 _ =>
  bS (gd x119 true (bP (bn Q q .add 3 (.tmp 113) (.const (.int .i64 1)) x123 (.int .i64 1)) fun y => some (y, (G115.room 44))) (G115.room 44)) fun x124 _ =>
  bS (gd x119 true (bP (bn Q q .eql 3 (.tmp 111) (.tmp 114) x121 x124) fun y => some (y, (G115.room 44))) (G115.room 44)) fun x125 _ =>
  bP (pickV x119 x125 (.bool false)) fun x126 =>
  bS (gd x126 true (some (x116, (G115.room 44))) (G115.room 44)) fun x127 _ =>
  bS (gd x126 true (some (x27, (G115.room 44))) (G115.room 44)) fun x128 _ =>
  bS (gd x126 true (bP (ln Q q 22 x128) fun y => some (y, (G115.room 44))) (G115.room 44)) fun x129 _ =>
  bS (gd x126 true (bP (bn Q q .lss 3 (.tmp 118) (.tmp 120) x127 x129) fun y => some (y, (G115.room 44))) (G115.room 44)) fun x130 _ =>
  bP (pickV x126 x130 (.bool false)) fun x131 =>
  bS (gd x131 true (some (x27, (G115.room 44))) (G115.room 44)) fun x132 _ =>
  bS (gd x131 true (some (x116, (G115.room 44))) (G115.room 44)) fun x133 _ =>
  bS (gd x131 true (bP (ias Q q 22 2 x132 x133) fun y => some (y, (G115.room 44))) (G115.room 44)) fun x134 _ =>
  bS (gd x131 true (bP (lda Q q 40 2 x134 (G115.room 44)) fun y => some (y, (G115.room 44))) (G115.room 44)) fun x135 _ =>
  bS (gd x131 true (bP (fa Q q 25 3 3 x0) fun y => some (y, (G115.room 44))) (G115.room 44)) fun x136 _ =>
  bS (gd x131 true (bP (ld Q q 23 x136 (G115.room 44)) fun y => some (y, (G115.room 44))) (G115.room 44)) fun x137 _ =>
  bS (gd x131 true (bP (fa Q q 25 1 1 x0) fun y => some (y, (G115.room 44))) (G115.room 44)) fun x138 _ =>
  bS (gd x131 true (bP (ld Q q 3 x138 (G115.room 44)) fun y => some (y, (G115.room 44))) (G115.room 44)) fun x139 _ =>
  bS (gd x131 true (bP (bd Q q 40 z40 [(0, 0, 1), (1, 1, 1)] [x137, x139]) fun y => some (y, (G115.room 44))) (G115.room 44)) fun x140 _ =>
  bS (gd x131 true (bP (bn Q q .eql 40 (.tmp 127) (.tmp 132) x135 x140) fun y => some (y, (G115.room 44))) (G115.room 44)) fun x141 _ =>
  bP (pickV x131 x141 (.bool false)) fun x142 =>
  bS (gd x142 true (some (x27, (G115.room 44))) (G115.room 44)) fun x143 _ =>
  bS (gd x142 true (some (x116, (G115.room 44))) (G115.room 44)) fun x144 _ =>
  bS (gd x142 true (bP (sl Q q 22 2 x143 none (some x144) none (G115.room 44)) fun y => some (y, (G115.room 44))) (G115.room 44)) fun x145 _ =>
  bS (gd x142 true (bS (e.ev.cl 14 [x145] (G115.room 44)) fun y G => some (y, G)) (G115.room 44)) fun x147 G146 =>
  bS (gd x142 true (some (x27, G146)) G146) fun x148 _ =>
  bS (gd x142 true (some (x116, G146)) G146) fun x149 _ =>
  bS (gd x142 true (bP (bn Q q .add 3 (.tmp 141) (.const (.int .i64 1)) x149 (.int .i64 1)) fun y => some (y, G146)) G146) fun x150 _ =>
  bS (gd x142 true (bP (sl Q q 22 2 x148 (some x150) none none G146) fun y => some (y, G146)) G146) fun x151 _ =>
  chk (((!(gB x142 true) || (!(gB x142 true) || sameO (sl Q q 22 2 x148 (some x150) none none (G115.room 44)) x151)) && true)) <|
  bS (gd x142 true (bS (ap Q q 22 22 2 16 x147 x151 G146) fun y G => some (y, G)) G146) fun x153 G152 =>
  bS (gd x142 true (some (v0, G152)) G152) fun x154 _ =>
  bS (gd x142 true (bS (e.ev.cl 19 [x153, x154] G152) fun y G => some (y, G)) G152) fun x156 G155 =>
  bP (pickV x142 x156 (.bool false)) fun x157 =>
  some (x157, G155)) (
  bS (gd x4 true (some (v0, (G92.room 31))) (G92.room 31)) fun x158 _ =>
  bS (gd x4 true (bP (ln Q q 22 x158) fun y => some (y, (G92.room 31))) (G92.room 31)) fun x159 _ =>
  bS (gd x4 true (bP (bn Q q .gtr 3 (.tmp 151) (.const (.int .i64 0)) x159 (.int .i64 0)) fun y => some (y, (G92.room 31))) (G92.room 31)) fun x160 _ =>
  bP (pickV x4 x160 (.bool false)) fun x161 =>
  bS (gd x161 true (some (x27, (G92.room 31))) (G92.room 31)) fun x162 _ =>
  bS (gd x161 true (some (v0, (G92.room 31))) (G92.room 31)) fun x163 _ =>
  bS (gd x161 true (bP (sl Q q 22 2 x163 (some (.int .i64 1)) none none (G92.room 31)) fun y => some (y, (G92.room 31))) (G92.room 31)) fun x164 _ =>
  bS (gd x161 true (bS (e.ev.cl 19 [x162, x164] (G92.room 31)) fun y G => some (y, G)) (G92.room 31)) fun x166 G165 =>
  bP (pickV x161 x166 (.bool false)) fun x167 =>
  bS (gd x167 true (bP (fa Q q 28 2 2 x2) fun y => some (y, G165)) G165) fun x168 _ =>
  bS (gd x167 true (bP (ld Q q 23 x168 G165) fun y => some (y, G165)) G165) fun x169 _ =>
  bS (gd x167 true (some (v0, G165)) G165) fun x170 _ =>
  bS (gd x167 true (bP (ias Q q 22 2 x170 (.int .i64 0)) fun y => some (y, G165)) G165) fun x171 _ =>
  bS (gd x167 true (bP (fa Q q 40 0 0 x171) fun y => some (y, G165)) G165) fun x172 _ =>
  bS (gd x167 true (bP (ld Q q 23 x172 G165) fun y => some (y, G165)) G165) fun x173 _ =>
  bS (gd x167 true (bP (bn Q q .eql 23 (.tmp 162) (.tmp 166) x169 x173) fun y => some (y, G165)) G165) fun x174 _ =>
  bP (pickV x167 x174 (.bool false)) fun x175 =>
  bS (gd x175 true (bP (fa Q q 28 1 1 x2) fun y => some (y, G165)) G165) fun x176 _ =>
  bS (gd x175 true (bP (ld Q q 3 x176 G165) fun y => some (y, G165)) G165) fun x177 _ =>
  bS (gd x175 true (some (v0, G165)) G165) fun x178 _ =>
  bS (gd x175 true (bP (ias Q q 22 2 x178 (.int .i64 0)) fun y => some (y, G165)) G165) fun x179 _ =>
  bS (gd x175 true (bP (fa Q q 40 1 1 x179) fun y => some (y, G165)) G165) fun x180 _ =>
  bS (gd x175 true (bP (ld Q q 3 x180 G165) fun y => some (y, G165)) G165) fun x181 _ =>
  bS (gd x175 true (bP (bn Q q .eql 3 (.tmp 171) (.tmp 175) x177 x181) fun y => some (y, G165)) G165) fun x182 _ =>
  bP (pickV x175 x182 (.bool false)) fun x183 =>
  some (x183, G165)))))
theorem m7 {e : Ex} {E : Ev} (h : ExLe Q e E) (v0 v1 v2 : Value) (G : GS) : Ref (s7 true e v0 v1 v2 G) (s7 false (Ex.of E) v0 v1 v2 G) := by
  unfold s7
  exact Ref.go
set_option maxHeartbeats 8000000 in
theorem f7 {orc : FuncId → Bool} {e : Ex} (h : ExLe Q e (E orc)) (v0 v1 v2 : Value) (G : GS) : Ref (s7 true e v0 v1 v2 G) ((E orc).cl 7 [v0, v1, v2] G) :=
  fun r hr => cl_sxE_some Q orc (vs := [v0, v1, v2]) G Try.func7 (by kernel_rfl) (by kernel_rfl) (by kernel_rfl) (by kernel_rfl) (by kernel_rfl) (m7 h v0 v1 v2 G r hr)
instance ilp8_0 : LpIs Q 8 0 (subAt [1, 1, 1, 1, 1, 0, 1, 0, 0] (bodyOf Try.f8)) 109 := ⟨by kernel_rfl, by kernel_rfl⟩
noncomputable def b8_0 (q : Bool) (e : Ex) (lp : Env → GS → Option (Exit × Env × GS)) (τ : Env) (G : GS) : Option (Exit × Env × GS) :=
  bV q (τ 0) fun a0_ =>
  bV q (τ 4) fun a4_ =>
  bV q (τ 5) fun a5_ =>
  bV q (τ 6) fun a6_ =>
  bP (ln Q q 22 a0_) fun x0 =>
  bP (bn Q q .lss 3 (.tmp 24) (.tmp 26) a6_ x0) fun x1 =>
  ifV x1 (
  bP (ias Q q 22 2 a0_ a6_) fun x2 =>
  bP (fa Q q 40 0 0 x2) fun x3 =>
  bP (ld Q q 23 x3 (G.room 13)) fun x4 =>
  bP (ias Q q 22 2 a0_ a6_) fun x5 =>
  bP (fa Q q 40 1 1 x5) fun x6 =>
  bP (ld Q q 3 x6 (G.room 13)) fun x7 =>
  bS (e.ev.cl 29 [x4, x7] (G.room 13)) fun x9 G8 =>
  bS (al Q q 25 z25 (G8.at' (G.nx + 11))) fun x10 G11 =>
  bP (st Q q 25 4 x10 x9 (G11.back G8)) fun G12 =>
  bP (lda Q q 25 4 x10 G12) fun x13 =>
  bS (e.ev.cl 17 [a4_, x13] G12) fun x14 G15 =>
  bP (pExtract x14 0) fun x16 =>
  bP (pExtract x14 1) fun x17 =>
  bS (al Q q 28 z28 G15) fun x18 G19 =>
  bP (st Q q 28 3 x18 x16 G19) fun G20 =>
  bP (lda Q q 25 4 x10 G20) fun x21 =>
  bP (lda Q q 28 3 x18 G20) fun x22 =>
  bS (e.ev.cl 15 [a4_, x21, x22] G20) fun x23 G24 =>
  bP (pExtract x23 0) fun x25 =>
  bP (pExtract x23 1) fun x26 =>
  bP (un Q q .not x26) fun x27 =>
  ifV x27 (
  some (.ret, clq q 109 (tu τ [(0, a0_), (4, a4_), (5, a5_), (6, a6_), (2, (.bool false)), (7, x10), (8, x18), (9, x17), (10, x25), (11, x26), (24, a6_), (25, a0_), (26, x0), (27, x1), (30, a0_), (31, a6_), (32, x2), (33, x3), (34, x4), (35, a0_), (36, a6_), (37, x5), (38, x6), (39, x7), (40, x9), (41, x14), (42, a4_), (43, x13), (44, x14), (45, x16), (46, x17), (47, x23), (48, a4_), (49, x21), (50, x22), (51, x23), (52, x25), (53, x26), (54, x26), (55, x27)]), G24)) (
  bP (fa Q q 28 0 0 x18) fun x28 =>
  bP (ld Q q 26 x28 G24) fun x29 =>
  bP (bn Q q .eql 26 (.tmp 57) (.const (.int .i64 0)) x29 (.int .i64 0)) fun x30 =>
  ifV x30 (
  bP (bn Q q .add 3 (.tmp 59) (.const (.int .i64 1)) a5_ (.int .i64 1)) fun x31 =>
  bP (bn Q q .add 3 (.tmp 28) (.const (.int .i64 1)) a6_ (.int .i64 1)) fun x32 =>
  lp (tu τ [(0, a0_), (4, x25), (5, x31), (6, x32), (7, x10), (8, x18), (9, x17), (10, x25), (11, x26), (24, a6_), (25, a0_), (26, x0), (27, x1), (28, a6_), (29, x32), (30, a0_), (31, a6_), (32, x2), (33, x3), (34, x4), (35, a0_), (36, a6_), (37, x5), (38, x6), (39, x7), (40, x9), (41, x14), (42, a4_), (43, x13), (44, x14), (45, x16), (46, x17), (47, x23), (48, a4_), (49, x21), (50, x22), (51, x23), (52, x25), (53, x26), (54, x26), (55, x27), (56, x28), (57, x29), (58, x30), (59, a5_), (60, x31), (61, x25)]) G24) (
  bP (bn Q q .add 3 (.tmp 28) (.const (.int .i64 1)) a6_ (.int .i64 1)) fun x33 =>
  lp (tu τ [(0, a0_), (4, x25), (5, a5_), (6, x33), (7, x10), (8, x18), (9, x17), (10, x25), (11, x26), (24, a6_), (25, a0_), (26, x0), (27, x1), (28, a6_), (29, x33), (30, a0_), (31, a6_), (32, x2), (33, x3), (34, x4), (35, a0_), (36, a6_), (37, x5), (38, x6), (39, x7), (40, x9), (41, x14), (42, a4_), (43, x13), (44, x14), (45, x16), (46, x17), (47, x23), (48, a4_), (49, x21), (50, x22), (51, x23), (52, x25), (53, x26), (54, x26), (55, x27), (56, x28), (57, x29), (58, x30), (61, x25)]) G24))) (
  some ((.exit 0), clq q 109 (tu τ [(0, a0_), (4, a4_), (5, a5_), (6, a6_), (24, a6_), (25, a0_), (26, x0), (27, x1)]), G))
theorem mb8_0 {e : Ex} {E : Ev} (h : ExLe Q e E) {lp lp' : Env → GS → Option (Exit × Env × GS)} (hlp : LpLe lp lp') (τ : Env) (G : GS) : Ref (b8_0 true e lp τ G) (b8_0 false (Ex.of E) lp' τ G) := by
  unfold b8_0
  exact Ref.go
set_option maxHeartbeats 8000000 in
theorem l8_0 {orc : FuncId → Bool} {e : Ex} (h : ExLe Q e (E orc)) (lp : Env → GS → Option (Exit × Env × GS)) (hlp : ∀ τ G, Ref (lp τ G) (mapE ((E orc).lp (subAt [1, 1, 1, 1, 1, 0, 1, 0, 0] (bodyOf Try.f8)) (lst 109 τ) G))) (T : List Value) (G : GS) (hT : T.length = 109) : Ref (b8_0 true e lp (nth undef T) G) (mapE ((E orc).lp (subAt [1, 1, 1, 1, 1, 0, 1, 0, 0] (bodyOf Try.f8)) T G)) :=
  fun r hr => lp_sxM Q orc G hT (by kernel_rfl) (mb8_0 h ⟨hlp⟩ _ _ r hr)
instance ilp8_1 : LpIs Q 8 1 (subAt [1, 1, 1, 1, 1, 1, 1, 0, 1, 0, 0] (bodyOf Try.f8)) 109 := ⟨by kernel_rfl, by kernel_rfl⟩
noncomputable def b8_1 (q : Bool) (e : Ex) (lp : Env → GS → Option (Exit × Env × GS)) (τ : Env) (G : GS) : Option (Exit × Env × GS) :=
  bV q (τ 4) fun a4_ =>
  bV q (τ 5) fun a5_ =>
  bV q (τ 12) fun a12_ =>
  bV q (τ 13) fun a13_ =>
  bP (bn Q q .lss 3 (.tmp 62) (.tmp 63) a13_ a5_) fun x0 =>
  ifV x0 (
  bP (bd Q q 25 z25 [(0, 0, 1)] [(.int .i64 5)]) fun x1 =>
  bS (al Q q 25 z25 G) fun x2 G3 =>
  bP (st Q q 25 4 x2 x1 G3) fun G4 =>
  bP (lda Q q 25 4 x2 G4) fun x5 =>
  bS (e.ev.cl 17 [a4_, x5] G4) fun x6 G7 =>
  bP (pExtract x6 0) fun x8 =>
  bP (pExtract x6 1) fun x9 =>
  bS (al Q q 28 z28 G7) fun x10 G11 =>
  bP (st Q q 28 3 x10 x8 G11) fun G12 =>
  bP (un Q q .not x9) fun x13 =>
  bS (gd x13 false (bP (fa Q q 28 0 0 x10) fun y => some (y, G12)) G12) fun x14 G15 =>
  bS (gd x13 false (bP (ld Q q 26 x14 G15) fun y => some (y, G15)) G15) fun x16 G17 =>
  bS (gd x13 false (bP (bn Q q .neq 26 (.tmp 78) (.const (.int .i64 0)) x16 (.int .i64 0)) fun y => some (y, G17)) G17) fun x18 G19 =>
  bP (pickV x13 (.bool true) x18) fun x20 =>
  bS (gd x20 false (some (a13_, G19)) G19) fun x21 G22 =>
  bS (gd x20 false (bP (bn Q q .gtr 3 (.tmp 82) (.const (.int .i64 0)) x21 (.int .i64 0)) fun y => some (y, G22)) G22) fun x23 G24 =>
  bS (gd x20 false (some (x23, G24)) G24) fun x25 G26 =>
  bS (gd x25 true (bP (fa Q q 28 2 2 x10) fun y => some (y, G26)) G26) fun x27 G28 =>
  bS (gd x25 true (bP (ld Q q 23 x27 G28) fun y => some (y, G28)) G28) fun x29 G30 =>
  bS (gd x25 true (some (a12_, G30)) G30) fun x31 G32 =>
  bS (gd x25 true (bP (bn Q q .leq 23 (.tmp 86) (.tmp 87) x29 x31) fun y => some (y, G32)) G32) fun x33 G34 =>
  bS (gd x20 false (bP (pickV x25 x33 (.bool false)) fun y => some (y, G34)) G34) fun x35 G36 =>
  bP (pickV x20 (.bool true) x35) fun x37 =>
  ifV x37 (
  some (.ret, clq q 109 (tu τ [(4, a4_), (5, a5_), (12, a12_), (13, a13_), (2, (.bool false)), (14, x2), (15, x10), (16, x9), (62, a13_), (63, a5_), (64, x0), (67, x1), (68, x6), (69, a4_), (70, x5), (71, x6), (72, x8), (73, x9), (74, x9), (75, x13), (76, x13), (77, x14), (78, x16), (79, x18), (80, x20), (81, x20), (82, x21), (83, x23), (84, x25), (85, x27), (86, x29), (87, x31), (88, x33), (89, x35), (90, x37)]), G36)) (
  bP (fa Q q 28 2 2 x10) fun x38 =>
  bP (ld Q q 23 x38 G36) fun x39 =>
  bP (lda Q q 25 4 x2 G36) fun x40 =>
  bP (lda Q q 28 3 x10 G36) fun x41 =>
  bS (e.ev.cl 15 [a4_, x40, x41] G36) fun x42 G43 =>
  bP (pExtract x42 0) fun x44 =>
  bP (pExtract x42 1) fun x45 =>
  bP (un Q q .not x45) fun x46 =>
  ifV x46 (
  some (.ret, clq q 109 (tu τ [(4, a4_), (5, a5_), (12, x39), (13, a13_), (2, (.bool false)), (14, x2), (15, x10), (16, x9), (17, x44), (18, x45), (62, a13_), (63, a5_), (64, x0), (67, x1), (68, x6), (69, a4_), (70, x5), (71, x6), (72, x8), (73, x9), (74, x9), (75, x13), (76, x13), (77, x14), (78, x16), (79, x18), (80, x20), (81, x20), (82, x21), (83, x23), (84, x25), (85, x27), (86, x29), (87, x31), (88, x33), (89, x35), (90, x37), (91, x38), (92, x39), (93, x42), (94, a4_), (95, x40), (96, x41), (97, x42), (98, x44), (99, x45), (100, x45), (101, x46)]), G43)) (
  bP (bn Q q .add 3 (.tmp 65) (.const (.int .i64 1)) a13_ (.int .i64 1)) fun x47 =>
  lp (tu τ [(4, x44), (5, a5_), (12, x39), (13, x47), (14, x2), (15, x10), (16, x9), (17, x44), (18, x45), (62, a13_), (63, a5_), (64, x0), (65, a13_), (66, x47), (67, x1), (68, x6), (69, a4_), (70, x5), (71, x6), (72, x8), (73, x9), (74, x9), (75, x13), (76, x13), (77, x14), (78, x16), (79, x18), (80, x20), (81, x20), (82, x21), (83, x23), (84, x25), (85, x27), (86, x29), (87, x31), (88, x33), (89, x35), (90, x37), (91, x38), (92, x39), (93, x42), (94, a4_), (95, x40), (96, x41), (97, x42), (98, x44), (99, x45), (100, x45), (101, x46), (102, x44)]) G43))) (
  some ((.exit 2), clq q 109 (tu τ [(4, a4_), (5, a5_), (12, a12_), (13, a13_), (62, a13_), (63, a5_), (64, x0)]), G))
theorem mb8_1 {e : Ex} {E : Ev} (h : ExLe Q e E) {lp lp' : Env → GS → Option (Exit × Env × GS)} (hlp : LpLe lp lp') (τ : Env) (G : GS) : Ref (b8_1 true e lp τ G) (b8_1 false (Ex.of E) lp' τ G) := by
  unfold b8_1
  exact Ref.go
set_option maxHeartbeats 8000000 in
theorem l8_1 {orc : FuncId → Bool} {e : Ex} (h : ExLe Q e (E orc)) (lp : Env → GS → Option (Exit × Env × GS)) (hlp : ∀ τ G, Ref (lp τ G) (mapE ((E orc).lp (subAt [1, 1, 1, 1, 1, 1, 1, 0, 1, 0, 0] (bodyOf Try.f8)) (lst 109 τ) G))) (T : List Value) (G : GS) (hT : T.length = 109) : Ref (b8_1 true e lp (nth undef T) G) (mapE ((E orc).lp (subAt [1, 1, 1, 1, 1, 1, 1, 0, 1, 0, 0] (bodyOf Try.f8)) T G)) :=
  fun r hr => lp_sxM Q orc G hT (by kernel_rfl) (mb8_1 h ⟨hlp⟩ _ _ r hr)
/-- coxswain/coxswainlaw07.HeapSorts -/
noncomputable def s8 (q : Bool) (e : Ex) (v0 : Value) (G : GS) : Option (Value × GS) :=
  bS (e.ev.cl 6 [] G) fun x0 G1 =>
  bP (ln Q q 22 v0) fun x2 =>
  bP (bn Q q .gtr 3 (.tmp 21) (.const (.int .i64 60)) x2 (.int .i64 60)) fun x3 =>
  ifV x3 (
  some (x0, G1)) (
  bL q e 8 0 (subAt [1, 1, 1, 1, 1, 0, 1, 0, 0] (bodyOf Try.f8)) 109 (tu (nth undef [v0]) [(2, (.bool false)), (3, x0), (4, (.slice none 0 0)), (5, (.int .i64 0)), (6, (.int .i64 0)), (19, x0), (20, v0), (21, x2), (22, x3)]) G1 fun e4 t5 G6 =>
  bV q (t5 2) fun t5x2_ =>
  ifE e4 (.exit 0) (
  bL q e 8 1 (subAt [1, 1, 1, 1, 1, 1, 1, 0, 1, 0, 0] (bodyOf Try.f8)) 109 (tu t5 [(12, (.int .u64 0)), (13, (.int .i64 0))]) G6 fun e7 t8 G9 =>
  bV q (t8 2) fun t8x2_ =>
  bV q (t8 3) fun t8x3_ =>
  bV q (t8 4) fun t8x4_ =>
  ifE e7 (.exit 2) (
  bS (gd t8x3_ true (some (t8x4_, G9)) G9) fun x10 G11 =>
  bS (gd t8x3_ true (bP (ln Q q 22 x10) fun y => some (y, G11)) G11) fun x12 G13 =>
  bS (gd t8x3_ true (bP (bn Q q .eql 3 (.tmp 106) (.const (.int .i64 0)) x12 (.int .i64 0)) fun y => some (y, G13)) G13) fun x14 G15 =>
  bP (pickV t8x3_ x14 (.bool false)) fun x16 =>
  some (x16, G15)) (ifE e7 .ret (
  some (t8x2_, G9)) (none))) (ifE e4 .ret (
  some (t5x2_, G6)) (none)))
theorem m8 {e : Ex} {E : Ev} (h : ExLe Q e E) (v0 : Value) (G : GS) : Ref (s8 true e v0 G) (s8 false (Ex.of E) v0 G) := by
  unfold s8
  exact Ref.go
set_option maxHeartbeats 8000000 in
theorem f8 {orc : FuncId → Bool} {e : Ex} (h : ExLe Q e (E orc)) (v0 : Value) (G : GS) : Ref (s8 true e v0 G) ((E orc).cl 8 [v0] G) :=
  fun r hr => cl_sxE_some Q orc (vs := [v0]) G Try.func8 (by kernel_rfl) (by kernel_rfl) (by kernel_rfl) (by kernel_rfl) (by kernel_rfl) (m8 h v0 G r hr)
/-- coxswain/coxswainlaw07.awake -/
noncomputable def s13 (q : Bool) (e : Ex) (G : GS) : Option (Value × GS) :=
  bS (e.ev.cl 29 [(.int .u64 4), (.int .i64 9)] G) fun x0 G1 =>
  bP (bd Q q 28 z28 [] []) fun x2 =>
  bP (bd Q q 40 z40 [(0, 0, 1), (1, 1, 1)] [(.int .u64 3), (.int .i64 7)]) fun x3 =>
  bP (bd Q q 40 z40 [(0, 0, 1), (1, 1, 1)] [(.int .u64 4), (.int .i64 9)]) fun x4 =>
  bP (bd Q q 40 z40 [(0, 0, 1), (1, 1, 1)] [(.int .u64 5), (.int .i64 8)]) fun x5 =>
  bS (bs Q q 22 3 (rep z40 3) 2 [(0, 0, 2), (1, 2, 2), (2, 4, 2)] [x3, x4, x5] G1) fun x6 G7 =>
  bS (e.ev.cl 28 [x0, x2, x6] G7) fun x8 G9 =>
  bS (gd x8 true (bP (bd Q q 25 z25 [(0, 0, 1)] [(.int .i64 5)]) fun y => some (y, G9)) G9) fun x10 G11 =>
  bS (gd x8 true (bP (bd Q q 28 z28 [(1, 1, 1), (2, 2, 1)] [(.int .i64 7), (.int .u64 3)]) fun y => some (y, G11)) G11) fun x12 G13 =>
  bS (gd x8 true (bP (bd Q q 40 z40 [(0, 0, 1), (1, 1, 1)] [(.int .u64 5), (.int .i64 8)]) fun y => some (y, G13)) G13) fun x14 G15 =>
  bS (gd x8 true (bS (bs Q q 22 1 (rep z40 1) 2 [(0, 0, 2)] [x14] G15) fun y G => some (y, G)) G15) fun x16 G17 =>
  bS (gd x8 true (bS (e.ev.cl 28 [x10, x12, x16] G17) fun y G => some (y, G)) G17) fun x18 G19 =>
  bP (pickV x8 x18 (.bool false)) fun x20 =>
  bS (gd x20 true (bS (e.ev.cl 29 [(.int .u64 5), (.int .i64 1)] G19) fun y G => some (y, G)) G19) fun x21 G22 =>
  bS (gd x20 true (bP (bd Q q 28 z28 [] []) fun y => some (y, G22)) G22) fun x23 G24 =>
  bS (gd x20 true (bS (e.ev.cl 28 [x21, x23, (.slice none 0 0)] G24) fun y G => some (y, G)) G24) fun x25 G26 =>
  bP (pickV x20 x25 (.bool false)) fun x27 =>
  some (x27, G26)
theorem m13 {e : Ex} {E : Ev} (h : ExLe Q e E) (G : GS) : Ref (s13 true e  G) (s13 false (Ex.of E)  G) := by
  unfold s13
  exact Ref.go
theorem f13 {orc : FuncId → Bool} {e : Ex} (h : ExLe Q e (E orc)) (ho : orc 13 = false) (G : GS) : Ref (s13 true e  G) ((E orc).cl 13 [] G) :=
  fun r hr => cl_sxE_some Q orc (vs := []) G Try.func13 (by kernel_rfl) (by kernel_rfl) ho (by kernel_rfl) (by kernel_rfl) (m13 h  G r hr)
/-- coxswain/coxswainkit.CopyItems -/
noncomputable def s14 (q : Bool) (e : Ex) (v0 : Value) (G : GS) : Option (Value × GS) :=
  bS (bs Q q 22 0 (rep z40 0) 2 [] [] G) fun x0 G1 =>
  bS (ap Q q 22 22 2 16 x0 v0 G1) fun x2 G3 =>
  some (x2, G3)
theorem m14 {e : Ex} {E : Ev} (h : ExLe Q e E) (v0 : Value) (G : GS) : Ref (s14 true e v0 G) (s14 false (Ex.of E) v0 G) := by
  unfold s14
  exact Ref.go
theorem f14 {orc : FuncId → Bool} {e : Ex} (h : ExLe Q e (E orc)) (v0 : Value) (G : GS) : Ref (s14 true e v0 G) ((E orc).cl 14 [v0] G) :=
  fun r hr => cl_sxE_some Q orc (vs := [v0]) G Try.func14 (by kernel_rfl) (by kernel_rfl) (by kernel_rfl) (by kernel_rfl) (by kernel_rfl) (m14 h v0 G r hr)
/-- coxswain/heap.Next -/
noncomputable def s15 (q : Bool) (e : Ex) (v0 v1 v2 : Value) (G : GS) : Option (Value × GS) :=
  bS (bx q v1 G) fun x0 G1 =>
  bS (bx q v2 G1) fun x2 G3 =>
  bS (e.ev.cl 22 [v0] G3) fun x4 G5 =>
  bP (bn Q q .neq 26 (.tmp 14) (.const (.int .i64 0)) x4 (.int .i64 0)) fun x6 =>
  ifV x6 (
  some (.tuple #[(.slice none 0 0), (.bool false)], G5)) (
  bP (fa Q q 25 0 0 x0) fun x7 =>
  bP (ld Q q 3 x7 G5) fun x8 =>
  bP (bn Q q .eql 3 (.tmp 17) (.const (.int .i64 4)) x8 (.int .i64 4)) fun x9 =>
  bS (gd x9 true (bP (lda Q q 28 3 x2 G5) fun y => some (y, G5)) G5) fun x10 G11 =>
  bS (gd x9 true (bS (e.ev.cl 55 [x10] G11) fun y G => some (y, G)) G11) fun x12 G13 =>
  bP (pickV x9 x12 (.bool false)) fun x14 =>
  ifV x14 (
  bS (e.ev.cl 56 [v0] G13) fun x15 G16 =>
  some (.tuple #[x15, (.bool true)], G16)) (
  bP (lda Q q 25 4 x0 G13) fun x17 =>
  bS (e.ev.cl 17 [v0, x17] G13) fun x18 G19 =>
  bP (pExtract x18 0) fun x20 =>
  bP (pExtract x18 1) fun x21 =>
  bS (al Q q 28 z28 G19) fun x22 G23 =>
  bP (st Q q 28 3 x22 x20 G23) fun G24 =>
  bP (un Q q .not x21) fun x25 =>
  bS (gd x25 false (bP (lda Q q 28 3 x22 G24) fun y => some (y, G24)) G24) fun x26 G27 =>
  bS (gd x25 false (bP (lda Q q 28 3 x2 G27) fun y => some (y, G27)) G27) fun x28 G29 =>
  bS (gd x25 false (bP (bn Q q .neq 28 (.tmp 34) (.tmp 35) x26 x28) fun y => some (y, G29)) G29) fun x30 G31 =>
  bP (pickV x25 (.bool true) x30) fun x32 =>
  ifV x32 (
  some (.tuple #[(.slice none 0 0), (.bool false)], G31)) (
  bP (fa Q q 28 0 0 x2) fun x33 =>
  bP (ld Q q 26 x33 G31) fun x34 =>
  bP (bn Q q .neq 26 (.tmp 40) (.const (.int .i64 0)) x34 (.int .i64 0)) fun x35 =>
  bS (gd x35 false (bP (fa Q q 25 0 0 x0) fun y => some (y, G31)) G31) fun x36 G37 =>
  bS (gd x35 false (bP (ld Q q 3 x36 G37) fun y => some (y, G37)) G37) fun x38 G39 =>
  bS (gd x35 false (bP (bn Q q .eql 3 (.tmp 44) (.const (.int .i64 6)) x38 (.int .i64 6)) fun y => some (y, G39)) G39) fun x40 G41 =>
  bP (pickV x35 (.bool true) x40) fun x42 =>
  ifV x42 (
  bS (e.ev.cl 56 [v0] G41) fun x43 G44 =>
  some (.tuple #[x43, (.bool true)], G44)) (
  bP (fa Q q 25 0 0 x0) fun x45 =>
  bP (ld Q q 3 x45 G41) fun x46 =>
  bP (bn Q q .eql 3 (.tmp 51) (.const (.int .i64 5)) x46 (.int .i64 5)) fun x47 =>
  ifV x47 (
  bP (sl Q q 22 2 v0 (some (.int .i64 1)) none none G41) fun x48 =>
  bS (e.ev.cl 56 [x48] G41) fun x49 G50 =>
  some (.tuple #[x49, (.bool true)], G50)) (
  bP (fa Q q 25 3 3 x0) fun x51 =>
  bP (ld Q q 23 x51 G41) fun x52 =>
  bS (e.ev.cl 57 [v0, x52] G41) fun x53 G54 =>
  bP (pExtract x53 0) fun x55 =>
  bP (pExtract x53 1) fun x56 =>
  bP (sl Q q 22 2 v0 none (some x55) (some x55) (G54.room 13)) fun x57 =>
  bS (e.ev.cl 56 [x57] (G54.room 13)) fun x59 G58 =>
  bP (fa Q q 25 3 3 x0) fun x60 =>
  bP (ld Q q 23 x60 G58) fun x61 =>
  chk ((sameO (ld Q q 23 x60 (G54.room 13)) x61 && true)) <|
  bP (fa Q q 25 1 1 x0) fun x62 =>
  bP (ld Q q 3 x62 G58) fun x63 =>
  chk ((sameO (ld Q q 3 x62 (G54.room 13)) x63 && true)) <|
  bP (bd Q q 40 z40 [(0, 0, 1), (1, 1, 1)] [x61, x63]) fun x64 =>
  bS (bs Q q 22 1 (rep z40 1) 2 [(0, 0, 2)] [x64] (G58.at' (G54.nx + 10))) fun x65 G66 =>
  bS (ap Q q 22 22 2 16 x59 x65 (G66.back G58)) fun x68 G67 =>
  bP (sl Q q 22 2 v0 (some x55) none none G67) fun x69 =>
  bS (ap Q q 22 22 2 16 x68 x69 G67) fun x70 G71 =>
  some (.tuple #[x70, (.bool true)], G71))))))
theorem m15 {e : Ex} {E : Ev} (h : ExLe Q e E) (v0 v1 v2 : Value) (G : GS) : Ref (s15 true e v0 v1 v2 G) (s15 false (Ex.of E) v0 v1 v2 G) := by
  unfold s15
  exact Ref.go
theorem f15 {orc : FuncId → Bool} {e : Ex} (h : ExLe Q e (E orc)) (v0 v1 v2 : Value) (G : GS) : Ref (s15 true e v0 v1 v2 G) ((E orc).cl 15 [v0, v1, v2] G) :=
  fun r hr => cl_sxE_some Q orc (vs := [v0, v1, v2]) G Try.func15 (by kernel_rfl) (by kernel_rfl) (by kernel_rfl) (by kernel_rfl) (by kernel_rfl) (m15 h v0 v1 v2 G r hr)
/-- coxswain/coxswainref07.Next -/
noncomputable def s16 (q : Bool) (e : Ex) (v0 v1 v2 : Value) (G : GS) : Option (Value × GS) :=
  bS (bx q v1 G) fun x0 G1 =>
  bS (bx q v2 G1) fun x2 G3 =>
  bS (e.ev.cl 23 [v0] G3) fun x4 G5 =>
  bP (bn Q q .neq 26 (.tmp 11) (.const (.int .i64 0)) x4 (.int .i64 0)) fun x6 =>
  ifV x6 (
  some (.tuple #[(.slice none 0 0), (.bool false)], G5)) (
  bP (fa Q q 25 0 0 x0) fun x7 =>
  bP (ld Q q 3 x7 G5) fun x8 =>
  bP (bn Q q .eql 3 (.tmp 14) (.const (.int .i64 4)) x8 (.int .i64 4)) fun x9 =>
  bS (gd x9 true (bP (lda Q q 28 3 x2 G5) fun y => some (y, G5)) G5) fun x10 G11 =>
  bS (gd x9 true (bP (bd Q q 28 z28 [(0, 0, 1)] [(.int .i64 7)]) fun y => some (y, G11)) G11) fun x12 G13 =>
  bS (gd x9 true (bP (bn Q q .eql 28 (.tmp 17) (.tmp 18) x10 x12) fun y => some (y, G13)) G13) fun x14 G15 =>
  bS (gd x9 true (some (x14, G15)) G15) fun x16 G17 =>
  bS (gd x16 false (bP (lda Q q 28 3 x2 G17) fun y => some (y, G17)) G17) fun x18 G19 =>
  bS (gd x16 false (bP (bd Q q 28 z28 [(0, 0, 1)] [(.int .i64 12)]) fun y => some (y, G19)) G19) fun x20 G21 =>
  bS (gd x16 false (bP (bn Q q .eql 28 (.tmp 21) (.tmp 22) x18 x20) fun y => some (y, G21)) G21) fun x22 G23 =>
  bS (gd x9 true (bP (pickV x16 (.bool true) x22) fun y => some (y, G23)) G23) fun x24 G25 =>
  bP (pickV x9 x24 (.bool false)) fun x26 =>
  ifV x26 (
  bS (e.ev.cl 14 [v0] G25) fun x27 G28 =>
  some (.tuple #[x27, (.bool true)], G28)) (
  bP (lda Q q 25 4 x0 G25) fun x29 =>
  bS (e.ev.cl 18 [v0, x29] G25) fun x30 G31 =>
  bP (pExtract x30 0) fun x32 =>
  bP (pExtract x30 1) fun x33 =>
  bS (al Q q 28 z28 G31) fun x34 G35 =>
  bP (st Q q 28 3 x34 x32 G35) fun G36 =>
  bP (un Q q .not x33) fun x37 =>
  bS (gd x37 false (bP (lda Q q 28 3 x2 G36) fun y => some (y, G36)) G36) fun x38 G39 =>
  bS (gd x37 false (bP (lda Q q 28 3 x34 G39) fun y => some (y, G39)) G39) fun x40 G41 =>
  bS (gd x37 false (bP (bn Q q .neq 28 (.tmp 38) (.tmp 39) x38 x40) fun y => some (y, G41)) G41) fun x42 G43 =>
  bP (pickV x37 (.bool true) x42) fun x44 =>
  ifV x44 (
  some (.tuple #[(.slice none 0 0), (.bool false)], G43)) (
  bP (fa Q q 28 0 0 x2) fun x45 =>
  bP (ld Q q 26 x45 G43) fun x46 =>
  bP (bn Q q .eql 26 (.tmp 44) (.const (.int .i64 0)) x46 (.int .i64 0)) fun x47 =>
  bS (gd x47 true (bP (fa Q q 25 0 0 x0) fun y => some (y, G43)) G43) fun x48 G49 =>
  bS (gd x47 true (bP (ld Q q 3 x48 G49) fun y => some (y, G49)) G49) fun x50 G51 =>
  bS (gd x47 true (bP (bn Q q .eql 3 (.tmp 48) (.const (.int .i64 4)) x50 (.int .i64 4)) fun y => some (y, G51)) G51) fun x52 G53 =>
  bP (pickV x47 x52 (.bool false)) fun x54 =>
  ifV x54 (
  bP (fa Q q 25 3 3 x0) fun x55 =>
  bP (ld Q q 23 x55 G53) fun x56 =>
  bP (fa Q q 25 1 1 x0) fun x57 =>
  bP (ld Q q 3 x57 G53) fun x58 =>
  bP (bd Q q 40 z40 [(0, 0, 1), (1, 1, 1)] [x56, x58]) fun x59 =>
  bS (e.ev.cl 58 [v0, x59] G53) fun x60 G61 =>
  some (.tuple #[x60, (.bool true)], G61)) (
  bP (fa Q q 28 0 0 x2) fun x62 =>
  bP (ld Q q 26 x62 G53) fun x63 =>
  bP (bn Q q .eql 26 (.tmp 60) (.const (.int .i64 0)) x63 (.int .i64 0)) fun x64 =>
  bS (gd x64 true (bP (fa Q q 25 0 0 x0) fun y => some (y, G53)) G53) fun x65 G66 =>
  bS (gd x64 true (bP (ld Q q 3 x65 G66) fun y => some (y, G66)) G66) fun x67 G68 =>
  bS (gd x64 true (bP (bn Q q .eql 3 (.tmp 64) (.const (.int .i64 5)) x67 (.int .i64 5)) fun y => some (y, G68)) G68) fun x69 G70 =>
  bP (pickV x64 x69 (.bool false)) fun x71 =>
  ifV x71 (
  bP (sl Q q 22 2 v0 (some (.int .i64 1)) none none G70) fun x72 =>
  bS (e.ev.cl 14 [x72] G70) fun x73 G74 =>
  some (.tuple #[x73, (.bool true)], G74)) (
  bS (e.ev.cl 14 [v0] G70) fun x75 G76 =>
  some (.tuple #[x75, (.bool true)], G76))))))
theorem m16 {e : Ex} {E : Ev} (h : ExLe Q e E) (v0 v1 v2 : Value) (G : GS) : Ref (s16 true e v0 v1 v2 G) (s16 false (Ex.of E) v0 v1 v2 G) := by
  unfold s16
  exact Ref.go
theorem f16 {orc : FuncId → Bool} {e : Ex} (h : ExLe Q e (E orc)) (v0 v1 v2 : Value) (G : GS) : Ref (s16 true e v0 v1 v2 G) ((E orc).cl 16 [v0, v1, v2] G) :=
  fun r hr => cl_sxE_some Q orc (vs := [v0, v1, v2]) G Try.func16 (by kernel_rfl) (by kernel_rfl) (by kernel_rfl) (by kernel_rfl) (by kernel_rfl) (m16 h v0 v1 v2 G r hr)
/-- coxswain/heap.Answer -/
noncomputable def s17 (q : Bool) (e : Ex) (v0 v1 : Value) (G : GS) : Option (Value × GS) :=
  bS (bx q v1 G) fun x0 G1 =>
  bS (al Q q 28 z28 G1) fun x2 G3 =>
  bP (fa Q q 25 0 0 x0) fun x4 =>
  bP (ld Q q 3 x4 G3) fun x5 =>
  bP (bn Q q .lss 3 (.tmp 8) (.const (.int .i64 4)) x5 (.int .i64 4)) fun x6 =>
  bS (gd x6 false (bP (fa Q q 25 0 0 x0) fun y => some (y, G3)) G3) fun x7 G8 =>
  bS (gd x6 false (bP (ld Q q 3 x7 G8) fun y => some (y, G8)) G8) fun x9 G10 =>
  bS (gd x6 false (bP (bn Q q .gtr 3 (.tmp 12) (.const (.int .i64 6)) x9 (.int .i64 6)) fun y => some (y, G10)) G10) fun x11 G12 =>
  bP (pickV x6 (.bool true) x11) fun x13 =>
  bS (gd x13 false (some (v0, G12)) G12) fun x14 G15 =>
  bS (gd x13 false (bS (e.ev.cl 22 [x14] G15) fun y G => some (y, G)) G15) fun x16 G17 =>
  bS (gd x13 false (bP (bn Q q .neq 26 (.tmp 17) (.const (.int .i64 0)) x16 (.int .i64 0)) fun y => some (y, G17)) G17) fun x18 G19 =>
  bP (pickV x13 (.bool true) x18) fun x20 =>
  ifV x20 (
  bP (bd Q q 28 z28 [] []) fun x21 =>
  bP (st Q q 28 3 x2 x21 G19) fun G22 =>
  bP (lda Q q 28 3 x2 G22) fun x23 =>
  some (.tuple #[x23, (.bool false)], G22)) (
  bS (e.ev.cl 59 [] G19) fun x24 G25 =>
  bS (al Q q 92 z92 G25) fun x26 G27 =>
  bP (st Q q 92 3 x26 x24 G27) fun G28 =>
  bP (fa Q q 25 0 0 x0) fun x29 =>
  bP (ld Q q 3 x29 (G28.room 12)) fun x30 =>
  bP (bn Q q .sub 3 (.tmp 23) (.const (.int .i64 4)) x30 (.int .i64 4)) fun x31 =>
  bP (iaa Q q 92 3 1 x26 x31) fun x32 =>
  bP (ld Q q 34 x32 (G28.room 12)) fun x33 =>
  bP (lda Q q 25 4 x0 (G28.room 12)) fun x34 =>
  bS (cValue e.ev x33 [v0, x34] (G28.room 12)) fun x36 G35 =>
  bP (pExtract x36 0) fun x37 =>
  bP (pExtract x36 1) fun x38 =>
  bP (st Q q 28 3 x2 x37 G35) fun G39 =>
  bP (lda Q q 28 3 x2 G39) fun x40 =>
  some (.tuple #[x40, x38], G39))
theorem m17 {e : Ex} {E : Ev} (h : ExLe Q e E) (v0 v1 : Value) (G : GS) : Ref (s17 true e v0 v1 G) (s17 false (Ex.of E) v0 v1 G) := by
  unfold s17
  exact Ref.go
theorem f17 {orc : FuncId → Bool} {e : Ex} (h : ExLe Q e (E orc)) (v0 v1 : Value) (G : GS) : Ref (s17 true e v0 v1 G) ((E orc).cl 17 [v0, v1] G) :=
  fun r hr => cl_sxE_some Q orc (vs := [v0, v1]) G Try.func17 (by kernel_rfl) (by kernel_rfl) (by kernel_rfl) (by kernel_rfl) (by kernel_rfl) (m17 h v0 v1 G r hr)
/-- coxswain/coxswainref07.Answer -/
noncomputable def s18 (q : Bool) (e : Ex) (v0 v1 : Value) (G : GS) : Option (Value × GS) :=
  bS (bx q v1 G) fun x0 G1 =>
  bS (al Q q 28 z28 G1) fun x2 G3 =>
  bS (e.ev.cl 23 [v0] G3) fun x4 G5 =>
  bP (bn Q q .neq 26 (.tmp 9) (.const (.int .i64 0)) x4 (.int .i64 0)) fun x6 =>
  ifV x6 (
  bP (bd Q q 28 z28 [] []) fun x7 =>
  bP (st Q q 28 3 x2 x7 G5) fun G8 =>
  bP (lda Q q 28 3 x2 G8) fun x9 =>
  some (.tuple #[x9, (.bool false)], G8)) (
  bP (fa Q q 25 3 3 x0) fun x10 =>
  bP (ld Q q 23 x10 G5) fun x11 =>
  bS (e.ev.cl 26 [v0, x11] G5) fun x12 G13 =>
  bP (pExtract x12 0) fun x14 =>
  bP (pExtract x12 1) fun x15 =>
  bP (fa Q q 25 0 0 x0) fun x16 =>
  bP (ld Q q 3 x16 G13) fun x17 =>
  bP (bn Q q .eql 3 (.tmp 21) (.const (.int .i64 4)) x17 (.int .i64 4)) fun x18 =>
  bS (gd x18 true (some (x15, G13)) G13) fun x19 G20 =>
  bP (pickV x18 x19 (.bool false)) fun x21 =>
  ifV x21 (
  bP (bd Q q 28 z28 [(0, 0, 1)] [(.int .i64 8)]) fun x22 =>
  bP (st Q q 28 3 x2 x22 G20) fun G23 =>
  bP (lda Q q 28 3 x2 G23) fun x24 =>
  some (.tuple #[x24, (.bool true)], G23)) (
  bP (fa Q q 25 0 0 x0) fun x25 =>
  bP (ld Q q 3 x25 G20) fun x26 =>
  bP (bn Q q .eql 3 (.tmp 29) (.const (.int .i64 4)) x26 (.int .i64 4)) fun x27 =>
  ifV x27 (
  bP (bd Q q 28 z28 [] []) fun x28 =>
  bP (ln Q q 22 v0) fun x29 =>
  bP (bn Q q .lss 3 (.tmp 33) (.const (.int .i64 1024)) x29 (.int .i64 1024)) fun x30 =>
  bP (st Q q 28 3 x2 x28 G20) fun G31 =>
  bP (lda Q q 28 3 x2 G31) fun x32 =>
  some (.tuple #[x32, x30], G31)) (
  bP (fa Q q 25 0 0 x0) fun x33 =>
  bP (ld Q q 3 x33 G20) fun x34 =>
  bP (bn Q q .neq 3 (.tmp 37) (.const (.int .i64 5)) x34 (.int .i64 5)) fun x35 =>
  bS (gd x35 true (bP (fa Q q 25 0 0 x0) fun y => some (y, G20)) G20) fun x36 G37 =>
  bS (gd x35 true (bP (ld Q q 3 x36 G37) fun y => some (y, G37)) G37) fun x38 G39 =>
  bS (gd x35 true (bP (bn Q q .neq 3 (.tmp 41) (.const (.int .i64 6)) x38 (.int .i64 6)) fun y => some (y, G39)) G39) fun x40 G41 =>
  bP (pickV x35 x40 (.bool false)) fun x42 =>
  ifV x42 (
  bP (bd Q q 28 z28 [] []) fun x43 =>
  bP (st Q q 28 3 x2 x43 G41) fun G44 =>
  bP (lda Q q 28 3 x2 G44) fun x45 =>
  some (.tuple #[x45, (.bool false)], G44)) (
  bP (ln Q q 22 v0) fun x46 =>
  bP (bn Q q .eql 3 (.tmp 47) (.const (.int .i64 0)) x46 (.int .i64 0)) fun x47 =>
  ifV x47 (
  bP (bd Q q 28 z28 [(0, 0, 1)] [(.int .i64 15)]) fun x48 =>
  bP (st Q q 28 3 x2 x48 G41) fun G49 =>
  bP (lda Q q 28 3 x2 G49) fun x50 =>
  some (.tuple #[x50, (.bool true)], G49)) (
  bP (ias Q q 22 2 v0 (.int .i64 0)) fun x51 =>
  bP (fa Q q 40 1 1 x51) fun x52 =>
  bP (ld Q q 3 x52 (G41.room 11)) fun x53 =>
  bP (ias Q q 22 2 v0 (.int .i64 0)) fun x54 =>
  bP (fa Q q 40 0 0 x54) fun x55 =>
  bP (ld Q q 23 x55 (G41.room 11)) fun x56 =>
  bP (bd Q q 28 z28 [(1, 1, 1), (2, 2, 1)] [x53, x56]) fun x57 =>
  bP (st Q q 28 3 x2 x57 (G41.room 11)) fun G58 =>
  bP (lda Q q 28 3 x2 G58) fun x59 =>
  some (.tuple #[x59, (.bool true)], G58))))))
theorem m18 {e : Ex} {E : Ev} (h : ExLe Q e E) (v0 v1 : Value) (G : GS) : Ref (s18 true e v0 v1 G) (s18 false (Ex.of E) v0 v1 G) := by
  unfold s18
  exact Ref.go
theorem f18 {orc : FuncId → Bool} {e : Ex} (h : ExLe Q e (E orc)) (v0 v1 : Value) (G : GS) : Ref (s18 true e v0 v1 G) ((E orc).cl 18 [v0, v1] G) :=
  fun r hr => cl_sxE_some Q orc (vs := [v0, v1]) G Try.func18 (by kernel_rfl) (by kernel_rfl) (by kernel_rfl) (by kernel_rfl) (by kernel_rfl) (m18 h v0 v1 G r hr)
instance ilp19_0 : LpIs Q 19 0 (subAt [1, 1, 0, 1, 0, 0] (bodyOf Try.f19)) 31 := ⟨by kernel_rfl, by kernel_rfl⟩
noncomputable def b19_0 (q : Bool) (e : Ex) (lp : Env → GS → Option (Exit × Env × GS)) (τ : Env) (G : GS) : Option (Exit × Env × GS) :=
  bV q (τ 0) fun a0_ =>
  bV q (τ 1) fun a1_ =>
  bV q (τ 5) fun a5_ =>
  bV q (τ 6) fun a6_ =>
  bS (gd a5_ true (some (a6_, G)) G) fun x0 G1 =>
  bS (gd a5_ true (some (a0_, G1)) G1) fun x2 G3 =>
  bS (gd a5_ true (bP (ln Q q 22 x2) fun y => some (y, G3)) G3) fun x4 G5 =>
  bS (gd a5_ true (bP (bn Q q .lss 3 (.tmp 14) (.tmp 16) x0 x4) fun y => some (y, G5)) G5) fun x6 G7 =>
  bP (pickV a5_ x6 (.bool false)) fun x8 =>
  ifV x8 (
  bP (ias Q q 22 2 a0_ a6_) fun x9 =>
  bP (lda Q q 40 2 x9 (G7.room 10)) fun x10 =>
  bP (ias Q q 22 2 a1_ a6_) fun x11 =>
  bP (lda Q q 40 2 x11 (G7.room 10)) fun x12 =>
  bP (bn Q q .eql 40 (.tmp 24) (.tmp 28) x10 x12) fun x13 =>
  bP (bn Q q .add 3 (.tmp 19) (.const (.int .i64 1)) a6_ (.int .i64 1)) fun x14 =>
  lp (tu τ [(0, a0_), (1, a1_), (5, x13), (6, x14), (12, a5_), (13, a5_), (14, x0), (15, x2), (16, x4), (17, x6), (18, x8), (19, a6_), (20, x14), (21, a0_), (22, a6_), (23, x9), (24, x10), (25, a1_), (26, a6_), (27, x11), (28, x12), (29, x13)]) (G7.room 10)) (
  some ((.exit 0), clq q 31 (tu τ [(0, a0_), (1, a1_), (5, a5_), (6, a6_), (12, a5_), (13, a5_), (14, x0), (15, x2), (16, x4), (17, x6), (18, x8)]), G7))
theorem mb19_0 {e : Ex} {E : Ev} (h : ExLe Q e E) {lp lp' : Env → GS → Option (Exit × Env × GS)} (hlp : LpLe lp lp') (τ : Env) (G : GS) : Ref (b19_0 true e lp τ G) (b19_0 false (Ex.of E) lp' τ G) := by
  unfold b19_0
  exact Ref.go
theorem l19_0 {orc : FuncId → Bool} {e : Ex} (h : ExLe Q e (E orc)) (lp : Env → GS → Option (Exit × Env × GS)) (hlp : ∀ τ G, Ref (lp τ G) (mapE ((E orc).lp (subAt [1, 1, 0, 1, 0, 0] (bodyOf Try.f19)) (lst 31 τ) G))) (T : List Value) (G : GS) (hT : T.length = 31) : Ref (b19_0 true e lp (nth undef T) G) (mapE ((E orc).lp (subAt [1, 1, 0, 1, 0, 0] (bodyOf Try.f19)) T G)) :=
  fun r hr => lp_sxM Q orc G hT (by kernel_rfl) (mb19_0 h ⟨hlp⟩ _ _ r hr)
/-- coxswain/coxswainkit.SameItems -/
noncomputable def s19 (q : Bool) (e : Ex) (v0 v1 : Value) (G : GS) : Option (Value × GS) :=
  bP (ln Q q 22 v0) fun x0 =>
  bP (ln Q q 22 v1) fun x1 =>
  bP (bn Q q .eql 3 (.tmp 8) (.tmp 10) x0 x1) fun x2 =>
  bL q e 19 0 (subAt [1, 1, 0, 1, 0, 0] (bodyOf Try.f19)) 31 (tu (nth undef [v0, v1]) [(4, (.bool false)), (5, x2), (6, (.int .i64 0)), (7, v0), (8, x0), (9, v1), (10, x1), (11, x2)]) G fun e3 t4 G5 =>
  bV q (t4 5) fun t4x5_ =>
  ifE e3 (.exit 0) (
  some (t4x5_, G5)) (none)
theorem m19 {e : Ex} {E : Ev} (h : ExLe Q e E) (v0 v1 : Value) (G : GS) : Ref (s19 true e v0 v1 G) (s19 false (Ex.of E) v0 v1 G) := by
  unfold s19
  exact Ref.go
theorem f19 {orc : FuncId → Bool} {e : Ex} (h : ExLe Q e (E orc)) (v0 v1 : Value) (G : GS) : Ref (s19 true e v0 v1 G) ((E orc).cl 19 [v0, v1] G) :=
  fun r hr => cl_sxE_some Q orc (vs := [v0, v1]) G Try.func19 (by kernel_rfl) (by kernel_rfl) (by kernel_rfl) (by kernel_rfl) (by kernel_rfl) (m19 h v0 v1 G r hr)
instance ilp20_0 : LpIs Q 20 0 (subAt [1, 0, 0] (bodyOf Try.f20)) 13 := ⟨by kernel_rfl, by kernel_rfl⟩
noncomputable def b20_0 (q : Bool) (e : Ex) (lp : Env → GS → Option (Exit × Env × GS)) (τ : Env) (G : GS) : Option (Exit × Env × GS) :=
  bV q (τ 0) fun a0_ =>
  bV q (τ 2) fun a2_ =>
  bP (ln Q q 22 a0_) fun x0 =>
  bP (bn Q q .lss 3 (.tmp 3) (.tmp 5) a2_ x0) fun x1 =>
  ifV x1 (
  bP (bd Q q 40 z40 [(1, 1, 1)] [(.int .i64 (-77))]) fun x2 =>
  bP (ias Q q 22 2 a0_ a2_) fun x3 =>
  bP (st Q q 40 2 x3 x2 G) fun G4 =>
  bP (bn Q q .add 3 (.tmp 7) (.const (.int .i64 1)) a2_ (.int .i64 1)) fun x5 =>
  lp (tu τ [(0, a0_), (2, x5), (3, a2_), (4, a0_), (5, x0), (6, x1), (7, a2_), (8, x5), (9, a0_), (10, a2_), (11, x2), (12, x3)]) G4) (
  some ((.exit 0), clq q 13 (tu τ [(0, a0_), (2, a2_), (3, a2_), (4, a0_), (5, x0), (6, x1)]), G))
theorem mb20_0 {e : Ex} {E : Ev} (h : ExLe Q e E) {lp lp' : Env → GS → Option (Exit × Env × GS)} (hlp : LpLe lp lp') (τ : Env) (G : GS) : Ref (b20_0 true e lp τ G) (b20_0 false (Ex.of E) lp' τ G) := by
  unfold b20_0
  exact Ref.go
theorem l20_0 {orc : FuncId → Bool} {e : Ex} (h : ExLe Q e (E orc)) (lp : Env → GS → Option (Exit × Env × GS)) (hlp : ∀ τ G, Ref (lp τ G) (mapE ((E orc).lp (subAt [1, 0, 0] (bodyOf Try.f20)) (lst 13 τ) G))) (T : List Value) (G : GS) (hT : T.length = 13) : Ref (b20_0 true e lp (nth undef T) G) (mapE ((E orc).lp (subAt [1, 0, 0] (bodyOf Try.f20)) T G)) :=
  fun r hr => lp_sxM Q orc G hT (by kernel_rfl) (mb20_0 h ⟨hlp⟩ _ _ r hr)
/-- coxswain/coxswainkit.OverItems -/
noncomputable def s20 (q : Bool) (e : Ex) (v0 : Value) (G : GS) : Option (Value × GS) :=
  bL q e 20 0 (subAt [1, 0, 0] (bodyOf Try.f20)) 13 (tu (nth undef [v0]) [(2, (.int .i64 0))]) G fun e0 t1 G2 =>
  ifE e0 (.exit 0) (
  some (.tuple #[], G2)) (none)
theorem m20 {e : Ex} {E : Ev} (h : ExLe Q e E) (v0 : Value) (G : GS) : Ref (s20 true e v0 G) (s20 false (Ex.of E) v0 G) := by
  unfold s20
  exact Ref.go
theorem f20 {orc : FuncId → Bool} {e : Ex} (h : ExLe Q e (E orc)) (v0 : Value) (G : GS) : Ref (s20 true e v0 G) ((E orc).cl 20 [v0] G) :=
  fun r hr => cl_sxE_some Q orc (vs := [v0]) G Try.func20 (by kernel_rfl) (by kernel_rfl) (by kernel_rfl) (by kernel_rfl) (by kernel_rfl) (m20 h v0 G r hr)
/-- coxswain/coxswainkit.Pick -/
noncomputable def s21 (q : Bool) (e : Ex) (v0 v1 : Value) (G : GS) : Option (Value × GS) :=
  bP (bn Q q .leq 3 (.tmp 5) (.const (.int .i64 0)) v1 (.int .i64 0)) fun x0 =>
  ifV x0 (
  some ((.int .i64 0), G)) (
  bP (bn Q q .rem 3 (.tmp 7) (.tmp 8) v0 v1) fun x1 =>
  bP (bn Q q .lss 3 (.tmp 10) (.const (.int .i64 0)) x1 (.int .i64 0)) fun x2 =>
  ifV x2 (
  bP (bn Q q .add 3 (.tmp 12) (.tmp 13) x1 v1) fun x3 =>
  some (x3, G)) (
  some (x1, G)))
theorem m21 {e : Ex} {E : Ev} (h : ExLe Q e E) (v0 v1 : Value) (G : GS) : Ref (s21 true e v0 v1 G) (s21 false (Ex.of E) v0 v1 G) := by
  unfold s21
  exact Ref.go
theorem f21 {orc : FuncId → Bool} {e : Ex} (h : ExLe Q e (E orc)) (v0 v1 : Value) (G : GS) : Ref (s21 true e v0 v1 G) ((E orc).cl 21 [v0, v1] G) :=
  fun r hr => cl_sxE_some Q orc (vs := [v0, v1]) G Try.func21 (by kernel_rfl) (by kernel_rfl) (by kernel_rfl) (by kernel_rfl) (by kernel_rfl) (m21 h v0 v1 G r hr)
instance ilp22_0 : LpIs Q 22 0 (subAt [1, 1, 0, 1, 0, 0] (bodyOf Try.f22)) 29 := ⟨by kernel_rfl, by kernel_rfl⟩
noncomputable def b22_0 (q : Bool) (e : Ex) (lp : Env → GS → Option (Exit × Env × GS)) (τ : Env) (G : GS) : Option (Exit × Env × GS) :=
  bV q (τ 0) fun a0_ =>
  bV q (τ 8) fun a8_ =>
  bV q (τ 9) fun a9_ =>
  bP (bn Q q .lss 3 (.tmp 9) (.tmp 8) a9_ a8_) fun x0 =>
  ifV x0 (
  bP (bn Q q .gtr 3 (.tmp 12) (.const (.int .i64 0)) a9_ (.int .i64 0)) fun x1 =>
  bS (gd x1 true (some (a0_, (G.room 16))) (G.room 16)) fun x2 _ =>
  bS (gd x1 true (some (a9_, (G.room 16))) (G.room 16)) fun x3 _ =>
  bS (gd x1 true (bP (bn Q q .sub 3 (.tmp 16) (.const (.int .i64 1)) x3 (.int .i64 1)) fun y => some (y, (G.room 16))) (G.room 16)) fun x4 _ =>
  bS (gd x1 true (bP (ias Q q 22 2 x2 x4) fun y => some (y, (G.room 16))) (G.room 16)) fun x5 _ =>
  bS (gd x1 true (bP (fa Q q 40 0 0 x5) fun y => some (y, (G.room 16))) (G.room 16)) fun x6 _ =>
  bS (gd x1 true (bP (ld Q q 23 x6 (G.room 16)) fun y => some (y, (G.room 16))) (G.room 16)) fun x7 _ =>
  bS (gd x1 true (some (a0_, (G.room 16))) (G.room 16)) fun x8 _ =>
  bS (gd x1 true (some (a9_, (G.room 16))) (G.room 16)) fun x9 _ =>
  bS (gd x1 true (bP (ias Q q 22 2 x8 x9) fun y => some (y, (G.room 16))) (G.room 16)) fun x10 _ =>
  bS (gd x1 true (bP (fa Q q 40 0 0 x10) fun y => some (y, (G.room 16))) (G.room 16)) fun x11 _ =>
  bS (gd x1 true (bP (ld Q q 23 x11 (G.room 16)) fun y => some (y, (G.room 16))) (G.room 16)) fun x12 _ =>
  bS (gd x1 true (bP (bn Q q .geq 23 (.tmp 20) (.tmp 25) x7 x12) fun y => some (y, (G.room 16))) (G.room 16)) fun x13 _ =>
  bP (pickV x1 x13 (.bool false)) fun x14 =>
  ifV x14 (
  some (.ret, clq q 29 (tu τ [(0, a0_), (8, a8_), (9, a9_), (2, (.int .i64 9)), (3, a9_), (10, x0), (11, a9_), (12, a9_), (13, x1), (14, x1), (15, x2), (16, x3), (17, x4), (18, x5), (19, x6), (20, x7), (21, x8), (22, x9), (23, x10), (24, x11), (25, x12), (26, x13), (27, x14)]), (G.room 16))) (
  bP (bn Q q .add 3 (.tmp 9) (.const (.int .i64 1)) a9_ (.int .i64 1)) fun x15 =>
  lp (tu τ [(0, a0_), (8, a8_), (9, x15), (3, a9_), (10, x0), (11, a9_), (12, a9_), (13, x1), (14, x1), (15, x2), (16, x3), (17, x4), (18, x5), (19, x6), (20, x7), (21, x8), (22, x9), (23, x10), (24, x11), (25, x12), (26, x13), (27, x14), (28, x15)]) (G.room 16))) (
  some ((.exit 0), clq q 29 (tu τ [(0, a0_), (8, a8_), (9, a9_), (10, x0)]), G))
theorem mb22_0 {e : Ex} {E : Ev} (h : ExLe Q e E) {lp lp' : Env → GS → Option (Exit × Env × GS)} (hlp : LpLe lp lp') (τ : Env) (G : GS) : Ref (b22_0 true e lp τ G) (b22_0 false (Ex.of E) lp' τ G) := by
  unfold b22_0
  exact Ref.go
theorem l22_0 {orc : FuncId → Bool} {e : Ex} (h : ExLe Q e (E orc)) (lp : Env → GS → Option (Exit × Env × GS)) (hlp : ∀ τ G, Ref (lp τ G) (mapE ((E orc).lp (subAt [1, 1, 0, 1, 0, 0] (bodyOf Try.f22)) (lst 29 τ) G))) (T : List Value) (G : GS) (hT : T.length = 29) : Ref (b22_0 true e lp (nth undef T) G) (mapE ((E orc).lp (subAt [1, 1, 0, 1, 0, 0] (bodyOf Try.f22)) T G)) :=
  fun r hr => lp_sxM Q orc G hT (by kernel_rfl) (mb22_0 h ⟨hlp⟩ _ _ r hr)
/-- coxswain/heap.Check -/
noncomputable def s22 (q : Bool) (e : Ex) (v0 : Value) (G : GS) : Option (Value × GS) :=
  bP (ln Q q 22 v0) fun x0 =>
  bP (bn Q q .gtr 3 (.tmp 5) (.const (.int .i64 1024)) x0 (.int .i64 1024)) fun x1 =>
  ifV x1 (
  some ((.int .i64 7), G)) (
  bP (ln Q q 22 v0) fun x2 =>
  bL q e 22 0 (subAt [1, 1, 0, 1, 0, 0] (bodyOf Try.f22)) 29 (tu (nth undef [v0]) [(2, (.int .i64 0)), (4, v0), (5, x0), (6, x1), (7, v0), (8, x2), (9, (.int .i64 0))]) G fun e3 t4 G5 =>
  bV q (t4 2) fun t4x2_ =>
  ifE e3 (.exit 0) (
  some ((.int .i64 0), G5)) (ifE e3 .ret (
  some (t4x2_, G5)) (none)))
theorem m22 {e : Ex} {E : Ev} (h : ExLe Q e E) (v0 : Value) (G : GS) : Ref (s22 true e v0 G) (s22 false (Ex.of E) v0 G) := by
  unfold s22
  exact Ref.go
theorem f22 {orc : FuncId → Bool} {e : Ex} (h : ExLe Q e (E orc)) (v0 : Value) (G : GS) : Ref (s22 true e v0 G) ((E orc).cl 22 [v0] G) :=
  fun r hr => cl_sxE_some Q orc (vs := [v0]) G Try.func22 (by kernel_rfl) (by kernel_rfl) (by kernel_rfl) (by kernel_rfl) (by kernel_rfl) (m22 h v0 G r hr)
instance ilp23_0 : LpIs Q 23 0 (subAt [1, 1, 0, 1, 0, 0] (bodyOf Try.f23)) 25 := ⟨by kernel_rfl, by kernel_rfl⟩
noncomputable def b23_0 (q : Bool) (e : Ex) (lp : Env → GS → Option (Exit × Env × GS)) (τ : Env) (G : GS) : Option (Exit × Env × GS) :=
  bV q (τ 0) fun a0_ =>
  bV q (τ 3) fun a3_ =>
  bP (ln Q q 22 a0_) fun x0 =>
  bP (bn Q q .lss 3 (.tmp 7) (.tmp 9) a3_ x0) fun x1 =>
  ifV x1 (
  bP (ias Q q 22 2 a0_ a3_) fun x2 =>
  bP (fa Q q 40 0 0 x2) fun x3 =>
  bP (ld Q q 23 x3 (G.room 12)) fun x4 =>
  bP (bn Q q .sub 3 (.tmp 19) (.const (.int .i64 1)) a3_ (.int .i64 1)) fun x5 =>
  bP (ias Q q 22 2 a0_ x5) fun x6 =>
  bP (fa Q q 40 0 0 x6) fun x7 =>
  bP (ld Q q 23 x7 (G.room 12)) fun x8 =>
  bP (bn Q q .leq 23 (.tmp 17) (.tmp 23) x4 x8) fun x9 =>
  ifV x9 (
  some (.ret, clq q 25 (tu τ [(0, a0_), (3, a3_), (2, (.int .i64 9)), (7, a3_), (8, a0_), (9, x0), (10, x1), (13, a0_), (14, a3_), (15, x2), (16, x3), (17, x4), (18, a0_), (19, a3_), (20, x5), (21, x6), (22, x7), (23, x8), (24, x9)]), (G.room 12))) (
  bP (bn Q q .add 3 (.tmp 11) (.const (.int .i64 1)) a3_ (.int .i64 1)) fun x10 =>
  lp (tu τ [(0, a0_), (3, x10), (7, a3_), (8, a0_), (9, x0), (10, x1), (11, a3_), (12, x10), (13, a0_), (14, a3_), (15, x2), (16, x3), (17, x4), (18, a0_), (19, a3_), (20, x5), (21, x6), (22, x7), (23, x8), (24, x9)]) (G.room 12))) (
  some ((.exit 0), clq q 25 (tu τ [(0, a0_), (3, a3_), (7, a3_), (8, a0_), (9, x0), (10, x1)]), G))
theorem mb23_0 {e : Ex} {E : Ev} (h : ExLe Q e E) {lp lp' : Env → GS → Option (Exit × Env × GS)} (hlp : LpLe lp lp') (τ : Env) (G : GS) : Ref (b23_0 true e lp τ G) (b23_0 false (Ex.of E) lp' τ G) := by
  unfold b23_0
  exact Ref.go
theorem l23_0 {orc : FuncId → Bool} {e : Ex} (h : ExLe Q e (E orc)) (lp : Env → GS → Option (Exit × Env × GS)) (hlp : ∀ τ G, Ref (lp τ G) (mapE ((E orc).lp (subAt [1, 1, 0, 1, 0, 0] (bodyOf Try.f23)) (lst 25 τ) G))) (T : List Value) (G : GS) (hT : T.length = 25) : Ref (b23_0 true e lp (nth undef T) G) (mapE ((E orc).lp (subAt [1, 1, 0, 1, 0, 0] (bodyOf Try.f23)) T G)) :=
  fun r hr => lp_sxM Q orc G hT (by kernel_rfl) (mb23_0 h ⟨hlp⟩ _ _ r hr)
/-- coxswain/coxswainref07.Check -/
noncomputable def s23 (q : Bool) (e : Ex) (v0 : Value) (G : GS) : Option (Value × GS) :=
  bP (ln Q q 22 v0) fun x0 =>
  bP (bn Q q .gtr 3 (.tmp 5) (.const (.int .i64 1024)) x0 (.int .i64 1024)) fun x1 =>
  ifV x1 (
  some ((.int .i64 7), G)) (
  bL q e 23 0 (subAt [1, 1, 0, 1, 0, 0] (bodyOf Try.f23)) 25 (tu (nth undef [v0]) [(2, (.int .i64 0)), (3, (.int .i64 1)), (4, v0), (5, x0), (6, x1)]) G fun e2 t3 G4 =>
  bV q (t3 2) fun t3x2_ =>
  ifE e2 (.exit 0) (
  some ((.int .i64 0), G4)) (ifE e2 .ret (
  some (t3x2_, G4)) (none)))
theorem m23 {e : Ex} {E : Ev} (h : ExLe Q e E) (v0 : Value) (G : GS) : Ref (s23 true e v0 G) (s23 false (Ex.of E) v0 G) := by
  unfold s23
  exact Ref.go
theorem f23 {orc : FuncId → Bool} {e : Ex} (h : ExLe Q e (E orc)) (v0 : Value) (G : GS) : Ref (s23 true e v0 G) ((E orc).cl 23 [v0] G) :=
  fun r hr => cl_sxE_some Q orc (vs := [v0]) G Try.func23 (by kernel_rfl) (by kernel_rfl) (by kernel_rfl) (by kernel_rfl) (by kernel_rfl) (m23 h v0 G r hr)
/-- coxswain/heap.Least -/
noncomputable def s24 (q : Bool) (e : Ex) (v0 v1 : Value) (G : GS) : Option (Value × GS) :=
  bP (ln Q q 22 v0) fun x0 =>
  bP (mn Q q #[3, 3] v1 x0) fun x1 =>
  bP (mx Q q #[3, 3] (.int .i64 0) x1) fun x2 =>
  bP (sl Q q 22 2 v0 none (some x2) (some x2) G) fun x3 =>
  bS (e.ev.cl 56 [x3] G) fun x4 G5 =>
  some (x4, G5)
theorem m24 {e : Ex} {E : Ev} (h : ExLe Q e E) (v0 v1 : Value) (G : GS) : Ref (s24 true e v0 v1 G) (s24 false (Ex.of E) v0 v1 G) := by
  unfold s24
  exact Ref.go
theorem f24 {orc : FuncId → Bool} {e : Ex} (h : ExLe Q e (E orc)) (v0 v1 : Value) (G : GS) : Ref (s24 true e v0 v1 G) ((E orc).cl 24 [v0, v1] G) :=
  fun r hr => cl_sxE_some Q orc (vs := [v0, v1]) G Try.func24 (by kernel_rfl) (by kernel_rfl) (by kernel_rfl) (by kernel_rfl) (by kernel_rfl) (m24 h v0 v1 G r hr)
/-- coxswain/heap.Place -/
noncomputable def s25 (q : Bool) (e : Ex) (v0 v1 : Value) (G : GS) : Option (Value × GS) :=
  bS (bx q v1 G) fun x0 G1 =>
  bS (e.ev.cl 22 [v0] G1) fun x2 G3 =>
  bP (bn Q q .eql 26 (.tmp 8) (.const (.int .i64 0)) x2 (.int .i64 0)) fun x4 =>
  ifV x4 (
  bP (ld Q q 23 x0 G3) fun x5 =>
  bS (e.ev.cl 57 [v0, x5] G3) fun x6 G7 =>
  bP (pExtract x6 0) fun x8 =>
  bP (pExtract x6 1) fun x9 =>
  some (.tuple #[x8, x9], G7)) (
  bS (e.ev.cl 60 [v0, (.func (.func 61) #[] #[x0])] G3) fun x10 G11 =>
  bP (bn Q q .lss 3 (.tmp 18) (.const (.int .i64 0)) x10 (.int .i64 0)) fun x12 =>
  ifV x12 (
  bP (ln Q q 22 v0) fun x13 =>
  some (.tuple #[x13, (.bool false)], G11)) (
  bP (ias Q q 22 2 v0 x10) fun x14 =>
  bP (fa Q q 40 0 0 x14) fun x15 =>
  bP (ld Q q 23 x15 (G11.room 10)) fun x16 =>
  bP (ld Q q 23 x0 (G11.room 10)) fun x17 =>
  bP (bn Q q .eql 23 (.tmp 27) (.tmp 28) x16 x17) fun x18 =>
  some (.tuple #[x10, x18], (G11.room 10))))
theorem m25 {e : Ex} {E : Ev} (h : ExLe Q e E) (v0 v1 : Value) (G : GS) : Ref (s25 true e v0 v1 G) (s25 false (Ex.of E) v0 v1 G) := by
  unfold s25
  exact Ref.go
theorem f25 {orc : FuncId → Bool} {e : Ex} (h : ExLe Q e (E orc)) (v0 v1 : Value) (G : GS) : Ref (s25 true e v0 v1 G) ((E orc).cl 25 [v0, v1] G) :=
  fun r hr => cl_sxE_some Q orc (vs := [v0, v1]) G Try.func25 (by kernel_rfl) (by kernel_rfl) (by kernel_rfl) (by kernel_rfl) (by kernel_rfl) (m25 h v0 v1 G r hr)
instance ilp26_0 : LpIs Q 26 0 (subAt [1, 1, 0, 0, 0] (bodyOf Try.f26)) 36 := ⟨by kernel_rfl, by kernel_rfl⟩
noncomputable def b26_0 (q : Bool) (e : Ex) (lp : Env → GS → Option (Exit × Env × GS)) (τ : Env) (G : GS) : Option (Exit × Env × GS) :=
  bV q (τ 0) fun a0_ =>
  bV q (τ 1) fun a1_ =>
  bV q (τ 6) fun a6_ =>
  bP (ln Q q 22 a0_) fun x0 =>
  bP (bn Q q .lss 3 (.tmp 7) (.tmp 9) a6_ x0) fun x1 =>
  bS (gd x1 true (some (a0_, G)) G) fun x2 G3 =>
  bS (gd x1 true (some (a6_, G3)) G3) fun x4 G5 =>
  bS (gd x1 true (bP (ias Q q 22 2 x2 x4) fun y => some (y, G5)) G5) fun x6 G7 =>
  bS (gd x1 true (bP (fa Q q 40 0 0 x6) fun y => some (y, G7)) G7) fun x8 G9 =>
  bS (gd x1 true (bP (ld Q q 23 x8 G9) fun y => some (y, G9)) G9) fun x10 G11 =>
  bS (gd x1 true (some (a1_, G11)) G11) fun x12 G13 =>
  bS (gd x1 true (bP (bn Q q .lss 23 (.tmp 16) (.tmp 17) x10 x12) fun y => some (y, G13)) G13) fun x14 G15 =>
  bP (pickV x1 x14 (.bool false)) fun x16 =>
  ifV x16 (
  bP (bn Q q .add 3 (.tmp 20) (.const (.int .i64 1)) a6_ (.int .i64 1)) fun x17 =>
  lp (tu τ [(0, a0_), (1, a1_), (6, x17), (7, a6_), (8, a0_), (9, x0), (10, x1), (11, x1), (12, x2), (13, x4), (14, x6), (15, x8), (16, x10), (17, x12), (18, x14), (19, x16), (20, a6_), (21, x17)]) G15) (
  some ((.exit 0), clq q 36 (tu τ [(0, a0_), (1, a1_), (6, a6_), (7, a6_), (8, a0_), (9, x0), (10, x1), (11, x1), (12, x2), (13, x4), (14, x6), (15, x8), (16, x10), (17, x12), (18, x14), (19, x16)]), G15))
theorem mb26_0 {e : Ex} {E : Ev} (h : ExLe Q e E) {lp lp' : Env → GS → Option (Exit × Env × GS)} (hlp : LpLe lp lp') (τ : Env) (G : GS) : Ref (b26_0 true e lp τ G) (b26_0 false (Ex.of E) lp' τ G) := by
  unfold b26_0
  exact Ref.go
theorem l26_0 {orc : FuncId → Bool} {e : Ex} (h : ExLe Q e (E orc)) (lp : Env → GS → Option (Exit × Env × GS)) (hlp : ∀ τ G, Ref (lp τ G) (mapE ((E orc).lp (subAt [1, 1, 0, 0, 0] (bodyOf Try.f26)) (lst 36 τ) G))) (T : List Value) (G : GS) (hT : T.length = 36) : Ref (b26_0 true e lp (nth undef T) G) (mapE ((E orc).lp (subAt [1, 1, 0, 0, 0] (bodyOf Try.f26)) T G)) :=
  fun r hr => lp_sxM Q orc G hT (by kernel_rfl) (mb26_0 h ⟨hlp⟩ _ _ r hr)
/-- coxswain/coxswainref07.Place -/
noncomputable def s26 (q : Bool) (e : Ex) (v0 v1 : Value) (G : GS) : Option (Value × GS) :=
  bL q e 26 0 (subAt [1, 1, 0, 0, 0] (bodyOf Try.f26)) 36 (tu (nth undef [v0, v1]) [(4, (.int .i64 0)), (5, (.bool false)), (6, (.int .i64 0))]) G fun e0 t1 G2 =>
  bV q (t1 0) fun t1x0_ =>
  bV q (t1 1) fun t1x1_ =>
  bV q (t1 6) fun t1x6_ =>
  ifE e0 (.exit 0) (
  bP (ln Q q 22 t1x0_) fun x3 =>
  bP (bn Q q .lss 3 (.tmp 23) (.tmp 25) t1x6_ x3) fun x4 =>
  bS (gd x4 true (some (t1x0_, (G2.room 16))) (G2.room 16)) fun x5 _ =>
  bS (gd x4 true (some (t1x6_, (G2.room 16))) (G2.room 16)) fun x6 _ =>
  bS (gd x4 true (bP (ias Q q 22 2 x5 x6) fun y => some (y, (G2.room 16))) (G2.room 16)) fun x7 _ =>
  bS (gd x4 true (bP (fa Q q 40 0 0 x7) fun y => some (y, (G2.room 16))) (G2.room 16)) fun x8 _ =>
  bS (gd x4 true (bP (ld Q q 23 x8 (G2.room 16)) fun y => some (y, (G2.room 16))) (G2.room 16)) fun x9 _ =>
  bS (gd x4 true (some (t1x1_, (G2.room 16))) (G2.room 16)) fun x10 _ =>
  bS (gd x4 true (bP (bn Q q .eql 23 (.tmp 32) (.tmp 33) x9 x10) fun y => some (y, (G2.room 16))) (G2.room 16)) fun x11 _ =>
  bP (pickV x4 x11 (.bool false)) fun x12 =>
  some (.tuple #[t1x6_, x12], (G2.room 16))) (none)
theorem m26 {e : Ex} {E : Ev} (h : ExLe Q e E) (v0 v1 : Value) (G : GS) : Ref (s26 true e v0 v1 G) (s26 false (Ex.of E) v0 v1 G) := by
  unfold s26
  exact Ref.go
theorem f26 {orc : FuncId → Bool} {e : Ex} (h : ExLe Q e (E orc)) (v0 v1 : Value) (G : GS) : Ref (s26 true e v0 v1 G) ((E orc).cl 26 [v0, v1] G) :=
  fun r hr => cl_sxE_some Q orc (vs := [v0, v1]) G Try.func26 (by kernel_rfl) (by kernel_rfl) (by kernel_rfl) (by kernel_rfl) (by kernel_rfl) (m26 h v0 v1 G r hr)
/-- coxswain/coxswainref07.Least -/
noncomputable def s27 (q : Bool) (e : Ex) (v0 v1 : Value) (G : GS) : Option (Value × GS) :=
  bP (ln Q q 22 v0) fun x0 =>
  bP (mn Q q #[3, 3] v1 x0) fun x1 =>
  bP (mx Q q #[3, 3] (.int .i64 0) x1) fun x2 =>
  bP (sl Q q 22 2 v0 none (some x2) none G) fun x3 =>
  bS (e.ev.cl 14 [x3] G) fun x4 G5 =>
  some (x4, G5)
theorem m27 {e : Ex} {E : Ev} (h : ExLe Q e E) (v0 v1 : Value) (G : GS) : Ref (s27 true e v0 v1 G) (s27 false (Ex.of E) v0 v1 G) := by
  unfold s27
  exact Ref.go
theorem f27 {orc : FuncId → Bool} {e : Ex} (h : ExLe Q e (E orc)) (v0 v1 : Value) (G : GS) : Ref (s27 true e v0 v1 G) ((E orc).cl 27 [v0, v1] G) :=
  fun r hr => cl_sxE_some Q orc (vs := [v0, v1]) G Try.func27 (by kernel_rfl) (by kernel_rfl) (by kernel_rfl) (by kernel_rfl) (by kernel_rfl) (m27 h v0 v1 G r hr)
/-- coxswain/coxswainlaw07.next -/
noncomputable def s28 (q : Bool) (e : Ex) (v0 v1 v2 : Value) (G : GS) : Option (Value × GS) :=
  bS (bx q v0 G) fun x0 G1 =>
  bS (bx q v1 G1) fun x2 G3 =>
  bS (e.ev.cl 30 [] (G3.room 9)) fun x5 G4 =>
  bP (lda Q q 25 4 x0 G4) fun x6 =>
  chk ((sameO (lda Q q 25 4 x0 (G3.room 9)) x6 && true)) <|
  bP (lda Q q 28 3 x2 G4) fun x7 =>
  chk ((sameO (lda Q q 28 3 x2 (G3.room 9)) x7 && true)) <|
  bS (e.ev.cl 15 [x5, x6, x7] G4) fun x9 G8 =>
  bP (pExtract x9 0) fun x10 =>
  bP (pExtract x9 1) fun x11 =>
  bP (es Q q true 22 (.tmp 17) (.const (.slice none 0 0)) v2 (.slice none 0 0)) fun x12 =>
  bP (eb Q q false 4 (.tmp 16) (.tmp 18) x11 x12) fun x13 =>
  bS (gd x13 true (some (x10, G8)) G8) fun x14 G15 =>
  bS (gd x13 true (some (v2, G15)) G15) fun x16 G17 =>
  bS (gd x13 true (bS (e.ev.cl 19 [x14, x16] G17) fun y G => some (y, G)) G17) fun x18 G19 =>
  bP (pickV x13 x18 (.bool false)) fun x20 =>
  some (x20, G19)
theorem m28 {e : Ex} {E : Ev} (h : ExLe Q e E) (v0 v1 v2 : Value) (G : GS) : Ref (s28 true e v0 v1 v2 G) (s28 false (Ex.of E) v0 v1 v2 G) := by
  unfold s28
  exact Ref.go
theorem f28 {orc : FuncId → Bool} {e : Ex} (h : ExLe Q e (E orc)) (v0 v1 v2 : Value) (G : GS) : Ref (s28 true e v0 v1 v2 G) ((E orc).cl 28 [v0, v1, v2] G) :=
  fun r hr => cl_sxE_some Q orc (vs := [v0, v1, v2]) G Try.func28 (by kernel_rfl) (by kernel_rfl) (by kernel_rfl) (by kernel_rfl) (by kernel_rfl) (m28 h v0 v1 v2 G r hr)
/-- coxswain/coxswainlaw07.put -/
noncomputable def s29 (q : Bool) (e : Ex) (v0 v1 : Value) (G : GS) : Option (Value × GS) :=
  bS (al Q q 25 z25 G) fun x0 G1 =>
  bP (bd Q q 25 z25 [(0, 0, 1), (3, 3, 1), (1, 1, 1)] [(.int .i64 4), v0, v1]) fun x2 =>
  bP (st Q q 25 4 x0 x2 G1) fun G3 =>
  bP (lda Q q 25 4 x0 G3) fun x4 =>
  some (x4, G3)
theorem m29 {e : Ex} {E : Ev} (h : ExLe Q e E) (v0 v1 : Value) (G : GS) : Ref (s29 true e v0 v1 G) (s29 false (Ex.of E) v0 v1 G) := by
  unfold s29
  exact Ref.go
theorem f29 {orc : FuncId → Bool} {e : Ex} (h : ExLe Q e (E orc)) (v0 v1 : Value) (G : GS) : Ref (s29 true e v0 v1 G) ((E orc).cl 29 [v0, v1] G) :=
  fun r hr => cl_sxE_some Q orc (vs := [v0, v1]) G Try.func29 (by kernel_rfl) (by kernel_rfl) (by kernel_rfl) (by kernel_rfl) (by kernel_rfl) (m29 h v0 v1 G r hr)
/-- coxswain/coxswainlaw07.two -/
noncomputable def s30 (q : Bool) (e : Ex) (G : GS) : Option (Value × GS) :=
  bP (bd Q q 40 z40 [(0, 0, 1), (1, 1, 1)] [(.int .u64 3), (.int .i64 7)]) fun x0 =>
  bP (bd Q q 40 z40 [(0, 0, 1), (1, 1, 1)] [(.int .u64 5), (.int .i64 8)]) fun x1 =>
  bS (bs Q q 22 2 (rep z40 2) 2 [(0, 0, 2), (1, 2, 2)] [x0, x1] G) fun x2 G3 =>
  some (x2, G3)
theorem m30 {e : Ex} {E : Ev} (h : ExLe Q e E) (G : GS) : Ref (s30 true e  G) (s30 false (Ex.of E)  G) := by
  unfold s30
  exact Ref.go
theorem f30 {orc : FuncId → Bool} {e : Ex} (h : ExLe Q e (E orc)) (ho : orc 30 = false) (G : GS) : Ref (s30 true e  G) ((E orc).cl 30 [] G) :=
  fun r hr => cl_sxE_some Q orc (vs := []) G Try.func30 (by kernel_rfl) (by kernel_rfl) ho (by kernel_rfl) (by kernel_rfl) (m30 h  G r hr)
/-- coxswain/heap.roomless -/
noncomputable def s55 (q : Bool) (e : Ex) (v0 : Value) (G : GS) : Option (Value × GS) :=
  bS (bx q v0 G) fun x0 G1 =>
  bP (lda Q q 28 3 x0 G1) fun x2 =>
  bP (bd Q q 28 z28 [(0, 0, 1)] [(.int .i64 7)]) fun x3 =>
  bP (bn Q q .eql 28 (.tmp 3) (.tmp 4) x2 x3) fun x4 =>
  bS (gd x4 false (bP (lda Q q 28 3 x0 G1) fun y => some (y, G1)) G1) fun x5 G6 =>
  bS (gd x4 false (bP (bd Q q 28 z28 [(0, 0, 1)] [(.int .i64 12)]) fun y => some (y, G6)) G6) fun x7 G8 =>
  bS (gd x4 false (bP (bn Q q .eql 28 (.tmp 7) (.tmp 8) x5 x7) fun y => some (y, G8)) G8) fun x9 G10 =>
  bP (pickV x4 (.bool true) x9) fun x11 =>
  some (x11, G10)
theorem m55 {e : Ex} {E : Ev} (h : ExLe Q e E) (v0 : Value) (G : GS) : Ref (s55 true e v0 G) (s55 false (Ex.of E) v0 G) := by
  unfold s55
  exact Ref.go
theorem f55 {orc : FuncId → Bool} {e : Ex} (h : ExLe Q e (E orc)) (v0 : Value) (G : GS) : Ref (s55 true e v0 G) ((E orc).cl 55 [v0] G) :=
  fun r hr => cl_sxE_some Q orc (vs := [v0]) G Try.func55 (by kernel_rfl) (by kernel_rfl) (by kernel_rfl) (by kernel_rfl) (by kernel_rfl) (m55 h v0 G r hr)
/-- slices.Clone[[]coxswain/api.Item,coxswain/api.Item] -/
noncomputable def s56 (q : Bool) (e : Ex) (v0 : Value) (G : GS) : Option (Value × GS) :=
  bP (es Q q false 22 (.tmp 3) (.const (.slice none 0 0)) v0 (.slice none 0 0)) fun x0 =>
  ifV x0 (
  some ((.slice none 0 0), G)) (
  bS (bs Q q 22 0 (rep z40 0) 2 [] [] G) fun x1 G2 =>
  bS (ap Q q 22 22 2 16 x1 v0 G2) fun x3 G4 =>
  some (x3, G4))
theorem m56 {e : Ex} {E : Ev} (h : ExLe Q e E) (v0 : Value) (G : GS) : Ref (s56 true e v0 G) (s56 false (Ex.of E) v0 G) := by
  unfold s56
  exact Ref.go
theorem f56 {orc : FuncId → Bool} {e : Ex} (h : ExLe Q e (E orc)) (v0 : Value) (G : GS) : Ref (s56 true e v0 G) ((E orc).cl 56 [v0] G) :=
  fun r hr => cl_sxE_some Q orc (vs := [v0]) G Try.func56 (by kernel_rfl) (by kernel_rfl) (by kernel_rfl) (by kernel_rfl) (by kernel_rfl) (m56 h v0 G r hr)
/-- coxswain/heap.place -/
noncomputable def s57 (q : Bool) (e : Ex) (v0 v1 : Value) (G : GS) : Option (Value × GS) :=
  bS (bx q v1 G) fun x0 G1 =>
  bS (e.ev.cl 67 [v0, (.func (.func 68) #[] #[x0])] G1) fun x2 G3 =>
  bP (pExtract x2 0) fun x4 =>
  bP (pExtract x2 1) fun x5 =>
  some (.tuple #[x4, x5], G3)
theorem m57 {e : Ex} {E : Ev} (h : ExLe Q e E) (v0 v1 : Value) (G : GS) : Ref (s57 true e v0 v1 G) (s57 false (Ex.of E) v0 v1 G) := by
  unfold s57
  exact Ref.go
theorem f57 {orc : FuncId → Bool} {e : Ex} (h : ExLe Q e (E orc)) (v0 v1 : Value) (G : GS) : Ref (s57 true e v0 v1 G) ((E orc).cl 57 [v0, v1] G) :=
  fun r hr => cl_sxE_some Q orc (vs := [v0, v1]) G Try.func57 (by kernel_rfl) (by kernel_rfl) (by kernel_rfl) (by kernel_rfl) (by kernel_rfl) (m57 h v0 v1 G r hr)
/-- coxswain/coxswainref07.with -/
noncomputable def s58 (q : Bool) (e : Ex) (v0 v1 : Value) (G : GS) : Option (Value × GS) :=
  bS (bx q v1 G) fun x0 G1 =>
  bP (fa Q q 40 0 0 x0) fun x2 =>
  bP (ld Q q 23 x2 G1) fun x3 =>
  bS (e.ev.cl 26 [v0, x3] G1) fun x4 G5 =>
  bP (pExtract x4 0) fun x6 =>
  bP (pExtract x4 1) fun x7 =>
  bP (sl Q q 22 2 v0 none (some x6) none (G5.room 8)) fun x8 =>
  bS (e.ev.cl 14 [x8] (G5.room 8)) fun x10 G9 =>
  bP (lda Q q 40 2 x0 G9) fun x11 =>
  chk ((sameO (lda Q q 40 2 x0 (G5.room 8)) x11 && true)) <|
  bS (bs Q q 22 1 (rep z40 1) 2 [(0, 0, 2)] [x11] (G9.at' (G5.nx + 5))) fun x12 G13 =>
  bS (ap Q q 22 22 2 16 x10 x12 (G13.back G9)) fun x15 G14 =>
  bP (sl Q q 22 2 v0 (some x6) none none G14) fun x16 =>
  bS (ap Q q 22 22 2 16 x15 x16 G14) fun x17 G18 =>
  some (x17, G18)
theorem m58 {e : Ex} {E : Ev} (h : ExLe Q e E) (v0 v1 : Value) (G : GS) : Ref (s58 true e v0 v1 G) (s58 false (Ex.of E) v0 v1 G) := by
  unfold s58
  exact Ref.go
theorem f58 {orc : FuncId → Bool} {e : Ex} (h : ExLe Q e (E orc)) (v0 v1 : Value) (G : GS) : Ref (s58 true e v0 v1 G) ((E orc).cl 58 [v0, v1] G) :=
  fun r hr => cl_sxE_some Q orc (vs := [v0, v1]) G Try.func58 (by kernel_rfl) (by kernel_rfl) (by kernel_rfl) (by kernel_rfl) (by kernel_rfl) (m58 h v0 v1 G r hr)
/-- coxswain/heap.kinds -/
noncomputable def s59 (q : Bool) (e : Ex) (G : GS) : Option (Value × GS) :=
  bS (al Q q 92 z92 G) fun x0 G1 =>
  bP (bd Q q 92 z92 [(0, 0, 1), (1, 1, 1), (2, 2, 1)] [(.func (.func 70) #[] #[]), (.func (.func 71) #[] #[]), (.func (.func 71) #[] #[])]) fun x2 =>
  bP (st Q q 92 3 x0 x2 G1) fun G3 =>
  bP (lda Q q 92 3 x0 G3) fun x4 =>
  some (x4, G3)
theorem m59 {e : Ex} {E : Ev} (h : ExLe Q e E) (G : GS) : Ref (s59 true e  G) (s59 false (Ex.of E)  G) := by
  unfold s59
  exact Ref.go
theorem f59 {orc : FuncId → Bool} {e : Ex} (h : ExLe Q e (E orc)) (ho : orc 59 = false) (G : GS) : Ref (s59 true e  G) ((E orc).cl 59 [] G) :=
  fun r hr => cl_sxE_some Q orc (vs := []) G Try.func59 (by kernel_rfl) (by kernel_rfl) ho (by kernel_rfl) (by kernel_rfl) (m59 h  G r hr)
instance ilp60_0 : LpIs Q 60 0 (subAt [1, 0, 1, 0, 0] (bodyOf Try.f60)) 19 := ⟨by kernel_rfl, by kernel_rfl⟩
noncomputable def b60_0 (q : Bool) (e : Ex) (lp : Env → GS → Option (Exit × Env × GS)) (τ : Env) (G : GS) : Option (Exit × Env × GS) :=
  bV q (τ 0) fun a0_ =>
  bV q (τ 1) fun a1_ =>
  bV q (τ 7) fun a7_ =>
  bV q (τ 8) fun a8_ =>
  bP (bn Q q .lss 3 (.tmp 8) (.tmp 7) a8_ a7_) fun x0 =>
  ifV x0 (
  bP (ias Q q 22 2 a0_ a8_) fun x1 =>
  bP (lda Q q 40 2 x1 G) fun x2 =>
  bS (cValue e.ev a1_ [x2] G) fun x3 G4 =>
  ifV x3 (
  some (.ret, clq q 19 (tu τ [(0, a0_), (1, a1_), (7, a7_), (8, a8_), (4, a8_), (5, a8_), (9, x0), (10, a8_), (11, a1_), (12, a0_), (13, a8_), (14, x1), (15, x2), (16, x3), (17, a8_)]), G4)) (
  bP (bn Q q .add 3 (.tmp 8) (.const (.int .i64 1)) a8_ (.int .i64 1)) fun x5 =>
  lp (tu τ [(0, a0_), (1, a1_), (7, a7_), (8, x5), (5, a8_), (9, x0), (10, a8_), (11, a1_), (12, a0_), (13, a8_), (14, x1), (15, x2), (16, x3), (18, x5)]) G4)) (
  some ((.exit 0), clq q 19 (tu τ [(0, a0_), (1, a1_), (7, a7_), (8, a8_), (9, x0)]), G))
theorem mb60_0 {e : Ex} {E : Ev} (h : ExLe Q e E) {lp lp' : Env → GS → Option (Exit × Env × GS)} (hlp : LpLe lp lp') (τ : Env) (G : GS) : Ref (b60_0 true e lp τ G) (b60_0 false (Ex.of E) lp' τ G) := by
  unfold b60_0
  exact Ref.go
theorem l60_0 {orc : FuncId → Bool} {e : Ex} (h : ExLe Q e (E orc)) (lp : Env → GS → Option (Exit × Env × GS)) (hlp : ∀ τ G, Ref (lp τ G) (mapE ((E orc).lp (subAt [1, 0, 1, 0, 0] (bodyOf Try.f60)) (lst 19 τ) G))) (T : List Value) (G : GS) (hT : T.length = 19) : Ref (b60_0 true e lp (nth undef T) G) (mapE ((E orc).lp (subAt [1, 0, 1, 0, 0] (bodyOf Try.f60)) T G)) :=
  fun r hr => lp_sxM Q orc G hT (by kernel_rfl) (mb60_0 h ⟨hlp⟩ _ _ r hr)
/-- slices.IndexFunc[[]coxswain/api.Item,coxswain/api.Item] -/
noncomputable def s60 (q : Bool) (e : Ex) (v0 v1 : Value) (G : GS) : Option (Value × GS) :=
  bP (ln Q q 22 v0) fun x0 =>
  bL q e 60 0 (subAt [1, 0, 1, 0, 0] (bodyOf Try.f60)) 19 (tu (nth undef [v0, v1]) [(4, (.int .i64 0)), (6, v0), (7, x0), (8, (.int .i64 0))]) G fun e1 t2 G3 =>
  bV q (t2 4) fun t2x4_ =>
  ifE e1 (.exit 0) (
  some ((.int .i64 (-1)), G3)) (ifE e1 .ret (
  some (t2x4_, G3)) (none))
theorem m60 {e : Ex} {E : Ev} (h : ExLe Q e E) (v0 v1 : Value) (G : GS) : Ref (s60 true e v0 v1 G) (s60 false (Ex.of E) v0 v1 G) := by
  unfold s60
  exact Ref.go
theorem f60 {orc : FuncId → Bool} {e : Ex} (h : ExLe Q e (E orc)) (v0 v1 : Value) (G : GS) : Ref (s60 true e v0 v1 G) ((E orc).cl 60 [v0, v1] G) :=
  fun r hr => cl_sxE_some Q orc (vs := [v0, v1]) G Try.func60 (by kernel_rfl) (by kernel_rfl) (by kernel_rfl) (by kernel_rfl) (by kernel_rfl) (m60 h v0 v1 G r hr)
/-- coxswain/heap.Place$1 -/
noncomputable def s61 (q : Bool) (e : Ex) (v0 v1 : Value) (G : GS) : Option (Value × GS) :=
  bS (bx q v0 G) fun x0 G1 =>
  bP (fa Q q 40 0 0 x0) fun x2 =>
  bP (ld Q q 23 x2 G1) fun x3 =>
  bP (ld Q q 23 v1 G1) fun x4 =>
  bP (bn Q q .geq 23 (.tmp 5) (.tmp 6) x3 x4) fun x5 =>
  some (x5, G1)
theorem m61 {e : Ex} {E : Ev} (h : ExLe Q e E) (v0 v1 : Value) (G : GS) : Ref (s61 true e v0 v1 G) (s61 false (Ex.of E) v0 v1 G) := by
  unfold s61
  exact Ref.go
theorem f61 {orc : FuncId → Bool} {e : Ex} (h : ExLe Q e (E orc)) (v0 v1 : Value) (G : GS) : Ref (s61 true e v0 v1 G) ((E orc).cl 61 [v0, v1] G) :=
  fun r hr => cl_sxE_some Q orc (vs := [v0, v1]) G Try.func61 (by kernel_rfl) (by kernel_rfl) (by kernel_rfl) (by kernel_rfl) (by kernel_rfl) (m61 h v0 v1 G r hr)
instance ilp67_0 : LpIs Q 67 0 (subAt [1, 1, 0, 0, 0] (bodyOf Try.f67)) 44 := ⟨by kernel_rfl, by kernel_rfl⟩
noncomputable def b67_0 (q : Bool) (e : Ex) (lp : Env → GS → Option (Exit × Env × GS)) (τ : Env) (G : GS) : Option (Exit × Env × GS) :=
  bV q (τ 0) fun a0_ =>
  bV q (τ 1) fun a1_ =>
  bV q (τ 6) fun a6_ =>
  bV q (τ 7) fun a7_ =>
  bP (bn Q q .lss 3 (.tmp 11) (.tmp 12) a6_ a7_) fun x0 =>
  ifV x0 (
  bP (bn Q q .sub 3 (.tmp 15) (.tmp 16) a7_ a6_) fun x1 =>
  bP (bn Q q .quo 3 (.tmp 17) (.const (.int .i64 2)) x1 (.int .i64 2)) fun x2 =>
  bP (bn Q q .add 3 (.tmp 14) (.tmp 18) a6_ x2) fun x3 =>
  bP (ias Q q 22 2 a0_ x3) fun x4 =>
  bP (lda Q q 40 2 x4 G) fun x5 =>
  bS (cValue e.ev a1_ [x5] G) fun x6 G7 =>
  bP (bn Q q .lss 3 (.tmp 25) (.const (.int .i64 0)) x6 (.int .i64 0)) fun x8 =>
  ifV x8 (
  bP (bn Q q .add 3 (.tmp 27) (.const (.int .i64 1)) x3 (.int .i64 1)) fun x9 =>
  lp (tu τ [(0, a0_), (1, a1_), (6, x9), (7, a7_), (8, x3), (11, a6_), (12, a7_), (13, x0), (14, a6_), (15, a7_), (16, a6_), (17, x1), (18, x2), (19, x3), (20, a1_), (21, a0_), (22, x3), (23, x4), (24, x5), (25, x6), (26, x8), (27, x3), (28, x9)]) G7) (
  lp (tu τ [(0, a0_), (1, a1_), (6, a6_), (7, x3), (8, x3), (11, a6_), (12, a7_), (13, x0), (14, a6_), (15, a7_), (16, a6_), (17, x1), (18, x2), (19, x3), (20, a1_), (21, a0_), (22, x3), (23, x4), (24, x5), (25, x6), (26, x8), (29, x3)]) G7)) (
  some ((.exit 0), clq q 44 (tu τ [(0, a0_), (1, a1_), (6, a6_), (7, a7_), (11, a6_), (12, a7_), (13, x0)]), G))
theorem mb67_0 {e : Ex} {E : Ev} (h : ExLe Q e E) {lp lp' : Env → GS → Option (Exit × Env × GS)} (hlp : LpLe lp lp') (τ : Env) (G : GS) : Ref (b67_0 true e lp τ G) (b67_0 false (Ex.of E) lp' τ G) := by
  unfold b67_0
  exact Ref.go
theorem l67_0 {orc : FuncId → Bool} {e : Ex} (h : ExLe Q e (E orc)) (lp : Env → GS → Option (Exit × Env × GS)) (hlp : ∀ τ G, Ref (lp τ G) (mapE ((E orc).lp (subAt [1, 1, 0, 0, 0] (bodyOf Try.f67)) (lst 44 τ) G))) (T : List Value) (G : GS) (hT : T.length = 44) : Ref (b67_0 true e lp (nth undef T) G) (mapE ((E orc).lp (subAt [1, 1, 0, 0, 0] (bodyOf Try.f67)) T G)) :=
  fun r hr => lp_sxM Q orc G hT (by kernel_rfl) (mb67_0 h ⟨hlp⟩ _ _ r hr)
/-- coxswain/heap.find[coxswain/api.Item] -/
noncomputable def s67 (q : Bool) (e : Ex) (v0 v1 : Value) (G : GS) : Option (Value × GS) :=
  bP (ln Q q 22 v0) fun x0 =>
  bL q e 67 0 (subAt [1, 1, 0, 0, 0] (bodyOf Try.f67)) 44 (tu (nth undef [v0, v1]) [(4, (.int .i64 0)), (5, (.bool false)), (6, (.int .i64 0)), (7, x0), (9, v0), (10, x0)]) G fun e1 t2 G3 =>
  bV q (t2 0) fun t2x0_ =>
  bV q (t2 1) fun t2x1_ =>
  bV q (t2 6) fun t2x6_ =>
  ifE e1 (.exit 0) (
  bP (ln Q q 22 t2x0_) fun x4 =>
  bP (bn Q q .lss 3 (.tmp 31) (.tmp 33) t2x6_ x4) fun x5 =>
  bS (gd x5 true (some (t2x1_, G3)) G3) fun x6 G7 =>
  bS (gd x5 true (some (t2x0_, G7)) G7) fun x8 G9 =>
  bS (gd x5 true (some (t2x6_, G9)) G9) fun x10 G11 =>
  bS (gd x5 true (bP (ias Q q 22 2 x8 x10) fun y => some (y, G11)) G11) fun x12 G13 =>
  bS (gd x5 true (bP (lda Q q 40 2 x12 G13) fun y => some (y, G13)) G13) fun x14 G15 =>
  bS (gd x5 true (bS (cValue e.ev x6 [x14] G15) fun y G => some (y, G)) G15) fun x16 G17 =>
  bS (gd x5 true (bP (bn Q q .eql 3 (.tmp 41) (.const (.int .i64 0)) x16 (.int .i64 0)) fun y => some (y, G17)) G17) fun x18 G19 =>
  bP (pickV x5 x18 (.bool false)) fun x20 =>
  some (.tuple #[t2x6_, x20], G19)) (none)
theorem m67 {e : Ex} {E : Ev} (h : ExLe Q e E) (v0 v1 : Value) (G : GS) : Ref (s67 true e v0 v1 G) (s67 false (Ex.of E) v0 v1 G) := by
  unfold s67
  exact Ref.go
theorem f67 {orc : FuncId → Bool} {e : Ex} (h : ExLe Q e (E orc)) (v0 v1 : Value) (G : GS) : Ref (s67 true e v0 v1 G) ((E orc).cl 67 [v0, v1] G) :=
  fun r hr => cl_sxE_some Q orc (vs := [v0, v1]) G Try.func67 (by kernel_rfl) (by kernel_rfl) (by kernel_rfl) (by kernel_rfl) (by kernel_rfl) (m67 h v0 v1 G r hr)
/-- coxswain/heap.place$1 -/
noncomputable def s68 (q : Bool) (e : Ex) (v0 v1 : Value) (G : GS) : Option (Value × GS) :=
  bS (bx q v0 G) fun x0 G1 =>
  bP (fa Q q 40 0 0 x0) fun x2 =>
  bP (ld Q q 23 x2 G1) fun x3 =>
  bP (ld Q q 23 v1 G1) fun x4 =>
  bS (e.ev.cl 69 [x3, x4] G1) fun x5 G6 =>
  some (x5, G6)
theorem m68 {e : Ex} {E : Ev} (h : ExLe Q e E) (v0 v1 : Value) (G : GS) : Ref (s68 true e v0 v1 G) (s68 false (Ex.of E) v0 v1 G) := by
  unfold s68
  exact Ref.go
theorem f68 {orc : FuncId → Bool} {e : Ex} (h : ExLe Q e (E orc)) (v0 v1 : Value) (G : GS) : Ref (s68 true e v0 v1 G) ((E orc).cl 68 [v0, v1] G) :=
  fun r hr => cl_sxE_some Q orc (vs := [v0, v1]) G Try.func68 (by kernel_rfl) (by kernel_rfl) (by kernel_rfl) (by kernel_rfl) (by kernel_rfl) (m68 h v0 v1 G r hr)
/-- cmp.Compare[uint64] -/
noncomputable def s69 (q : Bool) (e : Ex) (v0 v1 : Value) (G : GS) : Option (Value × GS) :=
  bS (e.ev.cl 73 [v0] G) fun x0 G1 =>
  bS (e.ev.cl 73 [v1] G1) fun x2 G3 =>
  ifV x0 (
  ifV x2 (
  some ((.int .i64 0), G3)) (
  some ((.int .i64 (-1)), G3))) (
  ifV x2 (
  some ((.int .i64 1), G3)) (
  bP (bn Q q .lss 23 (.tmp 14) (.tmp 15) v0 v1) fun x4 =>
  ifV x4 (
  some ((.int .i64 (-1)), G3)) (
  bP (bn Q q .gtr 23 (.tmp 17) (.tmp 18) v0 v1) fun x5 =>
  ifV x5 (
  some ((.int .i64 1), G3)) (
  some ((.int .i64 0), G3)))))
theorem m69 {e : Ex} {E : Ev} (h : ExLe Q e E) (v0 v1 : Value) (G : GS) : Ref (s69 true e v0 v1 G) (s69 false (Ex.of E) v0 v1 G) := by
  unfold s69
  exact Ref.go
theorem f69 {orc : FuncId → Bool} {e : Ex} (h : ExLe Q e (E orc)) (v0 v1 : Value) (G : GS) : Ref (s69 true e v0 v1 G) ((E orc).cl 69 [v0, v1] G) :=
  fun r hr => cl_sxE_some Q orc (vs := [v0, v1]) G Try.func69 (by kernel_rfl) (by kernel_rfl) (by kernel_rfl) (by kernel_rfl) (by kernel_rfl) (m69 h v0 v1 G r hr)
/-- coxswain/heap.puts -/
noncomputable def s70 (q : Bool) (e : Ex) (v0 v1 : Value) (G : GS) : Option (Value × GS) :=
  bS (bx q v1 G) fun x0 G1 =>
  bS (al Q q 28 z28 G1) fun x2 G3 =>
  bP (fa Q q 25 3 3 x0) fun x4 =>
  bP (ld Q q 23 x4 G3) fun x5 =>
  bS (e.ev.cl 57 [v0, x5] G3) fun x6 G7 =>
  bP (pExtract x6 0) fun x8 =>
  bP (pExtract x6 1) fun x9 =>
  ifV x9 (
  bP (bd Q q 28 z28 [(0, 0, 1)] [(.int .i64 8)]) fun x10 =>
  bP (st Q q 28 3 x2 x10 G7) fun G11 =>
  bP (lda Q q 28 3 x2 G11) fun x12 =>
  some (.tuple #[x12, (.bool true)], G11)) (
  bP (bd Q q 28 z28 [] []) fun x13 =>
  bP (ln Q q 22 v0) fun x14 =>
  bP (bn Q q .lss 3 (.tmp 19) (.const (.int .i64 1024)) x14 (.int .i64 1024)) fun x15 =>
  bP (st Q q 28 3 x2 x13 G7) fun G16 =>
  bP (lda Q q 28 3 x2 G16) fun x17 =>
  some (.tuple #[x17, x15], G16))
theorem m70 {e : Ex} {E : Ev} (h : ExLe Q e E) (v0 v1 : Value) (G : GS) : Ref (s70 true e v0 v1 G) (s70 false (Ex.of E) v0 v1 G) := by
  unfold s70
  exact Ref.go
theorem f70 {orc : FuncId → Bool} {e : Ex} (h : ExLe Q e (E orc)) (v0 v1 : Value) (G : GS) : Ref (s70 true e v0 v1 G) ((E orc).cl 70 [v0, v1] G) :=
  fun r hr => cl_sxE_some Q orc (vs := [v0, v1]) G Try.func70 (by kernel_rfl) (by kernel_rfl) (by kernel_rfl) (by kernel_rfl) (by kernel_rfl) (m70 h v0 v1 G r hr)
/-- coxswain/heap.looks -/
noncomputable def s71 (q : Bool) (e : Ex) (v0 v1 : Value) (G : GS) : Option (Value × GS) :=
  bS (bx q v1 G) fun x0 G1 =>
  bS (al Q q 28 z28 G1) fun x2 G3 =>
  bP (ln Q q 22 v0) fun x4 =>
  bP (bn Q q .eql 3 (.tmp 7) (.const (.int .i64 0)) x4 (.int .i64 0)) fun x5 =>
  ifV x5 (
  bP (bd Q q 28 z28 [(0, 0, 1)] [(.int .i64 15)]) fun x6 =>
  bP (st Q q 28 3 x2 x6 G3) fun G7 =>
  bP (lda Q q 28 3 x2 G7) fun x8 =>
  some (.tuple #[x8, (.bool true)], G7)) (
  bP (ias Q q 22 2 v0 (.int .i64 0)) fun x9 =>
  bP (fa Q q 40 1 1 x9) fun x10 =>
  bP (ld Q q 3 x10 (G3.room 11)) fun x11 =>
  bP (ias Q q 22 2 v0 (.int .i64 0)) fun x12 =>
  bP (fa Q q 40 0 0 x12) fun x13 =>
  bP (ld Q q 23 x13 (G3.room 11)) fun x14 =>
  bP (bd Q q 28 z28 [(1, 1, 1), (2, 2, 1)] [x11, x14]) fun x15 =>
  bP (st Q q 28 3 x2 x15 (G3.room 11)) fun G16 =>
  bP (lda Q q 28 3 x2 G16) fun x17 =>
  some (.tuple #[x17, (.bool true)], G16))
theorem m71 {e : Ex} {E : Ev} (h : ExLe Q e E) (v0 v1 : Value) (G : GS) : Ref (s71 true e v0 v1 G) (s71 false (Ex.of E) v0 v1 G) := by
  unfold s71
  exact Ref.go
theorem f71 {orc : FuncId → Bool} {e : Ex} (h : ExLe Q e (E orc)) (v0 v1 : Value) (G : GS) : Ref (s71 true e v0 v1 G) ((E orc).cl 71 [v0, v1] G) :=
  fun r hr => cl_sxE_some Q orc (vs := [v0, v1]) G Try.func71 (by kernel_rfl) (by kernel_rfl) (by kernel_rfl) (by kernel_rfl) (by kernel_rfl) (m71 h v0 v1 G r hr)
/-- cmp.isNaN[uint64] -/
noncomputable def s73 (q : Bool) (e : Ex) (v0 : Value) (G : GS) : Option (Value × GS) :=
  bP (bn Q q .neq 23 (.tmp 3) (.tmp 4) v0 v0) fun x0 =>
  some (x0, G)
theorem m73 {e : Ex} {E : Ev} (h : ExLe Q e E) (v0 : Value) (G : GS) : Ref (s73 true e v0 G) (s73 false (Ex.of E) v0 G) := by
  unfold s73
  exact Ref.go
theorem f73 {orc : FuncId → Bool} {e : Ex} (h : ExLe Q e (E orc)) (v0 : Value) (G : GS) : Ref (s73 true e v0 G) ((E orc).cl 73 [v0] G) :=
  fun r hr => cl_sxE_some Q orc (vs := [v0]) G Try.func73 (by kernel_rfl) (by kernel_rfl) (by kernel_rfl) (by kernel_rfl) (by kernel_rfl) (m73 h v0 G r hr)
noncomputable def clT (orc : FuncId → Bool) (e : Ex) (f : FuncId) (vs : List Value) (G : GS) : Option (Value × GS) :=
  fork f 25 (
fork f 16 (
fork f 7 (
fork f 4 (
fork f 3 (
leaf f 3 (app3 (s3 true e) vs G)) (
leaf f 4 (app2 (s4 true e) vs G))) (
fork f 5 (
leaf f 5 (app3 (s5 true e) vs G)) (
leaf f 7 (app3 (s7 true e) vs G)))) (
fork f 13 (
fork f 8 (
leaf f 8 (app1 (s8 true e) vs G)) (
leaf f 13 (app0 (orc 13) (s13 true e) vs G))) (
fork f 14 (
leaf f 14 (app1 (s14 true e) vs G)) (
fork f 15 (
leaf f 15 (app3 (s15 true e) vs G)) (
leaf f 16 (app3 (s16 true e) vs G)))))) (
fork f 20 (
fork f 18 (
fork f 17 (
leaf f 17 (app2 (s17 true e) vs G)) (
leaf f 18 (app2 (s18 true e) vs G))) (
fork f 19 (
leaf f 19 (app2 (s19 true e) vs G)) (
leaf f 20 (app1 (s20 true e) vs G)))) (
fork f 22 (
fork f 21 (
leaf f 21 (app2 (s21 true e) vs G)) (
leaf f 22 (app1 (s22 true e) vs G))) (
fork f 23 (
leaf f 23 (app1 (s23 true e) vs G)) (
fork f 24 (
leaf f 24 (app2 (s24 true e) vs G)) (
leaf f 25 (app2 (s25 true e) vs G))))))) (
fork f 58 (
fork f 29 (
fork f 27 (
fork f 26 (
leaf f 26 (app2 (s26 true e) vs G)) (
leaf f 27 (app2 (s27 true e) vs G))) (
fork f 28 (
leaf f 28 (app3 (s28 true e) vs G)) (
leaf f 29 (app2 (s29 true e) vs G)))) (
fork f 55 (
fork f 30 (
leaf f 30 (app0 (orc 30) (s30 true e) vs G)) (
leaf f 55 (app1 (s55 true e) vs G))) (
fork f 56 (
leaf f 56 (app1 (s56 true e) vs G)) (
fork f 57 (
leaf f 57 (app2 (s57 true e) vs G)) (
leaf f 58 (app2 (s58 true e) vs G)))))) (
fork f 67 (
fork f 60 (
fork f 59 (
leaf f 59 (app0 (orc 59) (s59 true e) vs G)) (
leaf f 60 (app2 (s60 true e) vs G))) (
fork f 61 (
leaf f 61 (app2 (s61 true e) vs G)) (
leaf f 67 (app2 (s67 true e) vs G)))) (
fork f 69 (
fork f 68 (
leaf f 68 (app2 (s68 true e) vs G)) (
leaf f 69 (app2 (s69 true e) vs G))) (
fork f 70 (
leaf f 70 (app2 (s70 true e) vs G)) (
fork f 71 (
leaf f 71 (app2 (s71 true e) vs G)) (
leaf f 73 (app1 (s73 true e) vs G)))))))
theorem clT_ok {orc : FuncId → Bool} {e : Ex} (h : ExLe Q e (E orc)) (f : FuncId) (vs : List Value) (G : GS) : Ref (clT orc e f vs G) ((E orc).cl f vs G) :=
  Ref.fork (
Ref.fork (
Ref.fork (
Ref.fork (
Ref.fork (
Ref.leaf (y := fun f => (E orc).cl f vs G) (Ref.app3 (fun u0 u1 u2 G => f3 h u0 u1 u2 G) vs G)) (
Ref.leaf (y := fun f => (E orc).cl f vs G) (Ref.app2 (fun u0 u1 G => f4 h u0 u1 G) vs G))) (
Ref.fork (
Ref.leaf (y := fun f => (E orc).cl f vs G) (Ref.app3 (fun u0 u1 u2 G => f5 h u0 u1 u2 G) vs G)) (
Ref.leaf (y := fun f => (E orc).cl f vs G) (Ref.app3 (fun u0 u1 u2 G => f7 h u0 u1 u2 G) vs G)))) (
Ref.fork (
Ref.fork (
Ref.leaf (y := fun f => (E orc).cl f vs G) (Ref.app1 (fun u0 G => f8 h u0 G) vs G)) (
Ref.leaf (y := fun f => (E orc).cl f vs G) (Ref.app0 (fun ho G => f13 h ho G) vs G))) (
Ref.fork (
Ref.leaf (y := fun f => (E orc).cl f vs G) (Ref.app1 (fun u0 G => f14 h u0 G) vs G)) (
Ref.fork (
Ref.leaf (y := fun f => (E orc).cl f vs G) (Ref.app3 (fun u0 u1 u2 G => f15 h u0 u1 u2 G) vs G)) (
Ref.leaf (y := fun f => (E orc).cl f vs G) (Ref.app3 (fun u0 u1 u2 G => f16 h u0 u1 u2 G) vs G)))))) (
Ref.fork (
Ref.fork (
Ref.fork (
Ref.leaf (y := fun f => (E orc).cl f vs G) (Ref.app2 (fun u0 u1 G => f17 h u0 u1 G) vs G)) (
Ref.leaf (y := fun f => (E orc).cl f vs G) (Ref.app2 (fun u0 u1 G => f18 h u0 u1 G) vs G))) (
Ref.fork (
Ref.leaf (y := fun f => (E orc).cl f vs G) (Ref.app2 (fun u0 u1 G => f19 h u0 u1 G) vs G)) (
Ref.leaf (y := fun f => (E orc).cl f vs G) (Ref.app1 (fun u0 G => f20 h u0 G) vs G)))) (
Ref.fork (
Ref.fork (
Ref.leaf (y := fun f => (E orc).cl f vs G) (Ref.app2 (fun u0 u1 G => f21 h u0 u1 G) vs G)) (
Ref.leaf (y := fun f => (E orc).cl f vs G) (Ref.app1 (fun u0 G => f22 h u0 G) vs G))) (
Ref.fork (
Ref.leaf (y := fun f => (E orc).cl f vs G) (Ref.app1 (fun u0 G => f23 h u0 G) vs G)) (
Ref.fork (
Ref.leaf (y := fun f => (E orc).cl f vs G) (Ref.app2 (fun u0 u1 G => f24 h u0 u1 G) vs G)) (
Ref.leaf (y := fun f => (E orc).cl f vs G) (Ref.app2 (fun u0 u1 G => f25 h u0 u1 G) vs G))))))) (
Ref.fork (
Ref.fork (
Ref.fork (
Ref.fork (
Ref.leaf (y := fun f => (E orc).cl f vs G) (Ref.app2 (fun u0 u1 G => f26 h u0 u1 G) vs G)) (
Ref.leaf (y := fun f => (E orc).cl f vs G) (Ref.app2 (fun u0 u1 G => f27 h u0 u1 G) vs G))) (
Ref.fork (
Ref.leaf (y := fun f => (E orc).cl f vs G) (Ref.app3 (fun u0 u1 u2 G => f28 h u0 u1 u2 G) vs G)) (
Ref.leaf (y := fun f => (E orc).cl f vs G) (Ref.app2 (fun u0 u1 G => f29 h u0 u1 G) vs G)))) (
Ref.fork (
Ref.fork (
Ref.leaf (y := fun f => (E orc).cl f vs G) (Ref.app0 (fun ho G => f30 h ho G) vs G)) (
Ref.leaf (y := fun f => (E orc).cl f vs G) (Ref.app1 (fun u0 G => f55 h u0 G) vs G))) (
Ref.fork (
Ref.leaf (y := fun f => (E orc).cl f vs G) (Ref.app1 (fun u0 G => f56 h u0 G) vs G)) (
Ref.fork (
Ref.leaf (y := fun f => (E orc).cl f vs G) (Ref.app2 (fun u0 u1 G => f57 h u0 u1 G) vs G)) (
Ref.leaf (y := fun f => (E orc).cl f vs G) (Ref.app2 (fun u0 u1 G => f58 h u0 u1 G) vs G)))))) (
Ref.fork (
Ref.fork (
Ref.fork (
Ref.leaf (y := fun f => (E orc).cl f vs G) (Ref.app0 (fun ho G => f59 h ho G) vs G)) (
Ref.leaf (y := fun f => (E orc).cl f vs G) (Ref.app2 (fun u0 u1 G => f60 h u0 u1 G) vs G))) (
Ref.fork (
Ref.leaf (y := fun f => (E orc).cl f vs G) (Ref.app2 (fun u0 u1 G => f61 h u0 u1 G) vs G)) (
Ref.leaf (y := fun f => (E orc).cl f vs G) (Ref.app2 (fun u0 u1 G => f67 h u0 u1 G) vs G)))) (
Ref.fork (
Ref.fork (
Ref.leaf (y := fun f => (E orc).cl f vs G) (Ref.app2 (fun u0 u1 G => f68 h u0 u1 G) vs G)) (
Ref.leaf (y := fun f => (E orc).cl f vs G) (Ref.app2 (fun u0 u1 G => f69 h u0 u1 G) vs G))) (
Ref.fork (
Ref.leaf (y := fun f => (E orc).cl f vs G) (Ref.app2 (fun u0 u1 G => f70 h u0 u1 G) vs G)) (
Ref.fork (
Ref.leaf (y := fun f => (E orc).cl f vs G) (Ref.app2 (fun u0 u1 G => f71 h u0 u1 G) vs G)) (
Ref.leaf (y := fun f => (E orc).cl f vs G) (Ref.app1 (fun u0 G => f73 h u0 G) vs G)))))))
noncomputable def lpT (FUEL : Nat) (e : Ex) (f k : Nat) (τ : Env) (G : GS) : Option (Exit × Env × GS) :=
  fork f 20 (
fork f 8 (
fork f 4 (
leaf f 4 (leaf k 0 (lpS 88 (b4_0 true e) FUEL τ G))) (
leaf f 8 (fork k 0 (leaf k 0 (lpS 109 (b8_0 true e) FUEL τ G)) (leaf k 1 (lpS 109 (b8_1 true e) FUEL τ G))))) (
fork f 19 (
leaf f 19 (leaf k 0 (lpS 31 (b19_0 true e) FUEL τ G))) (
leaf f 20 (leaf k 0 (lpS 13 (b20_0 true e) FUEL τ G))))) (
fork f 23 (
fork f 22 (
leaf f 22 (leaf k 0 (lpS 29 (b22_0 true e) FUEL τ G))) (
leaf f 23 (leaf k 0 (lpS 25 (b23_0 true e) FUEL τ G)))) (
fork f 26 (
leaf f 26 (leaf k 0 (lpS 36 (b26_0 true e) FUEL τ G))) (
fork f 60 (
leaf f 60 (leaf k 0 (lpS 19 (b60_0 true e) FUEL τ G))) (
leaf f 67 (leaf k 0 (lpS 44 (b67_0 true e) FUEL τ G))))))
theorem lpT_ok {orc : FuncId → Bool} {e : Ex} (h : ExLe Q e (E orc)) (FUEL f k : Nat) (τ : Env) (G : GS) : Ref (lpT FUEL e f k τ G) (mapE ((E orc).lp (codeAt Q f k) (lst (nOf Q f) τ) G)) :=
  Ref.fork (
Ref.fork (
Ref.fork (
Ref.leaf (y := fun f => mapE ((E orc).lp (codeAt Q f k) (lst (nOf Q f) τ) G)) (Ref.leaf (y := fun k => mapE ((E orc).lp (codeAt Q 4 k) (lst (nOf Q 4) τ) G)) (lp_leaf (c := (subAt [1, 1, 0, 1, 0, 0] (bodyOf Try.f4))) (l4_0 h) _ _ _))) (
Ref.leaf (y := fun f => mapE ((E orc).lp (codeAt Q f k) (lst (nOf Q f) τ) G)) (Ref.fork (Ref.leaf (y := fun k => mapE ((E orc).lp (codeAt Q 8 k) (lst (nOf Q 8) τ) G)) (lp_leaf (c := (subAt [1, 1, 1, 1, 1, 0, 1, 0, 0] (bodyOf Try.f8))) (l8_0 h) _ _ _)) (Ref.leaf (y := fun k => mapE ((E orc).lp (codeAt Q 8 k) (lst (nOf Q 8) τ) G)) (lp_leaf (c := (subAt [1, 1, 1, 1, 1, 1, 1, 0, 1, 0, 0] (bodyOf Try.f8))) (l8_1 h) _ _ _))))) (
Ref.fork (
Ref.leaf (y := fun f => mapE ((E orc).lp (codeAt Q f k) (lst (nOf Q f) τ) G)) (Ref.leaf (y := fun k => mapE ((E orc).lp (codeAt Q 19 k) (lst (nOf Q 19) τ) G)) (lp_leaf (c := (subAt [1, 1, 0, 1, 0, 0] (bodyOf Try.f19))) (l19_0 h) _ _ _))) (
Ref.leaf (y := fun f => mapE ((E orc).lp (codeAt Q f k) (lst (nOf Q f) τ) G)) (Ref.leaf (y := fun k => mapE ((E orc).lp (codeAt Q 20 k) (lst (nOf Q 20) τ) G)) (lp_leaf (c := (subAt [1, 0, 0] (bodyOf Try.f20))) (l20_0 h) _ _ _))))) (
Ref.fork (
Ref.fork (
Ref.leaf (y := fun f => mapE ((E orc).lp (codeAt Q f k) (lst (nOf Q f) τ) G)) (Ref.leaf (y := fun k => mapE ((E orc).lp (codeAt Q 22 k) (lst (nOf Q 22) τ) G)) (lp_leaf (c := (subAt [1, 1, 0, 1, 0, 0] (bodyOf Try.f22))) (l22_0 h) _ _ _))) (
Ref.leaf (y := fun f => mapE ((E orc).lp (codeAt Q f k) (lst (nOf Q f) τ) G)) (Ref.leaf (y := fun k => mapE ((E orc).lp (codeAt Q 23 k) (lst (nOf Q 23) τ) G)) (lp_leaf (c := (subAt [1, 1, 0, 1, 0, 0] (bodyOf Try.f23))) (l23_0 h) _ _ _)))) (
Ref.fork (
Ref.leaf (y := fun f => mapE ((E orc).lp (codeAt Q f k) (lst (nOf Q f) τ) G)) (Ref.leaf (y := fun k => mapE ((E orc).lp (codeAt Q 26 k) (lst (nOf Q 26) τ) G)) (lp_leaf (c := (subAt [1, 1, 0, 0, 0] (bodyOf Try.f26))) (l26_0 h) _ _ _))) (
Ref.fork (
Ref.leaf (y := fun f => mapE ((E orc).lp (codeAt Q f k) (lst (nOf Q f) τ) G)) (Ref.leaf (y := fun k => mapE ((E orc).lp (codeAt Q 60 k) (lst (nOf Q 60) τ) G)) (lp_leaf (c := (subAt [1, 0, 1, 0, 0] (bodyOf Try.f60))) (l60_0 h) _ _ _))) (
Ref.leaf (y := fun f => mapE ((E orc).lp (codeAt Q f k) (lst (nOf Q f) τ) G)) (Ref.leaf (y := fun k => mapE ((E orc).lp (codeAt Q 67 k) (lst (nOf Q 67) τ) G)) (lp_leaf (c := (subAt [1, 1, 0, 0, 0] (bodyOf Try.f67))) (l67_0 h) _ _ _))))))
noncomputable def kE (orc : FuncId → Bool) (n : Nat) : Ex := Nat.rec (motive := fun _ => Ex) ⟨Ev.zero, fun _ _ _ _ => none⟩ (fun _ e => ⟨⟨(evO Q orc 0).ex, clT orc e, (evO Q orc 2000).rd, (evO Q orc 2000).sc, (evO Q orc 0).lp⟩, lpT 6000 e⟩) n
theorem kE_ok (orc : FuncId → Bool) : ∀ n, ExLe Q (kE orc n) (E orc)
  | 0 => ⟨zero_le _, fun _ _ _ _ => .nil _⟩
  | n + 1 => ⟨⟨(le_evL Q orc 0).ex, fun f vs G r hr => clT_ok (kE_ok orc n) f vs G r hr, (le_evL Q orc 2000).rd, (le_evL Q orc 2000).sc, (le_evL Q orc 0).lp⟩, lpT_ok (kE_ok orc n) 6000⟩
/-- what the tables find true is true -/
theorem at_kE {orc : FuncId → Bool} {n f : Nat} {vs : List Value} (h : isTrue ((kE orc n).ev.cl f vs GS.empty) = true) : ∃ G', (E orc).cl f vs GS.empty = some (.bool true, G') := isTrue_of ((kE_ok orc n).ev.cl f vs GS.empty) h
theorem closed_kE {orc : FuncId → Bool} (ho : OrcOk Q orc) (hmix : Q.follows .mixedOrders = true) {n f : Nat} (h : isTrue ((kE orc n).ev.cl f [] GS.empty) = true) (w : World) : Calls Q f #[] w fun e w' => e = .returned (.bool true) ∧ Go.RowKit.Below w.heap.size w w' :=
  let ⟨_, hG⟩ := at_kE h
  law_plain hmix ho hG fun _ => trivial
end Go.Proofs.Ytglafaecdpilgaa.Lift
