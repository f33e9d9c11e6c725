/- the program's code, spelled out by a program of ours (lift3.lean) -/
import Derived.Test.YtedmgpchggogpaaGreatProg
import Derived.Test.YtedmgpchggogpaaGreatGhPJ
import Derived.Test.YtedmgpchggogpaaGreatGhPG
import Derived.KernelRfl
namespace Go.Proofs.YtedmgpchggogpaaGreat.Lift
open Go Go.Proofs.YtedmgpchggogpaaGreat.Gh Go.Proofs
set_option linter.unusedVariables false
set_option maxRecDepth 100000
@[reducible] noncomputable def Q : Program := Tryz.prog
@[reducible] noncomputable def E (orc : FuncId → Bool) : Ev := evL Tryz.prog orc
instance ilp4_0 : LpIs Q 4 0 (subAt [1, 1, 1, 1, 1, 1, 0, 1, 0, 0] (bodyOf Tryz.f4)) 129 := ⟨by kernel_rfl, by kernel_rfl⟩
instance ilp4_1 : LpIs Q 4 1 (subAt [1, 1, 1, 1, 1, 1, 1, 1, 0, 1, 0, 0] (bodyOf Tryz.f4)) 129 := ⟨by kernel_rfl, by kernel_rfl⟩
instance ilp4_2 : LpIs Q 4 2 (subAt [1, 1, 1, 1, 1, 1, 1, 1, 0, 1, 0, 0, 1, 0, 0, 1, 1, 0, 0, 0] (bodyOf Tryz.f4)) 129 := ⟨by kernel_rfl, by kernel_rfl⟩
instance ilp10_0 : LpIs Q 10 0 (subAt [1, 1, 0, 1, 0, 0] (bodyOf Tryz.f10)) 39 := ⟨by kernel_rfl, by kernel_rfl⟩
instance ilp11_0 : LpIs Q 11 0 (subAt [1, 1, 0, 1, 0, 0] (bodyOf Tryz.f11)) 30 := ⟨by kernel_rfl, by kernel_rfl⟩
instance ilp12_0 : LpIs Q 12 0 (subAt [1, 1, 0, 1, 0, 0] (bodyOf Tryz.f12)) 45 := ⟨by kernel_rfl, by kernel_rfl⟩
instance ilp12_1 : LpIs Q 12 1 (subAt [1, 1, 0, 1, 0, 0, 1, 0, 0, 1, 0, 0] (bodyOf Tryz.f12)) 45 := ⟨by kernel_rfl, by kernel_rfl⟩
instance ilp13_0 : LpIs Q 13 0 (subAt [1, 1, 0, 1, 0, 0] (bodyOf Tryz.f13)) 31 := ⟨by kernel_rfl, by kernel_rfl⟩
instance ilp14_0 : LpIs Q 14 0 (subAt [1, 0, 0] (bodyOf Tryz.f14)) 12 := ⟨by kernel_rfl, by kernel_rfl⟩
instance ilp17_0 : LpIs Q 17 0 (subAt [1, 1, 0, 1, 0, 0] (bodyOf Tryz.f17)) 18 := ⟨by kernel_rfl, by kernel_rfl⟩
instance ilp52_0 : LpIs Q 52 0 (subAt [1, 1, 0, 1, 0, 0] (bodyOf Tryz.f52)) 30 := ⟨by kernel_rfl, by kernel_rfl⟩
instance ilp55_0 : LpIs Q 55 0 (subAt [1, 1, 0, 1, 0, 0] (bodyOf Tryz.f55)) 41 := ⟨by kernel_rfl, by kernel_rfl⟩
instance iln22 : LnOk Q 22 := ⟨fun a n c => by kernel_rfl⟩
instance ieb4 : EbOk Q 4 := ⟨fun neg x y a b => by cases neg <;> cases a <;> cases b <;> kernel_rfl⟩
instance iias22 : IasOk Q 22 1 := ⟨fun b o s n c k j => by kernel_rfl⟩
instance ild23 : LdOk Q 23 := ⟨fun b o s G => (show _ = loadOne b o G by kernel_rfl).trans (loadOne_eq b o G)⟩
noncomputable abbrev z23 : List Value := [(.int .u64 0)]
instance ibs22_1_0 : BsOk Q 22 1 (rep z23 1) 1 [(0, 0, 1)] := bs_ok Q (z0 := z23) (by kernel_rfl) rfl (by decide) (by kernel_rfl)
instance iap22_22 : ApOk Q 22 22 1 8 := ⟨fun s x G => by kernel_rfl⟩
instance isl22 : SlOk Q 22 1 := ⟨fun a n c lo hi mx G => sl_eq Q (e := 23) (by kernel_rfl) (by kernel_rfl) a n c lo hi mx G⟩
instance iep50 : EpOk Q 50 := ⟨fun neg x y => by cases neg <;> kernel_rfl, fun neg x y a => by cases neg <;> kernel_rfl, fun neg x y a => by cases neg <;> kernel_rfl⟩
instance ibs22_2_0_1 : BsOk Q 22 2 (rep z23 2) 1 [(0, 0, 1), (1, 1, 1)] := bs_ok Q (z0 := z23) (by kernel_rfl) rfl (by decide) (by kernel_rfl)
noncomputable abbrev z3 : List Value := [(.int .i64 0)]
instance ibs35_1_0 : BsOk Q 35 1 (rep z3 1) 1 [(0, 0, 1)] := bs_ok Q (z0 := z3) (by kernel_rfl) rfl (by decide) (by kernel_rfl)
instance ibs22_0_ : BsOk Q 22 0 (rep z23 0) 1 [] := bs_ok Q (z0 := z23) (by kernel_rfl) rfl (by decide) (by kernel_rfl)
instance ist23 : StOk Q 23 1 := ⟨fun b o s v G => by kernel_rfl⟩
instance ibs22_3_0_1_2 : BsOk Q 22 3 (rep z23 3) 1 [(0, 0, 1), (1, 1, 1), (2, 2, 1)] := bs_ok Q (z0 := z23) (by kernel_rfl) rfl (by decide) (by kernel_rfl)
instance ibs22_5_0_1_2_3_4 : BsOk Q 22 5 (rep z23 5) 1 [(0, 0, 1), (1, 1, 1), (2, 2, 1), (3, 3, 1), (4, 4, 1)] := bs_ok Q (z0 := z23) (by kernel_rfl) rfl (by decide) (by kernel_rfl)
instance ibs22_4_0_1_2_3 : BsOk Q 22 4 (rep z23 4) 1 [(0, 0, 1), (1, 1, 1), (2, 2, 1), (3, 3, 1)] := bs_ok Q (z0 := z23) (by kernel_rfl) rfl (by decide) (by kernel_rfl)
noncomputable abbrev z49 : List Value := [(.int .i64 0), (.int .i64 0), (.int .i64 0)]
instance ial49 : AlOk Q 49 z49 := ⟨fun G => by kernel_rfl⟩
instance ist49 : StOk Q 49 3 := ⟨fun b o s v G => by kernel_rfl⟩
instance ifa49_2 : FaOk Q 49 2 2 := ⟨fun b o s => by kernel_rfl⟩
instance ist3 : StOk Q 3 1 := ⟨fun b o s v G => by kernel_rfl⟩
instance ifa49_1 : FaOk Q 49 1 1 := ⟨fun b o s => by kernel_rfl⟩
instance ilda49 : LdAOk Q 49 3 := ⟨fun b o s G => by kernel_rfl⟩
instance icv3_159 : CvOk Q 3 159 .i64 .u64 := ⟨fun n => by kernel_rfl⟩
/-- coxswain/coxswainlaw26.RunTells -/
noncomputable def s3 (q : Bool) (e : Ex) (v0 v1 v2 : Value) (G : GS) : Option (Value × GS) :=
  bP (ln Q q 22 v0) fun x0 =>
  bP (bn Q q .gtr 3 (.tmp 16) (.const (.int .i64 60)) x0 (.int .i64 60)) fun x1 =>
  ifV x1 (
  bS (e.ev.cl 7 [] G) fun x2 G3 =>
  some (x2, G3)) (
  bS (e.ev.cl 8 [v0] G) fun x4 G5 =>
  bS (e.ev.cl 9 [x4, v1] G5) fun x6 G7 =>
  bP (pExtract x6 0) fun x8 =>
  bP (pExtract x6 1) fun x9 =>
  bS (e.ev.cl 10 [v0, v1] G7) fun x10 G11 =>
  bP (pExtract x10 0) fun x12 =>
  bP (pExtract x10 1) fun x13 =>
  bS (e.ev.cl 11 [x4, v2] G11) fun x14 G15 =>
  bS (e.ev.cl 12 [v0, v2] G15) fun x16 G17 =>
  bP (bn Q q .eql 3 (.tmp 39) (.tmp 40) x8 x12) fun x18 =>
  bS (gd x18 true (some (x9, G17)) G17) fun x19 G20 =>
  bS (gd x18 true (some (x13, G20)) G20) fun x21 G22 =>
  bS (gd x18 true (bP (eb Q q false 4 (.tmp 43) (.tmp 44) x19 x21) fun y => some (y, G22)) G22) fun x23 G24 =>
  bP (pickV x18 x23 (.bool false)) fun x25 =>
  bS (gd x25 true (some (x14, G24)) G24) fun x26 G27 =>
  bS (gd x25 true (some (x16, G27)) G27) fun x28 G29 =>
  bS (gd x25 true (bS (e.ev.cl 13 [x26, x28] G29) fun y G => some (y, G)) G29) fun x30 G31 =>
  bP (pickV x25 x30 (.bool false)) fun x32 =>
  bS (e.ev.cl 14 [x14] G31) fun x33 G34 =>
  bS (gd x32 true (some (x4, G34)) G34) fun x35 G36 =>
  bS (gd x32 true (some (v0, G36)) G36) fun x37 G38 =>
  bS (gd x32 true (bS (e.ev.cl 13 [x35, x37] G38) fun y G => some (y, G)) G38) fun x39 G40 =>
  bP (pickV x32 x39 (.bool false)) fun x41 =>
  bS (gd x41 true (bS (e.ev.cl 7 [] G40) fun y G => some (y, G)) G40) fun x42 G43 =>
  bP (pickV x41 x42 (.bool false)) fun x44 =>
  some (x44, G43))
theorem m3 {e : Ex} {E : Ev} (h : ExLe Q e E) (v0 v1 v2 : Value) (G : GS) : Ref (s3 true e v0 v1 v2 G) (s3 false (Ex.of E) v0 v1 v2 G) := by
  unfold s3
  exact Ref.gq
theorem f3 {orc : FuncId → Bool} {e : Ex} (h : ExLe Q e (E orc)) (v0 v1 v2 : Value) (G : GS) : Ref (s3 true e v0 v1 v2 G) ((E orc).cl 3 [v0, v1, v2] G) :=
  fun r hr => cl_sxE_some Q orc (vs := [v0, v1, v2]) G Tryz.func3 (by kernel_rfl) (by kernel_rfl) (by kernel_rfl) (by kernel_rfl) (by kernel_rfl) (by kernel_rfl) (m3 h v0 v1 v2 G r hr)
noncomputable def jbl4_0_0 (q : Bool) (e : Ex) (lp : Env → GS → Option (Exit × Env × GS)) (τ : Env) (G : GS) : Option (Exit × Env × GS) :=
  bV q (τ 0) fun a0_ =>
  bV q (τ 7) fun a7_ =>
  bV q (τ 8) fun a8_ =>
  bP (bn Q q .add 3 (.tmp 27) (.const (.int .i64 1)) a8_ (.int .i64 1)) fun x2 =>
  lp (xq q 129 τ [(8, x2), (28, x2), (27, a8_)] [(0, a0_), (7, a7_)]) G
noncomputable def jl4_0_0 (q : Bool) (e : Ex) (lp : Env → GS → Option (Exit × Env × GS)) (τ : Env) (G : GS) : Option (Exit × Env × GS) := jbl4_0_0 q e lp τ G
theorem mjl4_0_0 {e : Ex} {E : Ev} (h : ExLe Q e E) {lp lp' : Env → GS → Option (Exit × Env × GS)} (hlp : LpLe lp lp') (τ : Env) (G : GS) : Ref (jl4_0_0 true e lp τ G) (jl4_0_0 false (Ex.of E) lp' τ G) := by
  unfold jl4_0_0 jbl4_0_0
  exact Ref.gq
theorem mkjl4_0_0 {e : Ex} {E : Ev} (h : ExLe Q e E) {lp lp' : Env → GS → Option (Exit × Env × GS)} (hlp : LpLe lp lp') {τ : Env} {l U : List (Nat × Value)} {G : GS} (hU : UOk τ U) : Ref (jl4_0_0 true e lp (xq true 129 τ l U) G) (jl4_0_0 false (Ex.of E) lp' (xq false 129 τ l U) G) := by
  rw [xq_eq hU]
  exact mjl4_0_0 h hlp _ _
noncomputable def bb4_0 (q : Bool) (e : Ex) (lp : Env → GS → Option (Exit × Env × GS)) (J0 : Env → GS → Option (Exit × Env × GS)) (τ : Env) (G : GS) : Option (Exit × Env × GS) :=
  bV q (τ 0) fun a0_ =>
  bV q (τ 7) fun a7_ =>
  bV q (τ 8) fun a8_ =>
  bP (ln Q q 22 a0_) fun x0 =>
  bP (bn Q q .lss 3 (.tmp 23) (.tmp 25) a8_ x0) fun x1 =>
  ifV x1 (
  bP (ias Q q 22 1 a0_ a8_) fun x3 =>
  bP (ld Q q 23 x3 G) fun x4 =>
  bP (bn Q q .neq 23 (.tmp 32) (.const (.int .u64 18446744073709551615)) x4 (.int .u64 18446744073709551615)) fun x5 =>
  ifV x5 (
  bP (ias Q q 22 1 a0_ a8_) fun x6 =>
  bP (ld Q q 23 x6 G) fun x7 =>
  bS (bs Q q 22 1 (rep z23 1) 1 [(0, 0, 1)] [x7] G) fun x8 G9 =>
  bS (ap Q q 22 22 1 8 a7_ x8 G9) fun x10 G11 =>
  J0 (xq q 129 τ [(7, x10), (40, x10), (39, x8), (38, x7), (37, x6), (36, a8_), (35, a0_), (34, a7_), (33, x5), (32, x4), (31, x3), (30, a8_), (29, a0_), (26, x1), (25, x0), (24, a0_), (23, a8_)] [(0, a0_), (8, a8_)]) G11) (
  J0 (xq q 129 τ [(33, x5), (32, x4), (31, x3), (30, a8_), (29, a0_), (26, x1), (25, x0), (24, a0_), (23, a8_)] [(0, a0_), (7, a7_), (8, a8_)]) G)) (
  some ((.exit 0), xq q 129 τ [(26, x1), (25, x0), (24, a0_), (23, a8_)] [(0, a0_), (7, a7_), (8, a8_)], G))
noncomputable def b4_0 (q : Bool) (e : Ex) (lp : Env → GS → Option (Exit × Env × GS)) (τ : Env) (G : GS) : Option (Exit × Env × GS) := bb4_0 q e lp (jl4_0_0 q e lp) τ G
theorem mb4_0 {e : Ex} {E : Ev} (h : ExLe Q e E) {lp lp' : Env → GS → Option (Exit × Env × GS)} (hlp : LpLe lp lp') (τ : Env) (G : GS) : Ref (b4_0 true e lp τ G) (b4_0 false (Ex.of E) lp' τ G) := by
  unfold b4_0 bb4_0
  repeat' (with_reducible first | exact Ref.rfl' _ | exact ROp.r | refine Ref.bP ?_ fun _ => ?_ | refine Ref.bS ?_ fun _ _ => ?_ | exact Ref.cl (by assumption) | refine Ref.ifV ?_ ?_ | refine LpLe.rx (by assumption) ?_ | refine Ref.xitq ?_ | exact UOk.z | refine UOk.c (by assumption) ?_ | exact Ref.nil _ | refine Ref.bVe fun _ _ => ?_ | refine Ref.bLq (by assumption) ?_ fun _ _ _ => ?_ | refine Ref.ifE ?_ ?_ | refine Ref.chk ?_ ?_ | refine Imp.and ?_ ?_ | refine Imp.or ?_ | exact Imp.rfl' _ | refine Imp.sameO ?_ | refine Ref.gd ?_ | exact Ref.cValue (by assumption) | refine Ref.bX ?_ fun _ _ _ => ?_ | exact Ref.scQ (by assumption) | exact Ref.xRangeQ (by assumption) | exact Ref.cInvoke (by assumption) | refine mkjl4_0_0 (by assumption) (by assumption) ?_)
noncomputable def jtl4_0 (J0 : Env → GS → Option (Exit × Env × GS)) : JT (Exit × Env × GS) :=
  (.n none .e (.n (some (fun T G => J0 (nth undef T) G)) .e .e))
set_option maxHeartbeats 8000000 in
theorem jrl4_0_0 (orc : FuncId → Bool) (J0 : Env → GS → Option (Exit × Env × GS)) (T : List Value) (G : GS) : runC Q (evL Q orc) 129 (jtl4_0 J0) (subAt [1, 1, 1, 1, 1, 1, 0, 1, 0, 0] (bodyOf Tryz.f4)) (seqXE (fun τ G' => mapE ((E orc).lp (subAt [1, 1, 1, 1, 1, 1, 0, 1, 0, 0] (bodyOf Tryz.f4)) (lst 129 (nth undef (lst 129 τ))) G')) fun e τ G' => some (e, nth undef (lst 129 τ), G')) [true] (nth undef T) G = jbl4_0_0 false (Ex.of (E orc)) (fun τ G => mapE ((E orc).lp (subAt [1, 1, 1, 1, 1, 1, 0, 1, 0, 0] (bodyOf Tryz.f4)) (lst 129 τ) G))  (nth undef T) G := by kernel_rfl
set_option maxHeartbeats 8000000 in
theorem jol4_0 (orc : FuncId → Bool) : JOk Q orc 129 (jtl4_0 (jl4_0_0 false (Ex.of (E orc)) (fun τ G => mapE ((E orc).lp (subAt [1, 1, 1, 1, 1, 1, 0, 1, 0, 0] (bodyOf Tryz.f4)) (lst 129 τ) G))) ) (subAt [1, 1, 1, 1, 1, 1, 0, 1, 0, 0] (bodyOf Tryz.f4)) (seqXE (fun τ G' => mapE ((E orc).lp (subAt [1, 1, 1, 1, 1, 1, 0, 1, 0, 0] (bodyOf Tryz.f4)) (lst 129 (nth undef (lst 129 τ))) G')) fun e τ G' => some (e, nth undef (lst 129 τ), G')) :=
  jOk Q orc (l := [([true], (fun T G => jl4_0_0 false (Ex.of (E orc)) (fun τ G => mapE ((E orc).lp (subAt [1, 1, 1, 1, 1, 1, 0, 1, 0, 0] (bodyOf Tryz.f4)) (lst 129 τ) G)) (nth undef T) G))]) (by kernel_rfl) (AllE.c (fun T G => jrl4_0_0 orc (jl4_0_0 false (Ex.of (E orc)) (fun τ G => mapE ((E orc).lp (subAt [1, 1, 1, 1, 1, 1, 0, 1, 0, 0] (bodyOf Tryz.f4)) (lst 129 τ) G))) T G) (AllE.z))
set_option maxHeartbeats 8000000 in
theorem jel4_0 (orc : FuncId → Bool) (J0 : Env → GS → Option (Exit × Env × GS)) (T : List Value) (G : GS) : sxC Q (evL Q orc) 129 (jtl4_0 J0) (subAt [1, 1, 1, 1, 1, 1, 0, 1, 0, 0] (bodyOf Tryz.f4)) (nth undef T) G (seqXE (fun τ G' => mapE ((E orc).lp (subAt [1, 1, 1, 1, 1, 1, 0, 1, 0, 0] (bodyOf Tryz.f4)) (lst 129 (nth undef (lst 129 τ))) G')) fun e τ G' => some (e, nth undef (lst 129 τ), G')) = bb4_0 false (Ex.of (E orc)) (fun τ G => mapE ((E orc).lp (subAt [1, 1, 1, 1, 1, 1, 0, 1, 0, 0] (bodyOf Tryz.f4)) (lst 129 τ) G)) J0 (nth undef T) G := by kernel_rfl
set_option maxHeartbeats 8000000 in
theorem l4_0 {orc : FuncId → Bool} {e : Ex} (h : ExLe Q e (E orc)) (lp : Env → GS → Option (Exit × Env × GS)) (hlp : ∀ τ G, Ref (lp τ G) (mapE ((E orc).lp (subAt [1, 1, 1, 1, 1, 1, 0, 1, 0, 0] (bodyOf Tryz.f4)) (lst 129 τ) G))) (T : List Value) (G : GS) (hT : T.length = 129) : Ref (b4_0 true e lp (nth undef T) G) (mapE ((E orc).lp (subAt [1, 1, 1, 1, 1, 1, 0, 1, 0, 0] (bodyOf Tryz.f4)) T G)) :=
  fun r hr => lp_sxC Q orc G (jtl4_0 (jl4_0_0 false (Ex.of (E orc)) (fun τ G => mapE ((E orc).lp (subAt [1, 1, 1, 1, 1, 1, 0, 1, 0, 0] (bodyOf Tryz.f4)) (lst 129 τ) G))) ) hT (jol4_0 orc) (jel4_0 orc (jl4_0_0 false (Ex.of (E orc)) (fun τ G => mapE ((E orc).lp (subAt [1, 1, 1, 1, 1, 1, 0, 1, 0, 0] (bodyOf Tryz.f4)) (lst 129 τ) G))) T G) (mb4_0 h ⟨hlp⟩ _ _ r hr)
noncomputable def b4_1 (q : Bool) (e : Ex) (lp : Env → GS → Option (Exit × Env × GS)) (τ : Env) (G : GS) : Option (Exit × Env × GS) :=
  bV q (τ 6) fun a6_ =>
  bV q (τ 9) fun a9_ =>
  bP (ln Q q 22 a6_) fun x0 =>
  bP (bn Q q .lss 3 (.tmp 48) (.tmp 50) a9_ x0) fun x1 =>
  ifV x1 (
  bP (bn Q q .gtr 3 (.tmp 54) (.const (.int .i64 0)) a9_ (.int .i64 0)) fun x2 =>
  bS (gd x2 true (some (a6_, (G.room 14))) (G.room 14)) fun x3 _ =>
  bS (gd x2 true (some (a9_, (G.room 14))) (G.room 14)) fun x4 _ =>
  bS (gd x2 true (bP (ias Q q 22 1 x3 x4) fun y => some (y, (G.room 14))) (G.room 14)) fun x5 _ =>
  bS (gd x2 true (bP (ld Q q 23 x5 (G.room 14)) fun y => some (y, (G.room 14))) (G.room 14)) fun x6 _ =>
  bS (gd x2 true (some (a6_, (G.room 14))) (G.room 14)) fun x7 _ =>
  bS (gd x2 true (some (a9_, (G.room 14))) (G.room 14)) fun x8 _ =>
  bS (gd x2 true (bP (bn Q q .sub 3 (.tmp 62) (.const (.int .i64 1)) x8 (.int .i64 1)) fun y => some (y, (G.room 14))) (G.room 14)) fun x9 _ =>
  bS (gd x2 true (bP (ias Q q 22 1 x7 x9) fun y => some (y, (G.room 14))) (G.room 14)) fun x10 _ =>
  bS (gd x2 true (bP (ld Q q 23 x10 (G.room 14)) fun y => some (y, (G.room 14))) (G.room 14)) fun x11 _ =>
  bS (gd x2 true (bP (bn Q q .lss 23 (.tmp 60) (.tmp 65) x6 x11) fun y => some (y, (G.room 14))) (G.room 14)) fun x12 _ =>
  bP (pickV x2 x12 (.bool false)) fun x13 =>
  ifV x13 (
  some (.ret, xq q 129 τ [(4, (.bool false)), (67, x13), (66, x12), (65, x11), (64, x10), (63, x9), (62, x8), (61, x7), (60, x6), (59, x5), (58, x4), (57, x3), (56, x2), (55, x2), (54, a9_), (51, x1), (50, x0), (49, a6_), (48, a9_)] [(6, a6_), (9, a9_)], (G.room 14))) (
  bLq q e 4 2 (subAt [1, 1, 1, 1, 1, 1, 1, 1, 0, 1, 0, 0, 1, 0, 0, 1, 1, 0, 0, 0] (bodyOf Tryz.f4)) 129 τ [(10, (.int .i64 0)), (67, x13), (66, x12), (65, x11), (64, x10), (63, x9), (62, x8), (61, x7), (60, x6), (59, x5), (58, x4), (57, x3), (56, x2), (55, x2), (54, a9_), (51, x1), (50, x0), (49, a6_), (48, a9_)] [] (G.room 14) fun e14 t15 G16 =>
  bV q (t15 6) fun t15x6_ =>
  bV q (t15 7) fun t15x7_ =>
  bV q (t15 9) fun t15x9_ =>
  bV q (t15 10) fun t15x10_ =>
  ifE e14 (.exit 4) (
  bP (ln Q q 22 t15x7_) fun x17 =>
  bP (bn Q q .eql 3 (.tmp 85) (.tmp 87) t15x10_ x17) fun x18 =>
  ifV x18 (
  some (.ret, xq q 129 t15 [(4, (.bool false)), (88, x18), (87, x17), (86, t15x7_), (85, t15x10_)] [(6, t15x6_), (9, t15x9_)], G16)) (
  bP (sl Q q 22 1 t15x7_ none (some t15x10_) none (G16.room 10)) fun x19 =>
  bS (e.ev.cl 8 [x19] (G16.room 10)) fun x21 G20 =>
  bP (bn Q q .add 3 (.tmp 94) (.const (.int .i64 1)) t15x10_ (.int .i64 1)) fun x22 =>
  bP (sl Q q 22 1 t15x7_ (some x22) none none G20) fun x23 =>
  chk ((sameO (sl Q q 22 1 t15x7_ (some x22) none none (G16.room 10)) x23 && true)) <|
  bS (ap Q q 22 22 1 8 x21 x23 G20) fun x25 G24 =>
  bP (bn Q q .add 3 (.tmp 52) (.const (.int .i64 1)) t15x9_ (.int .i64 1)) fun x26 =>
  lp (xq q 129 t15 [(9, x26), (53, x26), (52, t15x9_), (7, x25), (97, x25), (96, x23), (95, x22), (94, t15x10_), (93, t15x7_), (92, x21), (91, x19), (90, t15x10_), (89, t15x7_), (88, x18), (87, x17), (86, t15x7_), (85, t15x10_)] [(6, t15x6_)]) G24)) (none))) (
  some ((.exit 2), xq q 129 τ [(51, x1), (50, x0), (49, a6_), (48, a9_)] [(6, a6_), (9, a9_)], G))
theorem mb4_1 {e : Ex} {E : Ev} (h : ExLe Q e E) {lp lp' : Env → GS → Option (Exit × Env × GS)} (hlp : LpLe lp lp') (τ : Env) (G : GS) : Ref (b4_1 true e lp τ G) (b4_1 false (Ex.of E) lp' τ G) := by
  unfold b4_1
  exact Ref.gq
set_option maxHeartbeats 8000000 in
theorem l4_1 {orc : FuncId → Bool} {e : Ex} (h : ExLe Q e (E orc)) (lp : Env → GS → Option (Exit × Env × GS)) (hlp : ∀ τ G, Ref (lp τ G) (mapE ((E orc).lp (subAt [1, 1, 1, 1, 1, 1, 1, 1, 0, 1, 0, 0] (bodyOf Tryz.f4)) (lst 129 τ) G))) (T : List Value) (G : GS) (hT : T.length = 129) : Ref (b4_1 true e lp (nth undef T) G) (mapE ((E orc).lp (subAt [1, 1, 1, 1, 1, 1, 1, 1, 0, 1, 0, 0] (bodyOf Tryz.f4)) T G)) :=
  fun r hr => lp_sxN Q orc G hT (by kernel_rfl) (mb4_1 h ⟨hlp⟩ _ _ r hr)
noncomputable def b4_2 (q : Bool) (e : Ex) (lp : Env → GS → Option (Exit × Env × GS)) (τ : Env) (G : GS) : Option (Exit × Env × GS) :=
  bV q (τ 6) fun a6_ =>
  bV q (τ 7) fun a7_ =>
  bV q (τ 9) fun a9_ =>
  bV q (τ 10) fun a10_ =>
  bP (ln Q q 22 a7_) fun x0 =>
  bP (bn Q q .lss 3 (.tmp 68) (.tmp 70) a10_ x0) fun x1 =>
  bS (gd x1 true (some (a7_, (G.room 15))) (G.room 15)) fun x2 _ =>
  bS (gd x1 true (some (a10_, (G.room 15))) (G.room 15)) fun x3 _ =>
  bS (gd x1 true (bP (ias Q q 22 1 x2 x3) fun y => some (y, (G.room 15))) (G.room 15)) fun x4 _ =>
  bS (gd x1 true (bP (ld Q q 23 x4 (G.room 15)) fun y => some (y, (G.room 15))) (G.room 15)) fun x5 _ =>
  bS (gd x1 true (some (a6_, (G.room 15))) (G.room 15)) fun x6 _ =>
  bS (gd x1 true (some (a9_, (G.room 15))) (G.room 15)) fun x7 _ =>
  bS (gd x1 true (bP (ias Q q 22 1 x6 x7) fun y => some (y, (G.room 15))) (G.room 15)) fun x8 _ =>
  bS (gd x1 true (bP (ld Q q 23 x8 (G.room 15)) fun y => some (y, (G.room 15))) (G.room 15)) fun x9 _ =>
  bS (gd x1 true (bP (bn Q q .neq 23 (.tmp 76) (.tmp 80) x5 x9) fun y => some (y, (G.room 15))) (G.room 15)) fun x10 _ =>
  bP (pickV x1 x10 (.bool false)) fun x11 =>
  ifV x11 (
  bP (bn Q q .add 3 (.tmp 83) (.const (.int .i64 1)) a10_ (.int .i64 1)) fun x12 =>
  lp (xq q 129 τ [(10, x12), (84, x12), (83, a10_), (82, x11), (81, x10), (80, x9), (79, x8), (78, x7), (77, x6), (76, x5), (75, x4), (74, x3), (73, x2), (72, x1), (71, x1), (70, x0), (69, a7_), (68, a10_)] [(6, a6_), (7, a7_), (9, a9_)]) (G.room 15)) (
  some ((.exit 4), xq q 129 τ [(82, x11), (81, x10), (80, x9), (79, x8), (78, x7), (77, x6), (76, x5), (75, x4), (74, x3), (73, x2), (72, x1), (71, x1), (70, x0), (69, a7_), (68, a10_)] [(6, a6_), (7, a7_), (9, a9_), (10, a10_)], (G.room 15)))
theorem mb4_2 {e : Ex} {E : Ev} (h : ExLe Q e E) {lp lp' : Env → GS → Option (Exit × Env × GS)} (hlp : LpLe lp lp') (τ : Env) (G : GS) : Ref (b4_2 true e lp τ G) (b4_2 false (Ex.of E) lp' τ G) := by
  unfold b4_2
  exact Ref.gq
set_option maxHeartbeats 8000000 in
theorem l4_2 {orc : FuncId → Bool} {e : Ex} (h : ExLe Q e (E orc)) (lp : Env → GS → Option (Exit × Env × GS)) (hlp : ∀ τ G, Ref (lp τ G) (mapE ((E orc).lp (subAt [1, 1, 1, 1, 1, 1, 1, 1, 0, 1, 0, 0, 1, 0, 0, 1, 1, 0, 0, 0] (bodyOf Tryz.f4)) (lst 129 τ) G))) (T : List Value) (G : GS) (hT : T.length = 129) : Ref (b4_2 true e lp (nth undef T) G) (mapE ((E orc).lp (subAt [1, 1, 1, 1, 1, 1, 1, 1, 0, 1, 0, 0, 1, 0, 0, 1, 1, 0, 0, 0] (bodyOf Tryz.f4)) T G)) :=
  fun r hr => lp_sxN Q orc G hT (by kernel_rfl) (mb4_2 h ⟨hlp⟩ _ _ r hr)
/-- coxswain/coxswainlaw26.RunShould -/
noncomputable def s4 (q : Bool) (e : Ex) (v0 v1 : Value) (G : GS) : Option (Value × GS) :=
  bS (e.ev.cl 15 [] G) fun x0 G1 =>
  bP (ln Q q 22 v0) fun x2 =>
  bP (bn Q q .gtr 3 (.tmp 15) (.const (.int .i64 40)) x2 (.int .i64 40)) fun x3 =>
  ifV x3 (
  some (x0, G1)) (
  bS (e.ev.cl 16 [v1, (.int .i64 9)] G1) fun x4 G5 =>
  bS (e.ev.cl 11 [v0, x4] G5) fun x6 G7 =>
  bLq q e 4 0 (subAt [1, 1, 1, 1, 1, 1, 0, 1, 0, 0] (bodyOf Tryz.f4)) 129 (nth undef [v0, v1]) [(8, (.int .i64 0)), (7, (.slice none 0 0)), (6, x6), (22, x6), (21, x4), (20, v0), (1, x4), (19, x4), (18, v1), (16, x3), (15, x2), (14, v0), (5, x0), (13, x0), (4, (.bool false))] [] G7 fun e8 t9 G10 =>
  bV q (t9 1) fun t9x1_ =>
  bV q (t9 6) fun t9x6_ =>
  bV q (t9 7) fun t9x7_ =>
  ifE e8 (.exit 0) (
  bP (ln Q q 22 t9x6_) fun x11 =>
  bP (ln Q q 22 t9x7_) fun x12 =>
  bP (mn Q q #[3, 3] t9x1_ x12) fun x13 =>
  bP (bn Q q .neq 3 (.tmp 42) (.tmp 46) x11 x13) fun x14 =>
  ifV x14 (
  some ((.bool false), G10)) (
  bLq q e 4 1 (subAt [1, 1, 1, 1, 1, 1, 1, 1, 0, 1, 0, 0] (bodyOf Tryz.f4)) 129 t9 [(9, (.int .i64 0)), (47, x14), (46, x13), (45, x12), (44, t9x7_), (43, t9x1_), (42, x11), (41, t9x6_)] [] G10 fun e15 t16 G17 =>
  bV q (t16 1) fun t16x1_ =>
  bV q (t16 4) fun t16x4_ =>
  bV q (t16 5) fun t16x5_ =>
  bV q (t16 6) fun t16x6_ =>
  bV q (t16 7) fun t16x7_ =>
  ifE e15 (.exit 2) (
  bP (ln Q q 22 t16x7_) fun x18 =>
  bP (bn Q q .eql 3 (.tmp 99) (.const (.int .i64 0)) x18 (.int .i64 0)) fun x19 =>
  bS (gd x19 false (some (t16x1_, G17)) G17) fun x20 G21 =>
  bS (gd x19 false (bP (bn Q q .eql 3 (.tmp 102) (.const (.int .i64 0)) x20 (.int .i64 0)) fun y => some (y, G21)) G21) fun x22 G23 =>
  bP (pickV x19 (.bool true) x22) fun x24 =>
  ifV x24 (
  some (t16x5_, G23)) (
  bS (e.ev.cl 17 [t16x7_] G23) fun x25 G26 =>
  bS (e.ev.cl 9 [t16x6_, x25] G26) fun x27 G28 =>
  bP (pExtract x27 0) fun x29 =>
  bP (pExtract x27 1) fun x30 =>
  bS (gd t16x5_ true (some (x30, (G28.room 17))) (G28.room 17)) fun x31 _ =>
  bS (gd t16x5_ true (bP (un Q q .not x31) fun y => some (y, (G28.room 17))) (G28.room 17)) fun x32 _ =>
  bP (pickV t16x5_ x32 (.bool false)) fun x33 =>
  bS (gd x33 true (some (t16x6_, (G28.room 17))) (G28.room 17)) fun x34 _ =>
  bS (gd x33 true (some (t16x6_, (G28.room 17))) (G28.room 17)) fun x35 _ =>
  bS (gd x33 true (bP (ln Q q 22 x35) fun y => some (y, (G28.room 17))) (G28.room 17)) fun x36 _ =>
  bS (gd x33 true (bP (bn Q q .sub 3 (.tmp 121) (.const (.int .i64 1)) x36 (.int .i64 1)) fun y => some (y, (G28.room 17))) (G28.room 17)) fun x37 _ =>
  bS (gd x33 true (bP (ias Q q 22 1 x34 x37) fun y => some (y, (G28.room 17))) (G28.room 17)) fun x38 _ =>
  bS (gd x33 true (bP (ld Q q 23 x38 (G28.room 17)) fun y => some (y, (G28.room 17))) (G28.room 17)) fun x39 _ =>
  bS (gd x33 true (some (t16x7_, (G28.room 17))) (G28.room 17)) fun x40 _ =>
  bS (gd x33 true (bS (e.ev.cl 17 [x40] (G28.room 17)) fun y G => some (y, G)) (G28.room 17)) fun x42 G41 =>
  chk (((!(gB x33 true) || (!(gB x33 true) || sameO (ld Q q 23 x38 G41) x39)) && true)) <|
  bS (gd x33 true (bP (bn Q q .leq 23 (.tmp 124) (.tmp 126) x39 x42) fun y => some (y, G41)) G41) fun x43 _ =>
  bP (pickV x33 x43 (.bool false)) fun x44 =>
  some (x44, G41))) (ifE e15 .ret (
  some (t16x4_, G17)) (none)))) (none))
theorem m4 {e : Ex} {E : Ev} (h : ExLe Q e E) (v0 v1 : Value) (G : GS) : Ref (s4 true e v0 v1 G) (s4 false (Ex.of E) v0 v1 G) := by
  unfold s4
  exact Ref.gq
set_option maxHeartbeats 8000000 in
theorem f4 {orc : FuncId → Bool} {e : Ex} (h : ExLe Q e (E orc)) (v0 v1 : Value) (G : GS) : Ref (s4 true e v0 v1 G) ((E orc).cl 4 [v0, v1] G) :=
  fun r hr => cl_sxE_some Q orc (vs := [v0, v1]) G Tryz.func4 (by kernel_rfl) (by kernel_rfl) (by kernel_rfl) (by kernel_rfl) (by kernel_rfl) (by kernel_rfl) (m4 h v0 v1 G r hr)
/-- coxswain/coxswainlaw26.awake -/
noncomputable def s7 (q : Bool) (e : Ex) (G : GS) : Option (Value × GS) :=
  bS (e.ev.cl 46 [] G) fun x0 G1 =>
  bP (ep Q q true 50 (.tmp 3) (.const (.pointer none)) x0 (.pointer none)) fun x2 =>
  bS (gd x2 true (bS (e.ev.cl 48 [] G1) fun y G => some (y, G)) G1) fun x3 G4 =>
  bS (gd x2 true (some (x0, G4)) G4) fun x5 G6 =>
  bS (gd x2 true (bS (e.ev.cl 47 [x3, x5] G6) fun y G => some (y, G)) G6) fun x7 G8 =>
  bS (gd x2 true (bS (bs Q q 22 2 (rep z23 2) 1 [(0, 0, 1), (1, 1, 1)] [(.int .u64 18446744073709551615), (.int .u64 18446744073709551615)] G8) fun y G => some (y, G)) G8) fun x9 G10 =>
  bS (gd x2 true (bS (e.ev.cl 13 [x7, x9] G10) fun y G => some (y, G)) G10) fun x11 G12 =>
  bP (pickV x2 x11 (.bool false)) fun x13 =>
  bS (gd x13 true (bS (e.ev.cl 48 [] G12) fun y G => some (y, G)) G12) fun x14 G15 =>
  bS (gd x13 true (some (x0, G15)) G15) fun x16 G17 =>
  bS (gd x13 true (bS (e.ev.cl 49 [x14, x16, (.slice none 0 0)] G17) fun y G => some (y, G)) G17) fun x18 G19 =>
  bP (pickV x13 x18 (.bool false)) fun x20 =>
  bS (gd x20 true (some (x0, G19)) G19) fun x21 G22 =>
  bS (gd x20 true (bS (e.ev.cl 50 [x21, (.int .i64 0), (.int .i64 5), (.int .i64 (-1))] G22) fun y G => some (y, G)) G22) fun x23 G24 =>
  bP (pickV x20 x23 (.bool false)) fun x25 =>
  bS (gd x25 true (bS (e.ev.cl 51 [] G24) fun y G => some (y, G)) G24) fun x26 G27 =>
  bS (gd x25 true (some (x0, G27)) G27) fun x28 G29 =>
  bS (gd x25 true (bS (e.ev.cl 22 [x26, x28, (.int .u64 9), (.int .i64 5), (.int .i64 1)] G29) fun y G => some (y, G)) G29) fun x30 G31 =>
  bP (pickV x25 x30 (.bool false)) fun x32 =>
  bS (gd x32 true (some (x0, G31)) G31) fun x33 G34 =>
  bS (gd x32 true (bS (e.ev.cl 50 [x33, (.int .i64 1), (.int .i64 11), (.int .i64 0)] G34) fun y G => some (y, G)) G34) fun x35 G36 =>
  bP (pickV x32 x35 (.bool false)) fun x37 =>
  bS (gd x37 true (bS (e.ev.cl 48 [] G36) fun y G => some (y, G)) G36) fun x38 G39 =>
  bS (gd x37 true (some (x0, G39)) G39) fun x40 G41 =>
  bS (gd x37 true (bS (bs Q q 35 1 (rep z3 1) 1 [(0, 0, 1)] [(.int .i64 0)] G41) fun y G => some (y, G)) G41) fun x42 G43 =>
  bS (gd x37 true (bS (e.ev.cl 49 [x38, x40, x42] G43) fun y G => some (y, G)) G43) fun x44 G45 =>
  bP (pickV x37 x44 (.bool false)) fun x46 =>
  some (x46, G45)
theorem m7 {e : Ex} {E : Ev} (h : ExLe Q e E) (G : GS) : Ref (s7 true e  G) (s7 false (Ex.of E)  G) := by
  unfold s7
  exact Ref.gq
theorem f7 {orc : FuncId → Bool} {e : Ex} (h : ExLe Q e (E orc)) (ho : orc 7 = false) (G : GS) : Ref (s7 true e  G) ((E orc).cl 7 [] G) :=
  fun r hr => cl_sxE_some Q orc (vs := []) G Tryz.func7 (by kernel_rfl) (by kernel_rfl) ho (by kernel_rfl) (by kernel_rfl) (by kernel_rfl) (m7 h  G r hr)
/-- coxswain/coxswainkit.CopyWords -/
noncomputable def s8 (q : Bool) (e : Ex) (v0 : Value) (G : GS) : Option (Value × GS) :=
  bS (bs Q q 22 0 (rep z23 0) 1 [] [] G) fun x0 G1 =>
  bS (ap Q q 22 22 1 8 x0 v0 G1) fun x2 G3 =>
  some (x2, G3)
theorem m8 {e : Ex} {E : Ev} (h : ExLe Q e E) (v0 : Value) (G : GS) : Ref (s8 true e v0 G) (s8 false (Ex.of E) v0 G) := by
  unfold s8
  exact Ref.gq
theorem f8 {orc : FuncId → Bool} {e : Ex} (h : ExLe Q e (E orc)) (v0 : Value) (G : GS) : Ref (s8 true e v0 G) ((E orc).cl 8 [v0] G) :=
  fun r hr => cl_sxE_some Q orc (vs := [v0]) G Tryz.func8 (by kernel_rfl) (by kernel_rfl) (by kernel_rfl) (by kernel_rfl) (by kernel_rfl) (by kernel_rfl) (m8 h v0 G r hr)
/-- coxswain/run.Worst -/
noncomputable def s9 (q : Bool) (e : Ex) (v0 v1 : Value) (G : GS) : Option (Value × GS) :=
  bS (e.ev.cl 52 [v0, (.func (.func 53) #[] #[])] G) fun x0 G1 =>
  bP (bn Q q .lss 3 (.tmp 9) (.const (.int .i64 0)) x0 (.int .i64 0)) fun x2 =>
  bS (gd x2 false (some (v0, G1)) G1) fun x3 G4 =>
  bS (gd x2 false (some (x0, G4)) G4) fun x5 G6 =>
  bS (gd x2 false (bP (ias Q q 22 1 x3 x5) fun y => some (y, G6)) G6) fun x7 G8 =>
  bS (gd x2 false (bP (ld Q q 23 x7 G8) fun y => some (y, G8)) G8) fun x9 G10 =>
  bS (gd x2 false (some (v1, G10)) G10) fun x11 G12 =>
  bS (gd x2 false (bP (bn Q q .leq 23 (.tmp 15) (.tmp 16) x9 x11) fun y => some (y, G12)) G12) fun x13 G14 =>
  bP (pickV x2 (.bool true) x13) fun x15 =>
  ifV x15 (
  some (.tuple #[(.int .i64 (-1)), (.bool false)], G14)) (
  some (.tuple #[x0, (.bool true)], G14))
theorem m9 {e : Ex} {E : Ev} (h : ExLe Q e E) (v0 v1 : Value) (G : GS) : Ref (s9 true e v0 v1 G) (s9 false (Ex.of E) v0 v1 G) := by
  unfold s9
  exact Ref.gq
theorem f9 {orc : FuncId → Bool} {e : Ex} (h : ExLe Q e (E orc)) (v0 v1 : Value) (G : GS) : Ref (s9 true e v0 v1 G) ((E orc).cl 9 [v0, v1] G) :=
  fun r hr => cl_sxE_some Q orc (vs := [v0, v1]) G Tryz.func9 (by kernel_rfl) (by kernel_rfl) (by kernel_rfl) (by kernel_rfl) (by kernel_rfl) (by kernel_rfl) (m9 h v0 v1 G r hr)
noncomputable def jbl10_0_0 (q : Bool) (e : Ex) (lp : Env → GS → Option (Exit × Env × GS)) (τ : Env) (G : GS) : Option (Exit × Env × GS) :=
  bV q (τ 0) fun a0_ =>
  bV q (τ 6) fun a6_ =>
  bV q (τ 7) fun a7_ =>
  bP (bn Q q .add 3 (.tmp 12) (.const (.int .i64 1)) a7_ (.int .i64 1)) fun x2 =>
  lp (xq q 39 τ [(7, x2), (13, x2), (12, a7_)] [(0, a0_), (6, a6_)]) G
noncomputable def jl10_0_0 (q : Bool) (e : Ex) (lp : Env → GS → Option (Exit × Env × GS)) (τ : Env) (G : GS) : Option (Exit × Env × GS) := jbl10_0_0 q e lp τ G
theorem mjl10_0_0 {e : Ex} {E : Ev} (h : ExLe Q e E) {lp lp' : Env → GS → Option (Exit × Env × GS)} (hlp : LpLe lp lp') (τ : Env) (G : GS) : Ref (jl10_0_0 true e lp τ G) (jl10_0_0 false (Ex.of E) lp' τ G) := by
  unfold jl10_0_0 jbl10_0_0
  exact Ref.gq
theorem mkjl10_0_0 {e : Ex} {E : Ev} (h : ExLe Q e E) {lp lp' : Env → GS → Option (Exit × Env × GS)} (hlp : LpLe lp lp') {τ : Env} {l U : List (Nat × Value)} {G : GS} (hU : UOk τ U) : Ref (jl10_0_0 true e lp (xq true 39 τ l U) G) (jl10_0_0 false (Ex.of E) lp' (xq false 39 τ l U) G) := by
  rw [xq_eq hU]
  exact mjl10_0_0 h hlp _ _
noncomputable def bb10_0 (q : Bool) (e : Ex) (lp : Env → GS → Option (Exit × Env × GS)) (J0 : Env → GS → Option (Exit × Env × GS)) (τ : Env) (G : GS) : Option (Exit × Env × GS) :=
  bV q (τ 0) fun a0_ =>
  bV q (τ 6) fun a6_ =>
  bV q (τ 7) fun a7_ =>
  bP (ln Q q 22 a0_) fun x0 =>
  bP (bn Q q .lss 3 (.tmp 8) (.tmp 10) a7_ x0) fun x1 =>
  ifV x1 (
  bP (bn Q q .lss 3 (.tmp 14) (.const (.int .i64 0)) a6_ (.int .i64 0)) fun x3 =>
  bS (gd x3 false (some (a0_, (G.room 13))) (G.room 13)) fun x4 _ =>
  bS (gd x3 false (some (a7_, (G.room 13))) (G.room 13)) fun x5 _ =>
  bS (gd x3 false (bP (ias Q q 22 1 x4 x5) fun y => some (y, (G.room 13))) (G.room 13)) fun x6 _ =>
  bS (gd x3 false (bP (ld Q q 23 x6 (G.room 13)) fun y => some (y, (G.room 13))) (G.room 13)) fun x7 _ =>
  bS (gd x3 false (some (a0_, (G.room 13))) (G.room 13)) fun x8 _ =>
  bS (gd x3 false (some (a6_, (G.room 13))) (G.room 13)) fun x9 _ =>
  bS (gd x3 false (bP (ias Q q 22 1 x8 x9) fun y => some (y, (G.room 13))) (G.room 13)) fun x10 _ =>
  bS (gd x3 false (bP (ld Q q 23 x10 (G.room 13)) fun y => some (y, (G.room 13))) (G.room 13)) fun x11 _ =>
  bS (gd x3 false (bP (bn Q q .gtr 23 (.tmp 20) (.tmp 24) x7 x11) fun y => some (y, (G.room 13))) (G.room 13)) fun x12 _ =>
  bP (pickV x3 (.bool true) x12) fun x13 =>
  ifV x13 (
  J0 (xq q 39 τ [(6, a7_), (27, a7_), (26, x13), (25, x12), (24, x11), (23, x10), (22, x9), (21, x8), (20, x7), (19, x6), (18, x5), (17, x4), (16, x3), (15, x3), (14, a6_), (11, x1), (10, x0), (9, a0_), (8, a7_)] [(0, a0_), (7, a7_)]) (G.room 13)) (
  J0 (xq q 39 τ [(26, x13), (25, x12), (24, x11), (23, x10), (22, x9), (21, x8), (20, x7), (19, x6), (18, x5), (17, x4), (16, x3), (15, x3), (14, a6_), (11, x1), (10, x0), (9, a0_), (8, a7_)] [(0, a0_), (6, a6_), (7, a7_)]) (G.room 13))) (
  some ((.exit 0), xq q 39 τ [(11, x1), (10, x0), (9, a0_), (8, a7_)] [(0, a0_), (6, a6_), (7, a7_)], G))
noncomputable def b10_0 (q : Bool) (e : Ex) (lp : Env → GS → Option (Exit × Env × GS)) (τ : Env) (G : GS) : Option (Exit × Env × GS) := bb10_0 q e lp (jl10_0_0 q e lp) τ G
theorem mb10_0 {e : Ex} {E : Ev} (h : ExLe Q e E) {lp lp' : Env → GS → Option (Exit × Env × GS)} (hlp : LpLe lp lp') (τ : Env) (G : GS) : Ref (b10_0 true e lp τ G) (b10_0 false (Ex.of E) lp' τ G) := by
  unfold b10_0 bb10_0
  repeat' (with_reducible first | exact Ref.rfl' _ | exact ROp.r | refine Ref.bP ?_ fun _ => ?_ | refine Ref.bS ?_ fun _ _ => ?_ | exact Ref.cl (by assumption) | refine Ref.ifV ?_ ?_ | refine LpLe.rx (by assumption) ?_ | refine Ref.xitq ?_ | exact UOk.z | refine UOk.c (by assumption) ?_ | exact Ref.nil _ | refine Ref.bVe fun _ _ => ?_ | refine Ref.bLq (by assumption) ?_ fun _ _ _ => ?_ | refine Ref.ifE ?_ ?_ | refine Ref.chk ?_ ?_ | refine Imp.and ?_ ?_ | refine Imp.or ?_ | exact Imp.rfl' _ | refine Imp.sameO ?_ | refine Ref.gd ?_ | exact Ref.cValue (by assumption) | refine Ref.bX ?_ fun _ _ _ => ?_ | exact Ref.scQ (by assumption) | exact Ref.xRangeQ (by assumption) | exact Ref.cInvoke (by assumption) | refine mkjl10_0_0 (by assumption) (by assumption) ?_)
noncomputable def jtl10_0 (J0 : Env → GS → Option (Exit × Env × GS)) : JT (Exit × Env × GS) :=
  (.n none .e (.n (some (fun T G => J0 (nth undef T) G)) .e .e))
theorem jrl10_0_0 (orc : FuncId → Bool) (J0 : Env → GS → Option (Exit × Env × GS)) (T : List Value) (G : GS) : runC Q (evL Q orc) 39 (jtl10_0 J0) (subAt [1, 1, 0, 1, 0, 0] (bodyOf Tryz.f10)) (seqXE (fun τ G' => mapE ((E orc).lp (subAt [1, 1, 0, 1, 0, 0] (bodyOf Tryz.f10)) (lst 39 (nth undef (lst 39 τ))) G')) fun e τ G' => some (e, nth undef (lst 39 τ), G')) [true] (nth undef T) G = jbl10_0_0 false (Ex.of (E orc)) (fun τ G => mapE ((E orc).lp (subAt [1, 1, 0, 1, 0, 0] (bodyOf Tryz.f10)) (lst 39 τ) G))  (nth undef T) G := by kernel_rfl
theorem jol10_0 (orc : FuncId → Bool) : JOk Q orc 39 (jtl10_0 (jl10_0_0 false (Ex.of (E orc)) (fun τ G => mapE ((E orc).lp (subAt [1, 1, 0, 1, 0, 0] (bodyOf Tryz.f10)) (lst 39 τ) G))) ) (subAt [1, 1, 0, 1, 0, 0] (bodyOf Tryz.f10)) (seqXE (fun τ G' => mapE ((E orc).lp (subAt [1, 1, 0, 1, 0, 0] (bodyOf Tryz.f10)) (lst 39 (nth undef (lst 39 τ))) G')) fun e τ G' => some (e, nth undef (lst 39 τ), G')) :=
  jOk Q orc (l := [([true], (fun T G => jl10_0_0 false (Ex.of (E orc)) (fun τ G => mapE ((E orc).lp (subAt [1, 1, 0, 1, 0, 0] (bodyOf Tryz.f10)) (lst 39 τ) G)) (nth undef T) G))]) (by kernel_rfl) (AllE.c (fun T G => jrl10_0_0 orc (jl10_0_0 false (Ex.of (E orc)) (fun τ G => mapE ((E orc).lp (subAt [1, 1, 0, 1, 0, 0] (bodyOf Tryz.f10)) (lst 39 τ) G))) T G) (AllE.z))
theorem jel10_0 (orc : FuncId → Bool) (J0 : Env → GS → Option (Exit × Env × GS)) (T : List Value) (G : GS) : sxC Q (evL Q orc) 39 (jtl10_0 J0) (subAt [1, 1, 0, 1, 0, 0] (bodyOf Tryz.f10)) (nth undef T) G (seqXE (fun τ G' => mapE ((E orc).lp (subAt [1, 1, 0, 1, 0, 0] (bodyOf Tryz.f10)) (lst 39 (nth undef (lst 39 τ))) G')) fun e τ G' => some (e, nth undef (lst 39 τ), G')) = bb10_0 false (Ex.of (E orc)) (fun τ G => mapE ((E orc).lp (subAt [1, 1, 0, 1, 0, 0] (bodyOf Tryz.f10)) (lst 39 τ) G)) J0 (nth undef T) G := by kernel_rfl
theorem l10_0 {orc : FuncId → Bool} {e : Ex} (h : ExLe Q e (E orc)) (lp : Env → GS → Option (Exit × Env × GS)) (hlp : ∀ τ G, Ref (lp τ G) (mapE ((E orc).lp (subAt [1, 1, 0, 1, 0, 0] (bodyOf Tryz.f10)) (lst 39 τ) G))) (T : List Value) (G : GS) (hT : T.length = 39) : Ref (b10_0 true e lp (nth undef T) G) (mapE ((E orc).lp (subAt [1, 1, 0, 1, 0, 0] (bodyOf Tryz.f10)) T G)) :=
  fun r hr => lp_sxC Q orc G (jtl10_0 (jl10_0_0 false (Ex.of (E orc)) (fun τ G => mapE ((E orc).lp (subAt [1, 1, 0, 1, 0, 0] (bodyOf Tryz.f10)) (lst 39 τ) G))) ) hT (jol10_0 orc) (jel10_0 orc (jl10_0_0 false (Ex.of (E orc)) (fun τ G => mapE ((E orc).lp (subAt [1, 1, 0, 1, 0, 0] (bodyOf Tryz.f10)) (lst 39 τ) G))) T G) (mb10_0 h ⟨hlp⟩ _ _ r hr)
/-- coxswain/coxswainref26.Worst -/
noncomputable def s10 (q : Bool) (e : Ex) (v0 v1 : Value) (G : GS) : Option (Value × GS) :=
  bLq q e 10 0 (subAt [1, 1, 0, 1, 0, 0] (bodyOf Tryz.f10)) 39 (nth undef [v0, v1]) [(7, (.int .i64 0)), (6, (.int .i64 (-1))), (5, (.bool false)), (4, (.int .i64 0))] [] G fun e0 t1 G2 =>
  bV q (t1 0) fun t1x0_ =>
  bV q (t1 1) fun t1x1_ =>
  bV q (t1 6) fun t1x6_ =>
  ifE e0 (.exit 0) (
  bP (bn Q q .lss 3 (.tmp 28) (.const (.int .i64 0)) t1x6_ (.int .i64 0)) fun x3 =>
  bS (gd x3 false (some (t1x0_, G2)) G2) fun x4 G5 =>
  bS (gd x3 false (some (t1x6_, G5)) G5) fun x6 G7 =>
  bS (gd x3 false (bP (ias Q q 22 1 x4 x6) fun y => some (y, G7)) G7) fun x8 G9 =>
  bS (gd x3 false (bP (ld Q q 23 x8 G9) fun y => some (y, G9)) G9) fun x10 G11 =>
  bS (gd x3 false (some (t1x1_, G11)) G11) fun x12 G13 =>
  bS (gd x3 false (bP (bn Q q .leq 23 (.tmp 34) (.tmp 35) x10 x12) fun y => some (y, G13)) G13) fun x14 G15 =>
  bP (pickV x3 (.bool true) x14) fun x16 =>
  ifV x16 (
  some (.tuple #[(.int .i64 (-1)), (.bool false)], G15)) (
  some (.tuple #[t1x6_, (.bool true)], G15))) (none)
theorem m10 {e : Ex} {E : Ev} (h : ExLe Q e E) (v0 v1 : Value) (G : GS) : Ref (s10 true e v0 v1 G) (s10 false (Ex.of E) v0 v1 G) := by
  unfold s10
  exact Ref.gq
theorem f10 {orc : FuncId → Bool} {e : Ex} (h : ExLe Q e (E orc)) (v0 v1 : Value) (G : GS) : Ref (s10 true e v0 v1 G) ((E orc).cl 10 [v0, v1] G) :=
  fun r hr => cl_sxE_some Q orc (vs := [v0, v1]) G Tryz.func10 (by kernel_rfl) (by kernel_rfl) (by kernel_rfl) (by kernel_rfl) (by kernel_rfl) (by kernel_rfl) (m10 h v0 v1 G r hr)
noncomputable def b11_0 (q : Bool) (e : Ex) (lp : Env → GS → Option (Exit × Env × GS)) (τ : Env) (G : GS) : Option (Exit × Env × GS) :=
  bV q (τ 5) fun a5_ =>
  bV q (τ 8) fun a8_ =>
  bV q (τ 9) fun a9_ =>
  bV q (τ 10) fun a10_ =>
  bP (bn Q q .lss 3 (.tmp 10) (.tmp 9) a10_ a9_) fun x0 =>
  ifV x0 (
  bP (ias Q q 22 1 a8_ a10_) fun x1 =>
  bP (ld Q q 23 x1 G) fun x2 =>
  bP (bn Q q .neq 23 (.tmp 14) (.const (.int .u64 18446744073709551615)) x2 (.int .u64 18446744073709551615)) fun x3 =>
  ifV x3 (
  bS (bs Q q 22 1 (rep z23 1) 1 [(0, 0, 1)] [x2] G) fun x4 G5 =>
  bS (ap Q q 22 22 1 8 a5_ x4 G5) fun x6 G7 =>
  bP (bn Q q .add 3 (.tmp 10) (.const (.int .i64 1)) a10_ (.int .i64 1)) fun x8 =>
  lp (xq q 30 τ [(10, x8), (20, x8), (5, x6), (19, x6), (18, x4), (17, x2), (16, a5_), (15, x3), (14, x2), (7, x2), (13, x2), (12, x1), (11, x0)] [(8, a8_), (9, a9_)]) G7) (
  bP (bn Q q .add 3 (.tmp 10) (.const (.int .i64 1)) a10_ (.int .i64 1)) fun x9 =>
  lp (xq q 30 τ [(10, x9), (20, x9), (15, x3), (14, x2), (7, x2), (13, x2), (12, x1), (11, x0)] [(5, a5_), (8, a8_), (9, a9_)]) G)) (
  some ((.exit 0), xq q 30 τ [(11, x0)] [(5, a5_), (8, a8_), (9, a9_), (10, a10_)], G))
theorem mb11_0 {e : Ex} {E : Ev} (h : ExLe Q e E) {lp lp' : Env → GS → Option (Exit × Env × GS)} (hlp : LpLe lp lp') (τ : Env) (G : GS) : Ref (b11_0 true e lp τ G) (b11_0 false (Ex.of E) lp' τ G) := by
  unfold b11_0
  exact Ref.gq
theorem l11_0 {orc : FuncId → Bool} {e : Ex} (h : ExLe Q e (E orc)) (lp : Env → GS → Option (Exit × Env × GS)) (hlp : ∀ τ G, Ref (lp τ G) (mapE ((E orc).lp (subAt [1, 1, 0, 1, 0, 0] (bodyOf Tryz.f11)) (lst 30 τ) G))) (T : List Value) (G : GS) (hT : T.length = 30) : Ref (b11_0 true e lp (nth undef T) G) (mapE ((E orc).lp (subAt [1, 1, 0, 1, 0, 0] (bodyOf Tryz.f11)) T G)) :=
  fun r hr => lp_sxN Q orc G hT (by kernel_rfl) (mb11_0 h ⟨hlp⟩ _ _ r hr)
/-- coxswain/run.Should -/
noncomputable def s11 (q : Bool) (e : Ex) (v0 v1 : Value) (G : GS) : Option (Value × GS) :=
  bP (ln Q q 22 v0) fun x0 =>
  bLq q e 11 0 (subAt [1, 1, 0, 1, 0, 0] (bodyOf Tryz.f11)) 30 (nth undef [v0, v1]) [(10, (.int .i64 0)), (9, x0), (8, v0), (5, (.slice none 0 0)), (4, (.slice none 0 0))] [] G fun e1 t2 G3 =>
  bV q (t2 1) fun t2x1_ =>
  bV q (t2 5) fun t2x5_ =>
  ifE e1 (.exit 0) (
  bS (e.ev.cl 54 [t2x5_, (.func (.func 53) #[] #[])] G3) fun x4 G5 =>
  bP (ln Q q 22 t2x5_) fun x6 =>
  bP (mx Q q #[3, 3] t2x1_ (.int .i64 0)) fun x7 =>
  bP (mn Q q #[3, 3] x6 x7) fun x8 =>
  bP (sl Q q 22 1 t2x5_ none (some x8) none G5) fun x9 =>
  some (x9, G5)) (none)
theorem m11 {e : Ex} {E : Ev} (h : ExLe Q e E) (v0 v1 : Value) (G : GS) : Ref (s11 true e v0 v1 G) (s11 false (Ex.of E) v0 v1 G) := by
  unfold s11
  exact Ref.gq
theorem f11 {orc : FuncId → Bool} {e : Ex} (h : ExLe Q e (E orc)) (v0 v1 : Value) (G : GS) : Ref (s11 true e v0 v1 G) ((E orc).cl 11 [v0, v1] G) :=
  fun r hr => cl_sxE_some Q orc (vs := [v0, v1]) G Tryz.func11 (by kernel_rfl) (by kernel_rfl) (by kernel_rfl) (by kernel_rfl) (by kernel_rfl) (by kernel_rfl) (m11 h v0 v1 G r hr)
noncomputable def b12_0 (q : Bool) (e : Ex) (lp : Env → GS → Option (Exit × Env × GS)) (τ : Env) (G : GS) : Option (Exit × Env × GS) :=
  bV q (τ 0) fun a0_ =>
  bV q (τ 1) fun a1_ =>
  bV q (τ 6) fun a6_ =>
  bP (ln Q q 22 a0_) fun x0 =>
  bP (bn Q q .lss 3 (.tmp 8) (.tmp 10) a6_ x0) fun x1 =>
  bS (gd x1 true (some (a6_, G)) G) fun x2 G3 =>
  bS (gd x1 true (some (a1_, G3)) G3) fun x4 G5 =>
  bS (gd x1 true (bP (bn Q q .lss 3 (.tmp 13) (.tmp 14) x2 x4) fun y => some (y, G5)) G5) fun x6 G7 =>
  bP (pickV x1 x6 (.bool false)) fun x8 =>
  ifV x8 (
  bLq q e 12 1 (subAt [1, 1, 0, 1, 0, 0, 1, 0, 0, 1, 0, 0] (bodyOf Tryz.f12)) 45 τ [(7, (.int .i64 0)), (16, x8), (15, x6), (14, x4), (13, x2), (12, x1), (11, x1), (10, x0), (9, a0_), (8, a6_)] [] G7 fun e9 t10 G11 =>
  bV q (t10 0) fun t10x0_ =>
  bV q (t10 1) fun t10x1_ =>
  bV q (t10 6) fun t10x6_ =>
  ifE e9 (.exit 2) (
  bP (bn Q q .add 3 (.tmp 17) (.const (.int .i64 1)) t10x6_ (.int .i64 1)) fun x12 =>
  lp (xq q 45 t10 [(6, x12), (18, x12), (17, t10x6_)] [(0, t10x0_), (1, t10x1_)]) G11) (none)) (
  some ((.exit 0), xq q 45 τ [(16, x8), (15, x6), (14, x4), (13, x2), (12, x1), (11, x1), (10, x0), (9, a0_), (8, a6_)] [(0, a0_), (1, a1_), (6, a6_)], G7))
theorem mb12_0 {e : Ex} {E : Ev} (h : ExLe Q e E) {lp lp' : Env → GS → Option (Exit × Env × GS)} (hlp : LpLe lp lp') (τ : Env) (G : GS) : Ref (b12_0 true e lp τ G) (b12_0 false (Ex.of E) lp' τ G) := by
  unfold b12_0
  exact Ref.gq
theorem l12_0 {orc : FuncId → Bool} {e : Ex} (h : ExLe Q e (E orc)) (lp : Env → GS → Option (Exit × Env × GS)) (hlp : ∀ τ G, Ref (lp τ G) (mapE ((E orc).lp (subAt [1, 1, 0, 1, 0, 0] (bodyOf Tryz.f12)) (lst 45 τ) G))) (T : List Value) (G : GS) (hT : T.length = 45) : Ref (b12_0 true e lp (nth undef T) G) (mapE ((E orc).lp (subAt [1, 1, 0, 1, 0, 0] (bodyOf Tryz.f12)) T G)) :=
  fun r hr => lp_sxN Q orc G hT (by kernel_rfl) (mb12_0 h ⟨hlp⟩ _ _ r hr)
noncomputable def jbl12_1_0 (q : Bool) (e : Ex) (lp : Env → GS → Option (Exit × Env × GS)) (τ : Env) (G : GS) : Option (Exit × Env × GS) :=
  bV q (τ 0) fun a0_ =>
  bV q (τ 5) fun a5_ =>
  bV q (τ 6) fun a6_ =>
  bV q (τ 7) fun a7_ =>
  bP (bn Q q .add 3 (.tmp 23) (.const (.int .i64 1)) a7_ (.int .i64 1)) fun x2 =>
  lp (xq q 45 τ [(7, x2), (24, x2), (23, a7_)] [(0, a0_), (5, a5_), (6, a6_)]) G
noncomputable def jl12_1_0 (q : Bool) (e : Ex) (lp : Env → GS → Option (Exit × Env × GS)) (τ : Env) (G : GS) : Option (Exit × Env × GS) := jbl12_1_0 q e lp τ G
theorem mjl12_1_0 {e : Ex} {E : Ev} (h : ExLe Q e E) {lp lp' : Env → GS → Option (Exit × Env × GS)} (hlp : LpLe lp lp') (τ : Env) (G : GS) : Ref (jl12_1_0 true e lp τ G) (jl12_1_0 false (Ex.of E) lp' τ G) := by
  unfold jl12_1_0 jbl12_1_0
  exact Ref.gq
theorem mkjl12_1_0 {e : Ex} {E : Ev} (h : ExLe Q e E) {lp lp' : Env → GS → Option (Exit × Env × GS)} (hlp : LpLe lp lp') {τ : Env} {l U : List (Nat × Value)} {G : GS} (hU : UOk τ U) : Ref (jl12_1_0 true e lp (xq true 45 τ l U) G) (jl12_1_0 false (Ex.of E) lp' (xq false 45 τ l U) G) := by
  rw [xq_eq hU]
  exact mjl12_1_0 h hlp _ _
noncomputable def bb12_1 (q : Bool) (e : Ex) (lp : Env → GS → Option (Exit × Env × GS)) (J0 : Env → GS → Option (Exit × Env × GS)) (τ : Env) (G : GS) : Option (Exit × Env × GS) :=
  bV q (τ 0) fun a0_ =>
  bV q (τ 5) fun a5_ =>
  bV q (τ 6) fun a6_ =>
  bV q (τ 7) fun a7_ =>
  bP (ln Q q 22 a0_) fun x0 =>
  bP (bn Q q .lss 3 (.tmp 19) (.tmp 21) a7_ x0) fun x1 =>
  ifV x1 (
  bP (ias Q q 22 1 a0_ a7_) fun x3 =>
  bP (ld Q q 23 x3 G) fun x4 =>
  bP (bn Q q .neq 23 (.tmp 28) (.const (.int .u64 18446744073709551615)) x4 (.int .u64 18446744073709551615)) fun x5 =>
  bS (gd x5 true (some (a0_, G)) G) fun x6 G7 =>
  bS (gd x5 true (some (a7_, G7)) G7) fun x8 G9 =>
  bS (gd x5 true (bS (e.ev.cl 55 [x6, x8] G9) fun y G => some (y, G)) G9) fun x10 G11 =>
  bS (gd x5 true (some (a6_, G11)) G11) fun x12 G13 =>
  bS (gd x5 true (bP (bn Q q .eql 3 (.tmp 33) (.tmp 34) x10 x12) fun y => some (y, G13)) G13) fun x14 G15 =>
  bP (pickV x5 x14 (.bool false)) fun x16 =>
  ifV x16 (
  bP (ias Q q 22 1 a0_ a7_) fun x17 =>
  bP (ld Q q 23 x17 G15) fun x18 =>
  bS (bs Q q 22 1 (rep z23 1) 1 [(0, 0, 1)] [x18] G15) fun x19 G20 =>
  bS (ap Q q 22 22 1 8 a5_ x19 G20) fun x21 G22 =>
  J0 (xq q 45 τ [(5, x21), (43, x21), (42, x19), (41, x18), (40, x17), (39, a7_), (38, a0_), (37, a5_), (36, x16), (35, x14), (34, x12), (33, x10), (32, x8), (31, x6), (30, x5), (29, x5), (28, x4), (27, x3), (26, a7_), (25, a0_), (22, x1), (21, x0), (20, a0_), (19, a7_)] [(0, a0_), (6, a6_), (7, a7_)]) G22) (
  J0 (xq q 45 τ [(36, x16), (35, x14), (34, x12), (33, x10), (32, x8), (31, x6), (30, x5), (29, x5), (28, x4), (27, x3), (26, a7_), (25, a0_), (22, x1), (21, x0), (20, a0_), (19, a7_)] [(0, a0_), (5, a5_), (6, a6_), (7, a7_)]) G15)) (
  some ((.exit 2), xq q 45 τ [(22, x1), (21, x0), (20, a0_), (19, a7_)] [(0, a0_), (5, a5_), (6, a6_), (7, a7_)], G))
noncomputable def b12_1 (q : Bool) (e : Ex) (lp : Env → GS → Option (Exit × Env × GS)) (τ : Env) (G : GS) : Option (Exit × Env × GS) := bb12_1 q e lp (jl12_1_0 q e lp) τ G
theorem mb12_1 {e : Ex} {E : Ev} (h : ExLe Q e E) {lp lp' : Env → GS → Option (Exit × Env × GS)} (hlp : LpLe lp lp') (τ : Env) (G : GS) : Ref (b12_1 true e lp τ G) (b12_1 false (Ex.of E) lp' τ G) := by
  unfold b12_1 bb12_1
  repeat' (with_reducible first | exact Ref.rfl' _ | exact ROp.r | refine Ref.bP ?_ fun _ => ?_ | refine Ref.bS ?_ fun _ _ => ?_ | exact Ref.cl (by assumption) | refine Ref.ifV ?_ ?_ | refine LpLe.rx (by assumption) ?_ | refine Ref.xitq ?_ | exact UOk.z | refine UOk.c (by assumption) ?_ | exact Ref.nil _ | refine Ref.bVe fun _ _ => ?_ | refine Ref.bLq (by assumption) ?_ fun _ _ _ => ?_ | refine Ref.ifE ?_ ?_ | refine Ref.chk ?_ ?_ | refine Imp.and ?_ ?_ | refine Imp.or ?_ | exact Imp.rfl' _ | refine Imp.sameO ?_ | refine Ref.gd ?_ | exact Ref.cValue (by assumption) | refine Ref.bX ?_ fun _ _ _ => ?_ | exact Ref.scQ (by assumption) | exact Ref.xRangeQ (by assumption) | exact Ref.cInvoke (by assumption) | refine mkjl12_1_0 (by assumption) (by assumption) ?_)
noncomputable def jtl12_1 (J0 : Env → GS → Option (Exit × Env × GS)) : JT (Exit × Env × GS) :=
  (.n none .e (.n (some (fun T G => J0 (nth undef T) G)) .e .e))
theorem jrl12_1_0 (orc : FuncId → Bool) (J0 : Env → GS → Option (Exit × Env × GS)) (T : List Value) (G : GS) : runC Q (evL Q orc) 45 (jtl12_1 J0) (subAt [1, 1, 0, 1, 0, 0, 1, 0, 0, 1, 0, 0] (bodyOf Tryz.f12)) (seqXE (fun τ G' => mapE ((E orc).lp (subAt [1, 1, 0, 1, 0, 0, 1, 0, 0, 1, 0, 0] (bodyOf Tryz.f12)) (lst 45 (nth undef (lst 45 τ))) G')) fun e τ G' => some (e, nth undef (lst 45 τ), G')) [true] (nth undef T) G = jbl12_1_0 false (Ex.of (E orc)) (fun τ G => mapE ((E orc).lp (subAt [1, 1, 0, 1, 0, 0, 1, 0, 0, 1, 0, 0] (bodyOf Tryz.f12)) (lst 45 τ) G))  (nth undef T) G := by kernel_rfl
theorem jol12_1 (orc : FuncId → Bool) : JOk Q orc 45 (jtl12_1 (jl12_1_0 false (Ex.of (E orc)) (fun τ G => mapE ((E orc).lp (subAt [1, 1, 0, 1, 0, 0, 1, 0, 0, 1, 0, 0] (bodyOf Tryz.f12)) (lst 45 τ) G))) ) (subAt [1, 1, 0, 1, 0, 0, 1, 0, 0, 1, 0, 0] (bodyOf Tryz.f12)) (seqXE (fun τ G' => mapE ((E orc).lp (subAt [1, 1, 0, 1, 0, 0, 1, 0, 0, 1, 0, 0] (bodyOf Tryz.f12)) (lst 45 (nth undef (lst 45 τ))) G')) fun e τ G' => some (e, nth undef (lst 45 τ), G')) :=
  jOk Q orc (l := [([true], (fun T G => jl12_1_0 false (Ex.of (E orc)) (fun τ G => mapE ((E orc).lp (subAt [1, 1, 0, 1, 0, 0, 1, 0, 0, 1, 0, 0] (bodyOf Tryz.f12)) (lst 45 τ) G)) (nth undef T) G))]) (by kernel_rfl) (AllE.c (fun T G => jrl12_1_0 orc (jl12_1_0 false (Ex.of (E orc)) (fun τ G => mapE ((E orc).lp (subAt [1, 1, 0, 1, 0, 0, 1, 0, 0, 1, 0, 0] (bodyOf Tryz.f12)) (lst 45 τ) G))) T G) (AllE.z))
theorem jel12_1 (orc : FuncId → Bool) (J0 : Env → GS → Option (Exit × Env × GS)) (T : List Value) (G : GS) : sxC Q (evL Q orc) 45 (jtl12_1 J0) (subAt [1, 1, 0, 1, 0, 0, 1, 0, 0, 1, 0, 0] (bodyOf Tryz.f12)) (nth undef T) G (seqXE (fun τ G' => mapE ((E orc).lp (subAt [1, 1, 0, 1, 0, 0, 1, 0, 0, 1, 0, 0] (bodyOf Tryz.f12)) (lst 45 (nth undef (lst 45 τ))) G')) fun e τ G' => some (e, nth undef (lst 45 τ), G')) = bb12_1 false (Ex.of (E orc)) (fun τ G => mapE ((E orc).lp (subAt [1, 1, 0, 1, 0, 0, 1, 0, 0, 1, 0, 0] (bodyOf Tryz.f12)) (lst 45 τ) G)) J0 (nth undef T) G := by kernel_rfl
theorem l12_1 {orc : FuncId → Bool} {e : Ex} (h : ExLe Q e (E orc)) (lp : Env → GS → Option (Exit × Env × GS)) (hlp : ∀ τ G, Ref (lp τ G) (mapE ((E orc).lp (subAt [1, 1, 0, 1, 0, 0, 1, 0, 0, 1, 0, 0] (bodyOf Tryz.f12)) (lst 45 τ) G))) (T : List Value) (G : GS) (hT : T.length = 45) : Ref (b12_1 true e lp (nth undef T) G) (mapE ((E orc).lp (subAt [1, 1, 0, 1, 0, 0, 1, 0, 0, 1, 0, 0] (bodyOf Tryz.f12)) T G)) :=
  fun r hr => lp_sxC Q orc G (jtl12_1 (jl12_1_0 false (Ex.of (E orc)) (fun τ G => mapE ((E orc).lp (subAt [1, 1, 0, 1, 0, 0, 1, 0, 0, 1, 0, 0] (bodyOf Tryz.f12)) (lst 45 τ) G))) ) hT (jol12_1 orc) (jel12_1 orc (jl12_1_0 false (Ex.of (E orc)) (fun τ G => mapE ((E orc).lp (subAt [1, 1, 0, 1, 0, 0, 1, 0, 0, 1, 0, 0] (bodyOf Tryz.f12)) (lst 45 τ) G))) T G) (mb12_1 h ⟨hlp⟩ _ _ r hr)
/-- coxswain/coxswainref26.Should -/
noncomputable def s12 (q : Bool) (e : Ex) (v0 v1 : Value) (G : GS) : Option (Value × GS) :=
  bLq q e 12 0 (subAt [1, 1, 0, 1, 0, 0] (bodyOf Tryz.f12)) 45 (nth undef [v0, v1]) [(6, (.int .i64 0)), (5, (.slice none 0 0)), (4, (.slice none 0 0))] [] G fun e0 t1 G2 =>
  bV q (t1 5) fun t1x5_ =>
  ifE e0 (.exit 0) (
  some (t1x5_, G2)) (none)
theorem m12 {e : Ex} {E : Ev} (h : ExLe Q e E) (v0 v1 : Value) (G : GS) : Ref (s12 true e v0 v1 G) (s12 false (Ex.of E) v0 v1 G) := by
  unfold s12
  exact Ref.gq
theorem f12 {orc : FuncId → Bool} {e : Ex} (h : ExLe Q e (E orc)) (v0 v1 : Value) (G : GS) : Ref (s12 true e v0 v1 G) ((E orc).cl 12 [v0, v1] G) :=
  fun r hr => cl_sxE_some Q orc (vs := [v0, v1]) G Tryz.func12 (by kernel_rfl) (by kernel_rfl) (by kernel_rfl) (by kernel_rfl) (by kernel_rfl) (by kernel_rfl) (m12 h v0 v1 G r hr)
noncomputable def b13_0 (q : Bool) (e : Ex) (lp : Env → GS → Option (Exit × Env × GS)) (τ : Env) (G : GS) : Option (Exit × Env × GS) :=
  bV q (τ 0) fun a0_ =>
  bV q (τ 1) fun a1_ =>
  bV q (τ 5) fun a5_ =>
  bV q (τ 6) fun a6_ =>
  bS (gd a5_ true (some (a6_, G)) G) fun x0 G1 =>
  bS (gd a5_ true (some (a0_, G1)) G1) fun x2 G3 =>
  bS (gd a5_ true (bP (ln Q q 22 x2) fun y => some (y, G3)) G3) fun x4 G5 =>
  bS (gd a5_ true (bP (bn Q q .lss 3 (.tmp 14) (.tmp 16) x0 x4) fun y => some (y, G5)) G5) fun x6 G7 =>
  bP (pickV a5_ x6 (.bool false)) fun x8 =>
  ifV x8 (
  bP (ias Q q 22 1 a0_ a6_) fun x9 =>
  bP (ld Q q 23 x9 (G7.room 10)) fun x10 =>
  bP (ias Q q 22 1 a1_ a6_) fun x11 =>
  bP (ld Q q 23 x11 (G7.room 10)) fun x12 =>
  bP (bn Q q .eql 23 (.tmp 24) (.tmp 28) x10 x12) fun x13 =>
  bP (bn Q q .add 3 (.tmp 19) (.const (.int .i64 1)) a6_ (.int .i64 1)) fun x14 =>
  lp (xq q 31 τ [(6, x14), (20, x14), (19, a6_), (5, x13), (29, x13), (28, x12), (27, x11), (26, a6_), (25, a1_), (24, x10), (23, x9), (22, a6_), (21, a0_), (18, x8), (17, x6), (16, x4), (15, x2), (14, x0), (13, a5_), (12, a5_)] [(0, a0_), (1, a1_)]) (G7.room 10)) (
  some ((.exit 0), xq q 31 τ [(18, x8), (17, x6), (16, x4), (15, x2), (14, x0), (13, a5_), (12, a5_)] [(0, a0_), (1, a1_), (5, a5_), (6, a6_)], G7))
theorem mb13_0 {e : Ex} {E : Ev} (h : ExLe Q e E) {lp lp' : Env → GS → Option (Exit × Env × GS)} (hlp : LpLe lp lp') (τ : Env) (G : GS) : Ref (b13_0 true e lp τ G) (b13_0 false (Ex.of E) lp' τ G) := by
  unfold b13_0
  exact Ref.gq
theorem l13_0 {orc : FuncId → Bool} {e : Ex} (h : ExLe Q e (E orc)) (lp : Env → GS → Option (Exit × Env × GS)) (hlp : ∀ τ G, Ref (lp τ G) (mapE ((E orc).lp (subAt [1, 1, 0, 1, 0, 0] (bodyOf Tryz.f13)) (lst 31 τ) G))) (T : List Value) (G : GS) (hT : T.length = 31) : Ref (b13_0 true e lp (nth undef T) G) (mapE ((E orc).lp (subAt [1, 1, 0, 1, 0, 0] (bodyOf Tryz.f13)) T G)) :=
  fun r hr => lp_sxN Q orc G hT (by kernel_rfl) (mb13_0 h ⟨hlp⟩ _ _ r hr)
/-- coxswain/coxswainkit.SameWords -/
noncomputable def s13 (q : Bool) (e : Ex) (v0 v1 : Value) (G : GS) : Option (Value × GS) :=
  bP (ln Q q 22 v0) fun x0 =>
  bP (ln Q q 22 v1) fun x1 =>
  bP (bn Q q .eql 3 (.tmp 8) (.tmp 10) x0 x1) fun x2 =>
  bLq q e 13 0 (subAt [1, 1, 0, 1, 0, 0] (bodyOf Tryz.f13)) 31 (nth undef [v0, v1]) [(6, (.int .i64 0)), (5, x2), (11, x2), (10, x1), (9, v1), (8, x0), (7, v0), (4, (.bool false))] [] G fun e3 t4 G5 =>
  bV q (t4 5) fun t4x5_ =>
  ifE e3 (.exit 0) (
  some (t4x5_, G5)) (none)
theorem m13 {e : Ex} {E : Ev} (h : ExLe Q e E) (v0 v1 : Value) (G : GS) : Ref (s13 true e v0 v1 G) (s13 false (Ex.of E) v0 v1 G) := by
  unfold s13
  exact Ref.gq
theorem f13 {orc : FuncId → Bool} {e : Ex} (h : ExLe Q e (E orc)) (v0 v1 : Value) (G : GS) : Ref (s13 true e v0 v1 G) ((E orc).cl 13 [v0, v1] G) :=
  fun r hr => cl_sxE_some Q orc (vs := [v0, v1]) G Tryz.func13 (by kernel_rfl) (by kernel_rfl) (by kernel_rfl) (by kernel_rfl) (by kernel_rfl) (by kernel_rfl) (m13 h v0 v1 G r hr)
noncomputable def b14_0 (q : Bool) (e : Ex) (lp : Env → GS → Option (Exit × Env × GS)) (τ : Env) (G : GS) : Option (Exit × Env × GS) :=
  bV q (τ 0) fun a0_ =>
  bV q (τ 2) fun a2_ =>
  bP (ln Q q 22 a0_) fun x0 =>
  bP (bn Q q .lss 3 (.tmp 3) (.tmp 5) a2_ x0) fun x1 =>
  ifV x1 (
  bP (ias Q q 22 1 a0_ a2_) fun x2 =>
  bP (st Q q 23 1 x2 (.int .u64 7777777) G) fun G3 =>
  bP (bn Q q .add 3 (.tmp 7) (.const (.int .i64 1)) a2_ (.int .i64 1)) fun x4 =>
  lp (xq q 12 τ [(2, x4), (8, x4), (7, a2_), (11, x2), (10, a2_), (9, a0_), (6, x1), (5, x0), (4, a0_), (3, a2_)] [(0, a0_)]) G3) (
  some ((.exit 0), xq q 12 τ [(6, x1), (5, x0), (4, a0_), (3, a2_)] [(0, a0_), (2, a2_)], G))
theorem mb14_0 {e : Ex} {E : Ev} (h : ExLe Q e E) {lp lp' : Env → GS → Option (Exit × Env × GS)} (hlp : LpLe lp lp') (τ : Env) (G : GS) : Ref (b14_0 true e lp τ G) (b14_0 false (Ex.of E) lp' τ G) := by
  unfold b14_0
  exact Ref.gq
theorem l14_0 {orc : FuncId → Bool} {e : Ex} (h : ExLe Q e (E orc)) (lp : Env → GS → Option (Exit × Env × GS)) (hlp : ∀ τ G, Ref (lp τ G) (mapE ((E orc).lp (subAt [1, 0, 0] (bodyOf Tryz.f14)) (lst 12 τ) G))) (T : List Value) (G : GS) (hT : T.length = 12) : Ref (b14_0 true e lp (nth undef T) G) (mapE ((E orc).lp (subAt [1, 0, 0] (bodyOf Tryz.f14)) T G)) :=
  fun r hr => lp_sxN Q orc G hT (by kernel_rfl) (mb14_0 h ⟨hlp⟩ _ _ r hr)
/-- coxswain/coxswainkit.OverWords -/
noncomputable def s14 (q : Bool) (e : Ex) (v0 : Value) (G : GS) : Option (Value × GS) :=
  bLq q e 14 0 (subAt [1, 0, 0] (bodyOf Tryz.f14)) 12 (nth undef [v0]) [(2, (.int .i64 0))] [] G fun e0 t1 G2 =>
  ifE e0 (.exit 0) (
  some (.tuple #[], G2)) (none)
theorem m14 {e : Ex} {E : Ev} (h : ExLe Q e E) (v0 : Value) (G : GS) : Ref (s14 true e v0 G) (s14 false (Ex.of E) v0 G) := by
  unfold s14
  exact Ref.gq
theorem f14 {orc : FuncId → Bool} {e : Ex} (h : ExLe Q e (E orc)) (v0 : Value) (G : GS) : Ref (s14 true e v0 G) ((E orc).cl 14 [v0] G) :=
  fun r hr => cl_sxE_some Q orc (vs := [v0]) G Tryz.func14 (by kernel_rfl) (by kernel_rfl) (by kernel_rfl) (by kernel_rfl) (by kernel_rfl) (by kernel_rfl) (m14 h v0 G r hr)
/-- coxswain/coxswainlaw26.RunKnown -/
noncomputable def s15 (q : Bool) (e : Ex) (G : GS) : Option (Value × GS) :=
  bS (e.ev.cl 46 [] G) fun x0 G1 =>
  bP (ep Q q false 50 (.tmp 16) (.const (.pointer none)) x0 (.pointer none)) fun x2 =>
  bS (gd x2 false (bS (e.ev.cl 51 [] G1) fun y G => some (y, G)) G1) fun x3 G4 =>
  bS (gd x2 false (some (x0, G4)) G4) fun x5 G6 =>
  bS (gd x2 false (bS (e.ev.cl 22 [x3, x5, (.int .u64 9), (.int .i64 5), (.int .i64 1)] G6) fun y G => some (y, G)) G6) fun x7 G8 =>
  bS (gd x2 false (bP (un Q q .not x7) fun y => some (y, G8)) G8) fun x9 G10 =>
  bP (pickV x2 (.bool true) x9) fun x11 =>
  ifV x11 (
  some ((.bool false), G10)) (
  bS (e.ev.cl 23 [x0, (.int .i64 34), (.int .u64 4)] G10) fun x12 G13 =>
  bS (e.ev.cl 23 [x0, (.int .i64 35), (.int .u64 11)] G13) fun x14 G15 =>
  bS (e.ev.cl 50 [x0, (.int .i64 0), (.int .i64 11), (.int .i64 1)] G15) fun x16 G17 =>
  bS (gd x16 true (bS (e.ev.cl 48 [] G17) fun y G => some (y, G)) G17) fun x18 G19 =>
  bS (gd x16 true (some (x0, G19)) G19) fun x20 G21 =>
  bS (gd x16 true (bS (bs Q q 35 1 (rep z3 1) 1 [(0, 0, 1)] [(.int .i64 1)] G21) fun y G => some (y, G)) G21) fun x22 G23 =>
  bS (gd x16 true (bS (e.ev.cl 49 [x18, x20, x22] G23) fun y G => some (y, G)) G23) fun x24 G25 =>
  bP (pickV x16 x24 (.bool false)) fun x26 =>
  bS (e.ev.cl 23 [x0, (.int .i64 35), (.int .u64 9)] G25) fun x27 G28 =>
  bS (e.ev.cl 23 [x0, (.int .i64 37), (.int .u64 0)] G28) fun x29 G30 =>
  bS (gd x26 true (some (x0, G30)) G30) fun x31 G32 =>
  bS (gd x26 true (bS (e.ev.cl 50 [x31, (.int .i64 0), (.int .i64 10), (.int .i64 (-1))] G32) fun y G => some (y, G)) G32) fun x33 G34 =>
  bP (pickV x26 x33 (.bool false)) fun x35 =>
  bS (gd x35 true (bS (e.ev.cl 48 [] G34) fun y G => some (y, G)) G34) fun x36 G37 =>
  bS (gd x35 true (some (x0, G37)) G37) fun x38 G39 =>
  bS (gd x35 true (bS (e.ev.cl 49 [x36, x38, (.slice none 0 0)] G39) fun y G => some (y, G)) G39) fun x40 G41 =>
  bP (pickV x35 x40 (.bool false)) fun x42 =>
  bS (bs Q q 22 3 (rep z23 3) 1 [(0, 0, 1), (1, 1, 1), (2, 2, 1)] [(.int .u64 5), (.int .u64 8), (.int .u64 8)] G41) fun x43 G44 =>
  bS (e.ev.cl 9 [x43, (.int .u64 7)] G44) fun x45 G46 =>
  bP (pExtract x45 0) fun x47 =>
  bP (pExtract x45 1) fun x48 =>
  bS (bs Q q 22 3 (rep z23 3) 1 [(0, 0, 1), (1, 1, 1), (2, 2, 1)] [(.int .u64 5), (.int .u64 8), (.int .u64 8)] G46) fun x49 G50 =>
  bS (e.ev.cl 9 [x49, (.int .u64 8)] G50) fun x51 G52 =>
  bP (pExtract x51 0) fun x53 =>
  bP (pExtract x51 1) fun x54 =>
  bS (e.ev.cl 9 [(.slice none 0 0), (.int .u64 0)] G52) fun x55 G56 =>
  bP (pExtract x55 0) fun x57 =>
  bP (pExtract x55 1) fun x58 =>
  bS (bs Q q 22 5 (rep z23 5) 1 [(0, 0, 1), (1, 1, 1), (2, 2, 1), (3, 3, 1), (4, 4, 1)] [(.int .u64 7), (.int .u64 18446744073709551615), (.int .u64 3), (.int .u64 5), (.int .u64 3)] G56) fun x59 G60 =>
  bP (bn Q q .eql 3 (.tmp 65) (.const (.int .i64 1)) x47 (.int .i64 1)) fun x61 =>
  bS (gd x61 true (some (x48, G60)) G60) fun x62 G63 =>
  bP (pickV x61 x62 (.bool false)) fun x64 =>
  bS (gd x64 true (some (x53, G63)) G63) fun x65 G66 =>
  bS (gd x64 true (bP (bn Q q .eql 3 (.tmp 71) (.const (.int .i64 (-1))) x65 (.int .i64 (-1))) fun y => some (y, G66)) G66) fun x67 G68 =>
  bP (pickV x64 x67 (.bool false)) fun x69 =>
  bS (gd x69 true (some (x54, G68)) G68) fun x70 G71 =>
  bS (gd x69 true (bP (un Q q .not x70) fun y => some (y, G71)) G71) fun x72 G73 =>
  bP (pickV x69 x72 (.bool false)) fun x74 =>
  bS (gd x74 true (some (x57, G73)) G73) fun x75 G76 =>
  bS (gd x74 true (bP (bn Q q .eql 3 (.tmp 79) (.const (.int .i64 (-1))) x75 (.int .i64 (-1))) fun y => some (y, G76)) G76) fun x77 G78 =>
  bP (pickV x74 x77 (.bool false)) fun x79 =>
  bS (gd x79 true (some (x58, G78)) G78) fun x80 G81 =>
  bS (gd x79 true (bP (un Q q .not x80) fun y => some (y, G81)) G81) fun x82 G83 =>
  bP (pickV x79 x82 (.bool false)) fun x84 =>
  bS (gd x84 true (some (x59, G83)) G83) fun x85 G86 =>
  bS (gd x84 true (bS (e.ev.cl 11 [x85, (.int .i64 2)] G86) fun y G => some (y, G)) G86) fun x87 G88 =>
  bS (gd x84 true (bS (bs Q q 22 2 (rep z23 2) 1 [(0, 0, 1), (1, 1, 1)] [(.int .u64 3), (.int .u64 3)] G88) fun y G => some (y, G)) G88) fun x89 G90 =>
  bS (gd x84 true (bS (e.ev.cl 13 [x87, x89] G90) fun y G => some (y, G)) G90) fun x91 G92 =>
  bP (pickV x84 x91 (.bool false)) fun x93 =>
  bS (gd x93 true (some (x59, G92)) G92) fun x94 G95 =>
  bS (gd x93 true (bS (e.ev.cl 11 [x94, (.int .i64 9)] G95) fun y G => some (y, G)) G95) fun x96 G97 =>
  bS (gd x93 true (bS (bs Q q 22 4 (rep z23 4) 1 [(0, 0, 1), (1, 1, 1), (2, 2, 1), (3, 3, 1)] [(.int .u64 3), (.int .u64 3), (.int .u64 5), (.int .u64 7)] G97) fun y G => some (y, G)) G97) fun x98 G99 =>
  bS (gd x93 true (bS (e.ev.cl 13 [x96, x98] G99) fun y G => some (y, G)) G99) fun x100 G101 =>
  bP (pickV x93 x100 (.bool false)) fun x102 =>
  bS (gd x102 true (some (x59, G101)) G101) fun x103 G104 =>
  bS (gd x102 true (bS (e.ev.cl 11 [x103, (.int .i64 0)] G104) fun y G => some (y, G)) G104) fun x105 G106 =>
  bS (gd x102 true (bP (ln Q q 22 x105) fun y => some (y, G106)) G106) fun x107 G108 =>
  bS (gd x102 true (bP (bn Q q .eql 3 (.tmp 101) (.const (.int .i64 0)) x107 (.int .i64 0)) fun y => some (y, G108)) G108) fun x109 G110 =>
  bP (pickV x102 x109 (.bool false)) fun x111 =>
  bS (e.ev.cl 48 [] G110) fun x112 G113 =>
  bS (e.ev.cl 48 [] G113) fun x114 G115 =>
  bS (e.ev.cl 48 [] G115) fun x116 G117 =>
  bS (al Q q 49 z49 G117) fun x118 G119 =>
  bS (al Q q 49 z49 G119) fun x120 G121 =>
  bS (al Q q 49 z49 G121) fun x122 G123 =>
  bP (st Q q 49 3 x118 x112 G123) fun G124 =>
  bP (st Q q 49 3 x120 x114 G124) fun G125 =>
  bP (st Q q 49 3 x122 x116 G125) fun G126 =>
  bP (fa Q q 49 2 2 x118) fun x127 =>
  bP (st Q q 3 1 x127 (.int .i64 0) G126) fun G128 =>
  bP (fa Q q 49 1 1 x120) fun x129 =>
  bP (st Q q 3 1 x129 (.int .i64 35) G128) fun G130 =>
  bP (fa Q q 49 2 2 x122) fun x131 =>
  bP (st Q q 3 1 x131 (.int .i64 65) G130) fun G132 =>
  bS (e.ev.cl 51 [] (G132.room 33)) fun x134 G133 =>
  bS (e.ev.cl 48 [] G133) fun x136 G135 =>
  bS (e.ev.cl 25 [x134, x136, (.int .i64 2)] G135) fun x138 G137 =>
  bS (e.ev.cl 27 [x138] G137) fun x140 G139 =>
  bP (bn Q q .eql 51 (.tmp 113) (.const (.int .i64 3)) x140 (.int .i64 3)) fun x141 =>
  bS (gd x141 true (bS (e.ev.cl 51 [] G139) fun y G => some (y, G)) G139) fun x143 G142 =>
  bS (gd x141 true (bP (lda Q q 49 3 x118 G142) fun y => some (y, G142)) G142) fun x144 _ =>
  chk (((!(gB x141 true) || (!(gB x141 true) || sameO (lda Q q 49 3 x118 G139) x144)) && true)) <|
  bS (gd x141 true (bS (e.ev.cl 25 [x143, x144, (.int .i64 0)] G142) fun y G => some (y, G)) G142) fun x146 G145 =>
  bS (gd x141 true (bS (e.ev.cl 27 [x146] G145) fun y G => some (y, G)) G145) fun x148 G147 =>
  bS (gd x141 true (bP (bn Q q .eql 51 (.tmp 119) (.const (.int .i64 2)) x148 (.int .i64 2)) fun y => some (y, G147)) G147) fun x149 _ =>
  bP (pickV x141 x149 (.bool false)) fun x150 =>
  bS (gd x150 true (bS (e.ev.cl 48 [] G147) fun y G => some (y, G)) G147) fun x152 G151 =>
  bS (gd x150 true (bS (e.ev.cl 29 [x152, (.int .i64 37)] G151) fun y G => some (y, G)) G151) fun x154 G153 =>
  bS (gd x150 true (bP (bn Q q .eql 51 (.tmp 124) (.const (.int .i64 2)) x154 (.int .i64 2)) fun y => some (y, G153)) G153) fun x155 _ =>
  bP (pickV x150 x155 (.bool false)) fun x156 =>
  bS (gd x156 true (bP (lda Q q 49 3 x120 G153) fun y => some (y, G153)) G153) fun x157 _ =>
  bS (gd x156 true (bS (e.ev.cl 29 [x157, (.int .i64 40)] G153) fun y G => some (y, G)) G153) fun x159 G158 =>
  bS (gd x156 true (bP (bn Q q .eql 51 (.tmp 129) (.const (.int .i64 2)) x159 (.int .i64 2)) fun y => some (y, G158)) G158) fun x160 _ =>
  bP (pickV x156 x160 (.bool false)) fun x161 =>
  bS (gd x161 true (bP (lda Q q 49 3 x122 G158) fun y => some (y, G158)) G158) fun x162 _ =>
  bS (gd x161 true (bS (e.ev.cl 29 [x162, (.int .i64 4000)] G158) fun y G => some (y, G)) G158) fun x164 G163 =>
  bS (gd x161 true (bP (bn Q q .eql 51 (.tmp 134) (.const (.int .i64 2)) x164 (.int .i64 2)) fun y => some (y, G163)) G163) fun x165 _ =>
  bP (pickV x161 x165 (.bool false)) fun x166 =>
  bS (gd x166 true (bS (e.ev.cl 48 [] G163) fun y G => some (y, G)) G163) fun x168 G167 =>
  bS (gd x166 true (bS (e.ev.cl 29 [x168, (.int .i64 0)] G167) fun y G => some (y, G)) G167) fun x170 G169 =>
  bS (gd x166 true (bP (bn Q q .eql 51 (.tmp 139) (.const (.int .i64 3)) x170 (.int .i64 3)) fun y => some (y, G169)) G169) fun x171 _ =>
  bP (pickV x166 x171 (.bool false)) fun x172 =>
  bS (e.ev.cl 7 [] G169) fun x173 G174 =>
  bS (gd x173 true (some (x42, G174)) G174) fun x175 G176 =>
  bP (pickV x173 x175 (.bool false)) fun x177 =>
  bS (gd x177 true (some (x111, G176)) G176) fun x178 G179 =>
  bP (pickV x177 x178 (.bool false)) fun x180 =>
  bS (gd x180 true (some (x172, G179)) G179) fun x181 G182 =>
  bP (pickV x180 x181 (.bool false)) fun x183 =>
  some (x183, G182))
theorem m15 {e : Ex} {E : Ev} (h : ExLe Q e E) (G : GS) : Ref (s15 true e  G) (s15 false (Ex.of E)  G) := by
  unfold s15
  exact Ref.gq
set_option maxHeartbeats 8000000 in
theorem f15 {orc : FuncId → Bool} {e : Ex} (h : ExLe Q e (E orc)) (ho : orc 15 = false) (G : GS) : Ref (s15 true e  G) ((E orc).cl 15 [] G) :=
  fun r hr => cl_sxE_some Q orc (vs := []) G Tryz.func15 (by kernel_rfl) (by kernel_rfl) ho (by kernel_rfl) (by kernel_rfl) (by kernel_rfl) (m15 h  G r hr)
/-- coxswain/coxswainkit.Pick -/
noncomputable def s16 (q : Bool) (e : Ex) (v0 v1 : Value) (G : GS) : Option (Value × GS) :=
  bP (bn Q q .leq 3 (.tmp 5) (.const (.int .i64 0)) v1 (.int .i64 0)) fun x0 =>
  ifV x0 (
  some ((.int .i64 0), G)) (
  bP (bn Q q .rem 3 (.tmp 7) (.tmp 8) v0 v1) fun x1 =>
  bP (bn Q q .lss 3 (.tmp 10) (.const (.int .i64 0)) x1 (.int .i64 0)) fun x2 =>
  ifV x2 (
  bP (bn Q q .add 3 (.tmp 12) (.tmp 13) x1 v1) fun x3 =>
  some (x3, G)) (
  some (x1, G)))
theorem m16 {e : Ex} {E : Ev} (h : ExLe Q e E) (v0 v1 : Value) (G : GS) : Ref (s16 true e v0 v1 G) (s16 false (Ex.of E) v0 v1 G) := by
  unfold s16
  exact Ref.gq
theorem f16 {orc : FuncId → Bool} {e : Ex} (h : ExLe Q e (E orc)) (v0 v1 : Value) (G : GS) : Ref (s16 true e v0 v1 G) ((E orc).cl 16 [v0, v1] G) :=
  fun r hr => cl_sxE_some Q orc (vs := [v0, v1]) G Tryz.func16 (by kernel_rfl) (by kernel_rfl) (by kernel_rfl) (by kernel_rfl) (by kernel_rfl) (by kernel_rfl) (m16 h v0 v1 G r hr)
noncomputable def b17_0 (q : Bool) (e : Ex) (lp : Env → GS → Option (Exit × Env × GS)) (τ : Env) (G : GS) : Option (Exit × Env × GS) :=
  bV q (τ 0) fun a0_ =>
  bV q (τ 3) fun a3_ =>
  bV q (τ 4) fun a4_ =>
  bP (ln Q q 22 a0_) fun x0 =>
  bP (bn Q q .lss 3 (.tmp 5) (.tmp 7) a4_ x0) fun x1 =>
  ifV x1 (
  bP (ias Q q 22 1 a0_ a4_) fun x2 =>
  bP (ld Q q 23 x2 G) fun x3 =>
  bP (mn Q q #[23, 23] a3_ x3) fun x4 =>
  bP (bn Q q .add 3 (.tmp 9) (.const (.int .i64 1)) a4_ (.int .i64 1)) fun x5 =>
  lp (xq q 18 τ [(4, x5), (10, x5), (9, a4_), (3, x4), (16, x4), (15, x3), (14, x2), (13, a4_), (12, a0_), (11, a3_), (8, x1), (7, x0), (6, a0_), (5, a4_)] [(0, a0_)]) G) (
  some ((.exit 0), xq q 18 τ [(8, x1), (7, x0), (6, a0_), (5, a4_)] [(0, a0_), (3, a3_), (4, a4_)], G))
theorem mb17_0 {e : Ex} {E : Ev} (h : ExLe Q e E) {lp lp' : Env → GS → Option (Exit × Env × GS)} (hlp : LpLe lp lp') (τ : Env) (G : GS) : Ref (b17_0 true e lp τ G) (b17_0 false (Ex.of E) lp' τ G) := by
  unfold b17_0
  exact Ref.gq
theorem l17_0 {orc : FuncId → Bool} {e : Ex} (h : ExLe Q e (E orc)) (lp : Env → GS → Option (Exit × Env × GS)) (hlp : ∀ τ G, Ref (lp τ G) (mapE ((E orc).lp (subAt [1, 1, 0, 1, 0, 0] (bodyOf Tryz.f17)) (lst 18 τ) G))) (T : List Value) (G : GS) (hT : T.length = 18) : Ref (b17_0 true e lp (nth undef T) G) (mapE ((E orc).lp (subAt [1, 1, 0, 1, 0, 0] (bodyOf Tryz.f17)) T G)) :=
  fun r hr => lp_sxN Q orc G hT (by kernel_rfl) (mb17_0 h ⟨hlp⟩ _ _ r hr)
/-- coxswain/coxswainlaw26.least -/
noncomputable def s17 (q : Bool) (e : Ex) (v0 : Value) (G : GS) : Option (Value × GS) :=
  bLq q e 17 0 (subAt [1, 1, 0, 1, 0, 0] (bodyOf Tryz.f17)) 18 (nth undef [v0]) [(4, (.int .i64 0)), (3, (.int .u64 18446744073709551615)), (2, (.int .u64 0))] [] G fun e0 t1 G2 =>
  bV q (t1 3) fun t1x3_ =>
  ifE e0 (.exit 0) (
  some (t1x3_, G2)) (none)
theorem m17 {e : Ex} {E : Ev} (h : ExLe Q e E) (v0 : Value) (G : GS) : Ref (s17 true e v0 G) (s17 false (Ex.of E) v0 G) := by
  unfold s17
  exact Ref.gq
theorem f17 {orc : FuncId → Bool} {e : Ex} (h : ExLe Q e (E orc)) (v0 : Value) (G : GS) : Ref (s17 true e v0 G) ((E orc).cl 17 [v0] G) :=
  fun r hr => cl_sxE_some Q orc (vs := [v0]) G Tryz.func17 (by kernel_rfl) (by kernel_rfl) (by kernel_rfl) (by kernel_rfl) (by kernel_rfl) (by kernel_rfl) (m17 h v0 G r hr)
noncomputable def b52_0 (q : Bool) (e : Ex) (lp : Env → GS → Option (Exit × Env × GS)) (τ : Env) (G : GS) : Option (Exit × Env × GS) :=
  bV q (τ 0) fun a0_ =>
  bV q (τ 1) fun a1_ =>
  bV q (τ 5) fun a5_ =>
  bV q (τ 8) fun a8_ =>
  bV q (τ 9) fun a9_ =>
  bV q (τ 10) fun a10_ =>
  bP (bn Q q .lss 3 (.tmp 10) (.tmp 9) a10_ a9_) fun x0 =>
  ifV x0 (
  bP (ias Q q 22 1 a8_ a10_) fun x1 =>
  bP (ld Q q 23 x1 G) fun x2 =>
  bP (bn Q q .lss 3 (.tmp 15) (.const (.int .i64 0)) a5_ (.int .i64 0)) fun x3 =>
  bS (gd x3 false (some (a1_, G)) G) fun x4 G5 =>
  bS (gd x3 false (some (x2, G5)) G5) fun x6 G7 =>
  bS (gd x3 false (some (a0_, G7)) G7) fun x8 G9 =>
  bS (gd x3 false (some (a5_, G9)) G9) fun x10 G11 =>
  bS (gd x3 false (bP (ias Q q 22 1 x8 x10) fun y => some (y, G11)) G11) fun x12 G13 =>
  bS (gd x3 false (bP (ld Q q 23 x12 G13) fun y => some (y, G13)) G13) fun x14 G15 =>
  bS (gd x3 false (bS (cValue e.ev x4 [x6, x14] G15) fun y G => some (y, G)) G15) fun x16 G17 =>
  bS (gd x3 false (bP (bn Q q .gtr 3 (.tmp 24) (.const (.int .i64 0)) x16 (.int .i64 0)) fun y => some (y, G17)) G17) fun x18 G19 =>
  bP (pickV x3 (.bool true) x18) fun x20 =>
  ifV x20 (
  bP (bn Q q .add 3 (.tmp 10) (.const (.int .i64 1)) a10_ (.int .i64 1)) fun x21 =>
  lp (xq q 30 τ [(10, x21), (28, x21), (5, a10_), (27, a10_), (26, x20), (25, x18), (24, x16), (23, x14), (22, x12), (21, x10), (20, x8), (19, x6), (18, x4), (17, x3), (16, x3), (15, a5_), (7, x2), (6, a10_), (14, x2), (13, x1), (12, a10_), (11, x0)] [(0, a0_), (1, a1_), (8, a8_), (9, a9_)]) G19) (
  bP (bn Q q .add 3 (.tmp 10) (.const (.int .i64 1)) a10_ (.int .i64 1)) fun x22 =>
  lp (xq q 30 τ [(10, x22), (28, x22), (26, x20), (25, x18), (24, x16), (23, x14), (22, x12), (21, x10), (20, x8), (19, x6), (18, x4), (17, x3), (16, x3), (15, a5_), (7, x2), (6, a10_), (14, x2), (13, x1), (12, a10_), (11, x0)] [(0, a0_), (1, a1_), (5, a5_), (8, a8_), (9, a9_)]) G19)) (
  some ((.exit 0), xq q 30 τ [(11, x0)] [(0, a0_), (1, a1_), (5, a5_), (8, a8_), (9, a9_), (10, a10_)], G))
theorem mb52_0 {e : Ex} {E : Ev} (h : ExLe Q e E) {lp lp' : Env → GS → Option (Exit × Env × GS)} (hlp : LpLe lp lp') (τ : Env) (G : GS) : Ref (b52_0 true e lp τ G) (b52_0 false (Ex.of E) lp' τ G) := by
  unfold b52_0
  exact Ref.gq
theorem l52_0 {orc : FuncId → Bool} {e : Ex} (h : ExLe Q e (E orc)) (lp : Env → GS → Option (Exit × Env × GS)) (hlp : ∀ τ G, Ref (lp τ G) (mapE ((E orc).lp (subAt [1, 1, 0, 1, 0, 0] (bodyOf Tryz.f52)) (lst 30 τ) G))) (T : List Value) (G : GS) (hT : T.length = 30) : Ref (b52_0 true e lp (nth undef T) G) (mapE ((E orc).lp (subAt [1, 1, 0, 1, 0, 0] (bodyOf Tryz.f52)) T G)) :=
  fun r hr => lp_sxN Q orc G hT (by kernel_rfl) (mb52_0 h ⟨hlp⟩ _ _ r hr)
/-- coxswain/run.greatest[uint64] -/
noncomputable def s52 (q : Bool) (e : Ex) (v0 v1 : Value) (G : GS) : Option (Value × GS) :=
  bP (ln Q q 22 v0) fun x0 =>
  bLq q e 52 0 (subAt [1, 1, 0, 1, 0, 0] (bodyOf Tryz.f52)) 30 (nth undef [v0, v1]) [(10, (.int .i64 0)), (9, x0), (8, v0), (5, (.int .i64 (-1))), (4, (.int .i64 0))] [] G fun e1 t2 G3 =>
  bV q (t2 5) fun t2x5_ =>
  ifE e1 (.exit 0) (
  some (t2x5_, G3)) (none)
theorem m52 {e : Ex} {E : Ev} (h : ExLe Q e E) (v0 v1 : Value) (G : GS) : Ref (s52 true e v0 v1 G) (s52 false (Ex.of E) v0 v1 G) := by
  unfold s52
  exact Ref.gq
theorem f52 {orc : FuncId → Bool} {e : Ex} (h : ExLe Q e (E orc)) (v0 v1 : Value) (G : GS) : Ref (s52 true e v0 v1 G) ((E orc).cl 52 [v0, v1] G) :=
  fun r hr => cl_sxE_some Q orc (vs := [v0, v1]) G Tryz.func52 (by kernel_rfl) (by kernel_rfl) (by kernel_rfl) (by kernel_rfl) (by kernel_rfl) (by kernel_rfl) (m52 h v0 v1 G r hr)
/-- cmp.Compare[uint64] -/
noncomputable def s53 (q : Bool) (e : Ex) (v0 v1 : Value) (G : GS) : Option (Value × GS) :=
  bS (e.ev.cl 93 [v0] G) fun x0 G1 =>
  bS (e.ev.cl 93 [v1] G1) fun x2 G3 =>
  ifV x0 (
  ifV x2 (
  some ((.int .i64 0), G3)) (
  some ((.int .i64 (-1)), G3))) (
  ifV x2 (
  some ((.int .i64 1), G3)) (
  bP (bn Q q .lss 23 (.tmp 14) (.tmp 15) v0 v1) fun x4 =>
  ifV x4 (
  some ((.int .i64 (-1)), G3)) (
  bP (bn Q q .gtr 23 (.tmp 17) (.tmp 18) v0 v1) fun x5 =>
  ifV x5 (
  some ((.int .i64 1), G3)) (
  some ((.int .i64 0), G3)))))
theorem m53 {e : Ex} {E : Ev} (h : ExLe Q e E) (v0 v1 : Value) (G : GS) : Ref (s53 true e v0 v1 G) (s53 false (Ex.of E) v0 v1 G) := by
  unfold s53
  exact Ref.gq
theorem f53 {orc : FuncId → Bool} {e : Ex} (h : ExLe Q e (E orc)) (v0 v1 : Value) (G : GS) : Ref (s53 true e v0 v1 G) ((E orc).cl 53 [v0, v1] G) :=
  fun r hr => cl_sxE_some Q orc (vs := [v0, v1]) G Tryz.func53 (by kernel_rfl) (by kernel_rfl) (by kernel_rfl) (by kernel_rfl) (by kernel_rfl) (by kernel_rfl) (m53 h v0 v1 G r hr)
noncomputable def jbl55_0_0 (q : Bool) (e : Ex) (lp : Env → GS → Option (Exit × Env × GS)) (τ : Env) (G : GS) : Option (Exit × Env × GS) :=
  bV q (τ 0) fun a0_ =>
  bV q (τ 1) fun a1_ =>
  bV q (τ 5) fun a5_ =>
  bV q (τ 6) fun a6_ =>
  bP (bn Q q .add 3 (.tmp 11) (.const (.int .i64 1)) a6_ (.int .i64 1)) fun x2 =>
  lp (xq q 41 τ [(6, x2), (12, x2), (11, a6_)] [(0, a0_), (1, a1_), (5, a5_)]) G
noncomputable def jl55_0_0 (q : Bool) (e : Ex) (lp : Env → GS → Option (Exit × Env × GS)) (τ : Env) (G : GS) : Option (Exit × Env × GS) := jbl55_0_0 q e lp τ G
theorem mjl55_0_0 {e : Ex} {E : Ev} (h : ExLe Q e E) {lp lp' : Env → GS → Option (Exit × Env × GS)} (hlp : LpLe lp lp') (τ : Env) (G : GS) : Ref (jl55_0_0 true e lp τ G) (jl55_0_0 false (Ex.of E) lp' τ G) := by
  unfold jl55_0_0 jbl55_0_0
  exact Ref.gq
theorem mkjl55_0_0 {e : Ex} {E : Ev} (h : ExLe Q e E) {lp lp' : Env → GS → Option (Exit × Env × GS)} (hlp : LpLe lp lp') {τ : Env} {l U : List (Nat × Value)} {G : GS} (hU : UOk τ U) : Ref (jl55_0_0 true e lp (xq true 41 τ l U) G) (jl55_0_0 false (Ex.of E) lp' (xq false 41 τ l U) G) := by
  rw [xq_eq hU]
  exact mjl55_0_0 h hlp _ _
noncomputable def bb55_0 (q : Bool) (e : Ex) (lp : Env → GS → Option (Exit × Env × GS)) (J0 : Env → GS → Option (Exit × Env × GS)) (τ : Env) (G : GS) : Option (Exit × Env × GS) :=
  bV q (τ 0) fun a0_ =>
  bV q (τ 1) fun a1_ =>
  bV q (τ 5) fun a5_ =>
  bV q (τ 6) fun a6_ =>
  bP (ln Q q 22 a0_) fun x0 =>
  bP (bn Q q .lss 3 (.tmp 7) (.tmp 9) a6_ x0) fun x1 =>
  ifV x1 (
  bP (ias Q q 22 1 a0_ a6_) fun x3 =>
  bP (ld Q q 23 x3 (G.room 25)) fun x4 =>
  bP (ias Q q 22 1 a0_ a1_) fun x5 =>
  bP (ld Q q 23 x5 (G.room 25)) fun x6 =>
  bP (bn Q q .lss 23 (.tmp 16) (.tmp 20) x4 x6) fun x7 =>
  bS (gd x7 false (some (a0_, (G.room 25))) (G.room 25)) fun x8 _ =>
  bS (gd x7 false (some (a6_, (G.room 25))) (G.room 25)) fun x9 _ =>
  bS (gd x7 false (bP (ias Q q 22 1 x8 x9) fun y => some (y, (G.room 25))) (G.room 25)) fun x10 _ =>
  bS (gd x7 false (bP (ld Q q 23 x10 (G.room 25)) fun y => some (y, (G.room 25))) (G.room 25)) fun x11 _ =>
  bS (gd x7 false (some (a0_, (G.room 25))) (G.room 25)) fun x12 _ =>
  bS (gd x7 false (some (a1_, (G.room 25))) (G.room 25)) fun x13 _ =>
  bS (gd x7 false (bP (ias Q q 22 1 x12 x13) fun y => some (y, (G.room 25))) (G.room 25)) fun x14 _ =>
  bS (gd x7 false (bP (ld Q q 23 x14 (G.room 25)) fun y => some (y, (G.room 25))) (G.room 25)) fun x15 _ =>
  bS (gd x7 false (bP (bn Q q .eql 23 (.tmp 26) (.tmp 30) x11 x15) fun y => some (y, (G.room 25))) (G.room 25)) fun x16 _ =>
  bS (gd x7 false (some (x16, (G.room 25))) (G.room 25)) fun x17 _ =>
  bS (gd x17 true (some (a6_, (G.room 25))) (G.room 25)) fun x18 _ =>
  bS (gd x17 true (some (a1_, (G.room 25))) (G.room 25)) fun x19 _ =>
  bS (gd x17 true (bP (bn Q q .lss 3 (.tmp 33) (.tmp 34) x18 x19) fun y => some (y, (G.room 25))) (G.room 25)) fun x20 _ =>
  bS (gd x7 false (bP (pickV x17 x20 (.bool false)) fun y => some (y, (G.room 25))) (G.room 25)) fun x21 _ =>
  bP (pickV x7 (.bool true) x21) fun x22 =>
  ifV x22 (
  bP (bn Q q .add 3 (.tmp 38) (.const (.int .i64 1)) a5_ (.int .i64 1)) fun x23 =>
  J0 (xq q 41 τ [(5, x23), (39, x23), (38, a5_), (37, x22), (36, x21), (35, x20), (34, x19), (33, x18), (32, x17), (31, x16), (30, x15), (29, x14), (28, x13), (27, x12), (26, x11), (25, x10), (24, x9), (23, x8), (22, x7), (21, x7), (20, x6), (19, x5), (18, a1_), (17, a0_), (16, x4), (15, x3), (14, a6_), (13, a0_), (10, x1), (9, x0), (8, a0_), (7, a6_)] [(0, a0_), (1, a1_), (6, a6_)]) (G.room 25)) (
  J0 (xq q 41 τ [(37, x22), (36, x21), (35, x20), (34, x19), (33, x18), (32, x17), (31, x16), (30, x15), (29, x14), (28, x13), (27, x12), (26, x11), (25, x10), (24, x9), (23, x8), (22, x7), (21, x7), (20, x6), (19, x5), (18, a1_), (17, a0_), (16, x4), (15, x3), (14, a6_), (13, a0_), (10, x1), (9, x0), (8, a0_), (7, a6_)] [(0, a0_), (1, a1_), (5, a5_), (6, a6_)]) (G.room 25))) (
  some ((.exit 0), xq q 41 τ [(10, x1), (9, x0), (8, a0_), (7, a6_)] [(0, a0_), (1, a1_), (5, a5_), (6, a6_)], G))
noncomputable def b55_0 (q : Bool) (e : Ex) (lp : Env → GS → Option (Exit × Env × GS)) (τ : Env) (G : GS) : Option (Exit × Env × GS) := bb55_0 q e lp (jl55_0_0 q e lp) τ G
theorem mb55_0 {e : Ex} {E : Ev} (h : ExLe Q e E) {lp lp' : Env → GS → Option (Exit × Env × GS)} (hlp : LpLe lp lp') (τ : Env) (G : GS) : Ref (b55_0 true e lp τ G) (b55_0 false (Ex.of E) lp' τ G) := by
  unfold b55_0 bb55_0
  repeat' (with_reducible first | exact Ref.rfl' _ | exact ROp.r | refine Ref.bP ?_ fun _ => ?_ | refine Ref.bS ?_ fun _ _ => ?_ | exact Ref.cl (by assumption) | refine Ref.ifV ?_ ?_ | refine LpLe.rx (by assumption) ?_ | refine Ref.xitq ?_ | exact UOk.z | refine UOk.c (by assumption) ?_ | exact Ref.nil _ | refine Ref.bVe fun _ _ => ?_ | refine Ref.bLq (by assumption) ?_ fun _ _ _ => ?_ | refine Ref.ifE ?_ ?_ | refine Ref.chk ?_ ?_ | refine Imp.and ?_ ?_ | refine Imp.or ?_ | exact Imp.rfl' _ | refine Imp.sameO ?_ | refine Ref.gd ?_ | exact Ref.cValue (by assumption) | refine Ref.bX ?_ fun _ _ _ => ?_ | exact Ref.scQ (by assumption) | exact Ref.xRangeQ (by assumption) | exact Ref.cInvoke (by assumption) | refine mkjl55_0_0 (by assumption) (by assumption) ?_)
noncomputable def jtl55_0 (J0 : Env → GS → Option (Exit × Env × GS)) : JT (Exit × Env × GS) :=
  (.n none .e (.n (some (fun T G => J0 (nth undef T) G)) .e .e))
theorem jrl55_0_0 (orc : FuncId → Bool) (J0 : Env → GS → Option (Exit × Env × GS)) (T : List Value) (G : GS) : runC Q (evL Q orc) 41 (jtl55_0 J0) (subAt [1, 1, 0, 1, 0, 0] (bodyOf Tryz.f55)) (seqXE (fun τ G' => mapE ((E orc).lp (subAt [1, 1, 0, 1, 0, 0] (bodyOf Tryz.f55)) (lst 41 (nth undef (lst 41 τ))) G')) fun e τ G' => some (e, nth undef (lst 41 τ), G')) [true] (nth undef T) G = jbl55_0_0 false (Ex.of (E orc)) (fun τ G => mapE ((E orc).lp (subAt [1, 1, 0, 1, 0, 0] (bodyOf Tryz.f55)) (lst 41 τ) G))  (nth undef T) G := by kernel_rfl
theorem jol55_0 (orc : FuncId → Bool) : JOk Q orc 41 (jtl55_0 (jl55_0_0 false (Ex.of (E orc)) (fun τ G => mapE ((E orc).lp (subAt [1, 1, 0, 1, 0, 0] (bodyOf Tryz.f55)) (lst 41 τ) G))) ) (subAt [1, 1, 0, 1, 0, 0] (bodyOf Tryz.f55)) (seqXE (fun τ G' => mapE ((E orc).lp (subAt [1, 1, 0, 1, 0, 0] (bodyOf Tryz.f55)) (lst 41 (nth undef (lst 41 τ))) G')) fun e τ G' => some (e, nth undef (lst 41 τ), G')) :=
  jOk Q orc (l := [([true], (fun T G => jl55_0_0 false (Ex.of (E orc)) (fun τ G => mapE ((E orc).lp (subAt [1, 1, 0, 1, 0, 0] (bodyOf Tryz.f55)) (lst 41 τ) G)) (nth undef T) G))]) (by kernel_rfl) (AllE.c (fun T G => jrl55_0_0 orc (jl55_0_0 false (Ex.of (E orc)) (fun τ G => mapE ((E orc).lp (subAt [1, 1, 0, 1, 0, 0] (bodyOf Tryz.f55)) (lst 41 τ) G))) T G) (AllE.z))
theorem jel55_0 (orc : FuncId → Bool) (J0 : Env → GS → Option (Exit × Env × GS)) (T : List Value) (G : GS) : sxC Q (evL Q orc) 41 (jtl55_0 J0) (subAt [1, 1, 0, 1, 0, 0] (bodyOf Tryz.f55)) (nth undef T) G (seqXE (fun τ G' => mapE ((E orc).lp (subAt [1, 1, 0, 1, 0, 0] (bodyOf Tryz.f55)) (lst 41 (nth undef (lst 41 τ))) G')) fun e τ G' => some (e, nth undef (lst 41 τ), G')) = bb55_0 false (Ex.of (E orc)) (fun τ G => mapE ((E orc).lp (subAt [1, 1, 0, 1, 0, 0] (bodyOf Tryz.f55)) (lst 41 τ) G)) J0 (nth undef T) G := by kernel_rfl
theorem l55_0 {orc : FuncId → Bool} {e : Ex} (h : ExLe Q e (E orc)) (lp : Env → GS → Option (Exit × Env × GS)) (hlp : ∀ τ G, Ref (lp τ G) (mapE ((E orc).lp (subAt [1, 1, 0, 1, 0, 0] (bodyOf Tryz.f55)) (lst 41 τ) G))) (T : List Value) (G : GS) (hT : T.length = 41) : Ref (b55_0 true e lp (nth undef T) G) (mapE ((E orc).lp (subAt [1, 1, 0, 1, 0, 0] (bodyOf Tryz.f55)) T G)) :=
  fun r hr => lp_sxC Q orc G (jtl55_0 (jl55_0_0 false (Ex.of (E orc)) (fun τ G => mapE ((E orc).lp (subAt [1, 1, 0, 1, 0, 0] (bodyOf Tryz.f55)) (lst 41 τ) G))) ) hT (jol55_0 orc) (jel55_0 orc (jl55_0_0 false (Ex.of (E orc)) (fun τ G => mapE ((E orc).lp (subAt [1, 1, 0, 1, 0, 0] (bodyOf Tryz.f55)) (lst 41 τ) G))) T G) (mb55_0 h ⟨hlp⟩ _ _ r hr)
/-- coxswain/coxswainref26.ahead -/
noncomputable def s55 (q : Bool) (e : Ex) (v0 v1 : Value) (G : GS) : Option (Value × GS) :=
  bLq q e 55 0 (subAt [1, 1, 0, 1, 0, 0] (bodyOf Tryz.f55)) 41 (nth undef [v0, v1]) [(6, (.int .i64 0)), (5, (.int .i64 0)), (4, (.int .i64 0))] [] G fun e0 t1 G2 =>
  bV q (t1 5) fun t1x5_ =>
  ifE e0 (.exit 0) (
  some (t1x5_, G2)) (none)
theorem m55 {e : Ex} {E : Ev} (h : ExLe Q e E) (v0 v1 : Value) (G : GS) : Ref (s55 true e v0 v1 G) (s55 false (Ex.of E) v0 v1 G) := by
  unfold s55
  exact Ref.gq
theorem f55 {orc : FuncId → Bool} {e : Ex} (h : ExLe Q e (E orc)) (v0 v1 : Value) (G : GS) : Ref (s55 true e v0 v1 G) ((E orc).cl 55 [v0, v1] G) :=
  fun r hr => cl_sxE_some Q orc (vs := [v0, v1]) G Tryz.func55 (by kernel_rfl) (by kernel_rfl) (by kernel_rfl) (by kernel_rfl) (by kernel_rfl) (by kernel_rfl) (m55 h v0 v1 G r hr)
/-- cmp.isNaN[uint64] -/
noncomputable def s93 (q : Bool) (e : Ex) (v0 : Value) (G : GS) : Option (Value × GS) :=
  bP (bn Q q .neq 23 (.tmp 3) (.tmp 4) v0 v0) fun x0 =>
  some (x0, G)
theorem m93 {e : Ex} {E : Ev} (h : ExLe Q e E) (v0 : Value) (G : GS) : Ref (s93 true e v0 G) (s93 false (Ex.of E) v0 G) := by
  unfold s93
  exact Ref.gq
theorem f93 {orc : FuncId → Bool} {e : Ex} (h : ExLe Q e (E orc)) (v0 : Value) (G : GS) : Ref (s93 true e v0 G) ((E orc).cl 93 [v0] G) :=
  fun r hr => cl_sxE_some Q orc (vs := [v0]) G Tryz.func93 (by kernel_rfl) (by kernel_rfl) (by kernel_rfl) (by kernel_rfl) (by kernel_rfl) (by kernel_rfl) (m93 h v0 G r hr)
noncomputable def clT (orc : FuncId → Bool) (e : Ex) (f : FuncId) (vs : List Value) (G : GS) : Option (Value × GS) :=
  fork f 13 (
fork f 8 (
fork f 4 (
fork f 3 (
leaf f 3 (app3 (s3 true e) vs G)) (
leaf f 4 (app2 (s4 true e) vs G))) (
fork f 7 (
leaf f 7 (app0 (orc 7) (hasTab Q G) (s7 true e) vs G)) (
leaf f 8 (app1 (s8 true e) vs G)))) (
fork f 10 (
fork f 9 (
leaf f 9 (app2 (s9 true e) vs G)) (
leaf f 10 (app2 (s10 true e) vs G))) (
fork f 11 (
leaf f 11 (app2 (s11 true e) vs G)) (
fork f 12 (
leaf f 12 (app2 (s12 true e) vs G)) (
leaf f 13 (app2 (s13 true e) vs G)))))) (
fork f 17 (
fork f 15 (
fork f 14 (
leaf f 14 (app1 (s14 true e) vs G)) (
leaf f 15 (app0 (orc 15) (hasTab Q G) (s15 true e) vs G))) (
fork f 16 (
leaf f 16 (app2 (s16 true e) vs G)) (
leaf f 17 (app1 (s17 true e) vs G)))) (
fork f 53 (
fork f 52 (
leaf f 52 (app2 (s52 true e) vs G)) (
leaf f 53 (app2 (s53 true e) vs G))) (
fork f 54 (
leaf f 54 (srt vs G)) (
fork f 55 (
leaf f 55 (app2 (s55 true e) vs G)) (
leaf f 93 (app1 (s93 true e) vs G))))))
theorem clT_ok {orc : FuncId → Bool} {e : Ex} (h : ExLe Q e (E orc)) (f : FuncId) (vs : List Value) (G : GS) : Ref (clT orc e f vs G) ((E orc).cl f vs G) :=
  Ref.fork (
Ref.fork (
Ref.fork (
Ref.fork (
Ref.leaf (y := fun f => (E orc).cl f vs G) (Ref.app3 (fun u0 u1 u2 G => f3 h u0 u1 u2 G) vs G)) (
Ref.leaf (y := fun f => (E orc).cl f vs G) (Ref.app2 (fun u0 u1 G => f4 h u0 u1 G) vs G))) (
Ref.fork (
Ref.leaf (y := fun f => (E orc).cl f vs G) (Ref.app0 (fun ho G => f7 h ho G) vs G)) (
Ref.leaf (y := fun f => (E orc).cl f vs G) (Ref.app1 (fun u0 G => f8 h u0 G) vs G)))) (
Ref.fork (
Ref.fork (
Ref.leaf (y := fun f => (E orc).cl f vs G) (Ref.app2 (fun u0 u1 G => f9 h u0 u1 G) vs G)) (
Ref.leaf (y := fun f => (E orc).cl f vs G) (Ref.app2 (fun u0 u1 G => f10 h u0 u1 G) vs G))) (
Ref.fork (
Ref.leaf (y := fun f => (E orc).cl f vs G) (Ref.app2 (fun u0 u1 G => f11 h u0 u1 G) vs G)) (
Ref.fork (
Ref.leaf (y := fun f => (E orc).cl f vs G) (Ref.app2 (fun u0 u1 G => f12 h u0 u1 G) vs G)) (
Ref.leaf (y := fun f => (E orc).cl f vs G) (Ref.app2 (fun u0 u1 G => f13 h u0 u1 G) vs G)))))) (
Ref.fork (
Ref.fork (
Ref.fork (
Ref.leaf (y := fun f => (E orc).cl f vs G) (Ref.app1 (fun u0 G => f14 h u0 G) vs G)) (
Ref.leaf (y := fun f => (E orc).cl f vs G) (Ref.app0 (fun ho G => f15 h ho G) vs G))) (
Ref.fork (
Ref.leaf (y := fun f => (E orc).cl f vs G) (Ref.app2 (fun u0 u1 G => f16 h u0 u1 G) vs G)) (
Ref.leaf (y := fun f => (E orc).cl f vs G) (Ref.app1 (fun u0 G => f17 h u0 G) vs G)))) (
Ref.fork (
Ref.fork (
Ref.leaf (y := fun f => (E orc).cl f vs G) (Ref.app2 (fun u0 u1 G => f52 h u0 u1 G) vs G)) (
Ref.leaf (y := fun f => (E orc).cl f vs G) (Ref.app2 (fun u0 u1 G => f53 h u0 u1 G) vs G))) (
Ref.fork (
Ref.leaf (y := fun f => (E orc).cl f vs G) (Ref.srt (P := Q) (by kernel_rfl) (by kernel_rfl) vs G)) (
Ref.fork (
Ref.leaf (y := fun f => (E orc).cl f vs G) (Ref.app2 (fun u0 u1 G => f55 h u0 u1 G) vs G)) (
Ref.leaf (y := fun f => (E orc).cl f vs G) (Ref.app1 (fun u0 G => f93 h u0 G) vs G))))))
noncomputable def lpT (FUEL : Nat) (e : Ex) (f k : Nat) (τ : Env) (G : GS) : Option (Exit × Env × GS) :=
  fork f 12 (
fork f 10 (
fork f 4 (
leaf f 4 (fork k 0 (leaf k 0 (lpS 129 (b4_0 true e) FUEL τ G)) (fork k 1 (leaf k 1 (lpS 129 (b4_1 true e) FUEL τ G)) (leaf k 2 (lpS 129 (b4_2 true e) FUEL τ G))))) (
leaf f 10 (leaf k 0 (lpS 39 (b10_0 true e) FUEL τ G)))) (
fork f 11 (
leaf f 11 (leaf k 0 (lpS 30 (b11_0 true e) FUEL τ G))) (
leaf f 12 (fork k 0 (leaf k 0 (lpS 45 (b12_0 true e) FUEL τ G)) (leaf k 1 (lpS 45 (b12_1 true e) FUEL τ G)))))) (
fork f 14 (
fork f 13 (
leaf f 13 (leaf k 0 (lpS 31 (b13_0 true e) FUEL τ G))) (
leaf f 14 (leaf k 0 (lpS 12 (b14_0 true e) FUEL τ G)))) (
fork f 17 (
leaf f 17 (leaf k 0 (lpS 18 (b17_0 true e) FUEL τ G))) (
fork f 52 (
leaf f 52 (leaf k 0 (lpS 30 (b52_0 true e) FUEL τ G))) (
leaf f 55 (leaf k 0 (lpS 41 (b55_0 true e) FUEL τ G))))))
theorem lpT_ok {orc : FuncId → Bool} {e : Ex} (h : ExLe Q e (E orc)) (FUEL f k : Nat) (τ : Env) (G : GS) : Ref (lpT FUEL e f k τ G) (mapE ((E orc).lp (codeAt Q f k) (lst (nOf Q f) τ) G)) :=
  Ref.fork (
Ref.fork (
Ref.fork (
Ref.leaf (y := fun f => mapE ((E orc).lp (codeAt Q f k) (lst (nOf Q f) τ) G)) (Ref.fork (Ref.leaf (y := fun k => mapE ((E orc).lp (codeAt Q 4 k) (lst (nOf Q 4) τ) G)) (lp_leaf (c := (subAt [1, 1, 1, 1, 1, 1, 0, 1, 0, 0] (bodyOf Tryz.f4))) (l4_0 h) _ _ _)) (Ref.fork (Ref.leaf (y := fun k => mapE ((E orc).lp (codeAt Q 4 k) (lst (nOf Q 4) τ) G)) (lp_leaf (c := (subAt [1, 1, 1, 1, 1, 1, 1, 1, 0, 1, 0, 0] (bodyOf Tryz.f4))) (l4_1 h) _ _ _)) (Ref.leaf (y := fun k => mapE ((E orc).lp (codeAt Q 4 k) (lst (nOf Q 4) τ) G)) (lp_leaf (c := (subAt [1, 1, 1, 1, 1, 1, 1, 1, 0, 1, 0, 0, 1, 0, 0, 1, 1, 0, 0, 0] (bodyOf Tryz.f4))) (l4_2 h) _ _ _))))) (
Ref.leaf (y := fun f => mapE ((E orc).lp (codeAt Q f k) (lst (nOf Q f) τ) G)) (Ref.leaf (y := fun k => mapE ((E orc).lp (codeAt Q 10 k) (lst (nOf Q 10) τ) G)) (lp_leaf (c := (subAt [1, 1, 0, 1, 0, 0] (bodyOf Tryz.f10))) (l10_0 h) _ _ _)))) (
Ref.fork (
Ref.leaf (y := fun f => mapE ((E orc).lp (codeAt Q f k) (lst (nOf Q f) τ) G)) (Ref.leaf (y := fun k => mapE ((E orc).lp (codeAt Q 11 k) (lst (nOf Q 11) τ) G)) (lp_leaf (c := (subAt [1, 1, 0, 1, 0, 0] (bodyOf Tryz.f11))) (l11_0 h) _ _ _))) (
Ref.leaf (y := fun f => mapE ((E orc).lp (codeAt Q f k) (lst (nOf Q f) τ) G)) (Ref.fork (Ref.leaf (y := fun k => mapE ((E orc).lp (codeAt Q 12 k) (lst (nOf Q 12) τ) G)) (lp_leaf (c := (subAt [1, 1, 0, 1, 0, 0] (bodyOf Tryz.f12))) (l12_0 h) _ _ _)) (Ref.leaf (y := fun k => mapE ((E orc).lp (codeAt Q 12 k) (lst (nOf Q 12) τ) G)) (lp_leaf (c := (subAt [1, 1, 0, 1, 0, 0, 1, 0, 0, 1, 0, 0] (bodyOf Tryz.f12))) (l12_1 h) _ _ _)))))) (
Ref.fork (
Ref.fork (
Ref.leaf (y := fun f => mapE ((E orc).lp (codeAt Q f k) (lst (nOf Q f) τ) G)) (Ref.leaf (y := fun k => mapE ((E orc).lp (codeAt Q 13 k) (lst (nOf Q 13) τ) G)) (lp_leaf (c := (subAt [1, 1, 0, 1, 0, 0] (bodyOf Tryz.f13))) (l13_0 h) _ _ _))) (
Ref.leaf (y := fun f => mapE ((E orc).lp (codeAt Q f k) (lst (nOf Q f) τ) G)) (Ref.leaf (y := fun k => mapE ((E orc).lp (codeAt Q 14 k) (lst (nOf Q 14) τ) G)) (lp_leaf (c := (subAt [1, 0, 0] (bodyOf Tryz.f14))) (l14_0 h) _ _ _)))) (
Ref.fork (
Ref.leaf (y := fun f => mapE ((E orc).lp (codeAt Q f k) (lst (nOf Q f) τ) G)) (Ref.leaf (y := fun k => mapE ((E orc).lp (codeAt Q 17 k) (lst (nOf Q 17) τ) G)) (lp_leaf (c := (subAt [1, 1, 0, 1, 0, 0] (bodyOf Tryz.f17))) (l17_0 h) _ _ _))) (
Ref.fork (
Ref.leaf (y := fun f => mapE ((E orc).lp (codeAt Q f k) (lst (nOf Q f) τ) G)) (Ref.leaf (y := fun k => mapE ((E orc).lp (codeAt Q 52 k) (lst (nOf Q 52) τ) G)) (lp_leaf (c := (subAt [1, 1, 0, 1, 0, 0] (bodyOf Tryz.f52))) (l52_0 h) _ _ _))) (
Ref.leaf (y := fun f => mapE ((E orc).lp (codeAt Q f k) (lst (nOf Q f) τ) G)) (Ref.leaf (y := fun k => mapE ((E orc).lp (codeAt Q 55 k) (lst (nOf Q 55) τ) G)) (lp_leaf (c := (subAt [1, 1, 0, 1, 0, 0] (bodyOf Tryz.f55))) (l55_0 h) _ _ _))))))
noncomputable def kE (orc : FuncId → Bool) (n : Nat) : Ex := Nat.rec (motive := fun _ => Ex) ⟨Ev.zero, fun _ _ _ _ => none⟩ (fun _ e => ⟨⟨(evO Q orc 0).ex, clT orc e, (evO Q orc 2000).rd, (evO Q orc 2000).sc, (evO Q orc 0).lp⟩, lpT 6000 e⟩) n
theorem kE_ok (orc : FuncId → Bool) : ∀ n, ExLe Q (kE orc n) (E orc)
  | 0 => ⟨zero_le _, fun _ _ _ _ => .nil _⟩
  | n + 1 => ⟨⟨(le_evL Q orc 0).ex, fun f vs G r hr => clT_ok (kE_ok orc n) f vs G r hr, (le_evL Q orc 2000).rd, (le_evL Q orc 2000).sc, (le_evL Q orc 0).lp⟩, lpT_ok (kE_ok orc n) 6000⟩
/-- what the tables find true is true -/
theorem at_kE {orc : FuncId → Bool} {n f : Nat} {vs : List Value} (h : isTrue ((kE orc n).ev.cl f vs GS.empty) = true) : ∃ G', (E orc).cl f vs GS.empty = some (.bool true, G') := isTrue_of ((kE_ok orc n).ev.cl f vs GS.empty) h
theorem closed_kE {orc : FuncId → Bool} (ho : OrcOk Q orc) (hmix : Q.follows .mixedOrders = true) {n f : Nat} (h : isTrue ((kE orc n).ev.cl f [] GS.empty) = true) (w : World) : Calls Q f #[] w fun e w' => e = .returned (.bool true) ∧ Go.RowKit.Below w.heap.size w w' :=
  let ⟨_, hG⟩ := at_kE h
  law_plain hmix ho hG fun _ => trivial
end Go.Proofs.YtedmgpchggogpaaGreat.Lift
