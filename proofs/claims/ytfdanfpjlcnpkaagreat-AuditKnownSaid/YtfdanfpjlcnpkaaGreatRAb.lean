/- the program's code, spelled out by a program of ours (lift3.lean) -/
import Derived.Test.YtfdanfpjlcnpkaaGreatRAa
namespace Go.Proofs.YtfdanfpjlcnpkaaGreat.Lift
open Go Go.Proofs.YtfdanfpjlcnpkaaGreat.Gh Go.Proofs
set_option linter.unusedVariables false
set_option maxRecDepth 100000
variable {orc : FuncId → Bool} {e : Ex}
noncomputable section
/-- coxswain/arena.sized -/
def s187 (q : Bool) (e : Ex) (v0 : Value) (G : GS) : OG :=
  bS (bx q v0 G) fun x0 G1 =>
  bP (fa Q q 25 0 0 x0) fun x2 =>
  fl q 23 2 2 3 x2 G1 fun x4 =>
  bP (bn Q q .geq 3 (.tmp 5) (.const (.int .i64 1)) x4 (.int .i64 1)) fun x5 =>
  bS (gP x5 true (fa Q q 25 0 0 x0) G1) fun x6 G7 =>
  bS (gP x5 true (fa Q q 23 2 2 x6) G7) fun x8 G9 =>
  bS (gP x5 true (ld Q q 3 x8 G9) G9) fun x10 G11 =>
  bS (gP x5 true (bn Q q .leq 3 (.tmp 10) (.const (.int .i64 4096)) x10 (.int .i64 4096)) G11) fun x12 G13 =>
  bP (pickV x5 x12 (.bool false)) fun x14 =>
  some (x14, G13)
theorem f187 (h : ExLe Q e (E orc)) (v0 : Value) (G : GS) : Ref (s187 true e v0 G) ((E orc).cl 187 [v0] G) := cS (S := fun q e => s187 q e v0 G) Tryz.func187 (by unfold s187; exact Ref.gq)
def jbl188_0_0 (q : Bool) (e : Ex) (lp : LpF) (τ : Env) (G : GS) : OL :=
  bV q (τ 1) fun a1_ =>
  bV q (τ 2) fun a2_ =>
  bV q (τ 4) fun a4_ =>
  bV q (τ 5) fun a5_ =>
  bV q (τ 15) fun a15_ =>
  bV q (τ 16) fun a16_ =>
  bP (fa Q q 23 1 1 a2_) fun x2 =>
  bP (ld Q q 3 x2 (G.room 8)) fun x3 =>
  bP (bn Q q .add 3 (.tmp 27) (.tmp 28) x3 a4_) fun x4 =>
  bS (e.ev.cl 243 [a5_] (G.room 8)) fun x6 G5 =>
  chk ((sameO (ld Q q 3 x2 G5) x3 && true)) <|
  bS (e.ev.cl 16 [a1_, x4, x6] G5) fun x8 G7 =>
  bP (bn Q q .add 3 (.tmp 16) (.const (.int .i64 1)) a16_ (.int .i64 1)) fun x9 =>
  lp (xq q 34 τ [(16, x9), (33, x9), (32, x8), (31, x6), (30, a5_), (29, x4), (28, a4_), (27, x3), (26, x2), (25, a1_)] [(1, a1_), (2, a2_), (4, a4_), (5, a5_), (15, a15_)]) G7
def jl188_0_0 (q : Bool) (e : Ex) (lp : LpF) (τ : Env) (G : GS) : OL := jbl188_0_0 q e lp τ G
theorem mjl188_0_0 {e : Ex} {E : Ev} (h : ExLe Q e E) {lp lp' : LpF} (hlp : LpLe lp lp') (τ : Env) (G : GS) : Ref (jl188_0_0 true e lp τ G) (jl188_0_0 false (Ex.of E) lp' τ G) := by
  unfold jl188_0_0 jbl188_0_0
  exact Ref.gq
theorem mkjl188_0_0 {e : Ex} {E : Ev} (h : ExLe Q e E) {lp lp' : LpF} (hlp : LpLe lp lp') {τ : Env} {l U : List (Nat × Value)} {G : GS} (hU : UOk τ U) : Ref (jl188_0_0 true e lp (xq true 34 τ l U) G) (jl188_0_0 false (Ex.of E) lp' (xq false 34 τ l U) G) := by
  rw [xq_eq hU]
  exact mjl188_0_0 h hlp _ _
def bb188_0 (q : Bool) (e : Ex) (lp : LpF) (J0 : LpF) (τ : Env) (G : GS) : OL :=
  bV q (τ 1) fun a1_ =>
  bV q (τ 2) fun a2_ =>
  bV q (τ 4) fun a4_ =>
  bV q (τ 5) fun a5_ =>
  bV q (τ 15) fun a15_ =>
  bV q (τ 16) fun a16_ =>
  bP (bn Q q .lss 3 (.tmp 16) (.tmp 15) a16_ a15_) fun x0 =>
  ifV x0 (
  bP (bn Q q .add 3 (.tmp 19) (.const (.int .i64 1)) a16_ (.int .i64 1)) fun x1 =>
  bP (fa Q q 23 2 2 a2_) fun x10 =>
  bP (ld Q q 3 x10 G) fun x11 =>
  bP (bn Q q .eql 3 (.tmp 21) (.tmp 23) x1 x11) fun x12 =>
  ifV x12 (
  J0 (xq q 34 τ [(5, (.int .i64 (-1))), (24, x12), (23, x11), (22, x10), (21, x1), (5, x1), (20, x1), (19, a16_), (4, a16_), (18, a16_), (17, x0)] [(1, a1_), (2, a2_), (15, a15_), (16, a16_)]) G) (
  J0 (xq q 34 τ [(24, x12), (23, x11), (22, x10), (21, x1), (5, x1), (20, x1), (19, a16_), (4, a16_), (18, a16_), (17, x0)] [(1, a1_), (2, a2_), (15, a15_), (16, a16_)]) G)) (
  some ((.exit 0), xq q 34 τ [(17, x0)] [(1, a1_), (2, a2_), (4, a4_), (5, a5_), (15, a15_), (16, a16_)], G))
def b188_0 (q : Bool) (e : Ex) (lp : LpF) (τ : Env) (G : GS) : OL := bb188_0 q e lp (jl188_0_0 q e lp) τ G
theorem mb188_0 {e : Ex} {E : Ev} (h : ExLe Q e E) {lp lp' : LpF} (hlp : LpLe lp lp') (τ : Env) (G : GS) : Ref (b188_0 true e lp τ G) (b188_0 false (Ex.of E) lp' τ G) := by
  unfold b188_0 bb188_0
  have j0 := @mkjl188_0_0 e E h lp lp' hlp
  exact Ref.gj
def jtl188_0 (J0 : LpF) : JT (Exit × Env × GS) :=
  (.n none .e (.n none .e (.n none (.n none (.n none .e (.n none .e (.n (some (fun T G => J0 (nth undef T) G)) .e .e))) .e) .e)))
theorem jrl188_0_0 (orc : FuncId → Bool) (J0 : LpF) (T : List Value) (G : GS) : runC Q (evL Q orc) 34 (jtl188_0 J0) (subAt [1, 1, 1, 1, 0, 0] (bodyOf Tryz.f188)) (seqXE (fun τ G' => mapE ((E orc).lp (subAt [1, 1, 1, 1, 0, 0] (bodyOf Tryz.f188)) (lst 34 (nth undef (lst 34 τ))) G')) fun e τ G' => some (e, nth undef (lst 34 τ), G')) [true, true, false, false, true, true] (nth undef T) G = jbl188_0_0 false (Ex.of (E orc)) (fun τ G => mapE ((E orc).lp (subAt [1, 1, 1, 1, 0, 0] (bodyOf Tryz.f188)) (lst 34 τ) G))  (nth undef T) G := by kernel_rfl
theorem jol188_0 (orc : FuncId → Bool) : JOk Q orc 34 (jtl188_0 (jl188_0_0 false (Ex.of (E orc)) (fun τ G => mapE ((E orc).lp (subAt [1, 1, 1, 1, 0, 0] (bodyOf Tryz.f188)) (lst 34 τ) G))) ) (subAt [1, 1, 1, 1, 0, 0] (bodyOf Tryz.f188)) (seqXE (fun τ G' => mapE ((E orc).lp (subAt [1, 1, 1, 1, 0, 0] (bodyOf Tryz.f188)) (lst 34 (nth undef (lst 34 τ))) G')) fun e τ G' => some (e, nth undef (lst 34 τ), G')) :=
  jOk Q orc (l := [([true, true, false, false, true, true], (fun T G => jl188_0_0 false (Ex.of (E orc)) (fun τ G => mapE ((E orc).lp (subAt [1, 1, 1, 1, 0, 0] (bodyOf Tryz.f188)) (lst 34 τ) G)) (nth undef T) G))]) (by kernel_rfl) (AllE.c (fun T G => jrl188_0_0 orc (jl188_0_0 false (Ex.of (E orc)) (fun τ G => mapE ((E orc).lp (subAt [1, 1, 1, 1, 0, 0] (bodyOf Tryz.f188)) (lst 34 τ) G))) T G) (AllE.z))
theorem jel188_0 (orc : FuncId → Bool) (J0 : LpF) (T : List Value) (G : GS) : sxC Q (evL Q orc) 34 (jtl188_0 J0) (subAt [1, 1, 1, 1, 0, 0] (bodyOf Tryz.f188)) (nth undef T) G (seqXE (fun τ G' => mapE ((E orc).lp (subAt [1, 1, 1, 1, 0, 0] (bodyOf Tryz.f188)) (lst 34 (nth undef (lst 34 τ))) G')) fun e τ G' => some (e, nth undef (lst 34 τ), G')) = bb188_0 false (Ex.of (E orc)) (fun τ G => mapE ((E orc).lp (subAt [1, 1, 1, 1, 0, 0] (bodyOf Tryz.f188)) (lst 34 τ) G)) J0 (nth undef T) G := by kernel_rfl
theorem l188_0 {orc : FuncId → Bool} {e : Ex} (h : ExLe Q e (E orc)) (lp : LpF) (hlp : ∀ τ G, Ref (lp τ G) (mapE ((E orc).lp (subAt [1, 1, 1, 1, 0, 0] (bodyOf Tryz.f188)) (lst 34 τ) G))) (T : List Value) (G : GS) (hT : T.length = 34) : Ref (b188_0 true e lp (nth undef T) G) (mapE ((E orc).lp (subAt [1, 1, 1, 1, 0, 0] (bodyOf Tryz.f188)) T G)) :=
  fun r hr => lp_sxC Q orc G (jtl188_0 (jl188_0_0 false (Ex.of (E orc)) (fun τ G => mapE ((E orc).lp (subAt [1, 1, 1, 1, 0, 0] (bodyOf Tryz.f188)) (lst 34 τ) G))) ) hT (jol188_0 orc) (jel188_0 orc (jl188_0_0 false (Ex.of (E orc)) (fun τ G => mapE ((E orc).lp (subAt [1, 1, 1, 1, 0, 0] (bodyOf Tryz.f188)) (lst 34 τ) G))) T G) (mb188_0 h ⟨hlp⟩ _ _ r hr)
/-- coxswain/stack.Fill -/
def s188 (q : Bool) (e : Ex) (v0 v1 : Value) (G : GS) : OG :=
  bS (bx q v0 G) fun x0 G1 =>
  bP (lda Q q 23 3 x0 G1) fun x2 =>
  bS (e.ev.cl 242 [x2] G1) fun x3 G4 =>
  bP (un Q q .not x3) fun x5 =>
  ifV x5 (
  some (.tuple #[], G4)) (
  bP (fa Q q 23 0 0 x0) fun x6 =>
  bP (ld Q q 3 x6 (G4.room 5)) fun x7 =>
  bS (e.ev.cl 243 [(.int .i64 0)] (G4.room 5)) fun x9 G8 =>
  chk ((sameO (ld Q q 3 x6 G8) x7 && true)) <|
  bS (e.ev.cl 16 [v1, x7, x9] G8) fun x11 G10 =>
  bP (fa Q q 23 2 2 x0) fun x12 =>
  bP (ld Q q 3 x12 G10) fun x13 =>
  bLq q e 188 0 (subAt [1, 1, 1, 1, 0, 0] (bodyOf Tryz.f188)) 34 (nth undef [v0, v1]) [(16, (.int .i64 0)), (15, x13), (14, x12), (13, x11), (12, x9), (11, x7), (10, x6), (9, v1), (8, x5), (7, x3), (6, x2), (2, x0)] [] G10 fun e14 t15 G16 =>
  ifE e14 (.exit 0) (
  some (.tuple #[], G16)) (none))
theorem f188 (h : ExLe Q e (E orc)) (v0 v1 : Value) (G : GS) : Ref (s188 true e v0 v1 G) ((E orc).cl 188 [v0, v1] G) := cS (S := fun q e => s188 q e v0 v1 G) Tryz.func188 (by unfold s188; exact Ref.gq)
/-- (*coxswain/ready.Put).alloc$1 -/
def s190 (q : Bool) (e : Ex) (v0 : Value) (G : GS) : OG :=
  bP (ld Q q 68 v0 G) fun x0 =>
  nf q 224 0 0 x0 fun x2 =>
  bP (fa Q q 97 0 0 x2) fun x3 =>
  bP (fa Q q 31 3 3 x3) fun x4 =>
  bP (fa Q q 29 0 0 x4) fun x5 =>
  bP (lda Q q 25 6 x5 G) fun x6 =>
  bS (e.ev.cl 191 [x6] G) fun x7 G8 =>
  some (x7, G8)
theorem f190 (h : ExLe Q e (E orc)) (v0 : Value) (G : GS) : Ref (s190 true e v0 G) ((E orc).cl 190 [v0] G) := cS (S := fun q e => s190 q e v0 G) Tryz.func190 (by unfold s190; exact Ref.gq)
/-- coxswain/arena.NewAlloc -/
def s191 (q : Bool) (e : Ex) (v0 : Value) (G : GS) : OG :=
  bS (bx q v0 G) fun x0 G1 =>
  bP (fa Q q 25 0 0 x0) fun x2 =>
  bP (lda Q q 23 3 x2 (G1.room 7)) fun x3 =>
  bS (e.ev.cl 244 [x3] (G1.room 7)) fun x5 G4 =>
  bP (lda Q q 25 6 x0 G4) fun x6 =>
  chk ((sameO (lda Q q 25 6 x0 (G1.room 7)) x6 && true)) <|
  bP (bd Q q 375 z375 [(0, 0, 1), (1, 1, 6), (2, 7, 1), (3, 8, 1)] [x5, x6, (.bool true), (.func (.func 245) #[] #[])]) fun x7 =>
  bS (bx q x7 (G4.at' (G1.nx + 5))) fun x8 G9 =>
  some (x8, (G9.back G4))
theorem f191 (h : ExLe Q e (E orc)) (v0 : Value) (G : GS) : Ref (s191 true e v0 G) ((E orc).cl 191 [v0] G) := cS (S := fun q e => s191 q e v0 G) Tryz.func191 (by unfold s191; exact Ref.gq)
def b192_0 (q : Bool) (e : Ex) (lp : LpF) (τ : Env) (G : GS) : OL :=
  bV q (τ 2) fun a2_ =>
  bV q (τ 5) fun a5_ =>
  bV q (τ 27) fun a27_ =>
  bV q (τ 28) fun a28_ =>
  bV q (τ 29) fun a29_ =>
  bP (bn Q q .lss 3 (.tmp 29) (.tmp 28) a29_ a28_) fun x0 =>
  ifV x0 (
  bP (ias Q q 376 1 a27_ a29_) fun x1 =>
  bP (ld Q q 105 x1 G) fun x2 =>
  bP (bn Q q .eql 38 (.tmp 33) (.const (.int .i64 7)) a5_ (.int .i64 7)) fun x3 =>
  bS (gP x3 true (ld Q q 68 a2_ G) G) fun x4 G5 =>
  bS (gP x3 true (pNil x4) G5) fun x6 G7 =>
  bS (gP x3 true (fa Q q 224 4 22 x6) G7) fun x8 G9 =>
  bS (gP x3 true (ld Q q 3 x8 G9) G9) fun x10 G11 =>
  bS (gP x3 true (bn Q q .lss 3 (.tmp 39) (.const (.int .i64 3)) x10 (.int .i64 3)) G11) fun x12 G13 =>
  bP (pickV x3 x12 (.bool false)) fun x14 =>
  ifV x14 (
  bP (ld Q q 68 a2_ G13) fun x15 =>
  bP (pNil x15) fun x16 =>
  bP (fa Q q 224 4 22 x16) fun x17 =>
  bP (ld Q q 3 x17 G13) fun x18 =>
  bP (bn Q q .add 3 (.tmp 45) (.const (.int .i64 1)) x18 (.int .i64 1)) fun x19 =>
  bP (pNil x15) fun x20 =>
  bP (fa Q q 224 4 22 x20) fun x21 =>
  bP (st Q q 3 1 x21 x19 G13) fun G22 =>
  bP (ld Q q 68 a2_ (G22.room 13)) fun x23 =>
  bP (pNil x23) fun x24 =>
  bP (fa Q q 224 0 0 x24) fun x25 =>
  bP (ld Q q 68 a2_ (G22.room 13)) fun x26 =>
  bP (pNil x26) fun x27 =>
  bP (fa Q q 224 0 0 x27) fun x28 =>
  bP (ld Q q 68 a2_ (G22.room 13)) fun x29 =>
  bS (bs Q q 376 4 (rep z105 4) 1 [(0, 0, 1), (1, 1, 1), (2, 2, 1), (3, 3, 1)] [(.func (.func 249) #[] #[a2_]), (.func (.func 48) #[x25] #[]), (.func (.func 42) #[x28] #[]), (.func (.func 134) #[x29] #[])] ((G22.room 13).at' (G22.nx + 11))) fun x30 G31 =>
  some ((.goto 0), xq q 91 τ [(6, x30), (60, x30), (59, (.func (.func 134) #[x29] #[])), (58, x29), (57, (.func (.func 42) #[x28] #[])), (56, x28), (55, x27), (54, x26), (53, (.func (.func 48) #[x25] #[])), (52, x25), (51, x24), (50, x23), (49, (.func (.func 249) #[] #[a2_])), (5, (.int .i64 0)), (48, x21), (47, x20), (46, x19), (45, x18), (44, x17), (43, x16), (42, x15), (41, x14), (40, x12), (39, x10), (38, x8), (37, x6), (36, x4), (35, x3), (34, x3), (33, a5_), (8, x2), (32, x2), (31, x1), (30, x0)] [(2, a2_), (27, a27_), (28, a28_), (29, a29_)], (G31.back (G22.room 13)))) (
  bP (bn Q q .neq 38 (.tmp 61) (.const (.int .i64 0)) a5_ (.int .i64 0)) fun x32 =>
  ifV x32 (
  bP (ld Q q 68 a2_ G13) fun x33 =>
  bP (pNil x33) fun x34 =>
  bP (fa Q q 224 0 0 x34) fun x35 =>
  bP (fa Q q 97 6 18 x35) fun x36 =>
  bP (st Q q 38 1 x36 a5_ G13) fun G37 =>
  bP (ld Q q 68 a2_ (G37.room 10)) fun x38 =>
  bP (ld Q q 68 a2_ (G37.room 10)) fun x39 =>
  bP (pNil x39) fun x40 =>
  bP (fa Q q 224 0 0 x40) fun x41 =>
  bS (e.ev.cl 48 [x41] (G37.room 10)) fun x43 G42 =>
  chk ((sameO (ld Q q 68 a2_ G42) x38 && true)) <|
  bS (bs Q q 95 1 (rep z104 1) 1 [(0, 0, 1)] [x43] (G42.at' (G37.nx + 5))) fun x44 G45 =>
  bP (pNil x38) fun x46 =>
  bP (fa Q q 224 0 0 x46) fun x47 =>
  bP (fa Q q 97 4 16 x47) fun x48 =>
  bP (st Q q 95 1 x48 x44 (G45.back G42)) fun G49 =>
  some (.ret, xq q 91 τ [(76, x48), (75, x47), (74, x46), (73, x44), (72, x43), (71, x41), (70, x40), (69, x39), (68, x38), (67, x36), (66, x35), (65, x34), (64, a5_), (63, x33), (62, x32), (61, a5_), (41, x14), (40, x12), (39, x10), (38, x8), (37, x6), (36, x4), (35, x3), (34, x3), (33, a5_), (8, x2), (32, x2), (31, x1), (30, x0)] [(2, a2_), (5, a5_), (27, a27_), (28, a28_), (29, a29_)], G49)) (
  bP (ld Q q 68 a2_ (G13.room 14)) fun x50 =>
  bP (ld Q q 68 a2_ (G13.room 14)) fun x51 =>
  bP (pNil x51) fun x52 =>
  bP (fa Q q 224 0 0 x52) fun x53 =>
  bP (fa Q q 97 4 16 x53) fun x54 =>
  bP (ld Q q 95 x54 (G13.room 14)) fun x55 =>
  bS (cValue e.ev x2 [] (G13.room 14)) fun x57 G56 =>
  chk ((sameO (ld Q q 95 x54 G56) x55 && (sameO (ld Q q 68 a2_ G56) x51 && (sameO (ld Q q 68 a2_ G56) x50 && true)))) <|
  bS (bs Q q 95 1 (rep z104 1) 1 [(0, 0, 1)] [x57] (G56.at' (G13.nx + 8))) fun x58 G59 =>
  bS (ap Q q 95 95 1 16 x55 x58 (G59.back G56)) fun x61 G60 =>
  chk ((sameO (ld Q q 68 a2_ G60) x50 && true)) <|
  bP (pNil x50) fun x62 =>
  bP (fa Q q 224 0 0 x62) fun x63 =>
  bP (fa Q q 97 4 16 x63) fun x64 =>
  bP (st Q q 95 1 x64 x61 G60) fun G65 =>
  bP (bn Q q .add 3 (.tmp 29) (.const (.int .i64 1)) a29_ (.int .i64 1)) fun x66 =>
  lp (xq q 91 τ [(29, x66), (90, x66), (89, x64), (88, x63), (87, x62), (86, x61), (85, x58), (84, x57), (83, x2), (82, x55), (81, x54), (80, x53), (79, x52), (78, x51), (77, x50), (62, x32), (61, a5_), (41, x14), (40, x12), (39, x10), (38, x8), (37, x6), (36, x4), (35, x3), (34, x3), (33, a5_), (8, x2), (32, x2), (31, x1), (30, x0)] [(2, a2_), (5, a5_), (27, a27_), (28, a28_)]) G65))) (
  some ((.exit 0), xq q 91 τ [(30, x0)] [(2, a2_), (5, a5_), (27, a27_), (28, a28_), (29, a29_)], G))
theorem mb192_0 {e : Ex} {E : Ev} (h : ExLe Q e E) {lp lp' : LpF} (hlp : LpLe lp lp') (τ : Env) (G : GS) : Ref (b192_0 true e lp τ G) (b192_0 false (Ex.of E) lp' τ G) := by
  unfold b192_0
  exact Ref.gq
set_option maxHeartbeats 8000000 in
theorem l192_0 {orc : FuncId → Bool} {e : Ex} (h : ExLe Q e (E orc)) (lp : LpF) (hlp : ∀ τ G, Ref (lp τ G) (mapE ((E orc).lp (subAt [1, 0, 1, 1, 1, 1, 1, 0, 0] (bodyOf Tryz.f192)) (lst 91 τ) G))) (T : List Value) (G : GS) (hT : T.length = 91) : Ref (b192_0 true e lp (nth undef T) G) (mapE ((E orc).lp (subAt [1, 0, 1, 1, 1, 1, 1, 0, 0] (bodyOf Tryz.f192)) T G)) :=
  fun r hr => lp_sxN Q orc G hT (by kernel_rfl) (mb192_0 h ⟨hlp⟩ _ _ r hr)
/-- (*coxswain/ready.Put).given -/
def s192 (q : Bool) (e : Ex) (v0 v1 : Value) (G : GS) : OG :=
  bS (bx q v0 G) fun x0 G1 =>
  bS (e.ev.cl 246 [v1] G1) fun x2 G3 =>
  bP (pExtract x2 0) fun x4 =>
  bP (pExtract x2 1) fun x5 =>
  bP (ld Q q 68 x0 G3) fun x6 =>
  bP (pNil x6) fun x7 =>
  bP (fa Q q 224 5 23 x7) fun x8 =>
  bP (st Q q 37 1 x8 x4 G3) fun G9 =>
  bP (ld Q q 68 x0 (G9.room 10)) fun x10 =>
  bP (ld Q q 68 x0 (G9.room 10)) fun x11 =>
  bP (ld Q q 68 x0 (G9.room 10)) fun x12 =>
  bP (pNil x12) fun x13 =>
  bP (fa Q q 224 0 0 x13) fun x14 =>
  bS (bs Q q 376 3 (rep z105 3) 1 [(0, 0, 1), (1, 1, 1), (2, 2, 1)] [(.func (.func 247) #[x10] #[]), (.func (.func 248) #[x11] #[]), (.func (.func 48) #[x14] #[])] ((G9.room 10).at' (G9.nx + 8))) fun x15 G16 =>
  bP (ln Q q 376 x15) fun x17 =>
  bLq q e 192 0 (subAt [1, 0, 1, 1, 1, 1, 1, 0, 0] (bodyOf Tryz.f192)) 91 (nth undef [v0, v1]) [(29, (.int .i64 0)), (28, x17), (27, x15), (6, x15), (26, x15), (25, (.func (.func 48) #[x14] #[])), (24, x14), (23, x13), (22, x12), (21, (.func (.func 248) #[x11] #[])), (20, x11), (19, (.func (.func 247) #[x10] #[])), (18, x10), (17, x8), (16, x7), (15, x4), (14, x6), (5, x5), (4, x4), (13, x5), (12, x4), (9, x2), (11, x2), (10, v1), (2, x0)] [] (G16.back (G9.room 10)) fun e18 t19 G20 =>
  ifE e18 (.exit 0) (
  some (.tuple #[], G20)) (ifE e18 (.goto 0) (
  bX (e.ev.sc (subAt [1, 0] (bodyOf Tryz.f192)) (labelAt 0 (subAt [1, 0] (bodyOf Tryz.f192))) (lsq q 91 t19 []) G20) fun e21 T22 G23 =>
  ifE e21 .normal (
  some (.tuple #[], G23)) (ifE e21 (.goto 0) (
  none) (ifE e21 .ret (
  some (.tuple #[], G23)) (none)))) (ifE e18 .ret (
  some (.tuple #[], G20)) (none)))
theorem m192 {e : Ex} {E : Ev} (h : ExLe Q e E) (v0 v1 : Value) (G : GS) : Ref (s192 true e v0 v1 G) (s192 false (Ex.of E) v0 v1 G) := by
  unfold s192
  exact Ref.gq
set_option maxHeartbeats 8000000 in
theorem f192 {orc : FuncId → Bool} {e : Ex} (h : ExLe Q e (E orc)) (v0 v1 : Value) (G : GS) : Ref (s192 true e v0 v1 G) ((E orc).cl 192 [v0, v1] G) :=
  fun r hr => cl_sxE_some Q orc (vs := [v0, v1]) G Tryz.func192 (by kernel_rfl) (by kernel_rfl) (by kernel_rfl) (by kernel_rfl) (by kernel_rfl) (by kernel_rfl) (m192 h v0 v1 G r hr)
/-- (*coxswain/ready.work).collect$1 -/
def s195 (q : Bool) (e : Ex) (v0 : Value) (G : GS) : OG :=
  bP (ld Q q 115 v0 (G.room 15)) fun x0 =>
  nf q 97 0 0 x0 fun x2 =>
  bP (fa Q q 31 3 3 x2) fun x3 =>
  bP (lda Q q 29 10 x3 (G.room 15)) fun x4 =>
  bP (ld Q q 115 v0 (G.room 15)) fun x5 =>
  nl q 97 1 13 3 x5 (G.room 15) fun x8 =>
  bP (ld Q q 115 v0 (G.room 15)) fun x9 =>
  nl q 97 3 15 3 x9 (G.room 15) fun x12 =>
  bS (e.ev.cl 196 [x4, x8, x12] (G.room 15)) fun x14 G13 =>
  some (x14, G13)
theorem f195 (h : ExLe Q e (E orc)) (v0 : Value) (G : GS) : Ref (s195 true e v0 G) ((E orc).cl 195 [v0] G) := cS (S := fun q e => s195 q e v0 G) Tryz.func195 (by unfold s195; exact Ref.gq)
/-- coxswain/limbo.NewCollect -/
def s196 (q : Bool) (e : Ex) (v0 v1 v2 : Value) (G : GS) : OG :=
  bS (bx q v0 G) fun x0 G1 =>
  bP (bd Q q 318 z318 [(1, 1, 1)] [(.bool true)]) fun x2 =>
  bP (lda Q q 29 10 x0 G1) fun x3 =>
  bP (bd Q q 325 z325 [(0, 0, 3), (1, 3, 10)] [x2, x3]) fun x4 =>
  bS (bx q x4 G1) fun x5 G6 =>
  bP (bn Q q .lss 3 (.tmp 12) (.const (.int .i64 0)) v1 (.int .i64 0)) fun x7 =>
  bS (gV x7 false v1 G6) fun x8 G9 =>
  bS (gP x7 false (fa Q q 29 1 6 x0) G9) fun x10 G11 =>
  bS (gP x7 false (fa Q q 27 2 2 x10) G11) fun x12 G13 =>
  bS (gP x7 false (ld Q q 3 x12 G13) G13) fun x14 G15 =>
  bS (gP x7 false (bn Q q .geq 3 (.tmp 15) (.tmp 18) x8 x14) G15) fun x16 G17 =>
  bP (pickV x7 (.bool true) x16) fun x18 =>
  bS (gV x18 false v2 G17) fun x19 G20 =>
  bS (gP x18 false (bn Q q .lss 3 (.tmp 22) (.const (.int .i64 0)) x19 (.int .i64 0)) G20) fun x21 G22 =>
  bP (pickV x18 (.bool true) x21) fun x23 =>
  ifV x23 (
  nf q 325 0 0 x5 fun x25 =>
  bP (fa Q q 318 2 2 x25) fun x26 =>
  bP (st Q q 38 1 x26 (.int .i64 3) G22) fun G27 =>
  some (x5, G27)) (
  bP (fa Q q 29 1 6 x0) fun x28 =>
  bP (lda Q q 27 3 x28 (G22.room 20)) fun x29 =>
  bS (e.ev.cl 250 [x29, v1, v2] (G22.room 20)) fun x31 G30 =>
  bP (bn Q q .rem 3 (.tmp 37) (.const (.int .i64 3)) v2 (.int .i64 3)) fun x32 =>
  bP (bn Q q .add 3 (.tmp 38) (.const (.int .i64 2)) x32 (.int .i64 2)) fun x33 =>
  bP (bn Q q .rem 3 (.tmp 39) (.const (.int .i64 3)) x33 (.int .i64 3)) fun x34 =>
  bP (lda Q q 29 10 x0 G30) fun x35 =>
  chk ((sameO (lda Q q 29 10 x0 (G22.room 20)) x35 && true)) <|
  bS (e.ev.cl 131 [x34, x35] G30) fun x37 G36 =>
  bS (e.ev.cl 251 [x37] G36) fun x39 G38 =>
  nf q 325 2 13 x5 fun x41 =>
  bP (st Q q 319 1 x41 x31 G38) fun G42 =>
  nf q 325 3 14 x5 fun x44 =>
  bP (st Q q 320 1 x44 x39 G42) fun G45 =>
  nf q 325 0 0 x5 fun x47 =>
  bP (fa Q q 318 0 0 x47) fun x48 =>
  bP (st Q q 316 1 x48 (.func (.func 252) #[x5] #[]) G45) fun G49 =>
  some (x5, G49))
theorem f196 (h : ExLe Q e (E orc)) (v0 v1 v2 : Value) (G : GS) : Ref (s196 true e v0 v1 v2 G) ((E orc).cl 196 [v0, v1, v2] G) := cS (S := fun q e => s196 q e v0 v1 v2 G) Tryz.func196 (by unfold s196; exact Ref.gq)
/-- coxswain/stack.on$1 -/
def s230 (q : Bool) (e : Ex) (v0 v1 : Value) (G : GS) : OG :=
  bP (bn Q q .lss 3 (.tmp 4) (.const (.int .i64 0)) v0 (.int .i64 0)) fun x0 =>
  bS (gV x0 false v0 G) fun x1 G2 =>
  bS (gP x0 false (ld Q q 54 v1 G2) G2) fun x3 G4 =>
  bS (gP x0 false (ln Q q 54 x3) G4) fun x5 G6 =>
  bS (gP x0 false (bn Q q .geq 3 (.tmp 7) (.tmp 9) x1 x5) G6) fun x7 G8 =>
  bP (pickV x0 (.bool true) x7) fun x9 =>
  ifV x9 (
  some ((.int .u64 0), G8)) (
  bP (ld Q q 54 v1 G8) fun x10 =>
  bP (ias Q q 54 1 x10 v0) fun x11 =>
  bP (ld Q q 37 x11 G8) fun x12 =>
  some (x12, G8))
theorem f230 (h : ExLe Q e (E orc)) (v0 v1 : Value) (G : GS) : Ref (s230 true e v0 v1 G) ((E orc).cl 230 [v0, v1] G) := cS (S := fun q e => s230 q e v0 v1 G) Tryz.func230 (by unfold s230; exact Ref.gq)
def b231_0 (q : Bool) (e : Ex) (lp : LpF) (τ : Env) (G : GS) : OL :=
  bV q (τ 0) fun a0_ =>
  bV q (τ 1) fun a1_ =>
  bV q (τ 2) fun a2_ =>
  bV q (τ 4) fun a4_ =>
  bV q (τ 5) fun a5_ =>
  bP (bn Q q .geq 3 (.tmp 12) (.const (.int .i64 0)) a4_ (.int .i64 0)) fun x0 =>
  bS (gV x0 true a5_ G) fun x1 G2 =>
  bS (gP x0 true (fa Q q 23 2 2 a1_) G2) fun x3 G4 =>
  bS (gP x0 true (ld Q q 3 x3 G4) G4) fun x5 G6 =>
  bS (gP x0 true (bn Q q .lss 3 (.tmp 15) (.tmp 17) x1 x5) G6) fun x7 G8 =>
  bP (pickV x0 x7 (.bool false)) fun x9 =>
  bS (gV x9 true a0_ G8) fun x10 G11 =>
  bS (gV x9 true a4_ G11) fun x12 G13 =>
  bS (gS x9 true (cValue e.ev x10 [x12] G13) G13) fun x14 G15 =>
  bP (pickV x9 x14 (.bool false)) fun x16 =>
  ifV x16 (
  bP (lda Q q 23 3 a1_ (G15.room 9)) fun x17 =>
  bP (ld Q q 116 a2_ (G15.room 9)) fun x18 =>
  bP (fa Q q 23 1 1 a1_) fun x19 =>
  bP (ld Q q 3 x19 (G15.room 9)) fun x20 =>
  bP (bn Q q .add 3 (.tmp 30) (.tmp 31) x20 a4_) fun x21 =>
  bS (cValue e.ev x18 [x21] (G15.room 9)) fun x23 G22 =>
  chk ((sameO (lda Q q 23 3 a1_ G22) x17 && true)) <|
  bS (e.ev.cl 232 [x17, x23] G22) fun x25 G24 =>
  bP (bn Q q .add 3 (.tmp 25) (.const (.int .i64 1)) a5_ (.int .i64 1)) fun x26 =>
  lp (xq q 35 τ [(5, x26), (26, x26), (25, a5_), (4, x25), (34, x25), (33, x23), (32, x21), (31, a4_), (30, x20), (29, x19), (28, x18), (27, x17), (24, x16), (23, x14), (22, x12), (21, x10), (20, x9), (19, x9), (18, x7), (17, x5), (16, x3), (15, x1), (14, x0), (13, x0), (12, a4_)] [(0, a0_), (1, a1_), (2, a2_)]) G24) (
  some ((.exit 0), xq q 35 τ [(24, x16), (23, x14), (22, x12), (21, x10), (20, x9), (19, x9), (18, x7), (17, x5), (16, x3), (15, x1), (14, x0), (13, x0), (12, a4_)] [(0, a0_), (1, a1_), (2, a2_), (4, a4_), (5, a5_)], G15))
theorem l231_0 (h : ExLe Q e (E orc)) : LT orc 35 (subAt [1, 1, 0, 0] (bodyOf Tryz.f231)) (b231_0 true e) := cL fun hlp τ G => by unfold b231_0; exact Ref.gq
/-- coxswain/stack.on$2 -/
def s231 (q : Bool) (e : Ex) (v0 v1 v2 : Value) (G : GS) : OG :=
  bP (lda Q q 23 3 v1 (G.room 7)) fun x0 =>
  bP (ld Q q 116 v2 (G.room 7)) fun x1 =>
  bP (fa Q q 23 0 0 v1) fun x2 =>
  bP (ld Q q 3 x2 (G.room 7)) fun x3 =>
  bS (cValue e.ev x1 [x3] (G.room 7)) fun x5 G4 =>
  chk ((sameO (lda Q q 23 3 v1 G4) x0 && true)) <|
  bS (e.ev.cl 232 [x0, x5] G4) fun x7 G6 =>
  bLq q e 231 0 (subAt [1, 1, 0, 0] (bodyOf Tryz.f231)) 35 (nth undef [v0, v1, v2]) [(5, (.int .i64 0)), (4, x7), (11, x7), (10, x5), (9, x3), (8, x2), (7, x1), (6, x0)] [] G6 fun e8 t9 G10 =>
  ifE e8 (.exit 0) (
  some (.tuple #[], G10)) (none)
theorem f231 (h : ExLe Q e (E orc)) (v0 v1 v2 : Value) (G : GS) : Ref (s231 true e v0 v1 v2 G) ((E orc).cl 231 [v0, v1, v2] G) := cS (S := fun q e => s231 q e v0 v1 v2 G) Tryz.func231 (by unfold s231; exact Ref.gq)
/-- coxswain/stack.read -/
def s232 (q : Bool) (e : Ex) (v0 v1 : Value) (G : GS) : OG :=
  bS (bx q v0 G) fun x0 G1 =>
  bS (e.ev.cl 281 [v1] G1) fun x2 G3 =>
  bP (pExtract x2 0) fun x4 =>
  bP (pExtract x2 1) fun x5 =>
  bS (al Q q 340 z340 G3) fun x6 G7 =>
  bP (st Q q 340 2 x6 x4 G7) fun G8 =>
  fl q 340 0 0 3 x6 G8 fun x10 =>
  fl q 23 2 2 3 x0 G8 fun x12 =>
  bP (bn Q q .geq 3 (.tmp 13) (.tmp 15) x10 x12) fun x13 =>
  ifV x13 (
  some ((.int .i64 (-1)), G8)) (
  fl q 340 0 0 3 x6 G8 fun x15 =>
  some (x15, G8))
theorem f232 (h : ExLe Q e (E orc)) (v0 v1 : Value) (G : GS) : Ref (s232 true e v0 v1 G) ((E orc).cl 232 [v0, v1] G) := cS (S := fun q e => s232 q e v0 v1 G) Tryz.func232 (by unfold s232; exact Ref.gq)
def b233_0 (q : Bool) (e : Ex) (lp : LpF) (τ : Env) (G : GS) : OL :=
  bV q (τ 0) fun a0_ =>
  bV q (τ 1) fun a1_ =>
  bV q (τ 2) fun a2_ =>
  bV q (τ 3) fun a3_ =>
  bV q (τ 5) fun a5_ =>
  bV q (τ 6) fun a6_ =>
  bP (bn Q q .geq 3 (.tmp 14) (.const (.int .i64 0)) a5_ (.int .i64 0)) fun x0 =>
  bS (gV x0 true a6_ G) fun x1 G2 =>
  bS (gP x0 true (fa Q q 31 3 3 a1_) G2) fun x3 G4 =>
  bS (gP x0 true (fa Q q 29 0 0 x3) G4) fun x5 G6 =>
  bS (gP x0 true (fa Q q 25 0 0 x5) G6) fun x7 G8 =>
  bS (gP x0 true (fa Q q 23 2 2 x7) G8) fun x9 G10 =>
  bS (gP x0 true (ld Q q 3 x9 G10) G10) fun x11 G12 =>
  bS (gP x0 true (bn Q q .lss 3 (.tmp 17) (.tmp 22) x1 x11) G12) fun x13 G14 =>
  bP (pickV x0 x13 (.bool false)) fun x15 =>
  bS (gV x15 true a0_ G14) fun x16 G17 =>
  bS (gV x15 true a5_ G17) fun x18 G19 =>
  bS (gS x15 true (cValue e.ev x16 [x18] G19) G19) fun x20 G21 =>
  bP (pickV x15 x20 (.bool false)) fun x22 =>
  ifV x22 (
  bP (lda Q q 31 13 a1_ (G21.room 9)) fun x23 =>
  bP (ld Q q 258 a2_ (G21.room 9)) fun x24 =>
  bP (lda Q q 31 13 a1_ (G21.room 9)) fun x25 =>
  bP (ld Q q 3 a3_ (G21.room 9)) fun x26 =>
  bS (e.ev.cl 99 [x25, a5_, x26] (G21.room 9)) fun x28 G27 =>
  chk ((sameO (ld Q q 258 a2_ G27) x24 && (sameO (lda Q q 31 13 a1_ G27) x23 && true))) <|
  bS (e.ev.cl 235 [x24, x28] G27) fun x30 G29 =>
  chk ((sameO (lda Q q 31 13 a1_ G29) x23 && true)) <|
  bS (e.ev.cl 234 [x23, x30] G29) fun x32 G31 =>
  bP (bn Q q .add 3 (.tmp 30) (.const (.int .i64 1)) a6_ (.int .i64 1)) fun x33 =>
  lp (xq q 40 τ [(6, x33), (31, x33), (30, a6_), (5, x32), (39, x32), (38, x30), (37, x28), (36, x26), (35, a5_), (34, x25), (33, x24), (32, x23), (29, x22), (28, x20), (27, x18), (26, x16), (25, x15), (24, x15), (23, x13), (22, x11), (21, x9), (20, x7), (19, x5), (18, x3), (17, x1), (16, x0), (15, x0), (14, a5_)] [(0, a0_), (1, a1_), (2, a2_), (3, a3_)]) G31) (
  some ((.exit 0), xq q 40 τ [(29, x22), (28, x20), (27, x18), (26, x16), (25, x15), (24, x15), (23, x13), (22, x11), (21, x9), (20, x7), (19, x5), (18, x3), (17, x1), (16, x0), (15, x0), (14, a5_)] [(0, a0_), (1, a1_), (2, a2_), (3, a3_), (5, a5_), (6, a6_)], G21))
theorem l233_0 (h : ExLe Q e (E orc)) : LT orc 40 (subAt [1, 1, 0, 0] (bodyOf Tryz.f233)) (b233_0 true e) := cL fun hlp τ G => by unfold b233_0; exact Ref.gq
/-- (coxswain/tower.memory).level$1 -/
def s233 (q : Bool) (e : Ex) (v0 v1 v2 v3 : Value) (G : GS) : OG :=
  bP (lda Q q 31 13 v1 (G.room 8)) fun x0 =>
  bP (ld Q q 258 v2 (G.room 8)) fun x1 =>
  bP (lda Q q 31 13 v1 (G.room 8)) fun x2 =>
  bP (ld Q q 3 v3 (G.room 8)) fun x3 =>
  bS (e.ev.cl 99 [x2, (.int .i64 (-1)), x3] (G.room 8)) fun x5 G4 =>
  chk ((sameO (ld Q q 258 v2 G4) x1 && (sameO (lda Q q 31 13 v1 G4) x0 && true))) <|
  bS (e.ev.cl 235 [x1, x5] G4) fun x7 G6 =>
  chk ((sameO (lda Q q 31 13 v1 G6) x0 && true)) <|
  bS (e.ev.cl 234 [x0, x7] G6) fun x9 G8 =>
  bLq q e 233 0 (subAt [1, 1, 0, 0] (bodyOf Tryz.f233)) 40 (nth undef [v0, v1, v2, v3]) [(6, (.int .i64 0)), (5, x9), (13, x9), (12, x7), (11, x5), (10, x3), (9, x2), (8, x1), (7, x0)] [] G8 fun e10 t11 G12 =>
  ifE e10 (.exit 0) (
  some (.tuple #[], G12)) (none)
theorem f233 (h : ExLe Q e (E orc)) (v0 v1 v2 v3 : Value) (G : GS) : Ref (s233 true e v0 v1 v2 v3 G) ((E orc).cl 233 [v0, v1, v2, v3] G) := cS (S := fun q e => s233 q e v0 v1 v2 v3 G) Tryz.func233 (by unfold s233; exact Ref.gq)
/-- coxswain/tower.index -/
def s234 (q : Bool) (e : Ex) (v0 v1 : Value) (G : GS) : OG :=
  bS (bx q v0 G) fun x0 G1 =>
  bS (e.ev.cl 281 [v1] G1) fun x2 G3 =>
  bP (pExtract x2 0) fun x4 =>
  bP (pExtract x2 1) fun x5 =>
  bS (al Q q 340 z340 G3) fun x6 G7 =>
  bP (st Q q 340 2 x6 x4 G7) fun G8 =>
  fl q 340 0 0 3 x6 G8 fun x10 =>
  bP (fa Q q 31 3 3 x0) fun x11 =>
  bP (fa Q q 29 0 0 x11) fun x12 =>
  bP (fa Q q 25 0 0 x12) fun x13 =>
  fl q 23 2 2 3 x13 G8 fun x15 =>
  bP (bn Q q .geq 3 (.tmp 13) (.tmp 18) x10 x15) fun x16 =>
  ifV x16 (
  some ((.int .i64 (-1)), G8)) (
  fl q 340 0 0 3 x6 G8 fun x18 =>
  some (x18, G8))
theorem f234 (h : ExLe Q e (E orc)) (v0 v1 : Value) (G : GS) : Ref (s234 true e v0 v1 G) ((E orc).cl 234 [v0, v1] G) := cS (S := fun q e => s234 q e v0 v1 G) Tryz.func234 (by unfold s234; exact Ref.gq)
/-- (coxswain/tower.memory).at -/
def s235 (q : Bool) (e : Ex) (v0 v1 : Value) (G : GS) : OG :=
  bP (bn Q q .lss 3 (.tmp 5) (.const (.int .i64 0)) v1 (.int .i64 0)) fun x0 =>
  bS (gV x0 false v1 G) fun x1 G2 =>
  bS (gV x0 false v0 G2) fun x3 G4 =>
  bS (gP x0 false (ln Q q 258 x3) G4) fun x5 G6 =>
  bS (gP x0 false (bn Q q .geq 3 (.tmp 8) (.tmp 10) x1 x5) G6) fun x7 G8 =>
  bP (pickV x0 (.bool true) x7) fun x9 =>
  ifV x9 (
  some ((.int .u64 0), G8)) (
  bP (ias Q q 258 1 v0 v1) fun x10 =>
  bP (ld Q q 37 x10 G8) fun x11 =>
  some (x11, G8))
theorem f235 (h : ExLe Q e (E orc)) (v0 v1 : Value) (G : GS) : Ref (s235 true e v0 v1 G) ((E orc).cl 235 [v0, v1] G) := cS (S := fun q e => s235 q e v0 v1 G) Tryz.func235 (by unfold s235; exact Ref.gq)
/-- coxswain/word.refs -/
def s236 (q : Bool) (e : Ex) (G : GS) : OG :=
  bS (al Q q 363 z363 G) fun x0 G1 =>
  bP (bd Q q 362 z362 [(0, 0, 1), (1, 1, 1)] [(.int .i64 0), (.int .i64 16)]) fun x2 =>
  bP (bd Q q 362 z362 [(0, 0, 1), (1, 1, 1)] [(.int .i64 16), (.int .i64 32)]) fun x3 =>
  bP (bd Q q 363 z363 [(0, 0, 2), (1, 2, 2)] [x2, x3]) fun x4 =>
  bP (st Q q 363 4 x0 x4 G1) fun G5 =>
  bP (lda Q q 363 4 x0 G5) fun x6 =>
  some (x6, G5)
theorem f236 (h : ExLe Q e (E orc)) (ho : orc 236 = false) (G : GS) : Ref (s236 true e  G) ((E orc).cl 236 [] G) := cS (S := fun q e => s236 q e  G) (ho := ho) Tryz.func236 (by unfold s236; exact Ref.gq)
/-- (coxswain/word.raw).take -/
def s237 (q : Bool) (e : Ex) (v0 v1 : Value) (G : GS) : OG :=
  bS (bx q v1 G) fun x0 G1 =>
  fl q 362 0 0 3 x0 (G1.room 11) fun x3 =>
  bP (bn Q q .shr 37 (.tmp 5) (.tmp 7) v0 x3) fun x4 =>
  fl q 362 1 1 3 x0 (G1.room 11) fun x6 =>
  bP (bn Q q .shl 37 (.const (.int .u64 1)) (.tmp 10) (.int .u64 1) x6) fun x7 =>
  bP (bn Q q .sub 37 (.tmp 11) (.const (.int .u64 1)) x7 (.int .u64 1)) fun x8 =>
  bP (bn Q q .and 37 (.tmp 8) (.tmp 12) x4 x8) fun x9 =>
  bP (cv Q q 37 3 .u64 .i64 x9) fun x10 =>
  some (x10, (G1.room 11))
theorem f237 (h : ExLe Q e (E orc)) (v0 v1 : Value) (G : GS) : Ref (s237 true e v0 v1 G) ((E orc).cl 237 [v0, v1] G) := cS (S := fun q e => s237 q e v0 v1 G) Tryz.func237 (by unfold s237; exact Ref.gq)
/-- coxswain/word.Marked -/
def s238 (q : Bool) (e : Ex) (v0 : Value) (G : GS) : OG :=
  bP (bn Q q .shr 37 (.tmp 3) (.const (.int .u64 63)) v0 (.int .u64 63)) fun x0 =>
  bP (bn Q q .eql 37 (.tmp 4) (.const (.int .u64 1)) x0 (.int .u64 1)) fun x1 =>
  some (x1, G)
theorem f238 (h : ExLe Q e (E orc)) (v0 : Value) (G : GS) : Ref (s238 true e v0 G) ((E orc).cl 238 [v0] G) := cS (S := fun q e => s238 q e v0 G) Tryz.func238 (by unfold s238; exact Ref.gq)
/-- coxswain/word.PutRef -/
def s239 (q : Bool) (e : Ex) (v0 : Value) (G : GS) : OG :=
  bS (bx q v0 G) fun x0 G1 =>
  fl q 270 0 0 3 x0 G1 fun x3 =>
  bP (bd Q q 404 z404 [(0, 0, 1), (1, 1, 1), (2, 2, 1)] [x3, (.int .i64 (-1)), (.int .i64 65534)]) fun x4 =>
  fl q 270 1 1 3 x0 G1 fun x6 =>
  bP (bd Q q 404 z404 [(0, 0, 1), (1, 1, 1), (2, 2, 1)] [x6, (.int .i64 0), (.int .i64 4294967295)]) fun x7 =>
  bS (bs Q q 440 2 (rep z404 2) 3 [(0, 0, 3), (1, 3, 3)] [x4, x7] G1) fun x8 G9 =>
  bS (e.ev.cl 282 [x8] G9) fun x10 G11 =>
  bP (un Q q .not x10) fun x12 =>
  ifV x12 (
  some (.tuple #[(.int .u64 0), (.int .i64 3)], G11)) (
  fl q 270 0 0 3 x0 G11 fun x14 =>
  bP (bn Q q .eql 3 (.tmp 17) (.const (.int .i64 (-1))) x14 (.int .i64 (-1))) fun x15 =>
  bS (gP x15 true (fa Q q 270 1 1 x0) G11) fun x16 G17 =>
  bS (gP x15 true (ld Q q 3 x16 G17) G17) fun x18 G19 =>
  bS (gP x15 true (bn Q q .neq 3 (.tmp 21) (.const (.int .i64 0)) x18 (.int .i64 0)) G19) fun x20 G21 =>
  bP (pickV x15 x20 (.bool false)) fun x22 =>
  ifV x22 (
  some (.tuple #[(.int .u64 0), (.int .i64 5)], G21)) (
  bS (e.ev.cl 236 [] G21) fun x23 G24 =>
  bS (al Q q 363 z363 G24) fun x25 G26 =>
  bP (st Q q 363 4 x25 x23 G26) fun G27 =>
  bP (sla Q q 363 2 2 x25 none none none (G27.room 13)) fun x28 =>
  fl q 270 0 0 3 x0 (G27.room 13) fun x30 =>
  bP (bn Q q .add 3 (.tmp 27) (.const (.int .i64 1)) x30 (.int .i64 1)) fun x31 =>
  fl q 270 1 1 3 x0 (G27.room 13) fun x33 =>
  bS (bs Q q 127 2 (rep z3 2) 1 [(0, 0, 1), (1, 1, 1)] [x31, x33] ((G27.room 13).at' (G27.nx + 6))) fun x34 G35 =>
  bS (e.ev.cl 284 [x28, x34] (G35.back (G27.room 13))) fun x37 G36 =>
  bP (fa Q q 270 2 2 x0) fun x38 =>
  bP (ld Q q 4 x38 G36) fun x39 =>
  chk ((sameO (ld Q q 4 x38 (G35.back (G27.room 13))) x39 && true)) <|
  bS (e.ev.cl 283 [x37, x39] G36) fun x41 G40 =>
  some (.tuple #[x41, (.int .i64 0)], G40)))
theorem f239 (h : ExLe Q e (E orc)) (v0 : Value) (G : GS) : Ref (s239 true e v0 G) ((E orc).cl 239 [v0] G) := cS (S := fun q e => s239 q e v0 G) Tryz.func239 (by unfold s239; exact Ref.gq)
/-- (*coxswain/cells.Mem).Load -/
def s240 (q : Bool) (e : Ex) (v0 v1 : Value) (G : GS) : OG :=
  bS (e.ev.cl 58 [v0, v1] G) fun x0 G1 =>
  bP (bd Q q 122 z122 [(0, 0, 1)] [x0]) fun x2 =>
  bS (al Q q 122 z122 G1) fun x3 G4 =>
  bP (st Q q 122 3 x3 x2 G4) fun G5 =>
  fl q 122 0 0 119 x3 G5 fun x7 =>
  bP (lda Q q 122 3 x3 G5) fun x8 =>
  bS (e.ev.cl 59 [v0, (.int .i64 1), v1, x7, (.func (.func 285) #[x8] #[])] G5) fun x9 G10 =>
  bP (fd Q q 80 3 3 x9) fun x11 =>
  some (x11, G10)
theorem f240 (h : ExLe Q e (E orc)) (v0 v1 : Value) (G : GS) : Ref (s240 true e v0 v1 G) ((E orc).cl 240 [v0, v1] G) := cS (S := fun q e => s240 q e v0 v1 G) Tryz.func240 (by unfold s240; exact Ref.gq)
def b241_0 (q : Bool) (e : Ex) (lp : LpF) (τ : Env) (G : GS) : OL :=
  bV q (τ 0) fun a0_ =>
  bV q (τ 1) fun a1_ =>
  bV q (τ 5) fun a5_ =>
  bV q (τ 6) fun a6_ =>
  bP (bn Q q .lss 3 (.tmp 6) (.tmp 5) a6_ a5_) fun x0 =>
  ifV x0 (
  bP (fa Q q 27 1 1 a1_) fun x1 =>
  bP (ld Q q 3 x1 G) fun x2 =>
  bP (bn Q q .add 3 (.tmp 12) (.tmp 13) x2 a6_) fun x3 =>
  bS (cValue e.ev a0_ [a6_, x3] G) fun x4 G5 =>
  bP (un Q q .not x4) fun x6 =>
  ifV x6 (
  some (.ret, xq q 18 τ [(16, x6), (15, x4), (14, x3), (13, a6_), (12, x2), (11, x1), (10, a6_), (9, a0_), (3, a6_), (8, a6_), (7, x0)] [(0, a0_), (1, a1_), (5, a5_), (6, a6_)], G5)) (
  bP (bn Q q .add 3 (.tmp 6) (.const (.int .i64 1)) a6_ (.int .i64 1)) fun x7 =>
  lp (xq q 18 τ [(6, x7), (17, x7), (16, x6), (15, x4), (14, x3), (13, a6_), (12, x2), (11, x1), (10, a6_), (9, a0_), (3, a6_), (8, a6_), (7, x0)] [(0, a0_), (1, a1_), (5, a5_)]) G5)) (
  some ((.exit 0), xq q 18 τ [(7, x0)] [(0, a0_), (1, a1_), (5, a5_), (6, a6_)], G))
theorem l241_0 (h : ExLe Q e (E orc)) : LT orc 18 (subAt [1, 0, 0] (bodyOf Tryz.f241)) (b241_0 true e) := cL fun hlp τ G => by unfold b241_0; exact Ref.gq
/-- coxswain/epoch.pins$1 -/
def s241 (q : Bool) (e : Ex) (v0 v1 : Value) (G : GS) : OG :=
  bP (fa Q q 27 2 2 v1) fun x0 =>
  bP (ld Q q 3 x0 G) fun x1 =>
  bLq q e 241 0 (subAt [1, 0, 0] (bodyOf Tryz.f241)) 18 (nth undef [v0, v1]) [(6, (.int .i64 0)), (5, x1), (4, x0)] [] G fun e2 t3 G4 =>
  ifE e2 (.exit 0) (
  some (.tuple #[], G4)) (ifE e2 .ret (
  some (.tuple #[], G4)) (none))
theorem f241 (h : ExLe Q e (E orc)) (v0 v1 : Value) (G : GS) : Ref (s241 true e v0 v1 G) ((E orc).cl 241 [v0, v1] G) := cS (S := fun q e => s241 q e v0 v1 G) Tryz.func241 (by unfold s241; exact Ref.gq)
/-- coxswain/stack.sized -/
def s242 (q : Bool) (e : Ex) (v0 : Value) (G : GS) : OG :=
  bS (bx q v0 G) fun x0 G1 =>
  fl q 23 2 2 3 x0 G1 fun x3 =>
  bP (bn Q q .geq 3 (.tmp 4) (.const (.int .i64 1)) x3 (.int .i64 1)) fun x4 =>
  bS (gP x4 true (fa Q q 23 2 2 x0) G1) fun x5 G6 =>
  bS (gP x4 true (ld Q q 3 x5 G6) G6) fun x7 G8 =>
  bS (gP x4 true (bn Q q .leq 3 (.tmp 8) (.const (.int .i64 4096)) x7 (.int .i64 4096)) G8) fun x9 G10 =>
  bP (pickV x4 x9 (.bool false)) fun x11 =>
  some (x11, G10)
theorem f242 (h : ExLe Q e (E orc)) (v0 : Value) (G : GS) : Ref (s242 true e v0 G) ((E orc).cl 242 [v0] G) := cS (S := fun q e => s242 q e v0 G) Tryz.func242 (by unfold s242; exact Ref.gq)
/-- coxswain/stack.link -/
def s243 (q : Bool) (e : Ex) (v0 : Value) (G : GS) : OG :=
  bP (bd Q q 340 z340 [(0, 0, 1)] [v0]) fun x0 =>
  bS (e.ev.cl 286 [x0] G) fun x1 G2 =>
  bP (pExtract x1 0) fun x3 =>
  bP (pExtract x1 1) fun x4 =>
  some (x3, G2)
theorem f243 (h : ExLe Q e (E orc)) (v0 : Value) (G : GS) : Ref (s243 true e v0 G) ((E orc).cl 243 [v0] G) := cS (S := fun q e => s243 q e v0 G) Tryz.func243 (by unfold s243; exact Ref.gq)
/-- coxswain/stack.NewPop -/
def s244 (q : Bool) (e : Ex) (v0 : Value) (G : GS) : OG :=
  bS (bx q v0 G) fun x0 G1 =>
  bP (lda Q q 23 3 x0 G1) fun x2 =>
  bP (bd Q q 410 z410 [(0, 0, 3), (4, 6, 1)] [x2, (.bool true)]) fun x3 =>
  bP (bd Q q 413 z413 [(0, 0, 9), (1, 9, 1)] [x3, (.func (.func 287) #[] #[])]) fun x4 =>
  bS (bx q x4 G1) fun x5 G6 =>
  some (x5, G6)
theorem f244 (h : ExLe Q e (E orc)) (v0 : Value) (G : GS) : Ref (s244 true e v0 G) ((E orc).cl 244 [v0] G) := cS (S := fun q e => s244 q e v0 G) Tryz.func244 (by unfold s244; exact Ref.gq)
/-- (*coxswain/arena.Alloc).pop -/
def s245 (q : Bool) (e : Ex) (v0 v1 : Value) (G : GS) : OG :=
  nl q 375 0 0 371 v0 G fun x2 =>
  bS (e.ev.cl 288 [x2, v1] G) fun x3 G4 =>
  bP (un Q q .not x3) fun x5 =>
  ifV x5 (
  some (.tuple #[], G4)) (
  nl q 375 0 0 371 v0 G4 fun x8 =>
  bS (e.ev.cl 289 [x8] G4) fun x9 G10 =>
  bP (pExtract x9 0) fun x11 =>
  bP (pExtract x9 1) fun x12 =>
  nf q 375 4 9 v0 fun x14 =>
  bP (st Q q 3 1 x14 x11 G10) fun G15 =>
  nf q 375 3 8 v0 fun x17 =>
  bP (st Q q 373 1 x17 (.func (.func 290) #[] #[]) G15) fun G18 =>
  bP (bn Q q .neq 38 (.tmp 28) (.const (.int .i64 0)) x12 (.int .i64 0)) fun x19 =>
  ifV x19 (
  nf q 375 3 8 v0 fun x21 =>
  bP (st Q q 373 1 x21 (.func (.func 291) #[] #[]) G18) fun G22 =>
  some (.tuple #[], G22)) (
  some (.tuple #[], G18)))
theorem f245 (h : ExLe Q e (E orc)) (v0 v1 : Value) (G : GS) : Ref (s245 true e v0 v1 G) ((E orc).cl 245 [v0, v1] G) := cS (S := fun q e => s245 q e v0 v1 G) Tryz.func245 (by unfold s245; exact Ref.gq)
/-- (*coxswain/arena.Alloc).Ref -/
def s246 (q : Bool) (e : Ex) (v0 : Value) (G : GS) : OG :=
  bP (ep Q q false 296 (.tmp 5) (.const (.pointer none)) v0 (.pointer none)) fun x0 =>
  bS (gV x0 false v0 G) fun x1 G2 =>
  bS (gP x0 false (pNil x1) G2) fun x3 G4 =>
  bS (gP x0 false (fa Q q 375 2 7 x3) G4) fun x5 G6 =>
  bS (gP x0 false (ld Q q 4 x5 G6) G6) fun x7 G8 =>
  bS (gP x0 false (un Q q .not x7) G8) fun x9 G10 =>
  bP (pickV x0 (.bool true) x9) fun x11 =>
  ifV x11 (
  some (.tuple #[(.int .u64 0), (.int .i64 1)], G10)) (
  nl q 375 3 8 373 v0 G10 fun x14 =>
  bP (ef Q q true 373 (.tmp 18) (.const .nilFunc) x14 .nilFunc) fun x15 =>
  ifV x15 (
  some (.tuple #[(.int .u64 0), (.int .i64 14)], G10)) (
  nl q 375 5 10 37 v0 (G10.room 10) fun x18 =>
  nl q 375 6 11 38 v0 (G10.room 10) fun x21 =>
  some (.tuple #[x18, x21], (G10.room 10))))
theorem f246 (h : ExLe Q e (E orc)) (v0 : Value) (G : GS) : Ref (s246 true e v0 G) ((E orc).cl 246 [v0] G) := cS (S := fun q e => s246 q e v0 G) Tryz.func246 (by unfold s246; exact Ref.gq)
/-- (*coxswain/ready.Put).lay -/
def s247 (q : Bool) (e : Ex) (v0 : Value) (G : GS) : OG :=
  bS (bx q v0 G) fun x0 G1 =>
  bP (bd Q q 421 z421 [(0, 0, 1), (1, 1, 1)] [(.func (.func 292) #[] #[x0]), (.func (.func 294) #[] #[])]) fun x2 =>
  bS (bx q x2 G1) fun x3 G4 =>
  bP (ifc Q q 414 x3) fun x5 =>
  some (x5, G4)
theorem f247 (h : ExLe Q e (E orc)) (v0 : Value) (G : GS) : Ref (s247 true e v0 G) ((E orc).cl 247 [v0] G) := cS (S := fun q e => s247 q e v0 G) Tryz.func247 (by unfold s247; exact Ref.gq)
/-- (*coxswain/ready.Put).link -/
def s248 (q : Bool) (e : Ex) (v0 : Value) (G : GS) : OG :=
  bS (bx q v0 G) fun x0 G1 =>
  bP (bd Q q 429 z429 [(0, 0, 1), (1, 1, 1)] [(.func (.func 295) #[] #[x0]), (.func (.func 297) #[] #[])]) fun x2 =>
  bS (bx q x2 G1) fun x3 G4 =>
  bP (ifc Q q 422 x3) fun x5 =>
  some (x5, G4)
theorem f248 (h : ExLe Q e (E orc)) (v0 : Value) (G : GS) : Ref (s248 true e v0 G) ((E orc).cl 248 [v0] G) := cS (S := fun q e => s248 q e v0 G) Tryz.func248 (by unfold s248; exact Ref.gq)
/-- (*coxswain/ready.Put).given$1 -/
def s249 (q : Bool) (e : Ex) (v0 : Value) (G : GS) : OG :=
  bP (ld Q q 68 v0 G) fun x0 =>
  nf q 224 0 0 x0 fun x2 =>
  bS (e.ev.cl 144 [x2, .nilFunc] G) fun x3 G4 =>
  some (x3, G4)
theorem f249 (h : ExLe Q e (E orc)) (v0 : Value) (G : GS) : Ref (s249 true e v0 G) ((E orc).cl 249 [v0] G) := cS (S := fun q e => s249 q e v0 G) Tryz.func249 (by unfold s249; exact Ref.gq)
/-- coxswain/epoch.NewAdvance -/
def s250 (q : Bool) (e : Ex) (v0 v1 v2 : Value) (G : GS) : OG :=
  bS (bx q v0 G) fun x0 G1 =>
  bP (bd Q q 277 z277 [(2, 4, 1)] [(.bool true)]) fun x2 =>
  bP (lda Q q 27 3 x0 G1) fun x3 =>
  bP (bd Q q 431 z431 [(0, 0, 6), (1, 6, 3), (2, 9, 1), (3, 10, 1)] [x2, x3, v1, v2]) fun x4 =>
  bS (bx q x4 G1) fun x5 G6 =>
  bP (lda Q q 27 3 x0 G6) fun x7 =>
  bS (e.ev.cl 175 [x7, v1] G6) fun x8 G9 =>
  ifV x8 (
  nf q 431 0 0 x5 fun x11 =>
  bS (e.ev.cl 176 [x11, (.int .i64 3)] G9) fun x12 G13 =>
  some (x5, G13)) (
  bP (bd Q q 275 z275 [(0, 0, 1), (1, 1, 1), (2, 2, 1)] [(.func (.func 298) #[x5] #[]), (.func (.func 299) #[x5] #[]), (.func (.func 300) #[x5] #[])]) fun x14 =>
  nf q 431 0 0 x5 fun x16 =>
  bP (fa Q q 277 0 0 x16) fun x17 =>
  bP (st Q q 275 3 x17 x14 G9) fun G18 =>
  some (x5, G18))
theorem f250 (h : ExLe Q e (E orc)) (v0 v1 v2 : Value) (G : GS) : Ref (s250 true e v0 v1 v2 G) ((E orc).cl 250 [v0, v1, v2] G) := cS (S := fun q e => s250 q e v0 v1 v2 G) Tryz.func250 (by unfold s250; exact Ref.gq)
/-- coxswain/stack.NewAll -/
def s251 (q : Bool) (e : Ex) (v0 : Value) (G : GS) : OG :=
  bS (bx q v0 G) fun x0 G1 =>
  bP (lda Q q 23 3 x0 G1) fun x2 =>
  bP (bd Q q 410 z410 [(0, 0, 3), (4, 6, 1)] [x2, (.bool true)]) fun x3 =>
  bP (bd Q q 434 z434 [(0, 0, 9), (1, 9, 1)] [x3, (.func (.func 301) #[] #[])]) fun x4 =>
  bS (bx q x4 G1) fun x5 G6 =>
  some (x5, G6)
theorem f251 (h : ExLe Q e (E orc)) (v0 : Value) (G : GS) : Ref (s251 true e v0 G) ((E orc).cl 251 [v0] G) := cS (S := fun q e => s251 q e v0 G) Tryz.func251 (by unfold s251; exact Ref.gq)
/-- (*coxswain/limbo.Collect).advances -/
def s252 (q : Bool) (e : Ex) (v0 v1 : Value) (G : GS) : OG :=
  nl q 325 2 13 319 v0 G fun x2 =>
  bS (e.ev.cl 302 [x2, v1] G) fun x3 G4 =>
  bP (un Q q .not x3) fun x5 =>
  ifV x5 (
  some ((.func (.func 252) #[v0] #[]), G4)) (
  nl q 325 2 13 319 v0 G4 fun x8 =>
  bS (e.ev.cl 303 [x8] G4) fun x9 G10 =>
  nf q 325 0 0 v0 fun x12 =>
  bP (fa Q q 318 2 2 x12) fun x13 =>
  bP (st Q q 38 1 x13 x9 G10) fun G14 =>
  nf q 325 0 0 v0 fun x16 =>
  fl q 318 2 2 38 x16 G14 fun x18 =>
  bP (bn Q q .neq 38 (.tmp 27) (.const (.int .i64 0)) x18 (.int .i64 0)) fun x19 =>
  ifV x19 (
  some (.nilFunc, G14)) (
  some ((.func (.func 304) #[v0] #[]), G14)))
theorem f252 (h : ExLe Q e (E orc)) (v0 v1 : Value) (G : GS) : Ref (s252 true e v0 v1 G) ((E orc).cl 252 [v0, v1] G) := cS (S := fun q e => s252 q e v0 v1 G) Tryz.func252 (by unfold s252; exact Ref.gq)
/-- coxswain/word.GetTop -/
def s281 (q : Bool) (e : Ex) (v0 : Value) (G : GS) : OG :=
  bS (al Q q 340 z340 G) fun x0 G1 =>
  bS (e.ev.cl 314 [] G1) fun x2 G3 =>
  bS (al Q q 363 z363 G3) fun x4 G5 =>
  bP (st Q q 363 4 x4 x2 G5) fun G6 =>
  bP (iaa Q q 363 2 2 x4 (.int .i64 0)) fun x7 =>
  bP (lda Q q 362 2 x7 (G6.room 12)) fun x8 =>
  bS (e.ev.cl 237 [v0, x8] (G6.room 12)) fun x10 G9 =>
  bP (bn Q q .sub 3 (.tmp 9) (.const (.int .i64 1)) x10 (.int .i64 1)) fun x11 =>
  bP (iaa Q q 363 2 2 x4 (.int .i64 1)) fun x12 =>
  bP (lda Q q 362 2 x12 G9) fun x13 =>
  chk ((sameO (lda Q q 362 2 x12 (G6.room 12)) x13 && true)) <|
  bS (e.ev.cl 237 [v0, x13] G9) fun x15 G14 =>
  bP (bd Q q 340 z340 [(0, 0, 1), (1, 1, 1)] [x11, x15]) fun x16 =>
  bP (st Q q 340 2 x0 x16 G14) fun G17 =>
  bP (lda Q q 340 2 x0 G17) fun x18 =>
  some (.tuple #[x18, (.int .i64 0)], G17)
theorem f281 (h : ExLe Q e (E orc)) (v0 : Value) (G : GS) : Ref (s281 true e v0 G) ((E orc).cl 281 [v0] G) := cS (S := fun q e => s281 q e v0 G) Tryz.func281 (by unfold s281; exact Ref.gq)
def b282_0 (q : Bool) (e : Ex) (lp : LpF) (τ : Env) (G : GS) : OL :=
  bV q (τ 5) fun a5_ =>
  bV q (τ 6) fun a6_ =>
  bV q (τ 7) fun a7_ =>
  bP (bn Q q .lss 3 (.tmp 7) (.tmp 6) a7_ a6_) fun x0 =>
  ifV x0 (
  bP (ias Q q 440 3 a5_ a7_) fun x1 =>
  bP (lda Q q 404 3 x1 G) fun x2 =>
  bS (al Q q 404 z404 G) fun x3 G4 =>
  bP (st Q q 404 3 x3 x2 G4) fun G5 =>
  bP (fa Q q 404 0 0 x3) fun x6 =>
  bP (ld Q q 3 x6 G5) fun x7 =>
  bP (fa Q q 404 1 1 x3) fun x8 =>
  bP (ld Q q 3 x8 G5) fun x9 =>
  bP (bn Q q .lss 3 (.tmp 12) (.tmp 14) x7 x9) fun x10 =>
  bS (gP x10 false (fa Q q 404 0 0 x3) G5) fun x11 G12 =>
  bS (gP x10 false (ld Q q 3 x11 G12) G12) fun x13 G14 =>
  bS (gP x10 false (fa Q q 404 2 2 x3) G14) fun x15 G16 =>
  bS (gP x10 false (ld Q q 3 x15 G16) G16) fun x17 G18 =>
  bS (gP x10 false (bn Q q .gtr 3 (.tmp 18) (.tmp 20) x13 x17) G18) fun x19 G20 =>
  bP (pickV x10 (.bool true) x19) fun x21 =>
  ifV x21 (
  some (.ret, xq q 24 τ [(2, (.bool false)), (22, x21), (21, x19), (20, x17), (19, x15), (18, x13), (17, x11), (16, x10), (15, x10), (14, x9), (13, x8), (12, x7), (11, x6), (4, x3), (10, x2), (9, x1), (8, x0)] [(5, a5_), (6, a6_), (7, a7_)], G20)) (
  bP (bn Q q .add 3 (.tmp 7) (.const (.int .i64 1)) a7_ (.int .i64 1)) fun x22 =>
  lp (xq q 24 τ [(7, x22), (23, x22), (22, x21), (21, x19), (20, x17), (19, x15), (18, x13), (17, x11), (16, x10), (15, x10), (14, x9), (13, x8), (12, x7), (11, x6), (4, x3), (10, x2), (9, x1), (8, x0)] [(5, a5_), (6, a6_)]) G20)) (
  some ((.exit 0), xq q 24 τ [(8, x0)] [(5, a5_), (6, a6_), (7, a7_)], G))
theorem l282_0 (h : ExLe Q e (E orc)) : LT orc 24 (subAt [1, 0, 1, 0, 0] (bodyOf Tryz.f282)) (b282_0 true e) := cL fun hlp τ G => by unfold b282_0; exact Ref.gq
/-- coxswain/word.within -/
def s282 (q : Bool) (e : Ex) (v0 : Value) (G : GS) : OG :=
  bP (ln Q q 440 v0) fun x0 =>
  bLq q e 282 0 (subAt [1, 0, 1, 0, 0] (bodyOf Tryz.f282)) 24 (nth undef [v0]) [(7, (.int .i64 0)), (6, x0), (5, v0), (2, (.bool false))] [] G fun e1 t2 G3 =>
  bV q (t2 2) fun t2x2_ =>
  ifE e1 (.exit 0) (
  some ((.bool true), G3)) (ifE e1 .ret (
  some (t2x2_, G3)) (none))
theorem f282 (h : ExLe Q e (E orc)) (v0 : Value) (G : GS) : Ref (s282 true e v0 G) ((E orc).cl 282 [v0] G) := cS (S := fun q e => s282 q e v0 G) Tryz.func282 (by unfold s282; exact Ref.gq)
/-- coxswain/word.Marks -/
def s283 (q : Bool) (e : Ex) (v0 v1 : Value) (G : GS) : OG :=
  ifV v1 (
  bP (bn Q q .or 37 (.tmp 6) (.const (.int .u64 9223372036854775808)) v0 (.int .u64 9223372036854775808)) fun x0 =>
  some (x0, G)) (
  bP (bn Q q .andNot 37 (.tmp 8) (.const (.int .u64 9223372036854775808)) v0 (.int .u64 9223372036854775808)) fun x1 =>
  some (x1, G))
theorem f283 (h : ExLe Q e (E orc)) (v0 v1 : Value) (G : GS) : Ref (s283 true e v0 v1 G) ((E orc).cl 283 [v0, v1] G) := cS (S := fun q e => s283 q e v0 v1 G) Tryz.func283 (by unfold s283; exact Ref.gq)
def b284_0 (q : Bool) (e : Ex) (lp : LpF) (τ : Env) (G : GS) : OL :=
  bV q (τ 1) fun a1_ =>
  bV q (τ 5) fun a5_ =>
  bV q (τ 8) fun a8_ =>
  bV q (τ 9) fun a9_ =>
  bV q (τ 10) fun a10_ =>
  bP (bn Q q .lss 3 (.tmp 10) (.tmp 9) a10_ a9_) fun x0 =>
  ifV x0 (
  bP (ias Q q 407 2 a8_ a10_) fun x1 =>
  bP (lda Q q 362 2 x1 G) fun x2 =>
  bS (al Q q 362 z362 G) fun x3 G4 =>
  bP (st Q q 362 2 x3 x2 G4) fun G5 =>
  bP (lda Q q 362 2 x3 (G5.room 8)) fun x6 =>
  bP (ias Q q 127 1 a1_ a10_) fun x7 =>
  bP (ld Q q 3 x7 (G5.room 8)) fun x8 =>
  bS (e.ev.cl 315 [a5_, x6, x8] (G5.room 8)) fun x10 G9 =>
  bP (bn Q q .add 3 (.tmp 10) (.const (.int .i64 1)) a10_ (.int .i64 1)) fun x11 =>
  lp (xq q 24 τ [(10, x11), (22, x11), (5, x10), (21, x10), (20, x8), (19, x7), (18, a10_), (17, a1_), (16, x6), (15, a5_), (6, a10_), (7, x3), (14, x2), (13, x1), (12, a10_), (11, x0)] [(1, a1_), (8, a8_), (9, a9_)]) G9) (
  some ((.exit 0), xq q 24 τ [(11, x0)] [(1, a1_), (5, a5_), (8, a8_), (9, a9_), (10, a10_)], G))
theorem l284_0 (h : ExLe Q e (E orc)) : LT orc 24 (subAt [1, 1, 0, 1, 0, 0] (bodyOf Tryz.f284)) (b284_0 true e) := cL fun hlp τ G => by unfold b284_0; exact Ref.gq
/-- coxswain/word.lay -/
def s284 (q : Bool) (e : Ex) (v0 v1 : Value) (G : GS) : OG :=
  bP (ln Q q 407 v0) fun x0 =>
  bLq q e 284 0 (subAt [1, 1, 0, 1, 0, 0] (bodyOf Tryz.f284)) 24 (nth undef [v0, v1]) [(10, (.int .i64 0)), (9, x0), (8, v0), (5, (.int .u64 0)), (4, (.int .u64 0))] [] G fun e1 t2 G3 =>
  bV q (t2 5) fun t2x5_ =>
  ifE e1 (.exit 0) (
  some (t2x5_, G3)) (none)
theorem f284 (h : ExLe Q e (E orc)) (v0 v1 : Value) (G : GS) : Ref (s284 true e v0 v1 G) ((E orc).cl 284 [v0, v1] G) := cS (S := fun q e => s284 q e v0 v1 G) Tryz.func284 (by unfold s284; exact Ref.gq)
/-- (coxswain/cells.deed).load -/
def s285 (q : Bool) (e : Ex) (v0 : Value) (G : GS) : OG :=
  bS (bx q v0 G) fun x0 G1 =>
  fl q 122 0 0 119 x0 G1 fun x3 =>
  bP (pNil x3) fun x4 =>
  bP (ld Q q 133 x4 G1) fun x5 =>
  some (.tuple #[x5, (.bool false)], G1)
theorem f285 (h : ExLe Q e (E orc)) (v0 : Value) (G : GS) : Ref (s285 true e v0 G) ((E orc).cl 285 [v0] G) := cS (S := fun q e => s285 q e v0 G) Tryz.func285 (by unfold s285; exact Ref.gq)
/-- coxswain/word.PutTop -/
def s286 (q : Bool) (e : Ex) (v0 : Value) (G : GS) : OG :=
  bS (bx q v0 G) fun x0 G1 =>
  fl q 340 0 0 3 x0 G1 fun x3 =>
  bP (bd Q q 404 z404 [(0, 0, 1), (1, 1, 1), (2, 2, 1)] [x3, (.int .i64 (-1)), (.int .i64 65534)]) fun x4 =>
  fl q 340 1 1 3 x0 G1 fun x6 =>
  bP (bd Q q 404 z404 [(0, 0, 1), (1, 1, 1), (2, 2, 1)] [x6, (.int .i64 0), (.int .i64 281474976710655)]) fun x7 =>
  bS (bs Q q 440 2 (rep z404 2) 3 [(0, 0, 3), (1, 3, 3)] [x4, x7] G1) fun x8 G9 =>
  bS (e.ev.cl 282 [x8] G9) fun x10 G11 =>
  bP (un Q q .not x10) fun x12 =>
  ifV x12 (
  some (.tuple #[(.int .u64 0), (.int .i64 3)], G11)) (
  bS (e.ev.cl 314 [] G11) fun x13 G14 =>
  bS (al Q q 363 z363 G14) fun x15 G16 =>
  bP (st Q q 363 4 x15 x13 G16) fun G17 =>
  bP (sla Q q 363 2 2 x15 none none none (G17.room 10)) fun x18 =>
  fl q 340 0 0 3 x0 (G17.room 10) fun x20 =>
  bP (bn Q q .add 3 (.tmp 17) (.const (.int .i64 1)) x20 (.int .i64 1)) fun x21 =>
  fl q 340 1 1 3 x0 (G17.room 10) fun x23 =>
  bS (bs Q q 127 2 (rep z3 2) 1 [(0, 0, 1), (1, 1, 1)] [x21, x23] ((G17.room 10).at' (G17.nx + 6))) fun x24 G25 =>
  bS (e.ev.cl 284 [x18, x24] (G25.back (G17.room 10))) fun x27 G26 =>
  some (.tuple #[x27, (.int .i64 0)], G26))
theorem f286 (h : ExLe Q e (E orc)) (v0 : Value) (G : GS) : Ref (s286 true e v0 G) ((E orc).cl 286 [v0] G) := cS (S := fun q e => s286 q e v0 G) Tryz.func286 (by unfold s286; exact Ref.gq)
/-- (*coxswain/stack.Pop).first -/
def s287 (q : Bool) (e : Ex) (v0 v1 : Value) (G : GS) : OG :=
  nf q 413 1 9 v0 fun x1 =>
  bP (st Q q 411 1 x1 (.func (.func 316) #[] #[]) G) fun G2 =>
  nf q 413 0 0 v0 fun x4 =>
  bS (e.ev.cl 317 [x4, v1] G2) fun x5 G6 =>
  nf q 413 0 0 v0 fun x8 =>
  bP (fa Q q 410 2 4 x8) fun x9 =>
  bP (st Q q 3 1 x9 x5 G6) fun G10 =>
  nf q 413 0 0 v0 fun x12 =>
  fl q 410 2 4 3 x12 G10 fun x14 =>
  bP (bn Q q .lss 3 (.tmp 20) (.const (.int .i64 0)) x14 (.int .i64 0)) fun x15 =>
  ifV x15 (
  nf q 413 0 0 v0 fun x17 =>
  bS (e.ev.cl 318 [x17, (.int .i64 15)] G10) fun x18 G19 =>
  some (.tuple #[], G19)) (
  some (.tuple #[], G10))
theorem f287 (h : ExLe Q e (E orc)) (v0 v1 : Value) (G : GS) : Ref (s287 true e v0 v1 G) ((E orc).cl 287 [v0, v1] G) := cS (S := fun q e => s287 q e v0 v1 G) Tryz.func287 (by unfold s287; exact Ref.gq)
/-- (*coxswain/stack.Pop).Step -/
def s288 (q : Bool) (e : Ex) (v0 v1 : Value) (G : GS) : OG :=
  bP (ep Q q false 371 (.tmp 5) (.const (.pointer none)) v0 (.pointer none)) fun x0 =>
  bS (gV x0 false v0 G) fun x1 G2 =>
  bS (gP x0 false (pNil x1) G2) fun x3 G4 =>
  bS (gP x0 false (fa Q q 413 0 0 x3) G4) fun x5 G6 =>
  bS (gS x0 false (e.ev.cl 319 [x5] G6) G6) fun x7 G8 =>
  bP (pickV x0 (.bool true) x7) fun x9 =>
  ifV x9 (
  some ((.bool true), G8)) (
  nl q 413 1 9 411 v0 G8 fun x12 =>
  bS (cValue e.ev x12 [v0, v1] G8) fun x13 G14 =>
  nf q 413 0 0 v0 fun x16 =>
  fl q 410 5 7 4 x16 G14 fun x18 =>
  some (x18, G14))
theorem f288 (h : ExLe Q e (E orc)) (v0 v1 : Value) (G : GS) : Ref (s288 true e v0 v1 G) ((E orc).cl 288 [v0, v1] G) := cS (S := fun q e => s288 q e v0 v1 G) Tryz.func288 (by unfold s288; exact Ref.gq)
/-- (*coxswain/stack.Pop).Index -/
def s289 (q : Bool) (e : Ex) (v0 : Value) (G : GS) : OG :=
  bP (ep Q q false 371 (.tmp 4) (.const (.pointer none)) v0 (.pointer none)) fun x0 =>
  ifV x0 (
  some (.tuple #[(.int .i64 0), (.int .i64 1)], G)) (
  nf q 413 0 0 v0 fun x2 =>
  bS (e.ev.cl 320 [x2] G) fun x3 G4 =>
  bP (pExtract x3 0) fun x5 =>
  bP (pExtract x3 1) fun x6 =>
  some (.tuple #[x5, x6], G4))
theorem f289 (h : ExLe Q e (E orc)) (v0 : Value) (G : GS) : Ref (s289 true e v0 G) ((E orc).cl 289 [v0] G) := cS (S := fun q e => s289 q e v0 G) Tryz.func289 (by unfold s289; exact Ref.gq)
/-- (*coxswain/arena.Alloc).gives -/
def s290 (q : Bool) (e : Ex) (v0 v1 : Value) (G : GS) : OG :=
  nf q 375 4 9 v0 fun x1 =>
  bP (ld Q q 3 x1 (G.room 26)) fun x2 =>
  nf q 375 1 1 v0 fun x4 =>
  fl q 25 1 3 3 x4 (G.room 26) fun x6 =>
  nl q 375 4 9 3 v0 (G.room 26) fun x9 =>
  bP (bn Q q .add 3 (.tmp 15) (.tmp 19) x6 x9) fun x10 =>
  bS (e.ev.cl 240 [v1, x10] (G.room 26)) fun x12 G11 =>
  chk ((sameO (ld Q q 3 x1 G11) x2 && true)) <|
  bS (e.ev.cl 321 [x12] G11) fun x14 G13 =>
  chk ((sameO (ld Q q 3 x1 G13) x2 && true)) <|
  bP (bd Q q 270 z270 [(0, 0, 1), (1, 1, 1)] [x2, x14]) fun x15 =>
  bS (e.ev.cl 239 [x15] G13) fun x17 G16 =>
  bP (pExtract x17 0) fun x18 =>
  bP (pExtract x17 1) fun x19 =>
  nf q 375 5 10 v0 fun x21 =>
  bP (st Q q 37 1 x21 x18 G16) fun G22 =>
  nf q 375 3 8 v0 fun x24 =>
  bP (st Q q 373 1 x24 .nilFunc G22) fun G25 =>
  some (.tuple #[], G25)
theorem f290 (h : ExLe Q e (E orc)) (v0 v1 : Value) (G : GS) : Ref (s290 true e v0 v1 G) ((E orc).cl 290 [v0, v1] G) := cS (S := fun q e => s290 q e v0 v1 G) Tryz.func290 (by unfold s290; exact Ref.gq)
def jb291_0 (q : Bool) (e : Ex) (τ : Env) (G : GS) : OG :=
  bV q (τ 0) fun a0_ =>
  nf q 375 3 8 a0_ fun x4 =>
  bP (st Q q 373 1 x4 .nilFunc G) fun G5 =>
  some (.tuple #[], G5)
def j291_0 (q : Bool) (e : Ex) (τ : Env) (G : GS) : OG := jb291_0 q e τ G
theorem mj291_0 {e : Ex} {E : Ev} (h : ExLe Q e E) (τ : Env) (G : GS) : Ref (j291_0 true e τ G) (j291_0 false (Ex.of E) τ G) := by
  unfold j291_0 jb291_0
  exact Ref.gq
theorem mkj291_0 {e : Ex} {E : Ev} (h : ExLe Q e E) {τ : Env} {l U : List (Nat × Value)} {G : GS} (hU : UOk τ U) : Ref (j291_0 true e (xq true 28 τ l U) G) (j291_0 false (Ex.of E) (xq false 28 τ l U) G) := by
  rw [xq_eq hU]
  exact mj291_0 h _ _
def sb291 (q : Bool) (e : Ex) (J0 : Env → GS → OG) (v0 v1 : Value) (G : GS) : OG :=
  bP (pNil v0) fun x0 =>
  bP (fa Q q 375 6 11 x0) fun x1 =>
  bP (st Q q 38 1 x1 (.int .i64 7) G) fun G2 =>
  bP (pNil v0) fun x6 =>
  bP (fa Q q 375 1 1 x6) fun x7 =>
  bP (fa Q q 25 2 4 x7) fun x8 =>
  bP (ld Q q 3 x8 (G2.room 15)) fun x9 =>
  bS (e.ev.cl 240 [v1, x9] (G2.room 15)) fun x11 G10 =>
  bP (pNil v0) fun x12 =>
  bP (fa Q q 375 1 1 x12) fun x13 =>
  bP (fa Q q 25 0 0 x13) fun x14 =>
  bP (fa Q q 23 2 2 x14) fun x15 =>
  bP (ld Q q 3 x15 G10) fun x16 =>
  chk ((sameO (ld Q q 3 x15 (G2.room 15)) x16 && true)) <|
  bP (cv Q q 3 37 .i64 .u64 x16) fun x17 =>
  bP (bn Q q .geq 37 (.tmp 13) (.tmp 20) x11 x17) fun x18 =>
  ifV x18 (
  bP (pNil v0) fun x19 =>
  bP (fa Q q 375 6 11 x19) fun x20 =>
  bP (st Q q 38 1 x20 (.int .i64 12) G10) fun G21 =>
  J0 (xq q 28 (nth undef [v0, v1]) [(24, x20), (23, x19), (22, v0), (21, x18), (20, x17), (19, x16), (18, x15), (17, x14), (16, x13), (15, x12), (14, v0), (13, x11), (12, x9), (11, x8), (10, x7), (9, x6), (8, v0), (7, v1), (6, x1), (5, x0), (4, v0)] []) G21) (
  J0 (xq q 28 (nth undef [v0, v1]) [(21, x18), (20, x17), (19, x16), (18, x15), (17, x14), (16, x13), (15, x12), (14, v0), (13, x11), (12, x9), (11, x8), (10, x7), (9, x6), (8, v0), (7, v1), (6, x1), (5, x0), (4, v0)] []) G10)
/-- (*coxswain/arena.Alloc).lacks -/
def s291 (q : Bool) (e : Ex) (v0 v1 : Value) (G : GS) : OG := sb291 q e (j291_0 q e) v0 v1 G
theorem m291 {e : Ex} {E : Ev} (h : ExLe Q e E) (v0 v1 : Value) (G : GS) : Ref (s291 true e v0 v1 G) (s291 false (Ex.of E) v0 v1 G) := by
  unfold s291 sb291
  have j0 := @mkj291_0 e E h
  exact Ref.gj
def jt291 (J0 : Env → GS → OG) : JT (Value × GS) :=
  (.n none .e (.n (some (fun T G => J0 (nth undef T) G)) .e .e))
theorem jr291_0 (orc : FuncId → Bool) (J0 : Env → GS → OG) (T : List Value) (G : GS) : runC Q (evL Q orc) Tryz.f291.ntmps (jt291 J0) (bodyOf Tryz.f291) (retE Q Tryz.f291.results.toList) [true] (nth undef T) G = jb291_0 false (Ex.of (E orc))  (nth undef T) G := by kernel_rfl
theorem jo291 (orc : FuncId → Bool) : JOk Q orc Tryz.f291.ntmps (jt291 (j291_0 false (Ex.of (E orc))) ) (bodyOf Tryz.f291) (retE Q Tryz.f291.results.toList) :=
  jOk Q orc (l := [([true], (fun T G => j291_0 false (Ex.of (E orc)) (nth undef T) G))]) (by kernel_rfl) (AllE.c (fun T G => jr291_0 orc (j291_0 false (Ex.of (E orc))) T G) (AllE.z))
theorem je291 (orc : FuncId → Bool) (J0 : Env → GS → OG) (v0 v1 : Value) (G : GS) : sxC Q (evL Q orc) Tryz.f291.ntmps (jt291 J0) (bodyOf Tryz.f291) (nth undef [v0, v1]) G (retE Q Tryz.f291.results.toList) = sb291 false (Ex.of (E orc)) J0 v0 v1 G := by kernel_rfl
theorem f291 {orc : FuncId → Bool} {e : Ex} (h : ExLe Q e (E orc)) (v0 v1 : Value) (G : GS) : Ref (s291 true e v0 v1 G) ((E orc).cl 291 [v0, v1] G) :=
  fun r hr => cl_sxC Q orc (vs := [v0, v1]) G (jt291 (j291_0 false (Ex.of (E orc))) ) Tryz.func291 (by kernel_rfl) (by kernel_rfl) (by kernel_rfl) (by kernel_rfl) (by kernel_rfl) (jo291 orc) (je291 orc (j291_0 false (Ex.of (E orc))) v0 v1 G) (m291 h v0 v1 G r hr)
/-- (*coxswain/ready.Put).lay$1 -/
def s292 (q : Bool) (e : Ex) (v0 : Value) (G : GS) : OG :=
  bP (ld Q q 68 v0 (G.room 23)) fun x0 =>
  nf q 224 0 0 x0 fun x2 =>
  bP (fa Q q 97 0 0 x2) fun x3 =>
  bP (lda Q q 31 13 x3 (G.room 23)) fun x4 =>
  bP (ld Q q 68 v0 (G.room 23)) fun x5 =>
  nl q 224 5 23 37 x5 (G.room 23) fun x8 =>
  bP (ld Q q 68 v0 (G.room 23)) fun x9 =>
  nl q 224 1 19 37 x9 (G.room 23) fun x12 =>
  bP (ld Q q 68 v0 (G.room 23)) fun x13 =>
  nl q 224 2 20 3 x13 (G.room 23) fun x16 =>
  bP (ld Q q 68 v0 (G.room 23)) fun x17 =>
  nl q 224 3 21 3 x17 (G.room 23) fun x20 =>
  bS (e.ev.cl 293 [x4, x8, x12, x16, x20] (G.room 23)) fun x22 G21 =>
  some (x22, G21)
theorem f292 (h : ExLe Q e (E orc)) (v0 : Value) (G : GS) : Ref (s292 true e v0 G) ((E orc).cl 292 [v0] G) := cS (S := fun q e => s292 q e v0 G) Tryz.func292 (by unfold s292; exact Ref.gq)
/-- coxswain/tower.NewLay -/
def s293 (q : Bool) (e : Ex) (v0 v1 v2 v3 v4 : Value) (G : GS) : OG :=
  bS (bx q v0 G) fun x0 G1 =>
  bP (lda Q q 31 13 x0 G1) fun x2 =>
  bS (e.ev.cl 322 [x2, v1, v3, v4] G1) fun x3 G4 =>
  bP (bd Q q 446 z446 [(0, 0, 1), (1, 1, 1), (4, 7, 1)] [(.bool true), v1, x3]) fun x5 =>
  bS (bx q x5 G4) fun x6 G7 =>
  nl q 446 4 7 38 x6 G7 fun x10 =>
  bP (bn Q q .neq 38 (.tmp 25) (.const (.int .i64 0)) x10 (.int .i64 0)) fun x11 =>
  ifV x11 (
  nf q 446 3 6 x6 fun x13 =>
  bP (st Q q 3 1 x13 (.int .i64 4) G7) fun G14 =>
  some (x6, G14)) (
  bP (lda Q q 31 13 x0 G7) fun x15 =>
  bS (e.ev.cl 234 [x15, v1] G7) fun x16 G17 =>
  bS (al Q q 3 z3 G17) fun x18 G19 =>
  bP (st Q q 3 1 x18 x16 G19) fun G20 =>
  bS (cValue e.ev (.func (.func 323) #[] #[x0, x18]) [(.int .i64 0), v2] G20) fun x21 G22 =>
  bP (cv Q q 3 37 .i64 .u64 v3) fun x23 =>
  bS (cValue e.ev (.func (.func 323) #[] #[x0, x18]) [(.int .i64 1), x23] G22) fun x24 G25 =>
  bP (cv Q q 3 37 .i64 .u64 v4) fun x26 =>
  bS (cValue e.ev (.func (.func 323) #[] #[x0, x18]) [(.int .i64 2), x26] G25) fun x27 G28 =>
  bS (cValue e.ev (.func (.func 323) #[] #[x0, x18]) [(.int .i64 3), (.int .u64 2)] G28) fun x29 G30 =>
  bP (bd Q q 444 z444 [(0, 0, 1), (1, 1, 1), (2, 2, 1), (3, 3, 1)] [x21, x24, x27, x29]) fun x31 =>
  nf q 446 2 2 x6 fun x33 =>
  bP (st Q q 444 4 x33 x31 G30) fun G34 =>
  some (x6, G34))
theorem f293 (h : ExLe Q e (E orc)) (v0 v1 v2 v3 v4 : Value) (G : GS) : Ref (s293 true e v0 v1 v2 v3 v4 G) ((E orc).cl 293 [v0, v1, v2, v3, v4] G) := cS (S := fun q e => s293 q e v0 v1 v2 v3 v4 G) Tryz.func293 (by unfold s293; exact Ref.gq)
/-- (*coxswain/tower.Lay).By -/
def s294 (q : Bool) (e : Ex) (v0 : Value) (G : GS) : OG :=
  bP (ep Q q false 415 (.tmp 3) (.const (.pointer none)) v0 (.pointer none)) fun x0 =>
  bS (gV x0 false v0 G) fun x1 G2 =>
  bS (gP x0 false (pNil x1) G2) fun x3 G4 =>
  bS (gP x0 false (fa Q q 446 4 7 x3) G4) fun x5 G6 =>
  bS (gP x0 false (ld Q q 38 x5 G6) G6) fun x7 G8 =>
  bS (gP x0 false (bn Q q .neq 38 (.tmp 9) (.const (.int .i64 0)) x7 (.int .i64 0)) G8) fun x9 G10 =>
  bP (pickV x0 (.bool true) x9) fun x11 =>
  bS (gV x11 false v0 G10) fun x12 G13 =>
  bS (gP x11 false (pNil x12) G13) fun x14 G15 =>
  bS (gP x11 false (fa Q q 446 3 6 x14) G15) fun x16 G17 =>
  bS (gP x11 false (ld Q q 3 x16 G17) G17) fun x18 G19 =>
  bS (gP x11 false (bn Q q .eql 3 (.tmp 16) (.const (.int .i64 0)) x18 (.int .i64 0)) G19) fun x20 G21 =>
  bP (pickV x11 (.bool true) x20) fun x22 =>
  ifV x22 (
  some ((.int .u64 0), G21)) (
  nl q 446 1 1 37 v0 G21 fun x25 =>
  some (x25, G21))
theorem f294 (h : ExLe Q e (E orc)) (v0 : Value) (G : GS) : Ref (s294 true e v0 G) ((E orc).cl 294 [v0] G) := cS (S := fun q e => s294 q e v0 G) Tryz.func294 (by unfold s294; exact Ref.gq)
/-- (*coxswain/ready.Put).link$1 -/
def s295 (q : Bool) (e : Ex) (v0 : Value) (G : GS) : OG :=
  bP (ld Q q 68 v0 (G.room 19)) fun x0 =>
  nf q 224 0 0 x0 fun x2 =>
  bP (fa Q q 97 0 0 x2) fun x3 =>
  bP (lda Q q 31 13 x3 (G.room 19)) fun x4 =>
  bP (ld Q q 68 v0 (G.room 19)) fun x5 =>
  nl q 224 5 23 37 x5 (G.room 19) fun x8 =>
  bP (ld Q q 68 v0 (G.room 19)) fun x9 =>
  nl q 224 1 19 37 x9 (G.room 19) fun x12 =>
  bP (ld Q q 68 v0 (G.room 19)) fun x13 =>
  nl q 224 3 21 3 x13 (G.room 19) fun x16 =>
  bS (e.ev.cl 296 [x4, x8, x12, x16] (G.room 19)) fun x18 G17 =>
  some (x18, G17)
theorem f295 (h : ExLe Q e (E orc)) (v0 : Value) (G : GS) : Ref (s295 true e v0 G) ((E orc).cl 295 [v0] G) := cS (S := fun q e => s295 q e v0 G) Tryz.func295 (by unfold s295; exact Ref.gq)
/-- coxswain/insert.NewInsert -/
def s296 (q : Bool) (e : Ex) (v0 v1 v2 v3 : Value) (G : GS) : OG :=
  bS (bx q v0 G) fun x0 G1 =>
  bP (lda Q q 31 13 x0 (G1.room 11)) fun x2 =>
  bP (lda Q q 31 13 x0 (G1.room 11)) fun x3 =>
  bS (e.ev.cl 325 [x3, v1, v3] (G1.room 11)) fun x5 G4 =>
  chk ((sameO (lda Q q 31 13 x0 G4) x2 && true)) <|
  bP (bd Q q 450 z450 [(0, 0, 13), (1, 13, 1), (3, 15, 1), (4, 16, 1), (6, 18, 1), (13, 25, 1)] [x2, (.bool true), v1, v2, v3, x5]) fun x6 =>
  bS (bx q x6 (G4.at' (G1.nx + 9))) fun x7 G8 =>
  nf q 450 13 25 x7 fun x10 =>
  bP (ld Q q 38 x10 (G8.back G4)) fun x11 =>
  bP (bn Q q .eql 38 (.tmp 25) (.const (.int .i64 0)) x11 (.int .i64 0)) fun x12 =>
  ifV x12 (
  bS (e.ev.cl 171 [v1] (G8.back G4)) fun x13 G14 =>
  bP (pExtract x13 0) fun x15 =>
  bP (pExtract x13 1) fun x16 =>
  bS (al Q q 270 z270 G14) fun x17 G18 =>
  bP (st Q q 270 3 x17 x15 G18) fun G19 =>
  fl q 270 0 0 3 x17 G19 fun x21 =>
  nf q 450 5 17 x7 fun x23 =>
  bP (st Q q 3 1 x23 x21 G19) fun G24 =>
  bS (e.ev.cl 326 [x7, (.int .i64 1)] G24) fun x25 G26 =>
  nf q 450 7 19 x7 fun x28 =>
  bP (st Q q 448 1 x28 x25 G26) fun G29 =>
  some (x7, G29)) (
  some (x7, (G8.back G4)))
theorem f296 (h : ExLe Q e (E orc)) (v0 v1 v2 v3 : Value) (G : GS) : Ref (s296 true e v0 v1 v2 v3 G) ((E orc).cl 296 [v0, v1, v2, v3] G) := cS (S := fun q e => s296 q e v0 v1 v2 v3 G) Tryz.func296 (by unfold s296; exact Ref.gq)
/-- (*coxswain/insert.Insert).By -/
def s297 (q : Bool) (e : Ex) (v0 : Value) (G : GS) : OG :=
  bP (ep Q q false 423 (.tmp 3) (.const (.pointer none)) v0 (.pointer none)) fun x0 =>
  ifV x0 (
  some ((.int .u64 0), G)) (
  nl q 450 12 24 37 v0 G fun x3 =>
  some (x3, G))
theorem f297 (h : ExLe Q e (E orc)) (v0 : Value) (G : GS) : Ref (s297 true e v0 G) ((E orc).cl 297 [v0] G) := cS (S := fun q e => s297 q e v0 G) Tryz.func297 (by unfold s297; exact Ref.gq)
/-- (*coxswain/epoch.Advance).load -/
def s298 (q : Bool) (e : Ex) (v0 v1 : Value) (G : GS) : OG :=
  nf q 431 1 6 v0 fun x1 =>
  fl q 27 0 0 3 x1 G fun x3 =>
  bS (e.ev.cl 240 [v1, x3] G) fun x4 G5 =>
  nf q 431 4 11 v0 fun x7 =>
  bP (st Q q 37 1 x7 x4 G5) fun G8 =>
  nl q 431 4 11 37 v0 (G8.room 11) fun x11 =>
  bP (cv Q q 37 279 .u64 .u32 x11) fun x12 =>
  bP (cv Q q 279 3 .u32 .i64 x12) fun x13 =>
  nl q 431 3 10 3 v0 (G8.room 11) fun x16 =>
  bP (bn Q q .neq 3 (.tmp 19) (.tmp 23) x13 x16) fun x17 =>
  ifV x17 (
  nf q 431 0 0 v0 fun x19 =>
  bS (e.ev.cl 176 [x19, (.int .i64 14)] (G8.room 11)) fun x20 G21 =>
  some (.tuple #[], G21)) (
  bS (e.ev.cl 327 [v0, (.int .i64 0)] (G8.room 11)) fun x22 G23 =>
  some (.tuple #[], G23))
theorem f298 (h : ExLe Q e (E orc)) (v0 v1 : Value) (G : GS) : Ref (s298 true e v0 v1 G) ((E orc).cl 298 [v0, v1] G) := cS (S := fun q e => s298 q e v0 v1 G) Tryz.func298 (by unfold s298; exact Ref.gq)
/-- (*coxswain/epoch.Advance).look -/
def s299 (q : Bool) (e : Ex) (v0 v1 : Value) (G : GS) : OG :=
  nf q 431 1 6 v0 fun x1 =>
  fl q 27 1 1 3 x1 (G.room 13) fun x3 =>
  nl q 431 5 12 3 v0 (G.room 13) fun x6 =>
  bP (bn Q q .add 3 (.tmp 10) (.tmp 14) x3 x6) fun x7 =>
  bS (e.ev.cl 240 [v1, x7] (G.room 13)) fun x9 G8 =>
  bP (bn Q q .neq 37 (.tmp 17) (.const (.int .u64 0)) x9 (.int .u64 0)) fun x10 =>
  bS (gV x10 true x9 G8) fun x11 G12 =>
  bS (gV x10 true v0 G12) fun x13 G14 =>
  bS (gP x10 true (pNil x13) G14) fun x15 G16 =>
  bS (gP x10 true (fa Q q 431 4 11 x15) G16) fun x17 G18 =>
  bS (gP x10 true (ld Q q 37 x17 G18) G18) fun x19 G20 =>
  bS (gP x10 true (cv Q q 37 279 .u64 .u32 x19) G20) fun x21 G22 =>
  bS (gP x10 true (cv Q q 279 37 .u32 .u64 x21) G22) fun x23 G24 =>
  bS (gP x10 true (bn Q q .add 37 (.tmp 26) (.const (.int .u64 1)) x23 (.int .u64 1)) G24) fun x25 G26 =>
  bS (gP x10 true (bn Q q .neq 37 (.tmp 20) (.tmp 27) x11 x25) G26) fun x27 G28 =>
  bP (pickV x10 x27 (.bool false)) fun x29 =>
  ifV x29 (
  nf q 431 0 0 v0 fun x31 =>
  bS (e.ev.cl 176 [x31, (.int .i64 14)] G28) fun x32 G33 =>
  some (.tuple #[], G33)) (
  nl q 431 5 12 3 v0 G28 fun x36 =>
  bP (bn Q q .add 3 (.tmp 38) (.const (.int .i64 1)) x36 (.int .i64 1)) fun x37 =>
  bS (e.ev.cl 327 [v0, x37] G28) fun x38 G39 =>
  some (.tuple #[], G39))
theorem f299 (h : ExLe Q e (E orc)) (v0 v1 : Value) (G : GS) : Ref (s299 true e v0 v1 G) ((E orc).cl 299 [v0, v1] G) := cS (S := fun q e => s299 q e v0 v1 G) Tryz.func299 (by unfold s299; exact Ref.gq)
/-- (*coxswain/epoch.Advance).swap -/
def s300 (q : Bool) (e : Ex) (v0 v1 : Value) (G : GS) : OG :=
  nf q 431 0 0 v0 fun x1 =>
  bS (e.ev.cl 176 [x1, (.int .i64 14)] G) fun x2 G3 =>
  nf q 431 1 6 v0 fun x5 =>
  fl q 27 0 0 3 x5 (G3.room 18) fun x7 =>
  nl q 431 4 11 37 v0 (G3.room 18) fun x10 =>
  nl q 431 4 11 37 v0 (G3.room 18) fun x13 =>
  bP (cv Q q 37 279 .u64 .u32 x13) fun x14 =>
  bP (cv Q q 279 37 .u32 .u64 x14) fun x15 =>
  bP (bn Q q .add 37 (.tmp 23) (.const (.int .u64 1)) x15 (.int .u64 1)) fun x16 =>
  bS (e.ev.cl 328 [v1, x7, x10, x16] (G3.room 18)) fun x18 G17 =>
  ifV x18 (
  nf q 431 0 0 v0 fun x20 =>
  bS (e.ev.cl 176 [x20, (.int .i64 0)] G17) fun x21 G22 =>
  some (.tuple #[], G22)) (
  some (.tuple #[], G17))
theorem f300 (h : ExLe Q e (E orc)) (v0 v1 : Value) (G : GS) : Ref (s300 true e v0 v1 G) ((E orc).cl 300 [v0, v1] G) := cS (S := fun q e => s300 q e v0 v1 G) Tryz.func300 (by unfold s300; exact Ref.gq)
/-- (*coxswain/stack.All).first -/
def s301 (q : Bool) (e : Ex) (v0 v1 : Value) (G : GS) : OG :=
  nf q 434 1 9 v0 fun x1 =>
  bP (st Q q 432 1 x1 (.func (.func 329) #[] #[]) G) fun G2 =>
  nf q 434 0 0 v0 fun x4 =>
  bS (e.ev.cl 317 [x4, v1] G2) fun x5 G6 =>
  nf q 434 0 0 v0 fun x8 =>
  bP (fa Q q 410 2 4 x8) fun x9 =>
  bP (st Q q 3 1 x9 x5 G6) fun G10 =>
  nf q 434 0 0 v0 fun x12 =>
  fl q 410 2 4 3 x12 G10 fun x14 =>
  bP (bn Q q .lss 3 (.tmp 20) (.const (.int .i64 0)) x14 (.int .i64 0)) fun x15 =>
  ifV x15 (
  nf q 434 0 0 v0 fun x17 =>
  bS (e.ev.cl 318 [x17, (.int .i64 15)] G10) fun x18 G19 =>
  some (.tuple #[], G19)) (
  some (.tuple #[], G10))
theorem f301 (h : ExLe Q e (E orc)) (v0 v1 : Value) (G : GS) : Ref (s301 true e v0 v1 G) ((E orc).cl 301 [v0, v1] G) := cS (S := fun q e => s301 q e v0 v1 G) Tryz.func301 (by unfold s301; exact Ref.gq)
/-- (*coxswain/epoch.Advance).Step -/
def s302 (q : Bool) (e : Ex) (v0 v1 : Value) (G : GS) : OG :=
  bP (ep Q q false 319 (.tmp 5) (.const (.pointer none)) v0 (.pointer none)) fun x0 =>
  bS (gV x0 false v0 G) fun x1 G2 =>
  bS (gP x0 false (pNil x1) G2) fun x3 G4 =>
  bS (gP x0 false (fa Q q 431 0 0 x3) G4) fun x5 G6 =>
  bS (gV x0 false v1 G6) fun x7 G8 =>
  bS (gS x0 false (e.ev.cl 330 [x5, x7] G8) G8) fun x9 G10 =>
  bP (pickV x0 (.bool true) x9) fun x11 =>
  some (x11, G10)
theorem f302 (h : ExLe Q e (E orc)) (v0 v1 : Value) (G : GS) : Ref (s302 true e v0 v1 G) ((E orc).cl 302 [v0, v1] G) := cS (S := fun q e => s302 q e v0 v1 G) Tryz.func302 (by unfold s302; exact Ref.gq)
/-- (*coxswain/epoch.Advance).Err -/
def s303 (q : Bool) (e : Ex) (v0 : Value) (G : GS) : OG :=
  bP (ep Q q false 319 (.tmp 3) (.const (.pointer none)) v0 (.pointer none)) fun x0 =>
  ifV x0 (
  some ((.int .i64 1), G)) (
  nf q 431 0 0 v0 fun x2 =>
  bS (e.ev.cl 180 [x2] G) fun x3 G4 =>
  some (x3, G4))
theorem f303 (h : ExLe Q e (E orc)) (v0 : Value) (G : GS) : Ref (s303 true e v0 G) ((E orc).cl 303 [v0] G) := cS (S := fun q e => s303 q e v0 G) Tryz.func303 (by unfold s303; exact Ref.gq)
/-- (*coxswain/limbo.Collect).takes -/
def s304 (q : Bool) (e : Ex) (v0 v1 : Value) (G : GS) : OG :=
  nl q 325 3 14 320 v0 G fun x2 =>
  bS (e.ev.cl 331 [x2, v1] G) fun x3 G4 =>
  bP (un Q q .not x3) fun x5 =>
  ifV x5 (
  some ((.func (.func 304) #[v0] #[]), G4)) (
  nl q 325 3 14 320 v0 G4 fun x8 =>
  bS (e.ev.cl 332 [x8] G4) fun x9 G10 =>
  bP (pExtract x9 0) fun x11 =>
  bP (pExtract x9 1) fun x12 =>
  bP (bn Q q .neq 38 (.tmp 24) (.const (.int .i64 0)) x12 (.int .i64 0)) fun x13 =>
  ifV x13 (
  some (.nilFunc, G10)) (
  nf q 325 4 15 v0 fun x15 =>
  bP (st Q q 3 1 x15 x11 G10) fun G16 =>
  some ((.func (.func 333) #[v0] #[]), G16)))
theorem f304 (h : ExLe Q e (E orc)) (v0 v1 : Value) (G : GS) : Ref (s304 true e v0 v1 G) ((E orc).cl 304 [v0, v1] G) := cS (S := fun q e => s304 q e v0 v1 G) Tryz.func304 (by unfold s304; exact Ref.gq)
/-- coxswain/word.tops -/
def s314 (q : Bool) (e : Ex) (G : GS) : OG :=
  bS (al Q q 363 z363 G) fun x0 G1 =>
  bP (bd Q q 362 z362 [(0, 0, 1), (1, 1, 1)] [(.int .i64 0), (.int .i64 16)]) fun x2 =>
  bP (bd Q q 362 z362 [(0, 0, 1), (1, 1, 1)] [(.int .i64 16), (.int .i64 48)]) fun x3 =>
  bP (bd Q q 363 z363 [(0, 0, 2), (1, 2, 2)] [x2, x3]) fun x4 =>
  bP (st Q q 363 4 x0 x4 G1) fun G5 =>
  bP (lda Q q 363 4 x0 G5) fun x6 =>
  some (x6, G5)
theorem f314 (h : ExLe Q e (E orc)) (ho : orc 314 = false) (G : GS) : Ref (s314 true e  G) ((E orc).cl 314 [] G) := cS (S := fun q e => s314 q e  G) (ho := ho) Tryz.func314 (by unfold s314; exact Ref.gq)
/-- (coxswain/word.raw).with -/
def s315 (q : Bool) (e : Ex) (v0 v1 v2 : Value) (G : GS) : OG :=
  bS (bx q v1 G) fun x0 G1 =>
  bP (cv Q q 3 37 .i64 .u64 v2) fun x2 =>
  fl q 362 0 0 3 x0 G1 fun x4 =>
  bP (bn Q q .shl 37 (.tmp 9) (.tmp 11) x2 x4) fun x5 =>
  bP (bn Q q .or 365 (.tmp 7) (.tmp 12) v0 x5) fun x6 =>
  some (x6, G1)
theorem f315 (h : ExLe Q e (E orc)) (v0 v1 v2 : Value) (G : GS) : Ref (s315 true e v0 v1 v2 G) ((E orc).cl 315 [v0, v1, v2] G) := cS (S := fun q e => s315 q e v0 v1 v2 G) Tryz.func315 (by unfold s315; exact Ref.gq)
/-- (*coxswain/stack.Pop).second -/
def s316 (q : Bool) (e : Ex) (v0 v1 : Value) (G : GS) : OG :=
  nf q 413 0 0 v0 fun x1 =>
  bP (fa Q q 410 0 0 x1) fun x2 =>
  bP (lda Q q 23 3 x2 (G.room 25)) fun x3 =>
  nf q 413 0 0 v0 fun x5 =>
  bP (fa Q q 410 0 0 x5) fun x6 =>
  fl q 23 1 1 3 x6 (G.room 25) fun x8 =>
  nf q 413 0 0 v0 fun x10 =>
  fl q 410 2 4 3 x10 (G.room 25) fun x12 =>
  bP (bn Q q .add 3 (.tmp 16) (.tmp 21) x8 x12) fun x13 =>
  bS (e.ev.cl 240 [v1, x13] (G.room 25)) fun x15 G14 =>
  chk ((sameO (lda Q q 23 3 x2 G14) x3 && true)) <|
  bS (e.ev.cl 232 [x3, x15] G14) fun x17 G16 =>
  nf q 413 0 0 v0 fun x19 =>
  bP (fa Q q 410 3 5 x19) fun x20 =>
  bP (st Q q 3 1 x20 x17 G16) fun G21 =>
  nf q 413 1 9 v0 fun x23 =>
  bP (st Q q 411 1 x23 (.func (.func 337) #[] #[]) G21) fun G24 =>
  some (.tuple #[], G24)
theorem f316 (h : ExLe Q e (E orc)) (v0 v1 : Value) (G : GS) : Ref (s316 true e v0 v1 G) ((E orc).cl 316 [v0, v1] G) := cS (S := fun q e => s316 q e v0 v1 G) Tryz.func316 (by unfold s316; exact Ref.gq)
/-- (*coxswain/stack.held).load -/
def s317 (q : Bool) (e : Ex) (v0 v1 : Value) (G : GS) : OG :=
  nf q 410 0 0 v0 fun x1 =>
  fl q 23 0 0 3 x1 G fun x3 =>
  bS (e.ev.cl 240 [v1, x3] G) fun x4 G5 =>
  nf q 410 1 3 v0 fun x7 =>
  bP (st Q q 37 1 x7 x4 G5) fun G8 =>
  nf q 410 0 0 v0 fun x10 =>
  bP (lda Q q 23 3 x10 (G8.room 10)) fun x11 =>
  nl q 410 1 3 37 v0 (G8.room 10) fun x14 =>
  bS (e.ev.cl 232 [x11, x14] (G8.room 10)) fun x16 G15 =>
  some (x16, G15)
theorem f317 (h : ExLe Q e (E orc)) (v0 v1 : Value) (G : GS) : Ref (s317 true e v0 v1 G) ((E orc).cl 317 [v0, v1] G) := cS (S := fun q e => s317 q e v0 v1 G) Tryz.func317 (by unfold s317; exact Ref.gq)
/-- (*coxswain/stack.held).ends -/
def s318 (q : Bool) (e : Ex) (v0 v1 : Value) (G : GS) : OG :=
  nf q 410 5 7 v0 fun x1 =>
  bP (st Q q 4 1 x1 (.bool true) G) fun G2 =>
  nf q 410 6 8 v0 fun x4 =>
  bP (st Q q 38 1 x4 v1 G2) fun G5 =>
  some (.tuple #[], G5)
theorem f318 (h : ExLe Q e (E orc)) (v0 v1 : Value) (G : GS) : Ref (s318 true e v0 v1 G) ((E orc).cl 318 [v0, v1] G) := cS (S := fun q e => s318 q e v0 v1 G) Tryz.func318 (by unfold s318; exact Ref.gq)
/-- (*coxswain/stack.held).over -/
def s319 (q : Bool) (e : Ex) (v0 : Value) (G : GS) : OG :=
  bP (ep Q q false 454 (.tmp 3) (.const (.pointer none)) v0 (.pointer none)) fun x0 =>
  bS (gV x0 false v0 G) fun x1 G2 =>
  bS (gP x0 false (pNil x1) G2) fun x3 G4 =>
  bS (gP x0 false (fa Q q 410 4 6 x3) G4) fun x5 G6 =>
  bS (gP x0 false (ld Q q 4 x5 G6) G6) fun x7 G8 =>
  bS (gP x0 false (un Q q .not x7) G8) fun x9 G10 =>
  bP (pickV x0 (.bool true) x9) fun x11 =>
  bS (gV x11 false v0 G10) fun x12 G13 =>
  bS (gP x11 false (pNil x12) G13) fun x14 G15 =>
  bS (gP x11 false (fa Q q 410 5 7 x14) G15) fun x16 G17 =>
  bS (gP x11 false (ld Q q 4 x16 G17) G17) fun x18 G19 =>
  bP (pickV x11 (.bool true) x18) fun x20 =>
  some (x20, G19)
theorem f319 (h : ExLe Q e (E orc)) (v0 : Value) (G : GS) : Ref (s319 true e v0 G) ((E orc).cl 319 [v0] G) := cS (S := fun q e => s319 q e v0 G) Tryz.func319 (by unfold s319; exact Ref.gq)
/-- (*coxswain/stack.held).index -/
def s320 (q : Bool) (e : Ex) (v0 : Value) (G : GS) : OG :=
  bS (e.ev.cl 338 [v0] G) fun x0 G1 =>
  bP (bn Q q .neq 38 (.tmp 7) (.const (.int .i64 0)) x0 (.int .i64 0)) fun x2 =>
  ifV x2 (
  some (.tuple #[(.int .i64 0), x0], G1)) (
  nl q 410 2 4 3 v0 G1 fun x5 =>
  some (.tuple #[x5, (.int .i64 0)], G1))
theorem f320 (h : ExLe Q e (E orc)) (v0 : Value) (G : GS) : Ref (s320 true e v0 G) ((E orc).cl 320 [v0] G) := cS (S := fun q e => s320 q e v0 G) Tryz.func320 (by unfold s320; exact Ref.gq)
/-- coxswain/arena.gen -/
def s321 (q : Bool) (e : Ex) (v0 : Value) (G : GS) : OG :=
  bP (bn Q q .and 37 (.tmp 3) (.const (.int .u64 4294967295)) v0 (.int .u64 4294967295)) fun x0 =>
  bP (cv Q q 37 3 .u64 .i64 x0) fun x1 =>
  some (x1, G)
theorem f321 (h : ExLe Q e (E orc)) (v0 : Value) (G : GS) : Ref (s321 true e v0 G) ((E orc).cl 321 [v0] G) := cS (S := fun q e => s321 q e v0 G) Tryz.func321 (by unfold s321; exact Ref.gq)
/-- coxswain/tower.refused -/
def s322 (q : Bool) (e : Ex) (v0 v1 v2 v3 : Value) (G : GS) : OG :=
  bS (bx q v0 G) fun x0 G1 =>
  bP (lda Q q 31 13 x0 G1) fun x2 =>
  bS (e.ev.cl 70 [x2] G1) fun x3 G4 =>
  bP (un Q q .not x3) fun x5 =>
  ifV x5 (
  some ((.int .i64 2), G4)) (
  bS (e.ev.cl 171 [v1] G4) fun x6 G7 =>
  bP (pExtract x6 0) fun x8 =>
  bP (pExtract x6 1) fun x9 =>
  bS (al Q q 270 z270 G7) fun x10 G11 =>
  bP (st Q q 270 3 x10 x8 G11) fun G12 =>
  bP (bn Q q .neq 38 (.tmp 20) (.const (.int .i64 0)) x9 (.int .i64 0)) fun x13 =>
  ifV x13 (
  some ((.int .i64 5), G12)) (
  fl q 270 0 0 3 x10 G12 fun x15 =>
  bP (bn Q q .lss 3 (.tmp 24) (.const (.int .i64 0)) x15 (.int .i64 0)) fun x16 =>
  bS (gP x16 false (fa Q q 270 2 2 x10) G12) fun x17 G18 =>
  bS (gP x16 false (ld Q q 4 x17 G18) G18) fun x19 G20 =>
  bP (pickV x16 (.bool true) x19) fun x21 =>
  bS (gP x21 false (fa Q q 270 0 0 x10) G20) fun x22 G23 =>
  bS (gP x21 false (ld Q q 3 x22 G23) G23) fun x24 G25 =>
  bS (gP x21 false (fa Q q 31 3 3 x0) G25) fun x26 G27 =>
  bS (gP x21 false (fa Q q 29 0 0 x26) G27) fun x28 G29 =>
  bS (gP x21 false (fa Q q 25 0 0 x28) G29) fun x30 G31 =>
  bS (gP x21 false (fa Q q 23 2 2 x30) G31) fun x32 G33 =>
  bS (gP x21 false (ld Q q 3 x32 G33) G33) fun x34 G35 =>
  bS (gP x21 false (bn Q q .geq 3 (.tmp 32) (.tmp 37) x24 x34) G35) fun x36 G37 =>
  bP (pickV x21 (.bool true) x36) fun x38 =>
  bS (gV x38 false v2 G37) fun x39 G40 =>
  bS (gP x38 false (bn Q q .lss 3 (.tmp 41) (.const (.int .i64 0)) x39 (.int .i64 0)) G40) fun x41 G42 =>
  bP (pickV x38 (.bool true) x41) fun x43 =>
  bS (gV x43 false v2 G42) fun x44 G45 =>
  bS (gP x43 false (bn Q q .gtr 3 (.tmp 45) (.const (.int .i64 65534)) x44 (.int .i64 65534)) G45) fun x46 G47 =>
  bP (pickV x43 (.bool true) x46) fun x48 =>
  bS (gV x48 false v3 G47) fun x49 G50 =>
  bS (gP x48 false (bn Q q .lss 3 (.tmp 49) (.const (.int .i64 1)) x49 (.int .i64 1)) G50) fun x51 G52 =>
  bP (pickV x48 (.bool true) x51) fun x53 =>
  bS (gV x53 false v3 G52) fun x54 G55 =>
  bS (gP x53 false (fa Q q 31 2 2 x0) G55) fun x56 G57 =>
  bS (gP x53 false (ld Q q 3 x56 G57) G57) fun x58 G59 =>
  bS (gP x53 false (bn Q q .gtr 3 (.tmp 53) (.tmp 55) x54 x58) G59) fun x60 G61 =>
  bP (pickV x53 (.bool true) x60) fun x62 =>
  ifV x62 (
  some ((.int .i64 3), G61)) (
  some ((.int .i64 0), G61))))
theorem f322 (h : ExLe Q e (E orc)) (v0 v1 v2 v3 : Value) (G : GS) : Ref (s322 true e v0 v1 v2 v3 G) ((E orc).cl 322 [v0, v1, v2, v3] G) := cS (S := fun q e => s322 q e v0 v1 v2 v3 G) Tryz.func322 (by unfold s322; exact Ref.gq)
/-- coxswain/tower.NewLay$1 -/
def s323 (q : Bool) (e : Ex) (v0 v1 v2 v3 : Value) (G : GS) : OG :=
  bS (bx q v0 G) fun x0 G1 =>
  bS (bx q v1 G1) fun x2 G3 =>
  some ((.func (.func 324) #[] #[v2, v3, x0, x2]), G3)
theorem f323 (h : ExLe Q e (E orc)) (v0 v1 v2 v3 : Value) (G : GS) : Ref (s323 true e v0 v1 v2 v3 G) ((E orc).cl 323 [v0, v1, v2, v3] G) := cS (S := fun q e => s323 q e v0 v1 v2 v3 G) Tryz.func323 (by unfold s323; exact Ref.gq)
/-- coxswain/tower.NewLay$1$1 -/
def s324 (q : Bool) (e : Ex) (v0 v1 v2 v3 v4 : Value) (G : GS) : OG :=
  bP (lda Q q 31 13 v1 (G.room 7)) fun x0 =>
  bP (ld Q q 3 v2 (G.room 7)) fun x1 =>
  bP (ld Q q 3 v3 (G.room 7)) fun x2 =>
  bS (e.ev.cl 105 [x0, x1, x2] (G.room 7)) fun x4 G3 =>
  bP (ld Q q 37 v4 G3) fun x5 =>
  chk ((sameO (ld Q q 37 v4 (G.room 7)) x5 && true)) <|
  bS (e.ev.cl 16 [v0, x4, x5] G3) fun x7 G6 =>
  some (.tuple #[], G6)
theorem f324 (h : ExLe Q e (E orc)) (v0 v1 v2 v3 v4 : Value) (G : GS) : Ref (s324 true e v0 v1 v2 v3 v4 G) ((E orc).cl 324 [v0, v1, v2, v3, v4] G) := cS (S := fun q e => s324 q e v0 v1 v2 v3 v4 G) Tryz.func324 (by unfold s324; exact Ref.gq)
/-- coxswain/insert.refused -/
def s325 (q : Bool) (e : Ex) (v0 v1 v2 : Value) (G : GS) : OG :=
  bS (bx q v0 G) fun x0 G1 =>
  bP (lda Q q 31 13 x0 G1) fun x2 =>
  bS (e.ev.cl 105 [x2, (.int .i64 0), (.int .i64 0)] G1) fun x3 G4 =>
  bP (bn Q q .lss 3 (.tmp 10) (.const (.int .i64 0)) x3 (.int .i64 0)) fun x5 =>
  ifV x5 (
  some ((.int .i64 2), G4)) (
  bS (e.ev.cl 171 [v1] G4) fun x6 G7 =>
  bP (pExtract x6 0) fun x8 =>
  bP (pExtract x6 1) fun x9 =>
  bS (al Q q 270 z270 G7) fun x10 G11 =>
  bP (st Q q 270 3 x10 x8 G11) fun G12 =>
  bP (bn Q q .neq 38 (.tmp 18) (.const (.int .i64 0)) x9 (.int .i64 0)) fun x13 =>
  ifV x13 (
  some ((.int .i64 5), G12)) (
  fl q 270 0 0 3 x10 G12 fun x15 =>
  bP (bn Q q .lss 3 (.tmp 22) (.const (.int .i64 0)) x15 (.int .i64 0)) fun x16 =>
  bS (gP x16 false (fa Q q 270 2 2 x10) G12) fun x17 G18 =>
  bS (gP x16 false (ld Q q 4 x17 G18) G18) fun x19 G20 =>
  bP (pickV x16 (.bool true) x19) fun x21 =>
  bS (gP x21 false (fa Q q 270 0 0 x10) G20) fun x22 G23 =>
  bS (gP x21 false (ld Q q 3 x22 G23) G23) fun x24 G25 =>
  bS (gP x21 false (fa Q q 31 3 3 x0) G25) fun x26 G27 =>
  bS (gP x21 false (fa Q q 29 0 0 x26) G27) fun x28 G29 =>
  bS (gP x21 false (fa Q q 25 0 0 x28) G29) fun x30 G31 =>
  bS (gP x21 false (fa Q q 23 2 2 x30) G31) fun x32 G33 =>
  bS (gP x21 false (ld Q q 3 x32 G33) G33) fun x34 G35 =>
  bS (gP x21 false (bn Q q .geq 3 (.tmp 30) (.tmp 35) x24 x34) G35) fun x36 G37 =>
  bP (pickV x21 (.bool true) x36) fun x38 =>
  bS (gV x38 false v2 G37) fun x39 G40 =>
  bS (gP x38 false (bn Q q .lss 3 (.tmp 39) (.const (.int .i64 1)) x39 (.int .i64 1)) G40) fun x41 G42 =>
  bP (pickV x38 (.bool true) x41) fun x43 =>
  bS (gV x43 false v2 G42) fun x44 G45 =>
  bS (gP x43 false (fa Q q 31 2 2 x0) G45) fun x46 G47 =>
  bS (gP x43 false (ld Q q 3 x46 G47) G47) fun x48 G49 =>
  bS (gP x43 false (bn Q q .gtr 3 (.tmp 43) (.tmp 45) x44 x48) G49) fun x50 G51 =>
  bP (pickV x43 (.bool true) x50) fun x52 =>
  ifV x52 (
  some ((.int .i64 3), G51)) (
  some ((.int .i64 0), G51))))
theorem f325 (h : ExLe Q e (E orc)) (v0 v1 v2 : Value) (G : GS) : Ref (s325 true e v0 v1 v2 G) ((E orc).cl 325 [v0, v1, v2] G) := cS (S := fun q e => s325 q e v0 v1 v2 G) Tryz.func325 (by unfold s325; exact Ref.gq)
/-- (*coxswain/insert.Insert).anew -/
def s326 (q : Bool) (e : Ex) (v0 v1 : Value) (G : GS) : OG :=
  nf q 450 0 0 v0 fun x1 =>
  bP (lda Q q 31 13 x1 (G.room 13)) fun x2 =>
  nl q 450 4 16 37 v0 (G.room 13) fun x5 =>
  bS (e.ev.cl 339 [x2, x5] (G.room 13)) fun x7 G6 =>
  nf q 450 10 22 v0 fun x9 =>
  bP (st Q q 186 1 x9 x7 G6) fun G10 =>
  some (v1, G10)
theorem f326 (h : ExLe Q e (E orc)) (v0 v1 : Value) (G : GS) : Ref (s326 true e v0 v1 G) ((E orc).cl 326 [v0, v1] G) := cS (S := fun q e => s326 q e v0 v1 G) Tryz.func326 (by unfold s326; exact Ref.gq)
/-- (*coxswain/epoch.Advance).turn -/
def s327 (q : Bool) (e : Ex) (v0 v1 : Value) (G : GS) : OG :=
  bS (bx q v0 G) fun x0 G1 =>
  bS (bx q v1 G1) fun x2 G3 =>
  bP (ld Q q 319 x0 G3) fun x4 =>
  bP (pNil x4) fun x5 =>
  bP (fa Q q 431 0 0 x5) fun x6 =>
  bP (fa Q q 277 1 3 x6) fun x7 =>
  bP (st Q q 3 1 x7 (.int .i64 2) G3) fun G8 =>
  bP (ld Q q 319 x0 G8) fun x9 =>
  bP (pNil x9) fun x10 =>
  bP (fa Q q 431 1 6 x10) fun x11 =>
  bP (lda Q q 27 3 x11 G8) fun x12 =>
  bS (e.ev.cl 183 [x12] G8) fun x13 G14 =>
  bX (xRange e.ev x13 #[14, 15] (subAt [1, 1, 1, 0, 0] (bodyOf Tryz.f327)) (subAt [1, 1, 1, 0, 1] (bodyOf Tryz.f327)) (lsq q 35 (nth undef [v0, v1]) [(13, x13), (12, x12), (11, x11), (10, x10), (9, x9), (8, x7), (7, x6), (6, x5), (5, x4), (3, x2), (2, x0)]) G14) fun e15 T16 G17 =>
  ifE e15 .normal (
  some (.tuple #[], G17)) (ifE e15 .ret (
  some (.tuple #[], G17)) (none))
theorem f327 (h : ExLe Q e (E orc)) (v0 v1 : Value) (G : GS) : Ref (s327 true e v0 v1 G) ((E orc).cl 327 [v0, v1] G) := cS (S := fun q e => s327 q e v0 v1 G) Tryz.func327 (by unfold s327; exact Ref.gq)
def r327_0 (q : Bool) (e : Ex) (l : Nat) (τ : Env) (u0 u1 : Value) (G : GS) : OG :=
  bV q (τ 2) fun a2_ =>
  bV q (τ 3) fun a3_ =>
  bP (G.loop l) fun r0 => if r0.st = .ready then
  bP (ld Q q 3 a3_ (G.putLoop l (Lp.setSt r0 .busy))) fun x1 =>
  bP (bn Q q .geq 3 (.tmp 16) (.tmp 17) u0 x1) fun x2 =>
  bS (gd x2 true (some (u0, (G.putLoop l (Lp.setSt r0 .busy)))) (G.putLoop l (Lp.setSt r0 .busy))) fun x3 G4 =>
  bS (gP x2 true (ld Q q 319 a2_ G4) G4) fun x5 G6 =>
  bS (gP x2 true (pNil x5) G6) fun x7 G8 =>
  bS (gP x2 true (fa Q q 431 2 9 x7) G8) fun x9 G10 =>
  bS (gP x2 true (ld Q q 3 x9 G10) G10) fun x11 G12 =>
  bS (gP x2 true (bn Q q .neq 3 (.tmp 20) (.tmp 24) x3 x11) G12) fun x13 G14 =>
  bP (pickV x2 x13 (.bool false)) fun x15 =>
  ifV x15 (
  bP (ld Q q 319 a2_ (G14.room 10)) fun x16 =>
  bP (ld Q q 319 a2_ (G14.room 10)) fun x17 =>
  nf q 431 5 12 x16 fun x19 =>
  bP (st Q q 3 1 x19 u0 (G14.room 10)) fun G20 =>
  chk ((sameO (ld Q q 319 a2_ G20) x17 && true)) <|
  nf q 431 0 0 x17 fun x22 =>
  bP (fa Q q 277 1 3 x22) fun x23 =>
  bP (st Q q 3 1 x23 (.int .i64 1) G20) fun G24 =>
  roundEnd l .ret G24) (
  roundEnd l .normal G14)
  else none
theorem mr327_0 {e : Ex} {E : Ev} (h : ExLe Q e E) (l : Nat) (τ : Env) (u0 u1 : Value) (G : GS) : Ref (r327_0 true e l τ u0 u1 G) (r327_0 false (Ex.of E) l τ u0 u1 G) := by
  unfold r327_0
  repeat' (with_reducible first | exact Ref.rfl' _ | exact ROp.r | refine Ref.bP ?_ fun _ => ?_ | refine Ref.bS ?_ fun _ _ => ?_ | exact Ref.cl (by assumption) | refine Ref.ifV ?_ ?_ | refine LpLe.rx (by assumption) ?_ | refine Ref.xitq ?_ | exact UOk.z | refine UOk.c (by assumption) ?_ | exact Ref.nil _ | refine Ref.bVe fun _ _ => ?_ | refine Ref.bLq (by assumption) ?_ fun _ _ _ => ?_ | refine Ref.ifE ?_ ?_ | refine Ref.chk ?_ ?_ | refine Imp.and ?_ ?_ | refine Imp.or ?_ | exact Imp.rfl' _ | refine Imp.sameO ?_ | refine Ref.gd ?_ | exact Ref.cValue (by assumption) | refine Ref.bX ?_ fun _ _ _ => ?_ | exact Ref.scQ (by assumption) | exact Ref.xRangeQ (by assumption) | exact Ref.cInvoke (by assumption) | refine Ref.rdy ?_)
theorem d327_0 {orc : FuncId → Bool} {e : Ex} (h : ExLe Q e (E orc)) (l : Nat) (T : List Value) (u0 u1 : Value) (G : GS) {st : LoopState} {pend : Option Code} (hl : G.loop l = some ⟨st, pend, T, [14, 15], (subAt [1, 1, 1, 0, 0] (bodyOf Tryz.f327)), (subAt [1, 1, 1, 0, 1] (bodyOf Tryz.f327))⟩) (hT : T.length = 35) : Ref (r327_0 true e l (nth undef T) u0 u1 G) ((E orc).rd l [u0, u1] G) :=
  fun r hr => rd_sxE Q orc hl (by kernel_rfl) hT (by kernel_rfl) (mr327_0 h l _ u0 u1 G r hr)
/-- (*coxswain/cells.Mem).CAS -/
def s328 (q : Bool) (e : Ex) (v0 v1 v2 v3 : Value) (G : GS) : OG :=
  bS (e.ev.cl 58 [v0, v1] G) fun x0 G1 =>
  bP (bd Q q 122 z122 [(0, 0, 1), (1, 1, 1), (2, 2, 1)] [x0, v2, v3]) fun x2 =>
  bS (al Q q 122 z122 G1) fun x3 G4 =>
  bP (st Q q 122 3 x3 x2 G4) fun G5 =>
  fl q 122 0 0 119 x3 G5 fun x7 =>
  bP (lda Q q 122 3 x3 G5) fun x8 =>
  bS (e.ev.cl 59 [v0, (.int .i64 3), v1, x7, (.func (.func 340) #[x8] #[])] G5) fun x9 G10 =>
  bP (fd Q q 80 4 4 x9) fun x11 =>
  some (x11, G10)
theorem f328 (h : ExLe Q e (E orc)) (v0 v1 v2 v3 : Value) (G : GS) : Ref (s328 true e v0 v1 v2 v3 G) ((E orc).cl 328 [v0, v1, v2, v3] G) := cS (S := fun q e => s328 q e v0 v1 v2 v3 G) Tryz.func328 (by unfold s328; exact Ref.gq)
/-- (*coxswain/stack.All).second -/
def s329 (q : Bool) (e : Ex) (v0 v1 : Value) (G : GS) : OG :=
  nf q 434 1 9 v0 fun x1 =>
  bP (st Q q 432 1 x1 (.func (.func 301) #[] #[]) G) fun G2 =>
  nf q 434 0 0 v0 fun x4 =>
  bS (e.ev.cl 341 [x4, v1, (.int .i64 (-1))] G2) fun x5 G6 =>
  ifV x5 (
  nf q 434 0 0 v0 fun x8 =>
  bS (e.ev.cl 318 [x8, (.int .i64 0)] G6) fun x9 G10 =>
  some (.tuple #[], G10)) (
  some (.tuple #[], G6))
theorem f329 (h : ExLe Q e (E orc)) (v0 v1 : Value) (G : GS) : Ref (s329 true e v0 v1 G) ((E orc).cl 329 [v0, v1] G) := cS (S := fun q e => s329 q e v0 v1 G) Tryz.func329 (by unfold s329; exact Ref.gq)
/-- (*coxswain/epoch.lines).step -/
def s330 (q : Bool) (e : Ex) (v0 v1 : Value) (G : GS) : OG :=
  nl q 277 2 4 4 v0 G fun x2 =>
  bP (un Q q .not x2) fun x3 =>
  bS (gV x3 false v0 G) fun x4 G5 =>
  bS (gP x3 false (pNil x4) G5) fun x6 G7 =>
  bS (gP x3 false (fa Q q 277 1 3 x6) G7) fun x8 G9 =>
  bS (gP x3 false (ld Q q 3 x8 G9) G9) fun x10 G11 =>
  bS (gP x3 false (bn Q q .eql 3 (.tmp 14) (.const (.int .i64 (-1))) x10 (.int .i64 (-1))) G11) fun x12 G13 =>
  bP (pickV x3 (.bool true) x12) fun x14 =>
  ifV x14 (
  some ((.bool true), G13)) (
  nl q 277 1 3 3 v0 (G13.room 11) fun x17 =>
  nf q 277 0 0 v0 fun x19 =>
  bP (iaa Q q 275 3 1 x19 x17) fun x20 =>
  bP (ld Q q 274 x20 (G13.room 11)) fun x21 =>
  bS (cValue e.ev x21 [v1] (G13.room 11)) fun x23 G22 =>
  nl q 277 1 3 3 v0 G22 fun x26 =>
  bP (bn Q q .eql 3 (.tmp 31) (.const (.int .i64 (-1))) x26 (.int .i64 (-1))) fun x27 =>
  some (x27, G22))
theorem f330 (h : ExLe Q e (E orc)) (v0 v1 : Value) (G : GS) : Ref (s330 true e v0 v1 G) ((E orc).cl 330 [v0, v1] G) := cS (S := fun q e => s330 q e v0 v1 G) Tryz.func330 (by unfold s330; exact Ref.gq)
/-- (*coxswain/stack.All).Step -/
def s331 (q : Bool) (e : Ex) (v0 v1 : Value) (G : GS) : OG :=
  bP (ep Q q false 320 (.tmp 5) (.const (.pointer none)) v0 (.pointer none)) fun x0 =>
  bS (gV x0 false v0 G) fun x1 G2 =>
  bS (gP x0 false (pNil x1) G2) fun x3 G4 =>
  bS (gP x0 false (fa Q q 434 0 0 x3) G4) fun x5 G6 =>
  bS (gS x0 false (e.ev.cl 319 [x5] G6) G6) fun x7 G8 =>
  bP (pickV x0 (.bool true) x7) fun x9 =>
  ifV x9 (
  some ((.bool true), G8)) (
  nl q 434 1 9 432 v0 G8 fun x12 =>
  bS (cValue e.ev x12 [v0, v1] G8) fun x13 G14 =>
  nf q 434 0 0 v0 fun x16 =>
  fl q 410 5 7 4 x16 G14 fun x18 =>
  some (x18, G14))
theorem f331 (h : ExLe Q e (E orc)) (v0 v1 : Value) (G : GS) : Ref (s331 true e v0 v1 G) ((E orc).cl 331 [v0, v1] G) := cS (S := fun q e => s331 q e v0 v1 G) Tryz.func331 (by unfold s331; exact Ref.gq)
/-- (*coxswain/stack.All).Index -/
def s332 (q : Bool) (e : Ex) (v0 : Value) (G : GS) : OG :=
  bP (ep Q q false 320 (.tmp 4) (.const (.pointer none)) v0 (.pointer none)) fun x0 =>
  ifV x0 (
  some (.tuple #[(.int .i64 0), (.int .i64 1)], G)) (
  nf q 434 0 0 v0 fun x2 =>
  bS (e.ev.cl 320 [x2] G) fun x3 G4 =>
  bP (pExtract x3 0) fun x5 =>
  bP (pExtract x3 1) fun x6 =>
  some (.tuple #[x5, x6], G4))
theorem f332 (h : ExLe Q e (E orc)) (v0 : Value) (G : GS) : Ref (s332 true e v0 G) ((E orc).cl 332 [v0] G) := cS (S := fun q e => s332 q e v0 G) Tryz.func332 (by unfold s332; exact Ref.gq)
/-- (*coxswain/limbo.Collect).links -/
def s333 (q : Bool) (e : Ex) (v0 v1 : Value) (G : GS) : OG :=
  nf q 325 1 3 v0 fun x1 =>
  bP (fa Q q 29 0 0 x1) fun x2 =>
  bP (fa Q q 25 0 0 x2) fun x3 =>
  fl q 23 1 1 3 x3 (G.room 21) fun x5 =>
  nl q 325 4 15 3 v0 (G.room 21) fun x8 =>
  bP (bn Q q .add 3 (.tmp 15) (.tmp 19) x5 x8) fun x9 =>
  bS (e.ev.cl 240 [v1, x9] (G.room 21)) fun x11 G10 =>
  bS (e.ev.cl 281 [x11] G10) fun x13 G12 =>
  bP (pExtract x13 0) fun x14 =>
  bP (pExtract x13 1) fun x15 =>
  bS (al Q q 340 z340 (G12.at' (G.nx + 18))) fun x16 G17 =>
  bP (st Q q 340 2 x16 x14 (G17.back G12)) fun G18 =>
  nf q 325 1 3 v0 fun x20 =>
  bP (fa Q q 29 0 0 x20) fun x21 =>
  bP (lda Q q 25 6 x21 (G18.room 17)) fun x22 =>
  nl q 325 4 15 3 v0 (G18.room 17) fun x25 =>
  bS (e.ev.cl 342 [x22, x25] (G18.room 17)) fun x27 G26 =>
  bP (fa Q q 340 0 0 x16) fun x28 =>
  bP (ld Q q 3 x28 G26) fun x29 =>
  chk ((sameO (ld Q q 3 x28 (G18.room 17)) x29 && true)) <|
  bP (bd Q q 323 z323 [(0, 0, 1), (1, 1, 1)] [x27, x29]) fun x30 =>
  nf q 325 5 16 v0 fun x32 =>
  bP (st Q q 323 2 x32 x30 G26) fun G33 =>
  some ((.func (.func 343) #[v0] #[]), G33)
theorem f333 (h : ExLe Q e (E orc)) (v0 v1 : Value) (G : GS) : Ref (s333 true e v0 v1 G) ((E orc).cl 333 [v0, v1] G) := cS (S := fun q e => s333 q e v0 v1 G) Tryz.func333 (by unfold s333; exact Ref.gq)
/-- (*coxswain/stack.Pop).third -/
def s337 (q : Bool) (e : Ex) (v0 v1 : Value) (G : GS) : OG :=
  nf q 413 1 9 v0 fun x1 =>
  bP (st Q q 411 1 x1 (.func (.func 287) #[] #[]) G) fun G2 =>
  nf q 413 0 0 v0 fun x4 =>
  nf q 413 0 0 v0 fun x6 =>
  fl q 410 3 5 3 x6 (G2.room 10) fun x8 =>
  bS (e.ev.cl 341 [x4, v1, x8] (G2.room 10)) fun x10 G9 =>
  ifV x10 (
  nf q 413 0 0 v0 fun x12 =>
  bS (e.ev.cl 318 [x12, (.int .i64 0)] G9) fun x13 G14 =>
  some (.tuple #[], G14)) (
  some (.tuple #[], G9))
theorem f337 (h : ExLe Q e (E orc)) (v0 v1 : Value) (G : GS) : Ref (s337 true e v0 v1 G) ((E orc).cl 337 [v0, v1] G) := cS (S := fun q e => s337 q e v0 v1 G) Tryz.func337 (by unfold s337; exact Ref.gq)
/-- (*coxswain/stack.held).told -/
def s338 (q : Bool) (e : Ex) (v0 : Value) (G : GS) : OG :=
  bP (ep Q q false 454 (.tmp 4) (.const (.pointer none)) v0 (.pointer none)) fun x0 =>
  bS (gV x0 false v0 G) fun x1 G2 =>
  bS (gP x0 false (pNil x1) G2) fun x3 G4 =>
  bS (gP x0 false (fa Q q 410 4 6 x3) G4) fun x5 G6 =>
  bS (gP x0 false (ld Q q 4 x5 G6) G6) fun x7 G8 =>
  bS (gP x0 false (un Q q .not x7) G8) fun x9 G10 =>
  bP (pickV x0 (.bool true) x9) fun x11 =>
  ifV x11 (
  some ((.int .i64 1), G10)) (
  nl q 410 5 7 4 v0 G10 fun x14 =>
  bP (un Q q .not x14) fun x15 =>
  ifV x15 (
  some ((.int .i64 14), G10)) (
  nl q 410 6 8 38 v0 G10 fun x18 =>
  some (x18, G10)))
theorem f338 (h : ExLe Q e (E orc)) (v0 : Value) (G : GS) : Ref (s338 true e v0 G) ((E orc).cl 338 [v0] G) := cS (S := fun q e => s338 q e v0 G) Tryz.func338 (by unfold s338; exact Ref.gq)
/-- coxswain/find.NewFind -/
def s339 (q : Bool) (e : Ex) (v0 v1 : Value) (G : GS) : OG :=
  bS (bx q v0 G) fun x0 G1 =>
  bP (lda Q q 31 13 x0 G1) fun x2 =>
  bP (bd Q q 462 z462 [(0, 0, 13), (1, 13, 1), (7, 22, 1)] [x2, v1, (.bool true)]) fun x3 =>
  bS (bx q x3 G1) fun x4 G5 =>
  bP (lda Q q 31 13 x0 G5) fun x6 =>
  bS (e.ev.cl 99 [x6, (.int .i64 (-1)), (.int .i64 0)] G5) fun x7 G8 =>
  bP (bn Q q .lss 3 (.tmp 11) (.const (.int .i64 0)) x7 (.int .i64 0)) fun x9 =>
  ifV x9 (
  nf q 462 2 14 x4 fun x11 =>
  bP (st Q q 3 1 x11 (.int .i64 9) G8) fun G12 =>
  nf q 462 8 23 x4 fun x14 =>
  bP (st Q q 38 1 x14 (.int .i64 2) G12) fun G15 =>
  some (x4, G15)) (
  fl q 31 2 2 3 x0 G8 fun x17 =>
  bS (mk Q q 460 4 32 z459 x17 x17 G8) fun x18 G19 =>
  nf q 462 5 20 x4 fun x21 =>
  bP (st Q q 460 1 x21 x18 G19) fun G22 =>
  bS (e.ev.cl 344 [x4] G22) fun x23 G24 =>
  some (x4, G24))
theorem f339 (h : ExLe Q e (E orc)) (v0 v1 : Value) (G : GS) : Ref (s339 true e v0 v1 G) ((E orc).cl 339 [v0, v1] G) := cS (S := fun q e => s339 q e v0 v1 G) Tryz.func339 (by unfold s339; exact Ref.gq)
/-- (coxswain/cells.deed).swap -/
def s340 (q : Bool) (e : Ex) (v0 : Value) (G : GS) : OG :=
  bS (bx q v0 G) fun x0 G1 =>
  fl q 122 0 0 119 x0 (G1.room 7) fun x3 =>
  bP (pNil x3) fun x4 =>
  bP (ld Q q 133 x4 (G1.room 7)) fun x5 =>
  fl q 122 1 1 37 x0 (G1.room 7) fun x7 =>
  bP (bn Q q .neq 37 (.tmp 7) (.tmp 9) x5 x7) fun x8 =>
  ifV x8 (
  fl q 122 0 0 119 x0 (G1.room 7) fun x10 =>
  bP (pNil x10) fun x11 =>
  bP (ld Q q 133 x11 (G1.room 7)) fun x12 =>
  some (.tuple #[x12, (.bool false)], (G1.room 7))) (
  fl q 122 2 2 37 x0 (G1.room 7) fun x14 =>
  some (.tuple #[x14, (.bool true)], (G1.room 7)))
theorem f340 (h : ExLe Q e (E orc)) (v0 : Value) (G : GS) : Ref (s340 true e v0 G) ((E orc).cl 340 [v0] G) := cS (S := fun q e => s340 q e v0 G) Tryz.func340 (by unfold s340; exact Ref.gq)
/-- (*coxswain/stack.held).swap -/
def s341 (q : Bool) (e : Ex) (v0 v1 v2 : Value) (G : GS) : OG :=
  nl q 410 1 3 37 v0 G fun x2 =>
  bS (e.ev.cl 281 [x2] G) fun x3 G4 =>
  bP (pExtract x3 0) fun x5 =>
  bP (pExtract x3 1) fun x6 =>
  bS (al Q q 340 z340 G4) fun x7 G8 =>
  bP (st Q q 340 2 x7 x5 G8) fun G9 =>
  fl q 340 1 1 3 x7 G9 fun x11 =>
  bP (bn Q q .add 3 (.tmp 22) (.const (.int .i64 1)) x11 (.int .i64 1)) fun x12 =>
  bP (bn Q q .and 3 (.tmp 23) (.const (.int .i64 281474976710655)) x12 (.int .i64 281474976710655)) fun x13 =>
  bP (bd Q q 340 z340 [(0, 0, 1), (1, 1, 1)] [v2, x13]) fun x14 =>
  bS (e.ev.cl 286 [x14] G9) fun x15 G16 =>
  bP (pExtract x15 0) fun x17 =>
  bP (pExtract x15 1) fun x18 =>
  nf q 410 0 0 v0 fun x20 =>
  fl q 23 0 0 3 x20 (G16.room 13) fun x22 =>
  nl q 410 1 3 37 v0 (G16.room 13) fun x25 =>
  bS (e.ev.cl 328 [v1, x22, x25, x17] (G16.room 13)) fun x27 G26 =>
  some (x27, G26)
theorem f341 (h : ExLe Q e (E orc)) (v0 v1 v2 : Value) (G : GS) : Ref (s341 true e v0 v1 v2 G) ((E orc).cl 341 [v0, v1, v2] G) := cS (S := fun q e => s341 q e v0 v1 v2 G) Tryz.func341 (by unfold s341; exact Ref.gq)
/-- coxswain/arena.NewFree -/
def s342 (q : Bool) (e : Ex) (v0 v1 : Value) (G : GS) : OG :=
  bS (bx q v0 G) fun x0 G1 =>
  bP (fa Q q 25 0 0 x0) fun x2 =>
  bP (lda Q q 23 3 x2 (G1.room 9)) fun x3 =>
  bS (e.ev.cl 345 [x3, v1] (G1.room 9)) fun x5 G4 =>
  bP (lda Q q 25 6 x0 G4) fun x6 =>
  chk ((sameO (lda Q q 25 6 x0 (G1.room 9)) x6 && true)) <|
  bP (bd Q q 467 z467 [(0, 0, 1), (1, 1, 6), (2, 7, 1), (4, 9, 1)] [x5, x6, (.bool true), v1]) fun x7 =>
  bS (bx q x7 (G4.at' (G1.nx + 7))) fun x8 G9 =>
  bP (bn Q q .lss 3 (.tmp 14) (.const (.int .i64 0)) v1 (.int .i64 0)) fun x10 =>
  bS (gd x10 false (some (v1, (G9.back G4))) (G9.back G4)) fun x11 G12 =>
  bS (gP x10 false (fa Q q 25 0 0 x0) G12) fun x13 G14 =>
  bS (gP x10 false (fa Q q 23 2 2 x13) G14) fun x15 G16 =>
  bS (gP x10 false (ld Q q 3 x15 G16) G16) fun x17 G18 =>
  bS (gP x10 false (bn Q q .geq 3 (.tmp 17) (.tmp 20) x11 x17) G18) fun x19 G20 =>
  bP (pickV x10 (.bool true) x19) fun x21 =>
  ifV x21 (
  nf q 467 6 11 x8 fun x23 =>
  bP (st Q q 38 1 x23 (.int .i64 3) G20) fun G24 =>
  some (x8, G24)) (
  nf q 467 3 8 x8 fun x26 =>
  bP (st Q q 465 1 x26 (.func (.func 346) #[] #[]) G20) fun G27 =>
  some (x8, G27))
theorem f342 (h : ExLe Q e (E orc)) (v0 v1 : Value) (G : GS) : Ref (s342 true e v0 v1 G) ((E orc).cl 342 [v0, v1] G) := cS (S := fun q e => s342 q e v0 v1 G) Tryz.func342 (by unfold s342; exact Ref.gq)
/-- (*coxswain/limbo.Collect).gives -/
def s343 (q : Bool) (e : Ex) (v0 v1 : Value) (G : GS) : OG :=
  nf q 325 5 16 v0 fun x1 =>
  fl q 323 0 0 321 x1 G fun x3 =>
  bS (e.ev.cl 347 [x3, v1] G) fun x4 G5 =>
  bP (un Q q .not x4) fun x6 =>
  ifV x6 (
  some ((.func (.func 343) #[v0] #[]), G5)) (
  nl q 325 6 18 3 v0 G5 fun x9 =>
  bP (bn Q q .add 3 (.tmp 18) (.const (.int .i64 1)) x9 (.int .i64 1)) fun x10 =>
  nf q 325 6 18 v0 fun x12 =>
  bP (st Q q 3 1 x12 x10 G5) fun G13 =>
  nf q 325 5 16 v0 fun x15 =>
  fl q 323 1 1 3 x15 G13 fun x17 =>
  nf q 325 4 15 v0 fun x19 =>
  bP (st Q q 3 1 x19 x17 G13) fun G20 =>
  nl q 325 4 15 3 v0 (G20.room 33) fun x23 =>
  bP (bn Q q .lss 3 (.tmp 33) (.const (.int .i64 0)) x23 (.int .i64 0)) fun x24 =>
  bS (gV x24 false v0 (G20.room 33)) fun x25 _ =>
  bS (gP x24 false (pNil x25) (G20.room 33)) fun x26 _ =>
  bS (gP x24 false (fa Q q 325 4 15 x26) (G20.room 33)) fun x27 _ =>
  bS (gP x24 false (ld Q q 3 x27 (G20.room 33)) (G20.room 33)) fun x28 _ =>
  bS (gV x24 false v0 (G20.room 33)) fun x29 _ =>
  bS (gP x24 false (pNil x29) (G20.room 33)) fun x30 _ =>
  bS (gP x24 false (fa Q q 325 1 3 x30) (G20.room 33)) fun x31 _ =>
  bS (gP x24 false (fa Q q 29 0 0 x31) (G20.room 33)) fun x32 _ =>
  bS (gP x24 false (fa Q q 25 0 0 x32) (G20.room 33)) fun x33 _ =>
  bS (gP x24 false (fa Q q 23 2 2 x33) (G20.room 33)) fun x34 _ =>
  bS (gP x24 false (ld Q q 3 x34 (G20.room 33)) (G20.room 33)) fun x35 _ =>
  bS (gP x24 false (bn Q q .geq 3 (.tmp 39) (.tmp 46) x28 x35) (G20.room 33)) fun x36 _ =>
  bP (pickV x24 (.bool true) x36) fun x37 =>
  bS (gV x37 false v0 (G20.room 33)) fun x38 _ =>
  bS (gP x37 false (pNil x38) (G20.room 33)) fun x39 _ =>
  bS (gP x37 false (fa Q q 325 6 18 x39) (G20.room 33)) fun x40 _ =>
  bS (gP x37 false (ld Q q 3 x40 (G20.room 33)) (G20.room 33)) fun x41 _ =>
  bS (gV x37 false v0 (G20.room 33)) fun x42 _ =>
  bS (gP x37 false (pNil x42) (G20.room 33)) fun x43 _ =>
  bS (gP x37 false (fa Q q 325 1 3 x43) (G20.room 33)) fun x44 _ =>
  bS (gP x37 false (fa Q q 29 0 0 x44) (G20.room 33)) fun x45 _ =>
  bS (gP x37 false (fa Q q 25 0 0 x45) (G20.room 33)) fun x46 _ =>
  bS (gP x37 false (fa Q q 23 2 2 x46) (G20.room 33)) fun x47 _ =>
  bS (gP x37 false (ld Q q 3 x47 (G20.room 33)) (G20.room 33)) fun x48 _ =>
  bS (gP x37 false (bn Q q .geq 3 (.tmp 53) (.tmp 60) x41 x48) (G20.room 33)) fun x49 _ =>
  bP (pickV x37 (.bool true) x49) fun x50 =>
  ifV x50 (
  some (.nilFunc, (G20.room 33))) (
  some ((.func (.func 333) #[v0] #[]), (G20.room 33))))
theorem f343 (h : ExLe Q e (E orc)) (v0 v1 : Value) (G : GS) : Ref (s343 true e v0 v1 G) ((E orc).cl 343 [v0, v1] G) := cS (S := fun q e => s343 q e v0 v1 G) Tryz.func343 (by unfold s343; exact Ref.gq)
/-- (*coxswain/find.Find).anew -/
def s344 (q : Bool) (e : Ex) (v0 : Value) (G : GS) : OG :=
  nf q 462 0 0 v0 fun x1 =>
  fl q 31 2 2 3 x1 G fun x3 =>
  bP (bn Q q .sub 3 (.tmp 7) (.const (.int .i64 1)) x3 (.int .i64 1)) fun x4 =>
  bS (e.ev.cl 348 [v0, x4] G) fun x5 G6 =>
  some (.tuple #[], G6)
theorem f344 (h : ExLe Q e (E orc)) (v0 : Value) (G : GS) : Ref (s344 true e v0 G) ((E orc).cl 344 [v0] G) := cS (S := fun q e => s344 q e v0 G) Tryz.func344 (by unfold s344; exact Ref.gq)
/-- coxswain/stack.NewPush -/
def s345 (q : Bool) (e : Ex) (v0 v1 : Value) (G : GS) : OG :=
  bS (bx q v0 G) fun x0 G1 =>
  bP (lda Q q 23 3 x0 G1) fun x2 =>
  bP (bd Q q 410 z410 [(0, 0, 3), (2, 4, 1), (4, 6, 1)] [x2, v1, (.bool true)]) fun x3 =>
  bP (bd Q q 470 z470 [(0, 0, 9), (1, 9, 1)] [x3, (.func (.func 349) #[] #[])]) fun x4 =>
  bS (bx q x4 G1) fun x5 G6 =>
  bP (bn Q q .lss 3 (.tmp 11) (.const (.int .i64 0)) v1 (.int .i64 0)) fun x7 =>
  bS (gV x7 false v1 G6) fun x8 G9 =>
  bS (gP x7 false (fa Q q 23 2 2 x0) G9) fun x10 G11 =>
  bS (gP x7 false (ld Q q 3 x10 G11) G11) fun x12 G13 =>
  bS (gP x7 false (bn Q q .geq 3 (.tmp 14) (.tmp 16) x8 x12) G13) fun x14 G15 =>
  bP (pickV x7 (.bool true) x14) fun x16 =>
  ifV x16 (
  nf q 470 0 0 x5 fun x18 =>
  bS (e.ev.cl 318 [x18, (.int .i64 3)] G15) fun x19 G20 =>
  some (x5, G20)) (
  some (x5, G15))
theorem f345 (h : ExLe Q e (E orc)) (v0 v1 : Value) (G : GS) : Ref (s345 true e v0 v1 G) ((E orc).cl 345 [v0, v1] G) := cS (S := fun q e => s345 q e v0 v1 G) Tryz.func345 (by unfold s345; exact Ref.gq)
/-- (*coxswain/arena.Free).looks -/
def s346 (q : Bool) (e : Ex) (v0 v1 : Value) (G : GS) : OG :=
  nf q 467 1 1 v0 fun x1 =>
  fl q 25 1 3 3 x1 (G.room 16) fun x3 =>
  nl q 467 4 9 3 v0 (G.room 16) fun x6 =>
  bP (bn Q q .add 3 (.tmp 10) (.tmp 14) x3 x6) fun x7 =>
  bS (e.ev.cl 240 [v1, x7] (G.room 16)) fun x9 G8 =>
  nf q 467 5 10 v0 fun x11 =>
  bP (st Q q 37 1 x11 x9 G8) fun G12 =>
  nf q 467 3 8 v0 fun x14 =>
  bP (st Q q 465 1 x14 (.func (.func 350) #[] #[]) G12) fun G15 =>
  nl q 467 5 10 37 v0 (G15.room 11) fun x18 =>
  bS (e.ev.cl 321 [x18] (G15.room 11)) fun x20 G19 =>
  nf q 467 1 1 v0 fun x22 =>
  bP (fa Q q 25 3 5 x22) fun x23 =>
  bP (ld Q q 3 x23 G19) fun x24 =>
  chk ((sameO (ld Q q 3 x23 (G15.room 11)) x24 && true)) <|
  bP (bn Q q .geq 3 (.tmp 26) (.tmp 31) x20 x24) fun x25 =>
  ifV x25 (
  nf q 467 3 8 v0 fun x27 =>
  bP (st Q q 465 1 x27 (.func (.func 351) #[] #[]) G19) fun G28 =>
  some (.tuple #[], G28)) (
  some (.tuple #[], G19))
theorem f346 (h : ExLe Q e (E orc)) (v0 v1 : Value) (G : GS) : Ref (s346 true e v0 v1 G) ((E orc).cl 346 [v0, v1] G) := cS (S := fun q e => s346 q e v0 v1 G) Tryz.func346 (by unfold s346; exact Ref.gq)
/-- (*coxswain/arena.Free).Step -/
def s347 (q : Bool) (e : Ex) (v0 v1 : Value) (G : GS) : OG :=
  bP (ep Q q false 321 (.tmp 5) (.const (.pointer none)) v0 (.pointer none)) fun x0 =>
  bS (gV x0 false v0 G) fun x1 G2 =>
  bS (gP x0 false (pNil x1) G2) fun x3 G4 =>
  bS (gP x0 false (fa Q q 467 3 8 x3) G4) fun x5 G6 =>
  bS (gP x0 false (ld Q q 465 x5 G6) G6) fun x7 G8 =>
  bS (gP x0 false (ef Q q false 465 (.tmp 11) (.const .nilFunc) x7 .nilFunc) G8) fun x9 G10 =>
  bP (pickV x0 (.bool true) x9) fun x11 =>
  ifV x11 (
  some ((.bool true), G10)) (
  nl q 467 3 8 465 v0 G10 fun x14 =>
  bS (cValue e.ev x14 [v0, v1] G10) fun x15 G16 =>
  nl q 467 3 8 465 v0 G16 fun x19 =>
  bP (ef Q q false 465 (.tmp 24) (.const .nilFunc) x19 .nilFunc) fun x20 =>
  some (x20, G16))
theorem f347 (h : ExLe Q e (E orc)) (v0 v1 : Value) (G : GS) : Ref (s347 true e v0 v1 G) ((E orc).cl 347 [v0, v1] G) := cS (S := fun q e => s347 q e v0 v1 G) Tryz.func347 (by unfold s347; exact Ref.gq)
/-- (*coxswain/find.Find).begin -/
def s348 (q : Bool) (e : Ex) (v0 v1 : Value) (G : GS) : OG :=
  bS (bx q v0 G) fun x0 G1 =>
  bS (bx q v1 G1) fun x2 G3 =>
  bP (ld Q q 186 x0 (G3.room 10)) fun x4 =>
  bP (pNil x4) fun x5 =>
  bP (fa Q q 462 0 0 x5) fun x6 =>
  bP (fa Q q 31 2 2 x6) fun x7 =>
  bP (ld Q q 3 x7 (G3.room 10)) fun x8 =>
  bP (ld Q q 186 x0 (G3.room 10)) fun x9 =>
  bP (pNil x9) fun x10 =>
  bP (fa Q q 462 5 20 x10) fun x11 =>
  bP (ld Q q 460 x11 (G3.room 10)) fun x12 =>
  bS (e.ev.cl 352 [x8, x12] (G3.room 10)) fun x14 G13 =>
  bX (xRange e.ev x14 #[16, 17] (subAt [1, 0, 1, 0, 0] (bodyOf Tryz.f348)) (subAt [1, 0, 1, 0, 1] (bodyOf Tryz.f348)) (lsq q 31 (nth undef [v0, v1]) [(15, x14), (14, x12), (13, x11), (12, x10), (11, x9), (10, x8), (9, x7), (8, x6), (7, x5), (6, x4), (3, x2), (2, x0)]) G13) fun e15 T16 G17 =>
  bV q (nth undef T16 2) fun T16x2_ =>
  ifE e15 .normal (
  bP (ld Q q 186 T16x2_ G17) fun x18 =>
  nf q 462 2 14 x18 fun x20 =>
  bP (st Q q 3 1 x20 (.int .i64 9) G17) fun G21 =>
  some (.tuple #[], G21)) (ifE e15 .ret (
  some (.tuple #[], G17)) (none))
theorem f348 (h : ExLe Q e (E orc)) (v0 v1 : Value) (G : GS) : Ref (s348 true e v0 v1 G) ((E orc).cl 348 [v0, v1] G) := cS (S := fun q e => s348 q e v0 v1 G) Tryz.func348 (by unfold s348; exact Ref.gq)
def r348_0 (q : Bool) (e : Ex) (l : Nat) (τ : Env) (u0 u1 : Value) (G : GS) : OG :=
  bV q (τ 2) fun a2_ =>
  bV q (τ 3) fun a3_ =>
  bS (al Q q 459 z459 G) fun x0 G1 =>
  bP (st Q q 459 4 x0 u1 G1) fun G2 =>
  bP (G2.loop l) fun r3 => if r3.st = .ready then
  bP (ld Q q 3 a3_ (G2.putLoop l (Lp.setSt r3 .busy))) fun x4 =>
  bP (bn Q q .eql 3 (.tmp 18) (.tmp 19) u0 x4) fun x5 =>
  ifV x5 (
  bP (ld Q q 186 a2_ ((G2.putLoop l (Lp.setSt r3 .busy)).room 9)) fun x6 =>
  bP (ld Q q 186 a2_ ((G2.putLoop l (Lp.setSt r3 .busy)).room 9)) fun x7 =>
  bP (lda Q q 459 4 x0 ((G2.putLoop l (Lp.setSt r3 .busy)).room 9)) fun x8 =>
  nf q 462 3 15 x6 fun x10 =>
  bP (st Q q 459 4 x10 x8 ((G2.putLoop l (Lp.setSt r3 .busy)).room 9)) fun G11 =>
  chk ((sameO (ld Q q 186 a2_ G11) x7 && true)) <|
  nf q 462 2 14 x7 fun x13 =>
  bP (st Q q 3 1 x13 (.int .i64 1) G11) fun G14 =>
  roundEnd l .ret G14) (
  roundEnd l .normal (G2.putLoop l (Lp.setSt r3 .busy)))
  else none
theorem mr348_0 {e : Ex} {E : Ev} (h : ExLe Q e E) (l : Nat) (τ : Env) (u0 u1 : Value) (G : GS) : Ref (r348_0 true e l τ u0 u1 G) (r348_0 false (Ex.of E) l τ u0 u1 G) := by
  unfold r348_0
  repeat' (with_reducible first | exact Ref.rfl' _ | exact ROp.r | refine Ref.bP ?_ fun _ => ?_ | refine Ref.bS ?_ fun _ _ => ?_ | exact Ref.cl (by assumption) | refine Ref.ifV ?_ ?_ | refine LpLe.rx (by assumption) ?_ | refine Ref.xitq ?_ | exact UOk.z | refine UOk.c (by assumption) ?_ | exact Ref.nil _ | refine Ref.bVe fun _ _ => ?_ | refine Ref.bLq (by assumption) ?_ fun _ _ _ => ?_ | refine Ref.ifE ?_ ?_ | refine Ref.chk ?_ ?_ | refine Imp.and ?_ ?_ | refine Imp.or ?_ | exact Imp.rfl' _ | refine Imp.sameO ?_ | refine Ref.gd ?_ | exact Ref.cValue (by assumption) | refine Ref.bX ?_ fun _ _ _ => ?_ | exact Ref.scQ (by assumption) | exact Ref.xRangeQ (by assumption) | exact Ref.cInvoke (by assumption) | refine Ref.rdy ?_)
theorem d348_0 {orc : FuncId → Bool} {e : Ex} (h : ExLe Q e (E orc)) (l : Nat) (T : List Value) (u0 u1 : Value) (G : GS) {st : LoopState} {pend : Option Code} (hl : G.loop l = some ⟨st, pend, T, [16, 17], (subAt [1, 0, 1, 0, 0] (bodyOf Tryz.f348)), (subAt [1, 0, 1, 0, 1] (bodyOf Tryz.f348))⟩) (hT : T.length = 31) : Ref (r348_0 true e l (nth undef T) u0 u1 G) ((E orc).rd l [u0, u1] G) :=
  fun r hr => rd_sxE Q orc hl (by kernel_rfl) hT (by kernel_rfl) (mr348_0 h l _ u0 u1 G r hr)
/-- (*coxswain/stack.Push).first -/
def s349 (q : Bool) (e : Ex) (v0 v1 : Value) (G : GS) : OG :=
  nf q 470 0 0 v0 fun x1 =>
  bS (e.ev.cl 317 [x1, v1] G) fun x2 G3 =>
  nf q 470 0 0 v0 fun x5 =>
  bP (fa Q q 410 3 5 x5) fun x6 =>
  bP (st Q q 3 1 x6 x2 G3) fun G7 =>
  nf q 470 1 9 v0 fun x9 =>
  bP (st Q q 468 1 x9 (.func (.func 353) #[] #[]) G7) fun G10 =>
  some (.tuple #[], G10)
theorem f349 (h : ExLe Q e (E orc)) (v0 v1 : Value) (G : GS) : Ref (s349 true e v0 v1 G) ((E orc).cl 349 [v0, v1] G) := cS (S := fun q e => s349 q e v0 v1 G) Tryz.func349 (by unfold s349; exact Ref.gq)
/-- (*coxswain/arena.Free).raises -/
def s350 (q : Bool) (e : Ex) (v0 v1 : Value) (G : GS) : OG :=
  nf q 467 1 1 v0 fun x1 =>
  fl q 25 1 3 3 x1 (G.room 17) fun x3 =>
  nl q 467 4 9 3 v0 (G.room 17) fun x6 =>
  bP (bn Q q .add 3 (.tmp 9) (.tmp 13) x3 x6) fun x7 =>
  nl q 467 5 10 37 v0 (G.room 17) fun x10 =>
  bP (bn Q q .add 37 (.tmp 18) (.const (.int .u64 1)) x10 (.int .u64 1)) fun x11 =>
  bS (e.ev.cl 16 [v1, x7, x11] (G.room 17)) fun x13 G12 =>
  nf q 467 3 8 v0 fun x15 =>
  bP (st Q q 465 1 x15 (.func (.func 354) #[] #[]) G12) fun G16 =>
  some (.tuple #[], G16)
theorem f350 (h : ExLe Q e (E orc)) (v0 v1 : Value) (G : GS) : Ref (s350 true e v0 v1 G) ((E orc).cl 350 [v0, v1] G) := cS (S := fun q e => s350 q e v0 v1 G) Tryz.func350 (by unfold s350; exact Ref.gq)
/-- (*coxswain/arena.Free).wears -/
def s351 (q : Bool) (e : Ex) (v0 v1 : Value) (G : GS) : OG :=
  nf q 467 1 1 v0 fun x1 =>
  fl q 25 2 4 3 x1 G fun x3 =>
  bS (e.ev.cl 355 [v1, x3, (.int .u64 1)] G) fun x4 G5 =>
  nf q 467 3 8 v0 fun x7 =>
  bP (st Q q 465 1 x7 .nilFunc G5) fun G8 =>
  some (.tuple #[], G8)
theorem f351 (h : ExLe Q e (E orc)) (v0 v1 : Value) (G : GS) : Ref (s351 true e v0 v1 G) ((E orc).cl 351 [v0, v1] G) := cS (S := fun q e => s351 q e v0 v1 G) Tryz.func351 (by unfold s351; exact Ref.gq)
/-- coxswain/find.down -/
def s352 (q : Bool) (e : Ex) (v0 v1 : Value) (G : GS) : OG :=
  bS (bx q v0 G) fun x0 G1 =>
  bS (bx q v1 G1) fun x2 G3 =>
  some ((.func (.func 356) #[] #[x0, x2]), G3)
theorem f352 (h : ExLe Q e (E orc)) (v0 v1 : Value) (G : GS) : Ref (s352 true e v0 v1 G) ((E orc).cl 352 [v0, v1] G) := cS (S := fun q e => s352 q e v0 v1 G) Tryz.func352 (by unfold s352; exact Ref.gq)
/-- (*coxswain/stack.Push).second -/
def s353 (q : Bool) (e : Ex) (v0 v1 : Value) (G : GS) : OG :=
  nf q 470 0 0 v0 fun x1 =>
  bP (fa Q q 410 0 0 x1) fun x2 =>
  bP (fa Q q 23 1 1 x2) fun x3 =>
  bP (ld Q q 3 x3 (G.room 20)) fun x4 =>
  nf q 470 0 0 v0 fun x6 =>
  bP (fa Q q 410 2 4 x6) fun x7 =>
  bP (ld Q q 3 x7 (G.room 20)) fun x8 =>
  bP (bn Q q .add 3 (.tmp 10) (.tmp 15) x4 x8) fun x9 =>
  nf q 470 0 0 v0 fun x11 =>
  fl q 410 3 5 3 x11 (G.room 20) fun x13 =>
  bS (e.ev.cl 243 [x13] (G.room 20)) fun x15 G14 =>
  chk ((sameO (ld Q q 3 x7 G14) x8 && (sameO (ld Q q 3 x3 G14) x4 && true))) <|
  bS (e.ev.cl 16 [v1, x9, x15] G14) fun x17 G16 =>
  nf q 470 1 9 v0 fun x19 =>
  bP (st Q q 468 1 x19 (.func (.func 357) #[] #[]) G16) fun G20 =>
  some (.tuple #[], G20)
theorem f353 (h : ExLe Q e (E orc)) (v0 v1 : Value) (G : GS) : Ref (s353 true e v0 v1 G) ((E orc).cl 353 [v0, v1] G) := cS (S := fun q e => s353 q e v0 v1 G) Tryz.func353 (by unfold s353; exact Ref.gq)
/-- (*coxswain/arena.Free).push -/
def s354 (q : Bool) (e : Ex) (v0 v1 : Value) (G : GS) : OG :=
  nl q 467 0 0 463 v0 G fun x2 =>
  bS (e.ev.cl 358 [x2, v1] G) fun x3 G4 =>
  ifV x3 (
  nf q 467 3 8 v0 fun x6 =>
  bP (st Q q 465 1 x6 .nilFunc G4) fun G7 =>
  some (.tuple #[], G7)) (
  some (.tuple #[], G4))
theorem f354 (h : ExLe Q e (E orc)) (v0 v1 : Value) (G : GS) : Ref (s354 true e v0 v1 G) ((E orc).cl 354 [v0, v1] G) := cS (S := fun q e => s354 q e v0 v1 G) Tryz.func354 (by unfold s354; exact Ref.gq)
/-- (*coxswain/cells.Mem).Add -/
def s355 (q : Bool) (e : Ex) (v0 v1 v2 : Value) (G : GS) : OG :=
  bS (e.ev.cl 58 [v0, v1] G) fun x0 G1 =>
  bP (bd Q q 122 z122 [(0, 0, 1), (1, 1, 1)] [x0, v2]) fun x2 =>
  bS (al Q q 122 z122 G1) fun x3 G4 =>
  bP (st Q q 122 3 x3 x2 G4) fun G5 =>
  fl q 122 0 0 119 x3 G5 fun x7 =>
  bP (lda Q q 122 3 x3 G5) fun x8 =>
  bS (e.ev.cl 59 [v0, (.int .i64 4), v1, x7, (.func (.func 359) #[x8] #[])] G5) fun x9 G10 =>
  bP (fd Q q 80 3 3 x9) fun x11 =>
  some (x11, G10)
theorem f355 (h : ExLe Q e (E orc)) (v0 v1 v2 : Value) (G : GS) : Ref (s355 true e v0 v1 v2 G) ((E orc).cl 355 [v0, v1, v2] G) := cS (S := fun q e => s355 q e v0 v1 v2 G) Tryz.func355 (by unfold s355; exact Ref.gq)
def b356_0 (q : Bool) (e : Ex) (lp : LpF) (τ : Env) (G : GS) : OL :=
  bV q (τ 0) fun a0_ =>
  bV q (τ 2) fun a2_ =>
  bV q (τ 4) fun a4_ =>
  bV q (τ 5) fun a5_ =>
  bP (bn Q q .geq 3 (.tmp 9) (.const (.int .i64 0)) a5_ (.int .i64 0)) fun x0 =>
  ifV x0 (
  bP (fa Q q 459 0 0 a4_) fun x1 =>
  bP (st Q q 3 1 x1 a5_ G) fun G2 =>
  bP (fa Q q 459 3 3 a4_) fun x3 =>
  bP (st Q q 37 1 x3 (.int .u64 0) G2) fun G4 =>
  bP (lda Q q 459 4 a4_ G4) fun x5 =>
  bS (cValue e.ev a0_ [a5_, x5] G4) fun x6 G7 =>
  bP (un Q q .not x6) fun x8 =>
  ifV x8 (
  some (.ret, xq q 25 τ [(20, x8), (19, x6), (18, x5), (17, a5_), (16, a0_), (15, x3), (14, x1), (13, a5_), (10, x0), (9, a5_)] [(0, a0_), (2, a2_), (4, a4_), (5, a5_)], G7)) (
  bP (ld Q q 460 a2_ G7) fun x9 =>
  bP (ias Q q 460 4 x9 a5_) fun x10 =>
  bP (lda Q q 459 4 x10 G7) fun x11 =>
  bP (st Q q 459 4 a4_ x11 G7) fun G12 =>
  bP (bn Q q .sub 3 (.tmp 11) (.const (.int .i64 1)) a5_ (.int .i64 1)) fun x13 =>
  lp (xq q 25 τ [(5, x13), (12, x13), (11, a5_), (24, x11), (23, x10), (22, a5_), (21, x9), (20, x8), (19, x6), (18, x5), (17, a5_), (16, a0_), (15, x3), (14, x1), (13, a5_), (10, x0), (9, a5_)] [(0, a0_), (2, a2_), (4, a4_)]) G12)) (
  some ((.exit 0), xq q 25 τ [(10, x0), (9, a5_)] [(0, a0_), (2, a2_), (4, a4_), (5, a5_)], G))
theorem l356_0 (h : ExLe Q e (E orc)) : LT orc 25 (subAt [1, 1, 0, 0] (bodyOf Tryz.f356)) (b356_0 true e) := cL fun hlp τ G => by unfold b356_0; exact Ref.gq
/-- coxswain/find.down$1 -/
def s356 (q : Bool) (e : Ex) (v0 v1 v2 : Value) (G : GS) : OG :=
  bP (bd Q q 459 z459 [(1, 1, 1)] [(.int .i64 (-1))]) fun x0 =>
  bS (al Q q 459 z459 G) fun x1 G2 =>
  bP (st Q q 459 4 x1 x0 G2) fun G3 =>
  bP (ld Q q 3 v1 G3) fun x4 =>
  bP (bn Q q .sub 3 (.tmp 7) (.const (.int .i64 1)) x4 (.int .i64 1)) fun x5 =>
  bLq q e 356 0 (subAt [1, 1, 0, 0] (bodyOf Tryz.f356)) 25 (nth undef [v0, v1, v2]) [(5, x5), (8, x5), (7, x4), (4, x1), (6, x0)] [] G3 fun e6 t7 G8 =>
  ifE e6 (.exit 0) (
  some (.tuple #[], G8)) (ifE e6 .ret (
  some (.tuple #[], G8)) (none))
theorem f356 (h : ExLe Q e (E orc)) (v0 v1 v2 : Value) (G : GS) : Ref (s356 true e v0 v1 v2 G) ((E orc).cl 356 [v0, v1, v2] G) := cS (S := fun q e => s356 q e v0 v1 v2 G) Tryz.func356 (by unfold s356; exact Ref.gq)
/-- (*coxswain/stack.Push).third -/
def s357 (q : Bool) (e : Ex) (v0 v1 : Value) (G : GS) : OG :=
  nf q 470 1 9 v0 fun x1 =>
  bP (st Q q 468 1 x1 (.func (.func 349) #[] #[]) G) fun G2 =>
  nf q 470 0 0 v0 fun x4 =>
  nf q 470 0 0 v0 fun x6 =>
  fl q 410 2 4 3 x6 (G2.room 10) fun x8 =>
  bS (e.ev.cl 341 [x4, v1, x8] (G2.room 10)) fun x10 G9 =>
  ifV x10 (
  nf q 470 0 0 v0 fun x12 =>
  bS (e.ev.cl 318 [x12, (.int .i64 0)] G9) fun x13 G14 =>
  some (.tuple #[], G14)) (
  some (.tuple #[], G9))
theorem f357 (h : ExLe Q e (E orc)) (v0 v1 : Value) (G : GS) : Ref (s357 true e v0 v1 G) ((E orc).cl 357 [v0, v1] G) := cS (S := fun q e => s357 q e v0 v1 G) Tryz.func357 (by unfold s357; exact Ref.gq)
/-- (*coxswain/stack.Push).Step -/
def s358 (q : Bool) (e : Ex) (v0 v1 : Value) (G : GS) : OG :=
  bP (ep Q q false 463 (.tmp 5) (.const (.pointer none)) v0 (.pointer none)) fun x0 =>
  bS (gV x0 false v0 G) fun x1 G2 =>
  bS (gP x0 false (pNil x1) G2) fun x3 G4 =>
  bS (gP x0 false (fa Q q 470 0 0 x3) G4) fun x5 G6 =>
  bS (gS x0 false (e.ev.cl 319 [x5] G6) G6) fun x7 G8 =>
  bP (pickV x0 (.bool true) x7) fun x9 =>
  ifV x9 (
  some ((.bool true), G8)) (
  nl q 470 1 9 468 v0 G8 fun x12 =>
  bS (cValue e.ev x12 [v0, v1] G8) fun x13 G14 =>
  nf q 470 0 0 v0 fun x16 =>
  fl q 410 5 7 4 x16 G14 fun x18 =>
  some (x18, G14))
theorem f358 (h : ExLe Q e (E orc)) (v0 v1 : Value) (G : GS) : Ref (s358 true e v0 v1 G) ((E orc).cl 358 [v0, v1] G) := cS (S := fun q e => s358 q e v0 v1 G) Tryz.func358 (by unfold s358; exact Ref.gq)
/-- (coxswain/cells.deed).add -/
def s359 (q : Bool) (e : Ex) (v0 : Value) (G : GS) : OG :=
  bS (bx q v0 G) fun x0 G1 =>
  fl q 122 0 0 119 x0 (G1.room 9) fun x3 =>
  bP (pNil x3) fun x4 =>
  bP (ld Q q 133 x4 (G1.room 9)) fun x5 =>
  fl q 122 1 1 37 x0 (G1.room 9) fun x7 =>
  bP (bn Q q .add 37 (.tmp 7) (.tmp 9) x5 x7) fun x8 =>
  some (.tuple #[x8, (.bool true)], (G1.room 9))
theorem f359 (h : ExLe Q e (E orc)) (v0 : Value) (G : GS) : Ref (s359 true e v0 G) ((E orc).cl 359 [v0] G) := cS (S := fun q e => s359 q e v0 G) Tryz.func359 (by unfold s359; exact Ref.gq)
def jb375_0 (q : Bool) (e : Ex) (τ : Env) (G : GS) : OG :=
  bV q (τ 6) fun a6_ =>
  bV q (τ 7) fun a7_ =>
  some (.tuple #[a6_, a7_], G)
def j375_0 (q : Bool) (e : Ex) (τ : Env) (G : GS) : OG := jb375_0 q e τ G
theorem mj375_0 {e : Ex} {E : Ev} (h : ExLe Q e E) (τ : Env) (G : GS) : Ref (j375_0 true e τ G) (j375_0 false (Ex.of E) τ G) := by
  unfold j375_0 jb375_0
  exact Ref.gq
theorem mkj375_0 {e : Ex} {E : Ev} (h : ExLe Q e E) {τ : Env} {l U : List (Nat × Value)} {G : GS} (hU : UOk τ U) : Ref (j375_0 true e (xq true 64 τ l U) G) (j375_0 false (Ex.of E) (xq false 64 τ l U) G) := by
  rw [xq_eq hU]
  exact mj375_0 h _ _
def jb375_1 (q : Bool) (e : Ex) (J0 : Env → GS → OG) (τ : Env) (G : GS) : OG :=
  bV q (τ 0) fun a0_ =>
  bV q (τ 6) fun a6_ =>
  bS (gV a6_ true a0_ G) fun x6 G7 =>
  bS (gP a6_ true (pNil x6) G7) fun x8 G9 =>
  bS (gP a6_ true (fa Q q 113 2 2 x8) G9) fun x10 G11 =>
  bS (gP a6_ true (ld Q q 111 x10 G11) G11) fun x12 G13 =>
  bS (gP a6_ true (ef Q q true 111 (.tmp 50) (.const .nilFunc) x12 .nilFunc) G13) fun x14 G15 =>
  bP (pickV a6_ x14 (.bool false)) fun x16 =>
  ifV x16 (
  bP (pNil a0_) fun x17 =>
  bP (fa Q q 113 2 2 x17) fun x18 =>
  bP (ld Q q 111 x18 (G15.room 9)) fun x19 =>
  bP (pNil a0_) fun x20 =>
  bP (fa Q q 113 3 3 x20) fun x21 =>
  bP (ld Q q 107 x21 (G15.room 9)) fun x22 =>
  bS (cValue e.ev x19 [x22] (G15.room 9)) fun x24 G23 =>
  J0 (xq q 64 τ [(61, x24), (60, x22), (59, x21), (58, x20), (57, a0_), (56, x19), (55, x18), (54, x17), (53, a0_), (52, x16), (51, x14), (50, x12), (49, x10), (48, x8), (47, x6), (46, a6_), (45, a6_)] []) G23) (
  J0 (xq q 64 τ [(52, x16), (51, x14), (50, x12), (49, x10), (48, x8), (47, x6), (46, a6_), (45, a6_)] []) G15)
def j375_1 (q : Bool) (e : Ex) (τ : Env) (G : GS) : OG := jb375_1 q e (j375_0 q e) τ G
theorem mj375_1 {e : Ex} {E : Ev} (h : ExLe Q e E) (τ : Env) (G : GS) : Ref (j375_1 true e τ G) (j375_1 false (Ex.of E) τ G) := by
  unfold j375_1 jb375_1
  have j0 := @mkj375_0 e E h
  exact Ref.gj
theorem mkj375_1 {e : Ex} {E : Ev} (h : ExLe Q e E) {τ : Env} {l U : List (Nat × Value)} {G : GS} (hU : UOk τ U) : Ref (j375_1 true e (xq true 64 τ l U) G) (j375_1 false (Ex.of E) (xq false 64 τ l U) G) := by
  rw [xq_eq hU]
  exact mj375_1 h _ _
def jb375_2 (q : Bool) (e : Ex) (J0 J1 : Env → GS → OG) (τ : Env) (G : GS) : OG :=
  bV q (τ 0) fun a0_ =>
  bV q (τ 1) fun a1_ =>
  bP (pNil a0_) fun x0 =>
  bP (fa Q q 113 3 3 x0) fun x1 =>
  bP (ld Q q 107 x1 G) fun x2 =>
  bP (ifc Q q 107 x2) fun x3 =>
  bS (cInvoke Q e.ev x3 "Step" [a1_] G) fun x4 G5 =>
  bP (pNil a0_) fun x25 =>
  bP (fa Q q 113 1 1 x25) fun x26 =>
  bP (ld Q q 110 x26 G5) fun x27 =>
  bP (ef Q q true 110 (.tmp 34) (.const .nilFunc) x27 .nilFunc) fun x28 =>
  ifV x28 (
  bP (pNil a0_) fun x29 =>
  bP (fa Q q 113 1 1 x29) fun x30 =>
  bP (ld Q q 110 x30 (G5.room 10)) fun x31 =>
  bP (pNil a0_) fun x32 =>
  bP (fa Q q 113 3 3 x32) fun x33 =>
  bP (ld Q q 107 x33 (G5.room 10)) fun x34 =>
  bS (cValue e.ev x31 [x34] (G5.room 10)) fun x36 G35 =>
  J1 (xq q 64 τ [(7, x36), (44, x36), (43, x34), (42, x33), (41, x32), (40, a0_), (39, x31), (38, x30), (37, x29), (36, a0_), (35, x28), (34, x27), (33, x26), (32, x25), (31, a0_), (7, (.int .u64 0)), (6, x4), (30, x4), (29, a1_), (28, x3), (27, x2), (26, x1), (25, x0), (24, a0_)] []) G35) (
  J1 (xq q 64 τ [(35, x28), (34, x27), (33, x26), (32, x25), (31, a0_), (7, (.int .u64 0)), (6, x4), (30, x4), (29, a1_), (28, x3), (27, x2), (26, x1), (25, x0), (24, a0_)] []) G5)
def j375_2 (q : Bool) (e : Ex) (τ : Env) (G : GS) : OG := jb375_2 q e (j375_0 q e) (j375_1 q e) τ G
theorem mj375_2 {e : Ex} {E : Ev} (h : ExLe Q e E) (τ : Env) (G : GS) : Ref (j375_2 true e τ G) (j375_2 false (Ex.of E) τ G) := by
  unfold j375_2 jb375_2
  have j0 := @mkj375_0 e E h
  have j1 := @mkj375_1 e E h
  exact Ref.gj
theorem mkj375_2 {e : Ex} {E : Ev} (h : ExLe Q e E) {τ : Env} {l U : List (Nat × Value)} {G : GS} (hU : UOk τ U) : Ref (j375_2 true e (xq true 64 τ l U) G) (j375_2 false (Ex.of E) (xq false 64 τ l U) G) := by
  rw [xq_eq hU]
  exact mj375_2 h _ _
def sb375 (q : Bool) (e : Ex) (J0 J1 J2 : Env → GS → OG) (v0 v1 : Value) (G : GS) : OG :=
  bP (pNil v0) fun x37 =>
  bP (fa Q q 113 4 4 x37) fun x38 =>
  bP (ld Q q 4 x38 G) fun x39 =>
  bP (un Q q .not x39) fun x40 =>
  ifV x40 (
  bP (pNil v0) fun x41 =>
  bP (fa Q q 113 0 0 x41) fun x42 =>
  bP (ld Q q 109 x42 G) fun x43 =>
  bS (cValue e.ev x43 [] G) fun x44 G45 =>
  bP (pNil v0) fun x46 =>
  bP (fa Q q 113 3 3 x46) fun x47 =>
  bP (st Q q 107 1 x47 x44 G45) fun G48 =>
  bP (pNil v0) fun x49 =>
  bP (fa Q q 113 4 4 x49) fun x50 =>
  bP (st Q q 4 1 x50 (.bool true) G48) fun G51 =>
  J2 (xq q 64 (nth undef [v0, v1]) [(23, x50), (22, x49), (21, x47), (20, x46), (19, x44), (18, x43), (17, x42), (16, x41), (15, v0), (14, v0), (13, v0), (12, x40), (11, x39), (10, x38), (9, x37), (8, v0), (5, (.int .u64 0)), (4, (.bool false))] []) G51) (
  J2 (xq q 64 (nth undef [v0, v1]) [(12, x40), (11, x39), (10, x38), (9, x37), (8, v0), (5, (.int .u64 0)), (4, (.bool false))] []) G)
/-- (*coxswain/ready.part[*coxswain/claim.Claim]).run -/
def s375 (q : Bool) (e : Ex) (v0 v1 : Value) (G : GS) : OG := sb375 q e (j375_0 q e) (j375_1 q e) (j375_2 q e) v0 v1 G
theorem m375 {e : Ex} {E : Ev} (h : ExLe Q e E) (v0 v1 : Value) (G : GS) : Ref (s375 true e v0 v1 G) (s375 false (Ex.of E) v0 v1 G) := by
  unfold s375 sb375
  have j0 := @mkj375_0 e E h
  have j1 := @mkj375_1 e E h
  have j2 := @mkj375_2 e E h
  exact Ref.gj
def jt375 (J0 J1 J2 : Env → GS → OG) : JT (Value × GS) :=
  (.n none .e (.n (some (fun T G => J2 (nth undef T) G)) .e (.n none .e (.n (some (fun T G => J1 (nth undef T) G)) .e (.n (some (fun T G => J0 (nth undef T) G)) .e .e)))))
theorem jr375_2 (orc : FuncId → Bool) (J0 J1 J2 : Env → GS → OG) (T : List Value) (G : GS) : runC Q (evL Q orc) Tryz.f375.ntmps (jt375 J0 J1 J2) (bodyOf Tryz.f375) (retE Q Tryz.f375.results.toList) [true] (nth undef T) G = jb375_2 false (Ex.of (E orc)) J0 J1 (nth undef T) G := by kernel_rfl
theorem jr375_1 (orc : FuncId → Bool) (J0 J1 J2 : Env → GS → OG) (T : List Value) (G : GS) : runC Q (evL Q orc) Tryz.f375.ntmps (jt375 J0 J1 J2) (bodyOf Tryz.f375) (retE Q Tryz.f375.results.toList) [true, true, true] (nth undef T) G = jb375_1 false (Ex.of (E orc)) J0 (nth undef T) G := by kernel_rfl
theorem jr375_0 (orc : FuncId → Bool) (J0 J1 J2 : Env → GS → OG) (T : List Value) (G : GS) : runC Q (evL Q orc) Tryz.f375.ntmps (jt375 J0 J1 J2) (bodyOf Tryz.f375) (retE Q Tryz.f375.results.toList) [true, true, true, true] (nth undef T) G = jb375_0 false (Ex.of (E orc))  (nth undef T) G := by kernel_rfl
theorem jo375 (orc : FuncId → Bool) : JOk Q orc Tryz.f375.ntmps (jt375 (j375_0 false (Ex.of (E orc))) (j375_1 false (Ex.of (E orc))) (j375_2 false (Ex.of (E orc))) ) (bodyOf Tryz.f375) (retE Q Tryz.f375.results.toList) :=
  jOk Q orc (l := [([true], (fun T G => j375_2 false (Ex.of (E orc)) (nth undef T) G)), ([true, true, true], (fun T G => j375_1 false (Ex.of (E orc)) (nth undef T) G)), ([true, true, true, true], (fun T G => j375_0 false (Ex.of (E orc)) (nth undef T) G))]) (by kernel_rfl) (AllE.c (fun T G => jr375_2 orc (j375_0 false (Ex.of (E orc))) (j375_1 false (Ex.of (E orc))) (j375_2 false (Ex.of (E orc))) T G) (AllE.c (fun T G => jr375_1 orc (j375_0 false (Ex.of (E orc))) (j375_1 false (Ex.of (E orc))) (j375_2 false (Ex.of (E orc))) T G) (AllE.c (fun T G => jr375_0 orc (j375_0 false (Ex.of (E orc))) (j375_1 false (Ex.of (E orc))) (j375_2 false (Ex.of (E orc))) T G) (AllE.z))))
theorem je375 (orc : FuncId → Bool) (J0 J1 J2 : Env → GS → OG) (v0 v1 : Value) (G : GS) : sxC Q (evL Q orc) Tryz.f375.ntmps (jt375 J0 J1 J2) (bodyOf Tryz.f375) (nth undef [v0, v1]) G (retE Q Tryz.f375.results.toList) = sb375 false (Ex.of (E orc)) J0 J1 J2 v0 v1 G := by kernel_rfl
theorem f375 {orc : FuncId → Bool} {e : Ex} (h : ExLe Q e (E orc)) (v0 v1 : Value) (G : GS) : Ref (s375 true e v0 v1 G) ((E orc).cl 375 [v0, v1] G) :=
  fun r hr => cl_sxC Q orc (vs := [v0, v1]) G (jt375 (j375_0 false (Ex.of (E orc))) (j375_1 false (Ex.of (E orc))) (j375_2 false (Ex.of (E orc))) ) Tryz.func375 (by kernel_rfl) (by kernel_rfl) (by kernel_rfl) (by kernel_rfl) (by kernel_rfl) (jo375 orc) (je375 orc (j375_0 false (Ex.of (E orc))) (j375_1 false (Ex.of (E orc))) (j375_2 false (Ex.of (E orc))) v0 v1 G) (m375 h v0 v1 G r hr)
def jbl376_0_0 (q : Bool) (e : Ex) (lp : LpF) (τ : Env) (G : GS) : OL :=
  bV q (τ 0) fun a0_ =>
  bV q (τ 1) fun a1_ =>
  bV q (τ 17) fun a17_ =>
  bS (e.ev.cl 380 [a0_, a1_] G) fun x4 G5 =>
  some ((.exit 0), xq q 162 τ [(43, x4), (42, a1_), (41, a0_)] [(0, a0_), (1, a1_), (17, a17_)], G5)
def jl376_0_0 (q : Bool) (e : Ex) (lp : LpF) (τ : Env) (G : GS) : OL := jbl376_0_0 q e lp τ G
theorem mjl376_0_0 {e : Ex} {E : Ev} (h : ExLe Q e E) {lp lp' : LpF} (hlp : LpLe lp lp') (τ : Env) (G : GS) : Ref (jl376_0_0 true e lp τ G) (jl376_0_0 false (Ex.of E) lp' τ G) := by
  unfold jl376_0_0 jbl376_0_0
  exact Ref.gq
theorem mkjl376_0_0 {e : Ex} {E : Ev} (h : ExLe Q e E) {lp lp' : LpF} (hlp : LpLe lp lp') {τ : Env} {l U : List (Nat × Value)} {G : GS} (hU : UOk τ U) : Ref (jl376_0_0 true e lp (xq true 162 τ l U) G) (jl376_0_0 false (Ex.of E) lp' (xq false 162 τ l U) G) := by
  rw [xq_eq hU]
  exact mjl376_0_0 h hlp _ _
def jbl376_0_1 (q : Bool) (e : Ex) (lp : LpF) (J0 : LpF) (τ : Env) (G : GS) : OL :=
  bV q (τ 0) fun a0_ =>
  bV q (τ 1) fun a1_ =>
  bV q (τ 17) fun a17_ =>
  bP (pNil a0_) fun x6 =>
  bP (fa Q q 195 0 0 x6) fun x7 =>
  bS (e.ev.cl 379 [x7, a1_] G) fun x8 G9 =>
  some ((.exit 0), xq q 162 τ [(40, x8), (39, a1_), (38, x7), (37, x6), (36, a0_)] [(0, a0_), (1, a1_), (17, a17_)], G9)
def jl376_0_1 (q : Bool) (e : Ex) (lp : LpF) (τ : Env) (G : GS) : OL := jbl376_0_1 q e lp (jl376_0_0 q e lp) τ G
theorem mjl376_0_1 {e : Ex} {E : Ev} (h : ExLe Q e E) {lp lp' : LpF} (hlp : LpLe lp lp') (τ : Env) (G : GS) : Ref (jl376_0_1 true e lp τ G) (jl376_0_1 false (Ex.of E) lp' τ G) := by
  unfold jl376_0_1 jbl376_0_1
  have j0 := @mkjl376_0_0 e E h lp lp' hlp
  exact Ref.gj
theorem mkjl376_0_1 {e : Ex} {E : Ev} (h : ExLe Q e E) {lp lp' : LpF} (hlp : LpLe lp lp') {τ : Env} {l U : List (Nat × Value)} {G : GS} (hU : UOk τ U) : Ref (jl376_0_1 true e lp (xq true 162 τ l U) G) (jl376_0_1 false (Ex.of E) lp' (xq false 162 τ l U) G) := by
  rw [xq_eq hU]
  exact mjl376_0_1 h hlp _ _
def jbl376_0_2 (q : Bool) (e : Ex) (lp : LpF) (J0 J1 : LpF) (τ : Env) (G : GS) : OL :=
  bV q (τ 0) fun a0_ =>
  bV q (τ 1) fun a1_ =>
  bV q (τ 17) fun a17_ =>
  bP (bn Q q .eql 3 (.tmp 17) (.const (.int .i64 7)) a17_ (.int .i64 7)) fun x13 =>
  ifV x13 (
  bP (pNil a0_) fun x14 =>
  bP (fa Q q 195 0 0 x14) fun x15 =>
  bS (e.ev.cl 381 [x15, a1_, (.int .i64 4)] G) fun x16 G17 =>
  bP (pNil a0_) fun x18 =>
  bP (fa Q q 195 0 0 x18) fun x19 =>
  bP (fa Q q 192 5 20 x19) fun x20 =>
  bP (st Q q 190 1 x20 x16 G17) fun G21 =>
  bP (pNil a0_) fun x22 =>
  bP (fa Q q 195 0 0 x22) fun x23 =>
  bP (fa Q q 192 2 17 x23) fun x24 =>
  bP (st Q q 3 1 x24 (.int .i64 8) G21) fun G25 =>
  bP (pNil a0_) fun x26 =>
  bP (fa Q q 195 0 0 x26) fun x27 =>
  bP (fa Q q 192 5 20 x27) fun x28 =>
  bP (ld Q q 190 x28 G25) fun x29 =>
  bS (e.ev.cl 382 [x29] G25) fun x30 G31 =>
  ifV x30 (
  bP (pNil a0_) fun x32 =>
  bP (fa Q q 195 0 0 x32) fun x33 =>
  bP (fa Q q 192 2 17 x33) fun x34 =>
  bP (st Q q 3 1 x34 (.int .i64 3) G31) fun G35 =>
  some ((.exit 0), xq q 162 τ [(66, x34), (65, x33), (64, x32), (63, a0_), (62, x30), (61, x29), (60, x28), (59, x27), (58, x26), (57, a0_), (56, x24), (55, x23), (54, x22), (53, a0_), (52, x20), (51, x19), (50, x18), (49, x16), (48, a1_), (47, x15), (46, x14), (45, a0_), (44, a0_), (28, x13), (29, x13)] [(0, a0_), (1, a1_), (17, a17_)], G35)) (
  some ((.exit 0), xq q 162 τ [(62, x30), (61, x29), (60, x28), (59, x27), (58, x26), (57, a0_), (56, x24), (55, x23), (54, x22), (53, a0_), (52, x20), (51, x19), (50, x18), (49, x16), (48, a1_), (47, x15), (46, x14), (45, a0_), (44, a0_), (28, x13), (29, x13)] [(0, a0_), (1, a1_), (17, a17_)], G31))) (
  bP (bn Q q .eql 3 (.tmp 17) (.const (.int .i64 8)) a17_ (.int .i64 8)) fun x36 =>
  ifV x36 (
  bP (pNil a0_) fun x37 =>
  bP (fa Q q 195 0 0 x37) fun x38 =>
  bP (fa Q q 192 3 18 x38) fun x39 =>
  bP (ld Q q 37 x39 G) fun x40 =>
  bP (pNil a0_) fun x41 =>
  bP (fa Q q 195 0 0 x41) fun x42 =>
  bP (fa Q q 192 7 23 x42) fun x43 =>
  bP (st Q q 37 1 x43 x40 G) fun G44 =>
  bP (pNil a0_) fun x45 =>
  bP (fa Q q 195 0 0 x45) fun x46 =>
  bP (fa Q q 192 2 17 x46) fun x47 =>
  bP (st Q q 3 1 x47 (.int .i64 7) G44) fun G48 =>
  bP (pNil a0_) fun x49 =>
  bP (fa Q q 195 0 0 x49) fun x50 =>
  bP (fa Q q 192 0 0 x50) fun x51 =>
  bP (lda Q q 31 13 x51 (G48.room 24)) fun x52 =>
  bP (pNil a0_) fun x53 =>
  bP (fa Q q 195 0 0 x53) fun x54 =>
  bP (fa Q q 192 4 19 x54) fun x55 =>
  bP (ld Q q 3 x55 (G48.room 24)) fun x56 =>
  bS (e.ev.cl 99 [x52, x56, (.int .i64 0)] (G48.room 24)) fun x58 G57 =>
  bP (pNil a0_) fun x59 =>
  bP (fa Q q 195 0 0 x59) fun x60 =>
  bP (fa Q q 192 5 20 x60) fun x61 =>
  bP (ld Q q 190 x61 G57) fun x62 =>
  chk ((sameO (ld Q q 190 x61 (G48.room 24)) x62 && true)) <|
  bP (pNil a0_) fun x63 =>
  bP (fa Q q 195 0 0 x63) fun x64 =>
  bP (fa Q q 192 5 20 x64) fun x65 =>
  bP (ld Q q 190 x65 G57) fun x66 =>
  chk ((sameO (ld Q q 190 x65 (G48.room 24)) x66 && true)) <|
  bS (e.ev.cl 383 [x66, (.bool true)] G57) fun x68 G67 =>
  chk ((sameO (ld Q q 190 x61 G67) x62 && true)) <|
  bS (e.ev.cl 328 [a1_, x58, x62, x68] G67) fun x70 G69 =>
  ifV x70 (
  bP (pNil a0_) fun x71 =>
  bP (fa Q q 195 0 0 x71) fun x72 =>
  bP (fa Q q 192 1 13 x72) fun x73 =>
  bP (fa Q q 189 1 1 x73) fun x74 =>
  bP (st Q q 4 1 x74 (.bool true) G69) fun G75 =>
  bP (pNil a0_) fun x76 =>
  bP (fa Q q 195 0 0 x76) fun x77 =>
  bP (fa Q q 192 2 17 x77) fun x78 =>
  bP (st Q q 3 1 x78 (.int .i64 9) G75) fun G79 =>
  some ((.exit 0), xq q 162 τ [(112, x78), (111, x77), (110, x76), (109, x74), (108, x73), (107, x72), (106, x71), (105, a0_), (104, a0_), (103, x70), (102, x68), (101, x66), (100, x65), (99, x64), (98, x63), (97, a0_), (96, x62), (95, x61), (94, x60), (93, x59), (92, a0_), (91, x58), (90, x56), (89, x55), (88, x54), (87, x53), (86, a0_), (85, x52), (84, x51), (83, x50), (82, x49), (81, a0_), (80, a1_), (79, x47), (78, x46), (77, x45), (76, x43), (75, x42), (74, x41), (73, x40), (72, x39), (71, x38), (70, x37), (69, a0_), (68, a0_), (67, a0_), (30, x36), (31, x36), (28, x13), (29, x13)] [(0, a0_), (1, a1_), (17, a17_)], G79)) (
  some ((.exit 0), xq q 162 τ [(103, x70), (102, x68), (101, x66), (100, x65), (99, x64), (98, x63), (97, a0_), (96, x62), (95, x61), (94, x60), (93, x59), (92, a0_), (91, x58), (90, x56), (89, x55), (88, x54), (87, x53), (86, a0_), (85, x52), (84, x51), (83, x50), (82, x49), (81, a0_), (80, a1_), (79, x47), (78, x46), (77, x45), (76, x43), (75, x42), (74, x41), (73, x40), (72, x39), (71, x38), (70, x37), (69, a0_), (68, a0_), (67, a0_), (30, x36), (31, x36), (28, x13), (29, x13)] [(0, a0_), (1, a1_), (17, a17_)], G69))) (
  bP (bn Q q .eql 3 (.tmp 17) (.const (.int .i64 9)) a17_ (.int .i64 9)) fun x80 =>
  ifV x80 (
  bP (pNil a0_) fun x81 =>
  bP (fa Q q 195 0 0 x81) fun x82 =>
  bS (e.ev.cl 381 [x82, a1_, (.int .i64 0)] G) fun x83 G84 =>
  bP (pNil a0_) fun x85 =>
  bP (fa Q q 195 0 0 x85) fun x86 =>
  bP (fa Q q 192 6 21 x86) fun x87 =>
  bP (fa Q q 45 0 0 x87) fun x88 =>
  bP (st Q q 37 1 x88 x83 G84) fun G89 =>
  bP (pNil a0_) fun x90 =>
  bP (fa Q q 195 0 0 x90) fun x91 =>
  bP (fa Q q 192 2 17 x91) fun x92 =>
  bP (st Q q 3 1 x92 (.int .i64 91) G89) fun G93 =>
  some ((.exit 0), xq q 162 τ [(126, x92), (125, x91), (124, x90), (123, x88), (122, x87), (121, x86), (120, x85), (119, x83), (118, a1_), (117, x82), (116, x81), (115, a0_), (114, a0_), (113, a0_), (32, x80), (33, x80), (30, x36), (31, x36), (28, x13), (29, x13)] [(0, a0_), (1, a1_), (17, a17_)], G93)) (
  bP (bn Q q .eql 3 (.tmp 17) (.const (.int .i64 91)) a17_ (.int .i64 91)) fun x94 =>
  ifV x94 (
  bP (pNil a0_) fun x95 =>
  bP (fa Q q 195 0 0 x95) fun x96 =>
  bS (e.ev.cl 384 [x96, a1_] G) fun x97 G98 =>
  bP (pNil a0_) fun x99 =>
  bP (fa Q q 195 0 0 x99) fun x100 =>
  bP (fa Q q 192 0 0 x100) fun x101 =>
  bP (lda Q q 31 13 x101 (G98.room 23)) fun x102 =>
  bP (pNil a0_) fun x103 =>
  bP (fa Q q 195 0 0 x103) fun x104 =>
  bP (fa Q q 192 6 21 x104) fun x105 =>
  bP (fa Q q 45 0 0 x105) fun x106 =>
  bP (ld Q q 37 x106 (G98.room 23)) fun x107 =>
  bS (e.ev.cl 339 [x102, x107] (G98.room 23)) fun x109 G108 =>
  bP (pNil a0_) fun x110 =>
  bP (fa Q q 195 0 0 x110) fun x111 =>
  bP (fa Q q 192 1 13 x111) fun x112 =>
  bP (fa Q q 189 2 2 x112) fun x113 =>
  bP (st Q q 186 1 x113 x109 G108) fun G114 =>
  bP (pNil a0_) fun x115 =>
  bP (fa Q q 195 0 0 x115) fun x116 =>
  bP (fa Q q 192 2 17 x116) fun x117 =>
  bP (st Q q 3 1 x117 (.int .i64 10) G114) fun G118 =>
  some ((.exit 0), xq q 162 τ [(152, x117), (151, x116), (150, x115), (149, x113), (148, x112), (147, x111), (146, x110), (145, x109), (144, x107), (143, x106), (142, x105), (141, x104), (140, x103), (139, a0_), (138, x102), (137, x101), (136, x100), (135, x99), (134, a0_), (133, a0_), (132, a0_), (131, x97), (130, a1_), (129, x96), (128, x95), (127, a0_), (34, x94), (35, x94), (32, x80), (33, x80), (30, x36), (31, x36), (28, x13), (29, x13)] [(0, a0_), (1, a1_), (17, a17_)], G118)) (
  bS (e.ev.cl 385 [a0_, a1_] G) fun x119 G120 =>
  some ((.exit 0), xq q 162 τ [(155, x119), (154, a1_), (153, a0_), (34, x94), (35, x94), (32, x80), (33, x80), (30, x36), (31, x36), (28, x13), (29, x13)] [(0, a0_), (1, a1_), (17, a17_)], G120)))))
def jl376_0_2 (q : Bool) (e : Ex) (lp : LpF) (τ : Env) (G : GS) : OL := jbl376_0_2 q e lp (jl376_0_0 q e lp) (jl376_0_1 q e lp) τ G
theorem mjl376_0_2 {e : Ex} {E : Ev} (h : ExLe Q e E) {lp lp' : LpF} (hlp : LpLe lp lp') (τ : Env) (G : GS) : Ref (jl376_0_2 true e lp τ G) (jl376_0_2 false (Ex.of E) lp' τ G) := by
  unfold jl376_0_2 jbl376_0_2
  have j0 := @mkjl376_0_0 e E h lp lp' hlp
  have j1 := @mkjl376_0_1 e E h lp lp' hlp
  exact Ref.gj
theorem mkjl376_0_2 {e : Ex} {E : Ev} (h : ExLe Q e E) {lp lp' : LpF} (hlp : LpLe lp lp') {τ : Env} {l U : List (Nat × Value)} {G : GS} (hU : UOk τ U) : Ref (jl376_0_2 true e lp (xq true 162 τ l U) G) (jl376_0_2 false (Ex.of E) lp' (xq false 162 τ l U) G) := by
  rw [xq_eq hU]
  exact mjl376_0_2 h hlp _ _
def bb376_0 (q : Bool) (e : Ex) (lp : LpF) (J0 J1 J2 : LpF) (τ : Env) (G : GS) : OL :=
  bV q (τ 0) fun a0_ =>
  bV q (τ 1) fun a1_ =>
  bP (pNil a0_) fun x0 =>
  bP (fa Q q 195 0 0 x0) fun x1 =>
  bP (fa Q q 192 2 17 x1) fun x2 =>
  bP (ld Q q 3 x2 G) fun x3 =>
  bP (bn Q q .eql 3 (.tmp 17) (.const (.int .i64 1)) x3 (.int .i64 1)) fun x10 =>
  ifV x10 (
  J1 (xq q 162 τ [(18, x10), (19, x10), (17, x3), (16, x2), (15, x1), (14, x0), (13, a0_)] [(0, a0_), (1, a1_)]) G) (
  bP (bn Q q .eql 3 (.tmp 17) (.const (.int .i64 2)) x3 (.int .i64 2)) fun x11 =>
  ifV x11 (
  J1 (xq q 162 τ [(20, x11), (21, x11), (18, x10), (19, x10), (17, x3), (16, x2), (15, x1), (14, x0), (13, a0_)] [(0, a0_), (1, a1_)]) G) (
  bP (bn Q q .eql 3 (.tmp 17) (.const (.int .i64 3)) x3 (.int .i64 3)) fun x12 =>
  ifV x12 (
  J1 (xq q 162 τ [(22, x12), (23, x12), (20, x11), (21, x11), (18, x10), (19, x10), (17, x3), (16, x2), (15, x1), (14, x0), (13, a0_)] [(0, a0_), (1, a1_)]) G) (
  bP (bn Q q .eql 3 (.tmp 17) (.const (.int .i64 4)) x3 (.int .i64 4)) fun x121 =>
  ifV x121 (
  ifV x121 (
  J0 (xq q 162 τ [(24, x121), (25, x121), (22, x12), (23, x12), (20, x11), (21, x11), (18, x10), (19, x10), (17, x3), (16, x2), (15, x1), (14, x0), (13, a0_)] [(0, a0_), (1, a1_)]) G) (
  J2 (xq q 162 τ [(24, x121), (25, x121), (22, x12), (23, x12), (20, x11), (21, x11), (18, x10), (19, x10), (17, x3), (16, x2), (15, x1), (14, x0), (13, a0_)] [(0, a0_), (1, a1_)]) G)) (
  bP (bn Q q .eql 3 (.tmp 17) (.const (.int .i64 5)) x3 (.int .i64 5)) fun x122 =>
  ifV x122 (
  ifV x122 (
  J0 (xq q 162 τ [(24, x122), (26, x122), (24, x121), (25, x121), (22, x12), (23, x12), (20, x11), (21, x11), (18, x10), (19, x10), (17, x3), (16, x2), (15, x1), (14, x0), (13, a0_)] [(0, a0_), (1, a1_)]) G) (
  J2 (xq q 162 τ [(24, x122), (26, x122), (24, x121), (25, x121), (22, x12), (23, x12), (20, x11), (21, x11), (18, x10), (19, x10), (17, x3), (16, x2), (15, x1), (14, x0), (13, a0_)] [(0, a0_), (1, a1_)]) G)) (
  bP (bn Q q .eql 3 (.tmp 17) (.const (.int .i64 6)) x3 (.int .i64 6)) fun x123 =>
  ifV x123 (
  J0 (xq q 162 τ [(24, x123), (27, x123), (24, x122), (26, x122), (24, x121), (25, x121), (22, x12), (23, x12), (20, x11), (21, x11), (18, x10), (19, x10), (17, x3), (16, x2), (15, x1), (14, x0), (13, a0_)] [(0, a0_), (1, a1_)]) G) (
  J2 (xq q 162 τ [(24, x123), (27, x123), (24, x122), (26, x122), (24, x121), (25, x121), (22, x12), (23, x12), (20, x11), (21, x11), (18, x10), (19, x10), (17, x3), (16, x2), (15, x1), (14, x0), (13, a0_)] [(0, a0_), (1, a1_)]) G))))))
def b376_0 (q : Bool) (e : Ex) (lp : LpF) (τ : Env) (G : GS) : OL := bb376_0 q e lp (jl376_0_0 q e lp) (jl376_0_1 q e lp) (jl376_0_2 q e lp) τ G
theorem mb376_0 {e : Ex} {E : Ev} (h : ExLe Q e E) {lp lp' : LpF} (hlp : LpLe lp lp') (τ : Env) (G : GS) : Ref (b376_0 true e lp τ G) (b376_0 false (Ex.of E) lp' τ G) := by
  unfold b376_0 bb376_0
  have j0 := @mkjl376_0_0 e E h lp lp' hlp
  have j1 := @mkjl376_0_1 e E h lp lp' hlp
  have j2 := @mkjl376_0_2 e E h lp lp' hlp
  exact Ref.gj
def jtl376_0 (J0 J1 J2 : LpF) : JT (Exit × Env × GS) :=
  (.n none (.n none .e (.n none (.n none (.n none (.n none (.n none (.n none (.n none (.n none (.n none (.n none (.n none (.n (some (fun T G => J0 (nth undef T) G)) (.n none (.n (some (fun T G => J1 (nth undef T) G)) (.n none (.n none (.n none (.n none (.n none .e (.n none .e (.n none .e (.n (some (fun T G => J2 (nth undef T) G)) .e .e)))) .e) .e) .e) .e) .e) .e) .e) .e) .e) .e) .e) .e) .e) .e) .e) .e) .e) .e)) .e)
set_option maxHeartbeats 8000000 in
theorem jrl376_0_0 (orc : FuncId → Bool) (J0 J1 J2 : LpF) (T : List Value) (G : GS) : runC Q (evL Q orc) 162 (jtl376_0 J0 J1 J2) (subAt [1, 0, 1, 1, 0, 0, 0] (bodyOf Tryz.f376)) (seqXE (fun τ G' => mapE ((E orc).lp (subAt [1, 0, 1, 1, 0, 0, 0] (bodyOf Tryz.f376)) (lst 162 (nth undef (lst 162 τ))) G')) fun e τ G' => some (e, nth undef (lst 162 τ), G')) [false, true, false, false, false, false, false, false, false, false, false, false, false] (nth undef T) G = jbl376_0_0 false (Ex.of (E orc)) (fun τ G => mapE ((E orc).lp (subAt [1, 0, 1, 1, 0, 0, 0] (bodyOf Tryz.f376)) (lst 162 τ) G))  (nth undef T) G := by kernel_rfl
set_option maxHeartbeats 8000000 in
theorem jrl376_0_1 (orc : FuncId → Bool) (J0 J1 J2 : LpF) (T : List Value) (G : GS) : runC Q (evL Q orc) 162 (jtl376_0 J0 J1 J2) (subAt [1, 0, 1, 1, 0, 0, 0] (bodyOf Tryz.f376)) (seqXE (fun τ G' => mapE ((E orc).lp (subAt [1, 0, 1, 1, 0, 0, 0] (bodyOf Tryz.f376)) (lst 162 (nth undef (lst 162 τ))) G')) fun e τ G' => some (e, nth undef (lst 162 τ), G')) [false, true, false, false, false, false, false, false, false, false, false, false, false, false, false] (nth undef T) G = jbl376_0_1 false (Ex.of (E orc)) (fun τ G => mapE ((E orc).lp (subAt [1, 0, 1, 1, 0, 0, 0] (bodyOf Tryz.f376)) (lst 162 τ) G)) J0 (nth undef T) G := by kernel_rfl
set_option maxHeartbeats 8000000 in
theorem jrl376_0_2 (orc : FuncId → Bool) (J0 J1 J2 : LpF) (T : List Value) (G : GS) : runC Q (evL Q orc) 162 (jtl376_0 J0 J1 J2) (subAt [1, 0, 1, 1, 0, 0, 0] (bodyOf Tryz.f376)) (seqXE (fun τ G' => mapE ((E orc).lp (subAt [1, 0, 1, 1, 0, 0, 0] (bodyOf Tryz.f376)) (lst 162 (nth undef (lst 162 τ))) G')) fun e τ G' => some (e, nth undef (lst 162 τ), G')) [false, true, false, false, false, false, false, false, false, false, false, false, false, false, false, false, false, false, false, false, true, true, true] (nth undef T) G = jbl376_0_2 false (Ex.of (E orc)) (fun τ G => mapE ((E orc).lp (subAt [1, 0, 1, 1, 0, 0, 0] (bodyOf Tryz.f376)) (lst 162 τ) G)) J0 J1 (nth undef T) G := by kernel_rfl
set_option maxHeartbeats 8000000 in
theorem jol376_0 (orc : FuncId → Bool) : JOk Q orc 162 (jtl376_0 (jl376_0_0 false (Ex.of (E orc)) (fun τ G => mapE ((E orc).lp (subAt [1, 0, 1, 1, 0, 0, 0] (bodyOf Tryz.f376)) (lst 162 τ) G))) (jl376_0_1 false (Ex.of (E orc)) (fun τ G => mapE ((E orc).lp (subAt [1, 0, 1, 1, 0, 0, 0] (bodyOf Tryz.f376)) (lst 162 τ) G))) (jl376_0_2 false (Ex.of (E orc)) (fun τ G => mapE ((E orc).lp (subAt [1, 0, 1, 1, 0, 0, 0] (bodyOf Tryz.f376)) (lst 162 τ) G))) ) (subAt [1, 0, 1, 1, 0, 0, 0] (bodyOf Tryz.f376)) (seqXE (fun τ G' => mapE ((E orc).lp (subAt [1, 0, 1, 1, 0, 0, 0] (bodyOf Tryz.f376)) (lst 162 (nth undef (lst 162 τ))) G')) fun e τ G' => some (e, nth undef (lst 162 τ), G')) :=
  jOk Q orc (l := [([false, true, false, false, false, false, false, false, false, false, false, false, false], (fun T G => jl376_0_0 false (Ex.of (E orc)) (fun τ G => mapE ((E orc).lp (subAt [1, 0, 1, 1, 0, 0, 0] (bodyOf Tryz.f376)) (lst 162 τ) G)) (nth undef T) G)), ([false, true, false, false, false, false, false, false, false, false, false, false, false, false, false], (fun T G => jl376_0_1 false (Ex.of (E orc)) (fun τ G => mapE ((E orc).lp (subAt [1, 0, 1, 1, 0, 0, 0] (bodyOf Tryz.f376)) (lst 162 τ) G)) (nth undef T) G)), ([false, true, false, false, false, false, false, false, false, false, false, false, false, false, false, false, false, false, false, false, true, true, true], (fun T G => jl376_0_2 false (Ex.of (E orc)) (fun τ G => mapE ((E orc).lp (subAt [1, 0, 1, 1, 0, 0, 0] (bodyOf Tryz.f376)) (lst 162 τ) G)) (nth undef T) G))]) (by kernel_rfl) (AllE.c (fun T G => jrl376_0_0 orc (jl376_0_0 false (Ex.of (E orc)) (fun τ G => mapE ((E orc).lp (subAt [1, 0, 1, 1, 0, 0, 0] (bodyOf Tryz.f376)) (lst 162 τ) G))) (jl376_0_1 false (Ex.of (E orc)) (fun τ G => mapE ((E orc).lp (subAt [1, 0, 1, 1, 0, 0, 0] (bodyOf Tryz.f376)) (lst 162 τ) G))) (jl376_0_2 false (Ex.of (E orc)) (fun τ G => mapE ((E orc).lp (subAt [1, 0, 1, 1, 0, 0, 0] (bodyOf Tryz.f376)) (lst 162 τ) G))) T G) (AllE.c (fun T G => jrl376_0_1 orc (jl376_0_0 false (Ex.of (E orc)) (fun τ G => mapE ((E orc).lp (subAt [1, 0, 1, 1, 0, 0, 0] (bodyOf Tryz.f376)) (lst 162 τ) G))) (jl376_0_1 false (Ex.of (E orc)) (fun τ G => mapE ((E orc).lp (subAt [1, 0, 1, 1, 0, 0, 0] (bodyOf Tryz.f376)) (lst 162 τ) G))) (jl376_0_2 false (Ex.of (E orc)) (fun τ G => mapE ((E orc).lp (subAt [1, 0, 1, 1, 0, 0, 0] (bodyOf Tryz.f376)) (lst 162 τ) G))) T G) (AllE.c (fun T G => jrl376_0_2 orc (jl376_0_0 false (Ex.of (E orc)) (fun τ G => mapE ((E orc).lp (subAt [1, 0, 1, 1, 0, 0, 0] (bodyOf Tryz.f376)) (lst 162 τ) G))) (jl376_0_1 false (Ex.of (E orc)) (fun τ G => mapE ((E orc).lp (subAt [1, 0, 1, 1, 0, 0, 0] (bodyOf Tryz.f376)) (lst 162 τ) G))) (jl376_0_2 false (Ex.of (E orc)) (fun τ G => mapE ((E orc).lp (subAt [1, 0, 1, 1, 0, 0, 0] (bodyOf Tryz.f376)) (lst 162 τ) G))) T G) (AllE.z))))
set_option maxHeartbeats 8000000 in
theorem jel376_0 (orc : FuncId → Bool) (J0 J1 J2 : LpF) (T : List Value) (G : GS) : sxC Q (evL Q orc) 162 (jtl376_0 J0 J1 J2) (subAt [1, 0, 1, 1, 0, 0, 0] (bodyOf Tryz.f376)) (nth undef T) G (seqXE (fun τ G' => mapE ((E orc).lp (subAt [1, 0, 1, 1, 0, 0, 0] (bodyOf Tryz.f376)) (lst 162 (nth undef (lst 162 τ))) G')) fun e τ G' => some (e, nth undef (lst 162 τ), G')) = bb376_0 false (Ex.of (E orc)) (fun τ G => mapE ((E orc).lp (subAt [1, 0, 1, 1, 0, 0, 0] (bodyOf Tryz.f376)) (lst 162 τ) G)) J0 J1 J2 (nth undef T) G := by kernel_rfl
set_option maxHeartbeats 8000000 in
theorem l376_0 {orc : FuncId → Bool} {e : Ex} (h : ExLe Q e (E orc)) (lp : LpF) (hlp : ∀ τ G, Ref (lp τ G) (mapE ((E orc).lp (subAt [1, 0, 1, 1, 0, 0, 0] (bodyOf Tryz.f376)) (lst 162 τ) G))) (T : List Value) (G : GS) (hT : T.length = 162) : Ref (b376_0 true e lp (nth undef T) G) (mapE ((E orc).lp (subAt [1, 0, 1, 1, 0, 0, 0] (bodyOf Tryz.f376)) T G)) :=
  fun r hr => lp_sxC Q orc G (jtl376_0 (jl376_0_0 false (Ex.of (E orc)) (fun τ G => mapE ((E orc).lp (subAt [1, 0, 1, 1, 0, 0, 0] (bodyOf Tryz.f376)) (lst 162 τ) G))) (jl376_0_1 false (Ex.of (E orc)) (fun τ G => mapE ((E orc).lp (subAt [1, 0, 1, 1, 0, 0, 0] (bodyOf Tryz.f376)) (lst 162 τ) G))) (jl376_0_2 false (Ex.of (E orc)) (fun τ G => mapE ((E orc).lp (subAt [1, 0, 1, 1, 0, 0, 0] (bodyOf Tryz.f376)) (lst 162 τ) G))) ) hT (jol376_0 orc) (jel376_0 orc (jl376_0_0 false (Ex.of (E orc)) (fun τ G => mapE ((E orc).lp (subAt [1, 0, 1, 1, 0, 0, 0] (bodyOf Tryz.f376)) (lst 162 τ) G))) (jl376_0_1 false (Ex.of (E orc)) (fun τ G => mapE ((E orc).lp (subAt [1, 0, 1, 1, 0, 0, 0] (bodyOf Tryz.f376)) (lst 162 τ) G))) (jl376_0_2 false (Ex.of (E orc)) (fun τ G => mapE ((E orc).lp (subAt [1, 0, 1, 1, 0, 0, 0] (bodyOf Tryz.f376)) (lst 162 τ) G))) T G) (mb376_0 h ⟨hlp⟩ _ _ r hr)
/-- (*coxswain/claim.Claim).Step -/
def s376 (q : Bool) (e : Ex) (v0 v1 : Value) (G : GS) : OG :=
  bP (ep Q q false 107 (.tmp 5) (.const (.pointer none)) v0 (.pointer none)) fun x0 =>
  bS (gV x0 false v0 G) fun x1 G2 =>
  bS (gP x0 false (pNil x1) G2) fun x3 G4 =>
  bS (gP x0 false (fa Q q 195 0 0 x3) G4) fun x5 G6 =>
  bS (gS x0 false (e.ev.cl 378 [x5] G6) G6) fun x7 G8 =>
  bP (pickV x0 (.bool true) x7) fun x9 =>
  ifV x9 (
  some ((.bool true), G8)) (
  bLq q e 376 0 (subAt [1, 0, 1, 1, 0, 0, 0] (bodyOf Tryz.f376)) 162 (nth undef [v0, v1]) [(12, x9), (11, x7), (10, x5), (9, x3), (8, x1), (7, x0), (6, x0), (5, v0), (4, (.bool false))] [] G8 fun e10 t11 G12 =>
  bV q (t11 0) fun t11x0_ =>
  ifE e10 (.exit 0) (
  nf q 195 0 0 t11x0_ fun x14 =>
  fl q 192 2 17 3 x14 G12 fun x16 =>
  bP (bn Q q .eql 3 (.tmp 160) (.const (.int .i64 99)) x16 (.int .i64 99)) fun x17 =>
  some (x17, G12)) (none))
theorem m376 {e : Ex} {E : Ev} (h : ExLe Q e E) (v0 v1 : Value) (G : GS) : Ref (s376 true e v0 v1 G) (s376 false (Ex.of E) v0 v1 G) := by
  unfold s376
  exact Ref.gq
set_option maxHeartbeats 8000000 in
theorem f376 {orc : FuncId → Bool} {e : Ex} (h : ExLe Q e (E orc)) (v0 v1 : Value) (G : GS) : Ref (s376 true e v0 v1 G) ((E orc).cl 376 [v0, v1] G) :=
  fun r hr => cl_sxE_some Q orc (vs := [v0, v1]) G Tryz.func376 (by kernel_rfl) (by kernel_rfl) (by kernel_rfl) (by kernel_rfl) (by kernel_rfl) (by kernel_rfl) (m376 h v0 v1 G r hr)
/-- (*coxswain/claim.Claim).below -/
def s377 (q : Bool) (e : Ex) (v0 : Value) (G : GS) : OG :=
  nf q 195 0 0 v0 fun x1 =>
  bP (fa Q q 192 1 13 x1) fun x2 =>
  fl q 189 0 0 3 x2 G fun x4 =>
  bP (bn Q q .sub 3 (.tmp 7) (.const (.int .i64 1)) x4 (.int .i64 1)) fun x5 =>
  nf q 195 0 0 v0 fun x7 =>
  bP (fa Q q 192 1 13 x7) fun x8 =>
  bP (fa Q q 189 0 0 x8) fun x9 =>
  bP (st Q q 3 1 x9 x5 G) fun G10 =>
  nf q 195 0 0 v0 fun x12 =>
  bP (fa Q q 192 2 17 x12) fun x13 =>
  bP (st Q q 3 1 x13 (.int .i64 5) G10) fun G14 =>
  nf q 195 0 0 v0 fun x16 =>
  bP (fa Q q 192 1 13 x16) fun x17 =>
  fl q 189 0 0 3 x17 G14 fun x19 =>
  bP (bn Q q .lss 3 (.tmp 22) (.const (.int .i64 1)) x19 (.int .i64 1)) fun x20 =>
  ifV x20 (
  nf q 195 0 0 v0 fun x22 =>
  bP (fa Q q 192 2 17 x22) fun x23 =>
  bP (st Q q 3 1 x23 (.int .i64 7) G14) fun G24 =>
  some (.tuple #[], G24)) (
  some (.tuple #[], G14))
theorem f377 (h : ExLe Q e (E orc)) (v0 : Value) (G : GS) : Ref (s377 true e v0 G) ((E orc).cl 377 [v0] G) := cS (S := fun q e => s377 q e v0 G) Tryz.func377 (by unfold s377; exact Ref.gq)
/-- (*coxswain/claim.seeker[coxswain/claim.taking]).done -/
def s378 (q : Bool) (e : Ex) (v0 : Value) (G : GS) : OG :=
  nl q 192 8 24 4 v0 G fun x2 =>
  bP (un Q q .not x2) fun x3 =>
  bS (gV x3 false v0 G) fun x4 G5 =>
  bS (gP x3 false (pNil x4) G5) fun x6 G7 =>
  bS (gP x3 false (fa Q q 192 2 17 x6) G7) fun x8 G9 =>
  bS (gP x3 false (ld Q q 3 x8 G9) G9) fun x10 G11 =>
  bS (gP x3 false (bn Q q .eql 3 (.tmp 12) (.const (.int .i64 99)) x10 (.int .i64 99)) G11) fun x12 G13 =>
  bP (pickV x3 (.bool true) x12) fun x14 =>
  some (x14, G13)
theorem f378 (h : ExLe Q e (E orc)) (v0 : Value) (G : GS) : Ref (s378 true e v0 G) ((E orc).cl 378 [v0] G) := cS (S := fun q e => s378 q e v0 G) Tryz.func378 (by unfold s378; exact Ref.gq)
/-- (*coxswain/claim.seeker[coxswain/claim.taking]).first -/
def s379 (q : Bool) (e : Ex) (v0 v1 : Value) (G : GS) : OG :=
  nl q 192 2 17 3 v0 G fun x2 =>
  bP (bn Q q .eql 3 (.tmp 9) (.const (.int .i64 1)) x2 (.int .i64 1)) fun x3 =>
  ifV x3 (
  nf q 192 7 23 v0 fun x5 =>
  bP (st Q q 37 1 x5 (.int .u64 0) G) fun G6 =>
  nf q 192 0 0 v0 fun x8 =>
  bP (lda Q q 31 13 x8 G6) fun x9 =>
  bS (e.ev.cl 99 [x9, (.int .i64 (-1)), (.int .i64 0)] G6) fun x10 G11 =>
  bS (e.ev.cl 240 [v1, x10] G11) fun x12 G13 =>
  nf q 192 3 18 v0 fun x15 =>
  bP (st Q q 37 1 x15 x12 G13) fun G16 =>
  nl q 192 3 18 37 v0 G16 fun x19 =>
  bS (e.ev.cl 281 [x19] G16) fun x20 G21 =>
  bP (pExtract x20 0) fun x22 =>
  bP (pExtract x20 1) fun x23 =>
  bS (al Q q 340 z340 G21) fun x24 G25 =>
  bP (st Q q 340 2 x24 x22 G25) fun G26 =>
  fl q 340 0 0 3 x24 G26 fun x28 =>
  nf q 192 4 19 v0 fun x30 =>
  bP (st Q q 3 1 x30 x28 G26) fun G31 =>
  nf q 192 2 17 v0 fun x33 =>
  bP (st Q q 3 1 x33 (.int .i64 2) G31) fun G34 =>
  nl q 192 4 19 3 v0 (G34.room 20) fun x37 =>
  bP (bn Q q .lss 3 (.tmp 44) (.const (.int .i64 0)) x37 (.int .i64 0)) fun x38 =>
  bS (gV x38 false v0 (G34.room 20)) fun x39 _ =>
  bS (gP x38 false (pNil x39) (G34.room 20)) fun x40 _ =>
  bS (gP x38 false (fa Q q 192 4 19 x40) (G34.room 20)) fun x41 _ =>
  bS (gP x38 false (ld Q q 3 x41 (G34.room 20)) (G34.room 20)) fun x42 _ =>
  bS (gV x38 false v0 (G34.room 20)) fun x43 _ =>
  bS (gP x38 false (pNil x43) (G34.room 20)) fun x44 _ =>
  bS (gP x38 false (fa Q q 192 0 0 x44) (G34.room 20)) fun x45 _ =>
  bS (gP x38 false (fa Q q 31 3 3 x45) (G34.room 20)) fun x46 _ =>
  bS (gP x38 false (fa Q q 29 0 0 x46) (G34.room 20)) fun x47 _ =>
  bS (gP x38 false (fa Q q 25 0 0 x47) (G34.room 20)) fun x48 _ =>
  bS (gP x38 false (fa Q q 23 2 2 x48) (G34.room 20)) fun x49 _ =>
  bS (gP x38 false (ld Q q 3 x49 (G34.room 20)) (G34.room 20)) fun x50 _ =>
  bS (gP x38 false (bn Q q .geq 3 (.tmp 50) (.tmp 58) x42 x50) (G34.room 20)) fun x51 _ =>
  bP (pickV x38 (.bool true) x51) fun x52 =>
  ifV x52 (
  nf q 192 2 17 v0 fun x54 =>
  bP (st Q q 3 1 x54 (.int .i64 99) (G34.room 20)) fun G55 =>
  nf q 192 9 25 v0 fun x57 =>
  bP (st Q q 38 1 x57 (.int .i64 15) G55) fun G58 =>
  some (.tuple #[], G58)) (
  some (.tuple #[], (G34.room 20)))) (
  bP (bn Q q .eql 3 (.tmp 9) (.const (.int .i64 2)) x2 (.int .i64 2)) fun x59 =>
  ifV x59 (
  bS (e.ev.cl 381 [v0, v1, (.int .i64 4)] G) fun x60 G61 =>
  nf q 192 5 20 v0 fun x63 =>
  bP (st Q q 190 1 x63 x60 G61) fun G64 =>
  nf q 192 2 17 v0 fun x66 =>
  bP (st Q q 3 1 x66 (.int .i64 4) G64) fun G67 =>
  nl q 192 5 20 190 v0 G67 fun x70 =>
  bS (e.ev.cl 382 [x70] G67) fun x71 G72 =>
  ifV x71 (
  nf q 192 2 17 v0 fun x74 =>
  bP (st Q q 3 1 x74 (.int .i64 3) G72) fun G75 =>
  some (.tuple #[], G75)) (
  some (.tuple #[], G72))) (
  bP (bn Q q .eql 3 (.tmp 9) (.const (.int .i64 3)) x2 (.int .i64 3)) fun x76 =>
  ifV x76 (
  nf q 192 7 23 v0 fun x78 =>
  bP (st Q q 37 1 x78 (.int .u64 0) G) fun G79 =>
  nf q 192 0 0 v0 fun x81 =>
  bP (lda Q q 31 13 x81 (G79.room 16)) fun x82 =>
  bS (e.ev.cl 99 [x82, (.int .i64 (-1)), (.int .i64 0)] (G79.room 16)) fun x84 G83 =>
  nf q 192 3 18 v0 fun x86 =>
  bP (ld Q q 37 x86 G83) fun x87 =>
  chk ((sameO (ld Q q 37 x86 (G79.room 16)) x87 && true)) <|
  nf q 192 5 20 v0 fun x89 =>
  bP (ld Q q 190 x89 G83) fun x90 =>
  chk ((sameO (ld Q q 190 x89 (G79.room 16)) x90 && true)) <|
  bS (e.ev.cl 383 [x90, (.bool false)] G83) fun x92 G91 =>
  chk ((sameO (ld Q q 37 x86 G91) x87 && true)) <|
  bS (e.ev.cl 328 [v1, x84, x87, x92] G91) fun x94 G93 =>
  nf q 192 2 17 v0 fun x96 =>
  bP (st Q q 3 1 x96 (.int .i64 1) G93) fun G97 =>
  some (.tuple #[], G97)) (
  some (.tuple #[], G))))
theorem m379 {e : Ex} {E : Ev} (h : ExLe Q e E) (v0 v1 : Value) (G : GS) : Ref (s379 true e v0 v1 G) (s379 false (Ex.of E) v0 v1 G) := by
  unfold s379
  exact Ref.gq
set_option maxHeartbeats 8000000 in
theorem f379 {orc : FuncId → Bool} {e : Ex} (h : ExLe Q e (E orc)) (v0 v1 : Value) (G : GS) : Ref (s379 true e v0 v1 G) ((E orc).cl 379 [v0, v1] G) :=
  fun r hr => cl_sxE_some Q orc (vs := [v0, v1]) G Tryz.func379 (by kernel_rfl) (by kernel_rfl) (by kernel_rfl) (by kernel_rfl) (by kernel_rfl) (by kernel_rfl) (m379 h v0 v1 G r hr)
/-- (*coxswain/claim.Claim).mark -/
def s380 (q : Bool) (e : Ex) (v0 v1 : Value) (G : GS) : OG :=
  nf q 195 0 0 v0 fun x1 =>
  fl q 192 2 17 3 x1 G fun x3 =>
  bP (bn Q q .eql 3 (.tmp 9) (.const (.int .i64 4)) x3 (.int .i64 4)) fun x4 =>
  ifV x4 (
  nf q 195 0 0 v0 fun x6 =>
  bP (fa Q q 192 0 0 x6) fun x7 =>
  fl q 31 2 2 3 x7 G fun x9 =>
  nf q 195 0 0 v0 fun x11 =>
  bP (fa Q q 192 1 13 x11) fun x12 =>
  bP (fa Q q 189 0 0 x12) fun x13 =>
  bP (st Q q 3 1 x13 x9 G) fun G14 =>
  nf q 195 0 0 v0 fun x16 =>
  bS (e.ev.cl 381 [x16, v1, (.int .i64 2)] G14) fun x17 G18 =>
  nf q 195 0 0 v0 fun x20 =>
  bP (fa Q q 192 0 0 x20) fun x21 =>
  fl q 31 2 2 3 x21 G18 fun x23 =>
  bP (cv Q q 3 37 .i64 .u64 x23) fun x24 =>
  bP (bn Q q .lss 37 (.tmp 28) (.tmp 35) x17 x24) fun x25 =>
  ifV x25 (
  bP (cv Q q 37 3 .u64 .i64 x17) fun x26 =>
  nf q 195 0 0 v0 fun x28 =>
  bP (fa Q q 192 1 13 x28) fun x29 =>
  bP (fa Q q 189 0 0 x29) fun x30 =>
  bP (st Q q 3 1 x30 x26 G18) fun G31 =>
  bS (e.ev.cl 377 [v0] G31) fun x32 G33 =>
  some (.tuple #[], G33)) (
  bS (e.ev.cl 377 [v0] G18) fun x34 G35 =>
  some (.tuple #[], G35))) (
  bP (bn Q q .eql 3 (.tmp 9) (.const (.int .i64 5)) x3 (.int .i64 5)) fun x36 =>
  ifV x36 (
  nf q 195 0 0 v0 fun x38 =>
  nf q 195 0 0 v0 fun x40 =>
  bP (fa Q q 192 1 13 x40) fun x41 =>
  fl q 189 0 0 3 x41 (G.room 17) fun x43 =>
  bP (bn Q q .add 3 (.const (.int .i64 4)) (.tmp 58) (.int .i64 4) x43) fun x44 =>
  bS (e.ev.cl 381 [x38, v1, x44] (G.room 17)) fun x46 G45 =>
  nf q 195 0 0 v0 fun x48 =>
  bP (fa Q q 192 5 20 x48) fun x49 =>
  bP (st Q q 190 1 x49 x46 G45) fun G50 =>
  nf q 195 0 0 v0 fun x52 =>
  bP (fa Q q 192 2 17 x52) fun x53 =>
  bP (st Q q 3 1 x53 (.int .i64 6) G50) fun G54 =>
  nf q 195 0 0 v0 fun x56 =>
  fl q 192 5 20 190 x56 G54 fun x58 =>
  bS (e.ev.cl 382 [x58] G54) fun x59 G60 =>
  ifV x59 (
  bS (e.ev.cl 377 [v0] G60) fun x61 G62 =>
  some (.tuple #[], G62)) (
  some (.tuple #[], G60))) (
  bP (bn Q q .eql 3 (.tmp 9) (.const (.int .i64 6)) x3 (.int .i64 6)) fun x63 =>
  ifV x63 (
  nf q 195 0 0 v0 fun x65 =>
  fl q 192 3 18 37 x65 G fun x67 =>
  nf q 195 0 0 v0 fun x69 =>
  bP (fa Q q 192 7 23 x69) fun x70 =>
  bP (st Q q 37 1 x70 x67 G) fun G71 =>
  nf q 195 0 0 v0 fun x73 =>
  bP (fa Q q 192 2 17 x73) fun x74 =>
  bP (st Q q 3 1 x74 (.int .i64 5) G71) fun G75 =>
  nf q 195 0 0 v0 fun x77 =>
  bP (fa Q q 192 0 0 x77) fun x78 =>
  bP (lda Q q 31 13 x78 (G75.room 30)) fun x79 =>
  nf q 195 0 0 v0 fun x81 =>
  fl q 192 4 19 3 x81 (G75.room 30) fun x83 =>
  nf q 195 0 0 v0 fun x85 =>
  bP (fa Q q 192 1 13 x85) fun x86 =>
  fl q 189 0 0 3 x86 (G75.room 30) fun x88 =>
  bS (e.ev.cl 99 [x79, x83, x88] (G75.room 30)) fun x90 G89 =>
  nf q 195 0 0 v0 fun x92 =>
  bP (fa Q q 192 5 20 x92) fun x93 =>
  bP (ld Q q 190 x93 G89) fun x94 =>
  chk ((sameO (ld Q q 190 x93 (G75.room 30)) x94 && true)) <|
  nf q 195 0 0 v0 fun x96 =>
  bP (fa Q q 192 5 20 x96) fun x97 =>
  bP (ld Q q 190 x97 G89) fun x98 =>
  chk ((sameO (ld Q q 190 x97 (G75.room 30)) x98 && true)) <|
  bS (e.ev.cl 383 [x98, (.bool true)] G89) fun x100 G99 =>
  chk ((sameO (ld Q q 190 x93 G99) x94 && true)) <|
  bS (e.ev.cl 328 [v1, x90, x94, x100] G99) fun x102 G101 =>
  ifV x102 (
  bS (e.ev.cl 377 [v0] G101) fun x103 G104 =>
  some (.tuple #[], G104)) (
  some (.tuple #[], G101))) (
  some (.tuple #[], G))))
theorem m380 {e : Ex} {E : Ev} (h : ExLe Q e E) (v0 v1 : Value) (G : GS) : Ref (s380 true e v0 v1 G) (s380 false (Ex.of E) v0 v1 G) := by
  unfold s380
  exact Ref.gq
set_option maxHeartbeats 8000000 in
theorem f380 {orc : FuncId → Bool} {e : Ex} (h : ExLe Q e (E orc)) (v0 v1 : Value) (G : GS) : Ref (s380 true e v0 v1 G) ((E orc).cl 380 [v0, v1] G) :=
  fun r hr => cl_sxE_some Q orc (vs := [v0, v1]) G Tryz.func380 (by kernel_rfl) (by kernel_rfl) (by kernel_rfl) (by kernel_rfl) (by kernel_rfl) (by kernel_rfl) (m380 h v0 v1 G r hr)
/-- (*coxswain/claim.seeker[coxswain/claim.taking]).load -/
def s381 (q : Bool) (e : Ex) (v0 v1 v2 : Value) (G : GS) : OG :=
  nl q 192 3 18 37 v0 G fun x2 =>
  nf q 192 7 23 v0 fun x4 =>
  bP (st Q q 37 1 x4 x2 G) fun G5 =>
  nf q 192 0 0 v0 fun x7 =>
  bP (lda Q q 31 13 x7 (G5.room 13)) fun x8 =>
  nl q 192 4 19 3 v0 (G5.room 13) fun x11 =>
  bS (e.ev.cl 105 [x8, x11, v2] (G5.room 13)) fun x13 G12 =>
  bS (e.ev.cl 240 [v1, x13] G12) fun x15 G14 =>
  some (x15, G14)
theorem f381 (h : ExLe Q e (E orc)) (v0 v1 v2 : Value) (G : GS) : Ref (s381 true e v0 v1 v2 G) ((E orc).cl 381 [v0, v1, v2] G) := cS (S := fun q e => s381 q e v0 v1 v2 G) Tryz.func381 (by unfold s381; exact Ref.gq)
/-- (coxswain/claim.link).marked -/
def s382 (q : Bool) (e : Ex) (v0 : Value) (G : GS) : OG :=
  bS (e.ev.cl 238 [v0] G) fun x0 G1 =>
  some (x0, G1)
theorem f382 (h : ExLe Q e (E orc)) (v0 : Value) (G : GS) : Ref (s382 true e v0 G) ((E orc).cl 382 [v0] G) := cS (S := fun q e => s382 q e v0 G) Tryz.func382 (by unfold s382; exact Ref.gq)
/-- (coxswain/claim.link).marks -/
def s383 (q : Bool) (e : Ex) (v0 v1 : Value) (G : GS) : OG :=
  bS (e.ev.cl 283 [v0, v1] G) fun x0 G1 =>
  some (x0, G1)
theorem f383 (h : ExLe Q e (E orc)) (v0 v1 : Value) (G : GS) : Ref (s383 true e v0 v1 G) ((E orc).cl 383 [v0, v1] G) := cS (S := fun q e => s383 q e v0 v1 G) Tryz.func383 (by unfold s383; exact Ref.gq)
/-- (*coxswain/claim.seeker[coxswain/claim.taking]).job -/
def s384 (q : Bool) (e : Ex) (v0 v1 : Value) (G : GS) : OG :=
  bS (e.ev.cl 381 [v0, v1, (.int .i64 1)] G) fun x0 G1 =>
  bP (bn Q q .and 37 (.tmp 7) (.const (.int .u64 65535)) x0 (.int .u64 65535)) fun x2 =>
  bP (cv Q q 37 3 .u64 .i64 x2) fun x3 =>
  nf q 192 6 21 v0 fun x5 =>
  bP (fa Q q 45 1 1 x5) fun x6 =>
  bP (st Q q 3 1 x6 x3 G1) fun G7 =>
  some (.tuple #[], G7)
theorem f384 (h : ExLe Q e (E orc)) (v0 v1 : Value) (G : GS) : Ref (s384 true e v0 v1 G) ((E orc).cl 384 [v0, v1] G) := cS (S := fun q e => s384 q e v0 v1 G) Tryz.func384 (by unfold s384; exact Ref.gq)
def jb385_0 (q : Bool) (e : Ex) (τ : Env) (G : GS) : OG :=
  bV q (τ 0) fun a0_ =>
  nf q 195 0 0 a0_ fun x6 =>
  bP (fa Q q 192 1 13 x6) fun x7 =>
  fl q 189 2 2 186 x7 G fun x9 =>
  bS (e.ev.cl 387 [x9] G) fun x10 G11 =>
  nf q 195 0 0 a0_ fun x13 =>
  bP (fa Q q 192 7 23 x13) fun x14 =>
  bP (st Q q 37 1 x14 x10 G11) fun G15 =>
  some (.tuple #[], G15)
def j385_0 (q : Bool) (e : Ex) (τ : Env) (G : GS) : OG := jb385_0 q e τ G
theorem mj385_0 {e : Ex} {E : Ev} (h : ExLe Q e E) (τ : Env) (G : GS) : Ref (j385_0 true e τ G) (j385_0 false (Ex.of E) τ G) := by
  unfold j385_0 jb385_0
  exact Ref.gq
theorem mkj385_0 {e : Ex} {E : Ev} (h : ExLe Q e E) {τ : Env} {l U : List (Nat × Value)} {G : GS} (hU : UOk τ U) : Ref (j385_0 true e (xq true 102 τ l U) G) (j385_0 false (Ex.of E) (xq false 102 τ l U) G) := by
  rw [xq_eq hU]
  exact mj385_0 h _ _
def sb385 (q : Bool) (e : Ex) (J0 : Env → GS → OG) (v0 v1 : Value) (G : GS) : OG :=
  bP (pNil v0) fun x0 =>
  bP (fa Q q 195 0 0 x0) fun x1 =>
  bP (fa Q q 192 2 17 x1) fun x2 =>
  bP (ld Q q 3 x2 G) fun x3 =>
  bP (bn Q q .eql 3 (.tmp 8) (.const (.int .i64 10)) x3 (.int .i64 10)) fun x4 =>
  ifV x4 (
  bP (pNil v0) fun x16 =>
  bP (fa Q q 195 0 0 x16) fun x17 =>
  bP (fa Q q 192 1 13 x17) fun x18 =>
  bP (fa Q q 189 2 2 x18) fun x19 =>
  bP (ld Q q 186 x19 G) fun x20 =>
  bS (e.ev.cl 386 [x20, v1] G) fun x21 G22 =>
  ifV x21 (
  bP (pNil v0) fun x23 =>
  bP (fa Q q 195 0 0 x23) fun x24 =>
  bP (fa Q q 192 2 17 x24) fun x25 =>
  bP (st Q q 3 1 x25 (.int .i64 11) G22) fun G26 =>
  J0 (xq q 102 (nth undef [v0, v1]) [(22, x25), (21, x24), (20, x23), (19, v0), (18, x21), (17, v1), (16, x20), (15, x19), (14, x18), (13, x17), (12, x16), (11, v0), (9, x4), (10, x4), (8, x3), (7, x2), (6, x1), (5, x0), (4, v0)] []) G26) (
  J0 (xq q 102 (nth undef [v0, v1]) [(18, x21), (17, v1), (16, x20), (15, x19), (14, x18), (13, x17), (12, x16), (11, v0), (9, x4), (10, x4), (8, x3), (7, x2), (6, x1), (5, x0), (4, v0)] []) G22)) (
  bP (bn Q q .eql 3 (.tmp 8) (.const (.int .i64 11)) x3 (.int .i64 11)) fun x27 =>
  ifV x27 (
  nf q 195 0 0 v0 fun x29 =>
  fl q 192 3 18 37 x29 G fun x31 =>
  nf q 195 0 0 v0 fun x33 =>
  bP (fa Q q 192 7 23 x33) fun x34 =>
  bP (st Q q 37 1 x34 x31 G) fun G35 =>
  nf q 195 0 0 v0 fun x37 =>
  bP (fa Q q 192 2 17 x37) fun x38 =>
  bP (st Q q 3 1 x38 (.int .i64 99) G35) fun G39 =>
  nf q 195 0 0 v0 fun x41 =>
  bP (fa Q q 192 0 0 x41) fun x42 =>
  bP (lda Q q 31 13 x42 (G39.room 14)) fun x43 =>
  nf q 195 0 0 v0 fun x45 =>
  fl q 192 4 19 3 x45 (G39.room 14) fun x47 =>
  bS (e.ev.cl 105 [x43, x47, (.int .i64 3)] (G39.room 14)) fun x49 G48 =>
  bS (e.ev.cl 355 [v1, x49, (.int .u64 18446744073709551615)] G48) fun x51 G50 =>
  bP (bn Q q .eql 37 (.tmp 61) (.const (.int .u64 0)) x51 (.int .u64 0)) fun x52 =>
  ifV x52 (
  nf q 195 0 0 v0 fun x54 =>
  bP (fa Q q 192 0 0 x54) fun x55 =>
  bP (fa Q q 31 3 3 x55) fun x56 =>
  bP (lda Q q 29 10 x56 (G50.room 23)) fun x57 =>
  nf q 195 0 0 v0 fun x59 =>
  fl q 192 4 19 3 x59 (G50.room 23) fun x61 =>
  bS (e.ev.cl 388 [x57, x61] (G50.room 23)) fun x63 G62 =>
  nf q 195 0 0 v0 fun x65 =>
  bP (fa Q q 192 1 13 x65) fun x66 =>
  bP (fa Q q 189 3 3 x66) fun x67 =>
  bP (st Q q 187 1 x67 x63 G62) fun G68 =>
  nf q 195 0 0 v0 fun x70 =>
  bP (fa Q q 192 2 17 x70) fun x71 =>
  bP (st Q q 3 1 x71 (.int .i64 12) G68) fun G72 =>
  some (.tuple #[], G72)) (
  some (.tuple #[], G50))) (
  bP (bn Q q .eql 3 (.tmp 8) (.const (.int .i64 12)) x3 (.int .i64 12)) fun x73 =>
  ifV x73 (
  nf q 195 0 0 v0 fun x75 =>
  bP (fa Q q 192 7 23 x75) fun x76 =>
  bP (st Q q 37 1 x76 (.int .u64 0) G) fun G77 =>
  nf q 195 0 0 v0 fun x79 =>
  bP (fa Q q 192 1 13 x79) fun x80 =>
  fl q 189 3 3 187 x80 G77 fun x82 =>
  bS (e.ev.cl 389 [x82, v1] G77) fun x83 G84 =>
  ifV x83 (
  nf q 195 0 0 v0 fun x86 =>
  bP (fa Q q 192 2 17 x86) fun x87 =>
  bP (st Q q 3 1 x87 (.int .i64 99) G84) fun G88 =>
  some (.tuple #[], G88)) (
  some (.tuple #[], G84))) (
  some (.tuple #[], G))))
/-- (*coxswain/claim.Claim).leave -/
def s385 (q : Bool) (e : Ex) (v0 v1 : Value) (G : GS) : OG := sb385 q e (j385_0 q e) v0 v1 G
theorem m385 {e : Ex} {E : Ev} (h : ExLe Q e E) (v0 v1 : Value) (G : GS) : Ref (s385 true e v0 v1 G) (s385 false (Ex.of E) v0 v1 G) := by
  unfold s385 sb385
  have j0 := @mkj385_0 e E h
  exact Ref.gj
def jt385 (J0 : Env → GS → OG) : JT (Value × GS) :=
  (.n none .e (.n none (.n none .e (.n none (.n (some (fun T G => J0 (nth undef T) G)) .e .e) .e)) .e))
set_option maxHeartbeats 8000000 in
theorem jr385_0 (orc : FuncId → Bool) (J0 : Env → GS → OG) (T : List Value) (G : GS) : runC Q (evL Q orc) Tryz.f385.ntmps (jt385 J0) (bodyOf Tryz.f385) (retE Q Tryz.f385.results.toList) [true, false, true, false] (nth undef T) G = jb385_0 false (Ex.of (E orc))  (nth undef T) G := by kernel_rfl
set_option maxHeartbeats 8000000 in
theorem jo385 (orc : FuncId → Bool) : JOk Q orc Tryz.f385.ntmps (jt385 (j385_0 false (Ex.of (E orc))) ) (bodyOf Tryz.f385) (retE Q Tryz.f385.results.toList) :=
  jOk Q orc (l := [([true, false, true, false], (fun T G => j385_0 false (Ex.of (E orc)) (nth undef T) G))]) (by kernel_rfl) (AllE.c (fun T G => jr385_0 orc (j385_0 false (Ex.of (E orc))) T G) (AllE.z))
set_option maxHeartbeats 8000000 in
theorem je385 (orc : FuncId → Bool) (J0 : Env → GS → OG) (v0 v1 : Value) (G : GS) : sxC Q (evL Q orc) Tryz.f385.ntmps (jt385 J0) (bodyOf Tryz.f385) (nth undef [v0, v1]) G (retE Q Tryz.f385.results.toList) = sb385 false (Ex.of (E orc)) J0 v0 v1 G := by kernel_rfl
set_option maxHeartbeats 8000000 in
theorem f385 {orc : FuncId → Bool} {e : Ex} (h : ExLe Q e (E orc)) (v0 v1 : Value) (G : GS) : Ref (s385 true e v0 v1 G) ((E orc).cl 385 [v0, v1] G) :=
  fun r hr => cl_sxC Q orc (vs := [v0, v1]) G (jt385 (j385_0 false (Ex.of (E orc))) ) Tryz.func385 (by kernel_rfl) (by kernel_rfl) (by kernel_rfl) (by kernel_rfl) (by kernel_rfl) (jo385 orc) (je385 orc (j385_0 false (Ex.of (E orc))) v0 v1 G) (m385 h v0 v1 G r hr)
def b386_0 (q : Bool) (e : Ex) (lp : LpF) (τ : Env) (G : GS) : OL :=
  bV q (τ 0) fun a0_ =>
  bV q (τ 1) fun a1_ =>
  bV q (τ 5) fun a5_ =>
  bV q (τ 6) fun a6_ =>
  bP (pNil a0_) fun x0 =>
  bP (fa Q q 462 2 14 x0) fun x1 =>
  bP (ld Q q 3 x1 G) fun x2 =>
  bP (bn Q q .eql 3 (.tmp 56) (.const (.int .i64 1)) x2 (.int .i64 1)) fun x3 =>
  ifV x3 (
  bS (e.ev.cl 240 [a1_, a5_] G) fun x4 G5 =>
  bP (pNil a0_) fun x6 =>
  bP (fa Q q 462 3 15 x6) fun x7 =>
  bP (fa Q q 459 3 3 x7) fun x8 =>
  bP (st Q q 37 1 x8 x4 G5) fun G9 =>
  bP (pNil a0_) fun x10 =>
  bP (fa Q q 462 3 15 x10) fun x11 =>
  bP (fa Q q 459 3 3 x11) fun x12 =>
  bP (ld Q q 37 x12 G9) fun x13 =>
  bS (e.ev.cl 238 [x13] G9) fun x14 G15 =>
  ifV x14 (
  bS (e.ev.cl 344 [a0_] G15) fun x16 G17 =>
  some ((.exit 0), xq q 195 τ [(76, x16), (75, a0_), (74, x14), (73, x13), (72, x12), (71, x11), (70, x10), (69, a0_), (68, x8), (67, x7), (66, x6), (65, x4), (64, a5_), (63, a1_), (62, a0_), (60, x3), (61, x3), (56, x2), (55, x1), (54, x0), (53, a0_)] [(0, a0_), (1, a1_), (5, a5_), (6, a6_)], G17)) (
  bS (e.ev.cl 392 [a0_] G15) fun x18 G19 =>
  some ((.exit 0), xq q 195 τ [(189, x18), (188, a0_), (74, x14), (73, x13), (72, x12), (71, x11), (70, x10), (69, a0_), (68, x8), (67, x7), (66, x6), (65, x4), (64, a5_), (63, a1_), (62, a0_), (60, x3), (61, x3), (56, x2), (55, x1), (54, x0), (53, a0_)] [(0, a0_), (1, a1_), (5, a5_), (6, a6_)], G19))) (
  bP (bn Q q .eql 3 (.tmp 56) (.const (.int .i64 2)) x2 (.int .i64 2)) fun x20 =>
  ifV x20 (
  bP (pNil a0_) fun x21 =>
  bP (fa Q q 462 3 15 x21) fun x22 =>
  bP (fa Q q 459 3 3 x22) fun x23 =>
  bP (ld Q q 37 x23 G) fun x24 =>
  bP (pNil a0_) fun x25 =>
  bP (fa Q q 462 6 21 x25) fun x26 =>
  bP (st Q q 37 1 x26 x24 G) fun G27 =>
  bP (pNil a0_) fun x28 =>
  bP (fa Q q 462 0 0 x28) fun x29 =>
  bP (lda Q q 31 13 x29 (G27.room 17)) fun x30 =>
  bP (pNil a0_) fun x31 =>
  bP (fa Q q 462 3 15 x31) fun x32 =>
  bP (fa Q q 459 0 0 x32) fun x33 =>
  bP (ld Q q 3 x33 (G27.room 17)) fun x34 =>
  bS (e.ev.cl 99 [x30, a6_, x34] (G27.room 17)) fun x36 G35 =>
  bS (e.ev.cl 240 [a1_, x36] G35) fun x38 G37 =>
  bP (pNil a0_) fun x39 =>
  bP (fa Q q 462 4 19 x39) fun x40 =>
  bP (st Q q 37 1 x40 x38 G37) fun G41 =>
  bP (pNil a0_) fun x42 =>
  bP (fa Q q 462 2 14 x42) fun x43 =>
  bP (st Q q 3 1 x43 (.int .i64 4) G41) fun G44 =>
  bP (pNil a0_) fun x45 =>
  bP (fa Q q 462 4 19 x45) fun x46 =>
  bP (ld Q q 37 x46 G44) fun x47 =>
  bS (e.ev.cl 238 [x47] G44) fun x48 G49 =>
  ifV x48 (
  bP (pNil a0_) fun x50 =>
  bP (fa Q q 462 2 14 x50) fun x51 =>
  bP (st Q q 3 1 x51 (.int .i64 3) G49) fun G52 =>
  some ((.exit 0), xq q 195 τ [(113, x51), (112, x50), (111, a0_), (110, x48), (109, x47), (108, x46), (107, x45), (106, a0_), (105, x43), (104, x42), (103, a0_), (102, x40), (101, x39), (100, x38), (99, x36), (98, x34), (97, x33), (96, x32), (95, x31), (94, a0_), (93, a6_), (92, x30), (91, x29), (90, x28), (89, a0_), (88, a1_), (87, a0_), (86, x26), (85, x25), (84, x24), (83, x23), (82, x22), (81, x21), (80, a0_), (79, a0_), (77, x20), (78, x20), (60, x3), (61, x3), (56, x2), (55, x1), (54, x0), (53, a0_)] [(0, a0_), (1, a1_), (5, a5_), (6, a6_)], G52)) (
  some ((.exit 0), xq q 195 τ [(110, x48), (109, x47), (108, x46), (107, x45), (106, a0_), (105, x43), (104, x42), (103, a0_), (102, x40), (101, x39), (100, x38), (99, x36), (98, x34), (97, x33), (96, x32), (95, x31), (94, a0_), (93, a6_), (92, x30), (91, x29), (90, x28), (89, a0_), (88, a1_), (87, a0_), (86, x26), (85, x25), (84, x24), (83, x23), (82, x22), (81, x21), (80, a0_), (79, a0_), (77, x20), (78, x20), (60, x3), (61, x3), (56, x2), (55, x1), (54, x0), (53, a0_)] [(0, a0_), (1, a1_), (5, a5_), (6, a6_)], G49))) (
  bP (bn Q q .eql 3 (.tmp 56) (.const (.int .i64 3)) x2 (.int .i64 3)) fun x53 =>
  ifV x53 (
  bP (pNil a0_) fun x54 =>
  bP (fa Q q 462 3 15 x54) fun x55 =>
  bP (fa Q q 459 3 3 x55) fun x56 =>
  bP (ld Q q 37 x56 (G.room 14)) fun x57 =>
  bP (pNil a0_) fun x58 =>
  bP (fa Q q 462 4 19 x58) fun x59 =>
  bP (ld Q q 37 x59 (G.room 14)) fun x60 =>
  bS (e.ev.cl 283 [x60, (.bool false)] (G.room 14)) fun x62 G61 =>
  chk ((sameO (ld Q q 37 x56 G61) x57 && true)) <|
  bS (e.ev.cl 328 [a1_, a5_, x57, x62] G61) fun x64 G63 =>
  bP (un Q q .not x64) fun x65 =>
  ifV x65 (
  bS (e.ev.cl 344 [a0_] G63) fun x66 G67 =>
  some ((.exit 0), xq q 195 τ [(131, x66), (130, a0_), (129, x65), (128, x64), (127, x62), (126, x60), (125, x59), (124, x58), (123, a0_), (122, x57), (121, x56), (120, x55), (119, x54), (118, a0_), (117, a5_), (116, a1_), (114, x53), (115, x53), (77, x20), (78, x20), (60, x3), (61, x3), (56, x2), (55, x1), (54, x0), (53, a0_)] [(0, a0_), (1, a1_), (5, a5_), (6, a6_)], G67)) (
  bP (pNil a0_) fun x68 =>
  bP (fa Q q 462 4 19 x68) fun x69 =>
  bP (ld Q q 37 x69 G63) fun x70 =>
  bS (e.ev.cl 283 [x70, (.bool false)] G63) fun x71 G72 =>
  bP (pNil a0_) fun x73 =>
  bP (fa Q q 462 3 15 x73) fun x74 =>
  bP (fa Q q 459 3 3 x74) fun x75 =>
  bP (st Q q 37 1 x75 x71 G72) fun G76 =>
  bS (e.ev.cl 392 [a0_] G76) fun x77 G78 =>
  some ((.exit 0), xq q 195 τ [(189, x77), (188, a0_), (140, x75), (139, x74), (138, x73), (137, x71), (136, x70), (135, x69), (134, x68), (133, a0_), (132, a0_), (129, x65), (128, x64), (127, x62), (126, x60), (125, x59), (124, x58), (123, a0_), (122, x57), (121, x56), (120, x55), (119, x54), (118, a0_), (117, a5_), (116, a1_), (114, x53), (115, x53), (77, x20), (78, x20), (60, x3), (61, x3), (56, x2), (55, x1), (54, x0), (53, a0_)] [(0, a0_), (1, a1_), (5, a5_), (6, a6_)], G78))) (
  bP (bn Q q .eql 3 (.tmp 56) (.const (.int .i64 4)) x2 (.int .i64 4)) fun x79 =>
  ifV x79 (
  bP (pNil a0_) fun x80 =>
  bP (fa Q q 462 3 15 x80) fun x81 =>
  bP (fa Q q 459 3 3 x81) fun x82 =>
  bP (ld Q q 37 x82 G) fun x83 =>
  bP (pNil a0_) fun x84 =>
  bP (fa Q q 462 6 21 x84) fun x85 =>
  bP (st Q q 37 1 x85 x83 G) fun G86 =>
  bP (pNil a0_) fun x87 =>
  bP (fa Q q 462 0 0 x87) fun x88 =>
  bP (lda Q q 31 13 x88 (G86.room 13)) fun x89 =>
  bS (e.ev.cl 105 [x89, a6_, (.int .i64 0)] (G86.room 13)) fun x91 G90 =>
  bS (e.ev.cl 240 [a1_, x91] G90) fun x93 G92 =>
  bP (pNil a0_) fun x94 =>
  bP (fa Q q 462 1 13 x94) fun x95 =>
  bP (ld Q q 37 x95 G92) fun x96 =>
  chk ((sameO (ld Q q 37 x95 G90) x96 && (sameO (ld Q q 37 x95 (G86.room 13)) x96 && true))) <|
  bP (bn Q q .geq 37 (.tmp 158) (.tmp 162) x93 x96) fun x97 =>
  ifV x97 (
  bS (e.ev.cl 391 [a0_] G92) fun x98 G99 =>
  some ((.exit 0), xq q 195 τ [(165, x98), (164, a0_), (163, x97), (162, x96), (161, x95), (160, x94), (159, a0_), (158, x93), (157, x91), (156, a6_), (155, x89), (154, x88), (153, x87), (152, a0_), (151, a1_), (150, x85), (149, x84), (148, x83), (147, x82), (146, x81), (145, x80), (144, a0_), (143, a0_), (141, x79), (142, x79), (114, x53), (115, x53), (77, x20), (78, x20), (60, x3), (61, x3), (56, x2), (55, x1), (54, x0), (53, a0_)] [(0, a0_), (1, a1_), (5, a5_), (6, a6_)], G99)) (
  bP (pNil a0_) fun x100 =>
  bP (fa Q q 462 3 15 x100) fun x101 =>
  bP (fa Q q 459 3 3 x101) fun x102 =>
  bP (ld Q q 37 x102 (G92.room 25)) fun x103 =>
  bP (pNil a0_) fun x104 =>
  bP (fa Q q 462 4 19 x104) fun x105 =>
  bP (ld Q q 37 x105 (G92.room 25)) fun x106 =>
  bP (pNil a0_) fun x107 =>
  bP (fa Q q 462 3 15 x107) fun x108 =>
  bP (fa Q q 459 1 1 x108) fun x109 =>
  bP (st Q q 3 1 x109 a6_ (G92.room 25)) fun G110 =>
  bP (pNil a0_) fun x111 =>
  bP (fa Q q 462 3 15 x111) fun x112 =>
  bP (fa Q q 459 2 2 x112) fun x113 =>
  bP (st Q q 37 1 x113 x103 G110) fun G114 =>
  bP (pNil a0_) fun x115 =>
  bP (fa Q q 462 3 15 x115) fun x116 =>
  bP (fa Q q 459 3 3 x116) fun x117 =>
  bP (st Q q 37 1 x117 x106 G114) fun G118 =>
  bS (e.ev.cl 392 [a0_] G118) fun x119 G120 =>
  some ((.exit 0), xq q 195 τ [(189, x119), (188, a0_), (187, x117), (186, x116), (185, x115), (184, x113), (183, x112), (182, x111), (181, x109), (180, x108), (179, x107), (178, x106), (177, x105), (176, x104), (175, a0_), (174, x103), (173, x102), (172, x101), (171, x100), (170, a0_), (169, a6_), (168, a0_), (167, a0_), (166, a0_), (163, x97), (162, x96), (161, x95), (160, x94), (159, a0_), (158, x93), (157, x91), (156, a6_), (155, x89), (154, x88), (153, x87), (152, a0_), (151, a1_), (150, x85), (149, x84), (148, x83), (147, x82), (146, x81), (145, x80), (144, a0_), (143, a0_), (141, x79), (142, x79), (114, x53), (115, x53), (77, x20), (78, x20), (60, x3), (61, x3), (56, x2), (55, x1), (54, x0), (53, a0_)] [(0, a0_), (1, a1_), (5, a5_), (6, a6_)], G120))) (
  bP (pNil a0_) fun x121 =>
  bP (fa Q q 462 2 14 x121) fun x122 =>
  bP (st Q q 3 1 x122 (.int .i64 1) G) fun G123 =>
  lp (xq q 195 τ [(59, x122), (58, x121), (57, a0_), (141, x79), (142, x79), (114, x53), (115, x53), (77, x20), (78, x20), (60, x3), (61, x3), (56, x2), (55, x1), (54, x0), (53, a0_)] [(0, a0_), (1, a1_), (5, a5_), (6, a6_)]) G123))))
theorem mb386_0 {e : Ex} {E : Ev} (h : ExLe Q e E) {lp lp' : LpF} (hlp : LpLe lp lp') (τ : Env) (G : GS) : Ref (b386_0 true e lp τ G) (b386_0 false (Ex.of E) lp' τ G) := by
  unfold b386_0
  exact Ref.gq
set_option maxHeartbeats 8000000 in
theorem l386_0 {orc : FuncId → Bool} {e : Ex} (h : ExLe Q e (E orc)) (lp : LpF) (hlp : ∀ τ G, Ref (lp τ G) (mapE ((E orc).lp (subAt [1, 0, 1, 1, 1, 1, 1, 0, 0, 0] (bodyOf Tryz.f386)) (lst 195 τ) G))) (T : List Value) (G : GS) (hT : T.length = 195) : Ref (b386_0 true e lp (nth undef T) G) (mapE ((E orc).lp (subAt [1, 0, 1, 1, 1, 1, 1, 0, 0, 0] (bodyOf Tryz.f386)) T G)) :=
  fun r hr => lp_sxN Q orc G hT (by kernel_rfl) (mb386_0 h ⟨hlp⟩ _ _ r hr)
/-- (*coxswain/find.Find).Step -/
def s386 (q : Bool) (e : Ex) (v0 v1 : Value) (G : GS) : OG :=
  bP (ep Q q false 186 (.tmp 7) (.const (.pointer none)) v0 (.pointer none)) fun x0 =>
  bS (gV x0 false v0 G) fun x1 G2 =>
  bS (gP x0 false (pNil x1) G2) fun x3 G4 =>
  bS (gP x0 false (fa Q q 462 7 22 x3) G4) fun x5 G6 =>
  bS (gP x0 false (ld Q q 4 x5 G6) G6) fun x7 G8 =>
  bS (gP x0 false (un Q q .not x7) G8) fun x9 G10 =>
  bP (pickV x0 (.bool true) x9) fun x11 =>
  bS (gV x11 false v0 G10) fun x12 G13 =>
  bS (gP x11 false (pNil x12) G13) fun x14 G15 =>
  bS (gP x11 false (fa Q q 462 2 14 x14) G15) fun x16 G17 =>
  bS (gP x11 false (ld Q q 3 x16 G17) G17) fun x18 G19 =>
  bS (gP x11 false (bn Q q .eql 3 (.tmp 20) (.const (.int .i64 9)) x18 (.int .i64 9)) G19) fun x20 G21 =>
  bP (pickV x11 (.bool true) x20) fun x22 =>
  ifV x22 (
  some ((.bool true), G21)) (
  bP (pNil v0) fun x23 =>
  bP (fa Q q 462 0 0 x23) fun x24 =>
  bP (lda Q q 31 13 x24 (G21.room 16)) fun x25 =>
  bP (pNil v0) fun x26 =>
  bP (fa Q q 462 3 15 x26) fun x27 =>
  bP (fa Q q 459 1 1 x27) fun x28 =>
  bP (ld Q q 3 x28 (G21.room 16)) fun x29 =>
  bP (pNil v0) fun x30 =>
  bP (fa Q q 462 3 15 x30) fun x31 =>
  bP (fa Q q 459 0 0 x31) fun x32 =>
  bP (ld Q q 3 x32 (G21.room 16)) fun x33 =>
  bS (e.ev.cl 99 [x25, x29, x33] (G21.room 16)) fun x35 G34 =>
  bP (pNil v0) fun x36 =>
  bP (fa Q q 462 3 15 x36) fun x37 =>
  bP (fa Q q 459 3 3 x37) fun x38 =>
  bP (ld Q q 37 x38 G34) fun x39 =>
  bS (e.ev.cl 390 [v0, x39] G34) fun x40 G41 =>
  bP (pNil v0) fun x42 =>
  bP (fa Q q 462 3 15 x42) fun x43 =>
  bP (fa Q q 459 2 2 x43) fun x44 =>
  bP (ld Q q 37 x44 G41) fun x45 =>
  bP (pNil v0) fun x46 =>
  bP (fa Q q 462 6 21 x46) fun x47 =>
  bP (st Q q 37 1 x47 x45 G41) fun G48 =>
  bLq q e 386 0 (subAt [1, 0, 1, 1, 1, 1, 1, 0, 0, 0] (bodyOf Tryz.f386)) 195 (nth undef [v0, v1]) [(52, x47), (51, x46), (50, x45), (49, x44), (48, x43), (47, x42), (46, v0), (45, v0), (6, x40), (44, x40), (43, x39), (42, x38), (41, x37), (40, x36), (39, v0), (38, v0), (5, x35), (37, x35), (36, x33), (35, x32), (34, x31), (33, x30), (32, v0), (31, x29), (30, x28), (29, x27), (28, x26), (27, v0), (26, x25), (25, x24), (24, x23), (23, v0), (22, x22), (21, x20), (20, x18), (19, x16), (18, x14), (17, x12), (16, x11), (15, x11), (14, x9), (13, x7), (12, x5), (11, x3), (10, x1), (9, x0), (8, x0), (7, v0), (4, (.bool false))] [] G48 fun e49 t50 G51 =>
  bV q (t50 0) fun t50x0_ =>
  ifE e49 (.exit 0) (
  nl q 462 2 14 3 t50x0_ G51 fun x54 =>
  bP (bn Q q .eql 3 (.tmp 193) (.const (.int .i64 9)) x54 (.int .i64 9)) fun x55 =>
  some (x55, G51)) (none))
theorem m386 {e : Ex} {E : Ev} (h : ExLe Q e E) (v0 v1 : Value) (G : GS) : Ref (s386 true e v0 v1 G) (s386 false (Ex.of E) v0 v1 G) := by
  unfold s386
  exact Ref.gq
set_option maxHeartbeats 8000000 in
theorem f386 {orc : FuncId → Bool} {e : Ex} (h : ExLe Q e (E orc)) (v0 v1 : Value) (G : GS) : Ref (s386 true e v0 v1 G) ((E orc).cl 386 [v0, v1] G) :=
  fun r hr => cl_sxE_some Q orc (vs := [v0, v1]) G Tryz.func386 (by kernel_rfl) (by kernel_rfl) (by kernel_rfl) (by kernel_rfl) (by kernel_rfl) (by kernel_rfl) (m386 h v0 v1 G r hr)
/-- (*coxswain/find.Find).By -/
def s387 (q : Bool) (e : Ex) (v0 : Value) (G : GS) : OG :=
  bP (ep Q q false 186 (.tmp 3) (.const (.pointer none)) v0 (.pointer none)) fun x0 =>
  ifV x0 (
  some ((.int .u64 0), G)) (
  nl q 462 6 21 37 v0 G fun x3 =>
  some (x3, G))
theorem f387 (h : ExLe Q e (E orc)) (v0 : Value) (G : GS) : Ref (s387 true e v0 G) ((E orc).cl 387 [v0] G) := cS (S := fun q e => s387 q e v0 G) Tryz.func387 (by unfold s387; exact Ref.gq)
/-- coxswain/limbo.NewRetire -/
def s388 (q : Bool) (e : Ex) (v0 v1 : Value) (G : GS) : OG :=
  bS (bx q v0 G) fun x0 G1 =>
  bP (bd Q q 318 z318 [(1, 1, 1)] [(.bool true)]) fun x2 =>
  bP (lda Q q 29 10 x0 G1) fun x3 =>
  bP (bd Q q 493 z493 [(0, 0, 3), (1, 3, 10), (2, 13, 1)] [x2, x3, v1]) fun x4 =>
  bS (bx q x4 G1) fun x5 G6 =>
  bP (bn Q q .lss 3 (.tmp 11) (.const (.int .i64 0)) v1 (.int .i64 0)) fun x7 =>
  bS (gV x7 false v1 G6) fun x8 G9 =>
  bS (gP x7 false (fa Q q 29 0 0 x0) G9) fun x10 G11 =>
  bS (gP x7 false (fa Q q 25 0 0 x10) G11) fun x12 G13 =>
  bS (gP x7 false (fa Q q 23 2 2 x12) G13) fun x14 G15 =>
  bS (gP x7 false (ld Q q 3 x14 G15) G15) fun x16 G17 =>
  bS (gP x7 false (bn Q q .geq 3 (.tmp 14) (.tmp 18) x8 x16) G17) fun x18 G19 =>
  bP (pickV x7 (.bool true) x18) fun x20 =>
  ifV x20 (
  nf q 493 0 0 x5 fun x22 =>
  bP (fa Q q 318 2 2 x22) fun x23 =>
  bP (st Q q 38 1 x23 (.int .i64 3) G19) fun G24 =>
  some (x5, G24)) (
  nf q 493 0 0 x5 fun x26 =>
  bP (fa Q q 318 0 0 x26) fun x27 =>
  bP (st Q q 316 1 x27 (.func (.func 393) #[x5] #[]) G19) fun G28 =>
  some (x5, G28))
theorem f388 (h : ExLe Q e (E orc)) (v0 v1 : Value) (G : GS) : Ref (s388 true e v0 v1 G) ((E orc).cl 388 [v0, v1] G) := cS (S := fun q e => s388 q e v0 v1 G) Tryz.func388 (by unfold s388; exact Ref.gq)
/-- (*coxswain/limbo.Retire).Step -/
def s389 (q : Bool) (e : Ex) (v0 v1 : Value) (G : GS) : OG :=
  bP (ep Q q false 187 (.tmp 5) (.const (.pointer none)) v0 (.pointer none)) fun x0 =>
  bS (gV x0 false v0 G) fun x1 G2 =>
  bS (gP x0 false (pNil x1) G2) fun x3 G4 =>
  bS (gP x0 false (fa Q q 493 0 0 x3) G4) fun x5 G6 =>
  bS (gV x0 false v1 G6) fun x7 G8 =>
  bS (gS x0 false (e.ev.cl 394 [x5, x7] G8) G8) fun x9 G10 =>
  bP (pickV x0 (.bool true) x9) fun x11 =>
  some (x11, G10)
theorem f389 (h : ExLe Q e (E orc)) (v0 v1 : Value) (G : GS) : Ref (s389 true e v0 v1 G) ((E orc).cl 389 [v0, v1] G) := cS (S := fun q e => s389 q e v0 v1 G) Tryz.func389 (by unfold s389; exact Ref.gq)
/-- (*coxswain/find.Find).index -/
def s390 (q : Bool) (e : Ex) (v0 v1 : Value) (G : GS) : OG :=
  bS (e.ev.cl 281 [v1] G) fun x0 G1 =>
  bP (pExtract x0 0) fun x2 =>
  bP (pExtract x0 1) fun x3 =>
  bS (al Q q 340 z340 G1) fun x4 G5 =>
  bP (st Q q 340 2 x4 x2 G5) fun G6 =>
  fl q 340 0 0 3 x4 (G6.room 11) fun x8 =>
  nf q 462 0 0 v0 fun x10 =>
  bP (fa Q q 31 3 3 x10) fun x11 =>
  bP (fa Q q 29 0 0 x11) fun x12 =>
  bP (fa Q q 25 0 0 x12) fun x13 =>
  fl q 23 2 2 3 x13 (G6.room 11) fun x15 =>
  bP (bn Q q .geq 3 (.tmp 13) (.tmp 21) x8 x15) fun x16 =>
  ifV x16 (
  some ((.int .i64 (-1)), (G6.room 11))) (
  fl q 340 0 0 3 x4 (G6.room 11) fun x18 =>
  some (x18, (G6.room 11)))
theorem f390 (h : ExLe Q e (E orc)) (v0 v1 : Value) (G : GS) : Ref (s390 true e v0 v1 G) ((E orc).cl 390 [v0, v1] G) := cS (S := fun q e => s390 q e v0 v1 G) Tryz.func390 (by unfold s390; exact Ref.gq)
/-- (*coxswain/find.Find).done -/
def s391 (q : Bool) (e : Ex) (v0 : Value) (G : GS) : OG :=
  nl q 462 5 20 460 v0 (G.room 15) fun x2 =>
  nf q 462 3 15 v0 fun x4 =>
  fl q 459 0 0 3 x4 (G.room 15) fun x6 =>
  nf q 462 3 15 v0 fun x8 =>
  bP (lda Q q 459 4 x8 (G.room 15)) fun x9 =>
  bP (ias Q q 460 4 x2 x6) fun x10 =>
  bP (st Q q 459 4 x10 x9 (G.room 15)) fun G11 =>
  nf q 462 3 15 v0 fun x13 =>
  fl q 459 0 0 3 x13 G11 fun x15 =>
  bP (bn Q q .sub 3 (.tmp 21) (.const (.int .i64 1)) x15 (.int .i64 1)) fun x16 =>
  bS (e.ev.cl 348 [v0, x16] G11) fun x17 G18 =>
  some (.tuple #[], G18)
theorem f391 (h : ExLe Q e (E orc)) (v0 : Value) (G : GS) : Ref (s391 true e v0 G) ((E orc).cl 391 [v0] G) := cS (S := fun q e => s391 q e v0 G) Tryz.func391 (by unfold s391; exact Ref.gq)
/-- (*coxswain/find.Find).looks -/
def s392 (q : Bool) (e : Ex) (v0 : Value) (G : GS) : OG :=
  nf q 462 2 14 v0 fun x1 =>
  bP (st Q q 3 1 x1 (.int .i64 2) G) fun G2 =>
  nf q 462 3 15 v0 fun x4 =>
  fl q 459 3 3 37 x4 G2 fun x6 =>
  bS (e.ev.cl 390 [v0, x6] G2) fun x7 G8 =>
  bP (bn Q q .lss 3 (.tmp 11) (.const (.int .i64 0)) x7 (.int .i64 0)) fun x9 =>
  ifV x9 (
  bS (e.ev.cl 391 [v0] G8) fun x10 G11 =>
  some (.tuple #[], G11)) (
  some (.tuple #[], G8))
theorem f392 (h : ExLe Q e (E orc)) (v0 : Value) (G : GS) : Ref (s392 true e v0 G) ((E orc).cl 392 [v0] G) := cS (S := fun q e => s392 q e v0 G) Tryz.func392 (by unfold s392; exact Ref.gq)
/-- (*coxswain/limbo.Retire).looks -/
def s393 (q : Bool) (e : Ex) (v0 v1 : Value) (G : GS) : OG :=
  nf q 493 1 3 v0 fun x1 =>
  bP (fa Q q 29 1 6 x1) fun x2 =>
  fl q 27 0 0 3 x2 G fun x4 =>
  bS (e.ev.cl 240 [v1, x4] G) fun x5 G6 =>
  bP (bn Q q .and 37 (.tmp 13) (.const (.int .u64 4294967295)) x5 (.int .u64 4294967295)) fun x7 =>
  bP (bn Q q .rem 37 (.tmp 16) (.const (.int .u64 3)) x7 (.int .u64 3)) fun x8 =>
  bP (cv Q q 37 219 .u64 .i64 x8) fun x9 =>
  nf q 493 1 3 v0 fun x11 =>
  bP (lda Q q 29 10 x11 (G6.room 17)) fun x12 =>
  bS (e.ev.cl 131 [x9, x12] (G6.room 17)) fun x14 G13 =>
  nf q 493 2 13 v0 fun x16 =>
  bP (ld Q q 3 x16 G13) fun x17 =>
  chk ((sameO (ld Q q 3 x16 (G6.room 17)) x17 && true)) <|
  bS (e.ev.cl 345 [x14, x17] G13) fun x19 G18 =>
  nf q 493 3 14 v0 fun x21 =>
  bP (st Q q 463 1 x21 x19 G18) fun G22 =>
  some ((.func (.func 395) #[v0] #[]), G22)
theorem f393 (h : ExLe Q e (E orc)) (v0 v1 : Value) (G : GS) : Ref (s393 true e v0 v1 G) ((E orc).cl 393 [v0, v1] G) := cS (S := fun q e => s393 q e v0 v1 G) Tryz.func393 (by unfold s393; exact Ref.gq)
def jb394_0 (q : Bool) (e : Ex) (τ : Env) (G : GS) : OG :=
  bV q (τ 0) fun a0_ =>
  nl q 318 0 0 316 a0_ G fun x2 =>
  bP (ef Q q false 316 (.tmp 22) (.const .nilFunc) x2 .nilFunc) fun x3 =>
  some (x3, G)
def j394_0 (q : Bool) (e : Ex) (τ : Env) (G : GS) : OG := jb394_0 q e τ G
theorem mj394_0 {e : Ex} {E : Ev} (h : ExLe Q e E) (τ : Env) (G : GS) : Ref (j394_0 true e τ G) (j394_0 false (Ex.of E) τ G) := by
  unfold j394_0 jb394_0
  exact Ref.gq
theorem mkj394_0 {e : Ex} {E : Ev} (h : ExLe Q e E) {τ : Env} {l U : List (Nat × Value)} {G : GS} (hU : UOk τ U) : Ref (j394_0 true e (xq true 24 τ l U) G) (j394_0 false (Ex.of E) (xq false 24 τ l U) G) := by
  rw [xq_eq hU]
  exact mj394_0 h _ _
def sb394 (q : Bool) (e : Ex) (J0 : Env → GS → OG) (v0 v1 : Value) (G : GS) : OG :=
  bP (pNil v0) fun x4 =>
  bP (fa Q q 318 0 0 x4) fun x5 =>
  bP (ld Q q 316 x5 G) fun x6 =>
  bP (ef Q q true 316 (.tmp 8) (.const .nilFunc) x6 .nilFunc) fun x7 =>
  ifV x7 (
  bP (pNil v0) fun x8 =>
  bP (fa Q q 318 0 0 x8) fun x9 =>
  bP (ld Q q 316 x9 G) fun x10 =>
  bS (cValue e.ev x10 [v1] G) fun x11 G12 =>
  bP (pNil v0) fun x13 =>
  bP (fa Q q 318 0 0 x13) fun x14 =>
  bP (st Q q 316 1 x14 x11 G12) fun G15 =>
  J0 (xq q 24 (nth undef [v0, v1]) [(18, x14), (17, x13), (16, x11), (15, v1), (14, x10), (13, x9), (12, x8), (11, v0), (10, v0), (9, x7), (8, x6), (7, x5), (6, x4), (5, v0), (4, (.bool false))] []) G15) (
  J0 (xq q 24 (nth undef [v0, v1]) [(9, x7), (8, x6), (7, x5), (6, x4), (5, v0), (4, (.bool false))] []) G)
/-- (*coxswain/limbo.machine).step -/
def s394 (q : Bool) (e : Ex) (v0 v1 : Value) (G : GS) : OG := sb394 q e (j394_0 q e) v0 v1 G
theorem m394 {e : Ex} {E : Ev} (h : ExLe Q e E) (v0 v1 : Value) (G : GS) : Ref (s394 true e v0 v1 G) (s394 false (Ex.of E) v0 v1 G) := by
  unfold s394 sb394
  have j0 := @mkj394_0 e E h
  exact Ref.gj
def jt394 (J0 : Env → GS → OG) : JT (Value × GS) :=
  (.n none .e (.n (some (fun T G => J0 (nth undef T) G)) .e .e))
theorem jr394_0 (orc : FuncId → Bool) (J0 : Env → GS → OG) (T : List Value) (G : GS) : runC Q (evL Q orc) Tryz.f394.ntmps (jt394 J0) (bodyOf Tryz.f394) (retE Q Tryz.f394.results.toList) [true] (nth undef T) G = jb394_0 false (Ex.of (E orc))  (nth undef T) G := by kernel_rfl
theorem jo394 (orc : FuncId → Bool) : JOk Q orc Tryz.f394.ntmps (jt394 (j394_0 false (Ex.of (E orc))) ) (bodyOf Tryz.f394) (retE Q Tryz.f394.results.toList) :=
  jOk Q orc (l := [([true], (fun T G => j394_0 false (Ex.of (E orc)) (nth undef T) G))]) (by kernel_rfl) (AllE.c (fun T G => jr394_0 orc (j394_0 false (Ex.of (E orc))) T G) (AllE.z))
theorem je394 (orc : FuncId → Bool) (J0 : Env → GS → OG) (v0 v1 : Value) (G : GS) : sxC Q (evL Q orc) Tryz.f394.ntmps (jt394 J0) (bodyOf Tryz.f394) (nth undef [v0, v1]) G (retE Q Tryz.f394.results.toList) = sb394 false (Ex.of (E orc)) J0 v0 v1 G := by kernel_rfl
theorem f394 {orc : FuncId → Bool} {e : Ex} (h : ExLe Q e (E orc)) (v0 v1 : Value) (G : GS) : Ref (s394 true e v0 v1 G) ((E orc).cl 394 [v0, v1] G) :=
  fun r hr => cl_sxC Q orc (vs := [v0, v1]) G (jt394 (j394_0 false (Ex.of (E orc))) ) Tryz.func394 (by kernel_rfl) (by kernel_rfl) (by kernel_rfl) (by kernel_rfl) (by kernel_rfl) (jo394 orc) (je394 orc (j394_0 false (Ex.of (E orc))) v0 v1 G) (m394 h v0 v1 G r hr)
/-- (*coxswain/limbo.Retire).pushes -/
def s395 (q : Bool) (e : Ex) (v0 v1 : Value) (G : GS) : OG :=
  nl q 493 3 14 463 v0 G fun x2 =>
  bS (e.ev.cl 358 [x2, v1] G) fun x3 G4 =>
  ifV x3 (
  some (.nilFunc, G4)) (
  some ((.func (.func 395) #[v0] #[]), G4))
theorem f395 (h : ExLe Q e (E orc)) (v0 v1 : Value) (G : GS) : Ref (s395 true e v0 v1 G) ((E orc).cl 395 [v0, v1] G) := cS (S := fun q e => s395 q e v0 v1 G) Tryz.func395 (by unfold s395; exact Ref.gq)
def jb397_0 (q : Bool) (e : Ex) (τ : Env) (G : GS) : OG :=
  bV q (τ 6) fun a6_ =>
  bV q (τ 7) fun a7_ =>
  some (.tuple #[a6_, a7_], G)
def j397_0 (q : Bool) (e : Ex) (τ : Env) (G : GS) : OG := jb397_0 q e τ G
theorem mj397_0 {e : Ex} {E : Ev} (h : ExLe Q e E) (τ : Env) (G : GS) : Ref (j397_0 true e τ G) (j397_0 false (Ex.of E) τ G) := by
  unfold j397_0 jb397_0
  exact Ref.gq
theorem mkj397_0 {e : Ex} {E : Ev} (h : ExLe Q e E) {τ : Env} {l U : List (Nat × Value)} {G : GS} (hU : UOk τ U) : Ref (j397_0 true e (xq true 64 τ l U) G) (j397_0 false (Ex.of E) (xq false 64 τ l U) G) := by
  rw [xq_eq hU]
  exact mj397_0 h _ _
def jb397_1 (q : Bool) (e : Ex) (J0 : Env → GS → OG) (τ : Env) (G : GS) : OG :=
  bV q (τ 0) fun a0_ =>
  bV q (τ 6) fun a6_ =>
  bS (gV a6_ true a0_ G) fun x6 G7 =>
  bS (gP a6_ true (pNil x6) G7) fun x8 G9 =>
  bS (gP a6_ true (fa Q q 185 2 2 x8) G9) fun x10 G11 =>
  bS (gP a6_ true (ld Q q 182 x10 G11) G11) fun x12 G13 =>
  bS (gP a6_ true (ef Q q true 182 (.tmp 50) (.const .nilFunc) x12 .nilFunc) G13) fun x14 G15 =>
  bP (pickV a6_ x14 (.bool false)) fun x16 =>
  ifV x16 (
  bP (pNil a0_) fun x17 =>
  bP (fa Q q 185 2 2 x17) fun x18 =>
  bP (ld Q q 182 x18 (G15.room 9)) fun x19 =>
  bP (pNil a0_) fun x20 =>
  bP (fa Q q 185 3 3 x20) fun x21 =>
  bP (ld Q q 179 x21 (G15.room 9)) fun x22 =>
  bS (cValue e.ev x19 [x22] (G15.room 9)) fun x24 G23 =>
  J0 (xq q 64 τ [(61, x24), (60, x22), (59, x21), (58, x20), (57, a0_), (56, x19), (55, x18), (54, x17), (53, a0_), (52, x16), (51, x14), (50, x12), (49, x10), (48, x8), (47, x6), (46, a6_), (45, a6_)] []) G23) (
  J0 (xq q 64 τ [(52, x16), (51, x14), (50, x12), (49, x10), (48, x8), (47, x6), (46, a6_), (45, a6_)] []) G15)
def j397_1 (q : Bool) (e : Ex) (τ : Env) (G : GS) : OG := jb397_1 q e (j397_0 q e) τ G
theorem mj397_1 {e : Ex} {E : Ev} (h : ExLe Q e E) (τ : Env) (G : GS) : Ref (j397_1 true e τ G) (j397_1 false (Ex.of E) τ G) := by
  unfold j397_1 jb397_1
  have j0 := @mkj397_0 e E h
  exact Ref.gj
theorem mkj397_1 {e : Ex} {E : Ev} (h : ExLe Q e E) {τ : Env} {l U : List (Nat × Value)} {G : GS} (hU : UOk τ U) : Ref (j397_1 true e (xq true 64 τ l U) G) (j397_1 false (Ex.of E) (xq false 64 τ l U) G) := by
  rw [xq_eq hU]
  exact mj397_1 h _ _
def jb397_2 (q : Bool) (e : Ex) (J0 J1 : Env → GS → OG) (τ : Env) (G : GS) : OG :=
  bV q (τ 0) fun a0_ =>
  bV q (τ 1) fun a1_ =>
  bP (pNil a0_) fun x0 =>
  bP (fa Q q 185 3 3 x0) fun x1 =>
  bP (ld Q q 179 x1 G) fun x2 =>
  bP (ifc Q q 179 x2) fun x3 =>
  bS (cInvoke Q e.ev x3 "Step" [a1_] G) fun x4 G5 =>
  bP (pNil a0_) fun x25 =>
  bP (fa Q q 185 1 1 x25) fun x26 =>
  bP (ld Q q 183 x26 G5) fun x27 =>
  bP (ef Q q true 183 (.tmp 34) (.const .nilFunc) x27 .nilFunc) fun x28 =>
  ifV x28 (
  bP (pNil a0_) fun x29 =>
  bP (fa Q q 185 1 1 x29) fun x30 =>
  bP (ld Q q 183 x30 (G5.room 10)) fun x31 =>
  bP (pNil a0_) fun x32 =>
  bP (fa Q q 185 3 3 x32) fun x33 =>
  bP (ld Q q 179 x33 (G5.room 10)) fun x34 =>
  bS (cValue e.ev x31 [x34] (G5.room 10)) fun x36 G35 =>
  J1 (xq q 64 τ [(7, x36), (44, x36), (43, x34), (42, x33), (41, x32), (40, a0_), (39, x31), (38, x30), (37, x29), (36, a0_), (35, x28), (34, x27), (33, x26), (32, x25), (31, a0_), (7, (.int .u64 0)), (6, x4), (30, x4), (29, a1_), (28, x3), (27, x2), (26, x1), (25, x0), (24, a0_)] []) G35) (
  J1 (xq q 64 τ [(35, x28), (34, x27), (33, x26), (32, x25), (31, a0_), (7, (.int .u64 0)), (6, x4), (30, x4), (29, a1_), (28, x3), (27, x2), (26, x1), (25, x0), (24, a0_)] []) G5)
def j397_2 (q : Bool) (e : Ex) (τ : Env) (G : GS) : OG := jb397_2 q e (j397_0 q e) (j397_1 q e) τ G
theorem mj397_2 {e : Ex} {E : Ev} (h : ExLe Q e E) (τ : Env) (G : GS) : Ref (j397_2 true e τ G) (j397_2 false (Ex.of E) τ G) := by
  unfold j397_2 jb397_2
  have j0 := @mkj397_0 e E h
  have j1 := @mkj397_1 e E h
  exact Ref.gj
theorem mkj397_2 {e : Ex} {E : Ev} (h : ExLe Q e E) {τ : Env} {l U : List (Nat × Value)} {G : GS} (hU : UOk τ U) : Ref (j397_2 true e (xq true 64 τ l U) G) (j397_2 false (Ex.of E) (xq false 64 τ l U) G) := by
  rw [xq_eq hU]
  exact mj397_2 h _ _
def sb397 (q : Bool) (e : Ex) (J0 J1 J2 : Env → GS → OG) (v0 v1 : Value) (G : GS) : OG :=
  bP (pNil v0) fun x37 =>
  bP (fa Q q 185 4 4 x37) fun x38 =>
  bP (ld Q q 4 x38 G) fun x39 =>
  bP (un Q q .not x39) fun x40 =>
  ifV x40 (
  bP (pNil v0) fun x41 =>
  bP (fa Q q 185 0 0 x41) fun x42 =>
  bP (ld Q q 181 x42 G) fun x43 =>
  bS (cValue e.ev x43 [] G) fun x44 G45 =>
  bP (pNil v0) fun x46 =>
  bP (fa Q q 185 3 3 x46) fun x47 =>
  bP (st Q q 179 1 x47 x44 G45) fun G48 =>
  bP (pNil v0) fun x49 =>
  bP (fa Q q 185 4 4 x49) fun x50 =>
  bP (st Q q 4 1 x50 (.bool true) G48) fun G51 =>
  J2 (xq q 64 (nth undef [v0, v1]) [(23, x50), (22, x49), (21, x47), (20, x46), (19, x44), (18, x43), (17, x42), (16, x41), (15, v0), (14, v0), (13, v0), (12, x40), (11, x39), (10, x38), (9, x37), (8, v0), (5, (.int .u64 0)), (4, (.bool false))] []) G51) (
  J2 (xq q 64 (nth undef [v0, v1]) [(12, x40), (11, x39), (10, x38), (9, x37), (8, v0), (5, (.int .u64 0)), (4, (.bool false))] []) G)
/-- (*coxswain/ready.part[*coxswain/epoch.Pin]).run -/
def s397 (q : Bool) (e : Ex) (v0 v1 : Value) (G : GS) : OG := sb397 q e (j397_0 q e) (j397_1 q e) (j397_2 q e) v0 v1 G
theorem m397 {e : Ex} {E : Ev} (h : ExLe Q e E) (v0 v1 : Value) (G : GS) : Ref (s397 true e v0 v1 G) (s397 false (Ex.of E) v0 v1 G) := by
  unfold s397 sb397
  have j0 := @mkj397_0 e E h
  have j1 := @mkj397_1 e E h
  have j2 := @mkj397_2 e E h
  exact Ref.gj
def jt397 (J0 J1 J2 : Env → GS → OG) : JT (Value × GS) :=
  (.n none .e (.n (some (fun T G => J2 (nth undef T) G)) .e (.n none .e (.n (some (fun T G => J1 (nth undef T) G)) .e (.n (some (fun T G => J0 (nth undef T) G)) .e .e)))))
theorem jr397_2 (orc : FuncId → Bool) (J0 J1 J2 : Env → GS → OG) (T : List Value) (G : GS) : runC Q (evL Q orc) Tryz.f397.ntmps (jt397 J0 J1 J2) (bodyOf Tryz.f397) (retE Q Tryz.f397.results.toList) [true] (nth undef T) G = jb397_2 false (Ex.of (E orc)) J0 J1 (nth undef T) G := by kernel_rfl
theorem jr397_1 (orc : FuncId → Bool) (J0 J1 J2 : Env → GS → OG) (T : List Value) (G : GS) : runC Q (evL Q orc) Tryz.f397.ntmps (jt397 J0 J1 J2) (bodyOf Tryz.f397) (retE Q Tryz.f397.results.toList) [true, true, true] (nth undef T) G = jb397_1 false (Ex.of (E orc)) J0 (nth undef T) G := by kernel_rfl
theorem jr397_0 (orc : FuncId → Bool) (J0 J1 J2 : Env → GS → OG) (T : List Value) (G : GS) : runC Q (evL Q orc) Tryz.f397.ntmps (jt397 J0 J1 J2) (bodyOf Tryz.f397) (retE Q Tryz.f397.results.toList) [true, true, true, true] (nth undef T) G = jb397_0 false (Ex.of (E orc))  (nth undef T) G := by kernel_rfl
theorem jo397 (orc : FuncId → Bool) : JOk Q orc Tryz.f397.ntmps (jt397 (j397_0 false (Ex.of (E orc))) (j397_1 false (Ex.of (E orc))) (j397_2 false (Ex.of (E orc))) ) (bodyOf Tryz.f397) (retE Q Tryz.f397.results.toList) :=
  jOk Q orc (l := [([true], (fun T G => j397_2 false (Ex.of (E orc)) (nth undef T) G)), ([true, true, true], (fun T G => j397_1 false (Ex.of (E orc)) (nth undef T) G)), ([true, true, true, true], (fun T G => j397_0 false (Ex.of (E orc)) (nth undef T) G))]) (by kernel_rfl) (AllE.c (fun T G => jr397_2 orc (j397_0 false (Ex.of (E orc))) (j397_1 false (Ex.of (E orc))) (j397_2 false (Ex.of (E orc))) T G) (AllE.c (fun T G => jr397_1 orc (j397_0 false (Ex.of (E orc))) (j397_1 false (Ex.of (E orc))) (j397_2 false (Ex.of (E orc))) T G) (AllE.c (fun T G => jr397_0 orc (j397_0 false (Ex.of (E orc))) (j397_1 false (Ex.of (E orc))) (j397_2 false (Ex.of (E orc))) T G) (AllE.z))))
theorem je397 (orc : FuncId → Bool) (J0 J1 J2 : Env → GS → OG) (v0 v1 : Value) (G : GS) : sxC Q (evL Q orc) Tryz.f397.ntmps (jt397 J0 J1 J2) (bodyOf Tryz.f397) (nth undef [v0, v1]) G (retE Q Tryz.f397.results.toList) = sb397 false (Ex.of (E orc)) J0 J1 J2 v0 v1 G := by kernel_rfl
theorem f397 {orc : FuncId → Bool} {e : Ex} (h : ExLe Q e (E orc)) (v0 v1 : Value) (G : GS) : Ref (s397 true e v0 v1 G) ((E orc).cl 397 [v0, v1] G) :=
  fun r hr => cl_sxC Q orc (vs := [v0, v1]) G (jt397 (j397_0 false (Ex.of (E orc))) (j397_1 false (Ex.of (E orc))) (j397_2 false (Ex.of (E orc))) ) Tryz.func397 (by kernel_rfl) (by kernel_rfl) (by kernel_rfl) (by kernel_rfl) (by kernel_rfl) (jo397 orc) (je397 orc (j397_0 false (Ex.of (E orc))) (j397_1 false (Ex.of (E orc))) (j397_2 false (Ex.of (E orc))) v0 v1 G) (m397 h v0 v1 G r hr)
/-- (*coxswain/epoch.Pin).Step -/
def s398 (q : Bool) (e : Ex) (v0 v1 : Value) (G : GS) : OG :=
  bP (ep Q q false 179 (.tmp 5) (.const (.pointer none)) v0 (.pointer none)) fun x0 =>
  bS (gV x0 false v0 G) fun x1 G2 =>
  bS (gP x0 false (pNil x1) G2) fun x3 G4 =>
  bS (gP x0 false (fa Q q 281 0 0 x3) G4) fun x5 G6 =>
  bS (gV x0 false v1 G6) fun x7 G8 =>
  bS (gS x0 false (e.ev.cl 330 [x5, x7] G8) G8) fun x9 G10 =>
  bP (pickV x0 (.bool true) x9) fun x11 =>
  some (x11, G10)
theorem f398 (h : ExLe Q e (E orc)) (v0 v1 : Value) (G : GS) : Ref (s398 true e v0 v1 G) ((E orc).cl 398 [v0, v1] G) := cS (S := fun q e => s398 q e v0 v1 G) Tryz.func398 (by unfold s398; exact Ref.gq)
def jb400_0 (q : Bool) (e : Ex) (τ : Env) (G : GS) : OG :=
  bV q (τ 6) fun a6_ =>
  bV q (τ 7) fun a7_ =>
  some (.tuple #[a6_, a7_], G)
def j400_0 (q : Bool) (e : Ex) (τ : Env) (G : GS) : OG := jb400_0 q e τ G
theorem mj400_0 {e : Ex} {E : Ev} (h : ExLe Q e E) (τ : Env) (G : GS) : Ref (j400_0 true e τ G) (j400_0 false (Ex.of E) τ G) := by
  unfold j400_0 jb400_0
  exact Ref.gq
theorem mkj400_0 {e : Ex} {E : Ev} (h : ExLe Q e E) {τ : Env} {l U : List (Nat × Value)} {G : GS} (hU : UOk τ U) : Ref (j400_0 true e (xq true 64 τ l U) G) (j400_0 false (Ex.of E) (xq false 64 τ l U) G) := by
  rw [xq_eq hU]
  exact mj400_0 h _ _
def jb400_1 (q : Bool) (e : Ex) (J0 : Env → GS → OG) (τ : Env) (G : GS) : OG :=
  bV q (τ 0) fun a0_ =>
  bV q (τ 6) fun a6_ =>
  bS (gV a6_ true a0_ G) fun x6 G7 =>
  bS (gP a6_ true (pNil x6) G7) fun x8 G9 =>
  bS (gP a6_ true (fa Q q 203 2 2 x8) G9) fun x10 G11 =>
  bS (gP a6_ true (ld Q q 201 x10 G11) G11) fun x12 G13 =>
  bS (gP a6_ true (ef Q q true 201 (.tmp 50) (.const .nilFunc) x12 .nilFunc) G13) fun x14 G15 =>
  bP (pickV a6_ x14 (.bool false)) fun x16 =>
  ifV x16 (
  bP (pNil a0_) fun x17 =>
  bP (fa Q q 203 2 2 x17) fun x18 =>
  bP (ld Q q 201 x18 (G15.room 9)) fun x19 =>
  bP (pNil a0_) fun x20 =>
  bP (fa Q q 203 3 3 x20) fun x21 =>
  bP (ld Q q 197 x21 (G15.room 9)) fun x22 =>
  bS (cValue e.ev x19 [x22] (G15.room 9)) fun x24 G23 =>
  J0 (xq q 64 τ [(61, x24), (60, x22), (59, x21), (58, x20), (57, a0_), (56, x19), (55, x18), (54, x17), (53, a0_), (52, x16), (51, x14), (50, x12), (49, x10), (48, x8), (47, x6), (46, a6_), (45, a6_)] []) G23) (
  J0 (xq q 64 τ [(52, x16), (51, x14), (50, x12), (49, x10), (48, x8), (47, x6), (46, a6_), (45, a6_)] []) G15)
def j400_1 (q : Bool) (e : Ex) (τ : Env) (G : GS) : OG := jb400_1 q e (j400_0 q e) τ G
theorem mj400_1 {e : Ex} {E : Ev} (h : ExLe Q e E) (τ : Env) (G : GS) : Ref (j400_1 true e τ G) (j400_1 false (Ex.of E) τ G) := by
  unfold j400_1 jb400_1
  have j0 := @mkj400_0 e E h
  exact Ref.gj
theorem mkj400_1 {e : Ex} {E : Ev} (h : ExLe Q e E) {τ : Env} {l U : List (Nat × Value)} {G : GS} (hU : UOk τ U) : Ref (j400_1 true e (xq true 64 τ l U) G) (j400_1 false (Ex.of E) (xq false 64 τ l U) G) := by
  rw [xq_eq hU]
  exact mj400_1 h _ _
end
end Go.Proofs.YtfdanfpjlcnpkaaGreat.Lift
