/- the program's code, spelled out by a program of ours (lift3.lean) -/
import Derived.Test.YtocbppgkgcoehaaDoorProg
import Derived.Test.YtocbppgkgcoehaaDoorGhPJ
import Derived.Test.YtocbppgkgcoehaaDoorGhPG
import Derived.KernelRfl
namespace Go.Proofs.YtocbppgkgcoehaaDoor.Lift
open Go Go.Proofs.YtocbppgkgcoehaaDoor.Gh Go.Proofs
set_option linter.unusedVariables false
set_option maxRecDepth 100000
@[reducible] noncomputable def Q : Program := Tryd.prog
@[reducible] noncomputable def E (orc : FuncId → Bool) : Ev := evL Tryd.prog orc
instance ilp3_0 : LpIs Q 3 0 (subAt [1, 1, 1, 1, 1, 1, 1, 1, 1, 1, 1, 0, 1, 0, 0] (bodyOf Tryd.f3)) 135 := ⟨by kernel_rfl, by kernel_rfl⟩
instance ilp6_0 : LpIs Q 6 0 (subAt [1, 1, 1, 1, 1, 1, 0, 1, 0, 0] (bodyOf Tryd.f6)) 169 := ⟨by kernel_rfl, by kernel_rfl⟩
instance ilp6_1 : LpIs Q 6 1 (subAt [1, 1, 1, 1, 1, 1, 0, 1, 0, 0, 1, 0, 0, 1, 1, 1, 0, 1, 0, 0] (bodyOf Tryd.f6)) 169 := ⟨by kernel_rfl, by kernel_rfl⟩
instance ilp7_0 : LpIs Q 7 0 (subAt [1, 1, 1, 1, 1, 1, 1, 1, 0, 1, 0, 0] (bodyOf Tryd.f7)) 163 := ⟨by kernel_rfl, by kernel_rfl⟩
instance ilp7_1 : LpIs Q 7 1 (subAt [1, 1, 1, 1, 1, 1, 1, 1, 0, 1, 0, 0, 1, 0, 0, 0, 1, 1, 1, 1, 1, 0, 1, 0, 1, 0, 0] (bodyOf Tryd.f7)) 163 := ⟨by kernel_rfl, by kernel_rfl⟩
instance ilp7_2 : LpIs Q 7 2 (subAt [1, 1, 1, 1, 1, 1, 1, 1, 1, 0, 1, 0, 0] (bodyOf Tryd.f7)) 163 := ⟨by kernel_rfl, by kernel_rfl⟩
instance ilp11_0 : LpIs Q 11 0 (subAt [1, 1, 0, 1, 0, 0] (bodyOf Tryd.f11)) 29 := ⟨by kernel_rfl, by kernel_rfl⟩
instance ilp13_0 : LpIs Q 13 0 (subAt [1, 1, 1, 0, 0, 1, 0, 0, 1, 0, 0] (bodyOf Tryd.f13)) 59 := ⟨by kernel_rfl, by kernel_rfl⟩
instance ilp15_0 : LpIs Q 15 0 (subAt [1, 1, 0, 1, 0, 0] (bodyOf Tryd.f15)) 46 := ⟨by kernel_rfl, by kernel_rfl⟩
instance ilp15_1 : LpIs Q 15 1 (subAt [1, 1, 1, 1, 0, 1, 0, 0] (bodyOf Tryd.f15)) 46 := ⟨by kernel_rfl, by kernel_rfl⟩
instance ilp16_0 : LpIs Q 16 0 (subAt [1, 1, 0, 1, 0, 0] (bodyOf Tryd.f16)) 31 := ⟨by kernel_rfl, by kernel_rfl⟩
instance ilp17_0 : LpIs Q 17 0 (subAt [1, 1, 0, 1, 0, 0] (bodyOf Tryd.f17)) 31 := ⟨by kernel_rfl, by kernel_rfl⟩
instance ilp18_0 : LpIs Q 18 0 (subAt [1, 0, 1, 0, 0] (bodyOf Tryd.f18)) 32 := ⟨by kernel_rfl, by kernel_rfl⟩
instance ilp18_1 : LpIs Q 18 1 (subAt [1, 1, 0, 1, 0, 0] (bodyOf Tryd.f18)) 32 := ⟨by kernel_rfl, by kernel_rfl⟩
instance ilp19_0 : LpIs Q 19 0 (subAt [1, 0, 1, 0, 0] (bodyOf Tryd.f19)) 33 := ⟨by kernel_rfl, by kernel_rfl⟩
instance ilp19_1 : LpIs Q 19 1 (subAt [1, 1, 0, 1, 0, 0] (bodyOf Tryd.f19)) 33 := ⟨by kernel_rfl, by kernel_rfl⟩
instance ilp20_0 : LpIs Q 20 0 (subAt [1, 0, 0] (bodyOf Tryd.f20)) 12 := ⟨by kernel_rfl, by kernel_rfl⟩
instance ilp21_0 : LpIs Q 21 0 (subAt [1, 0, 0] (bodyOf Tryd.f21)) 13 := ⟨by kernel_rfl, by kernel_rfl⟩
instance ilp23_0 : LpIs Q 23 0 (subAt [1, 1, 1, 1, 0, 1, 0, 0] (bodyOf Tryd.f23)) 57 := ⟨by kernel_rfl, by kernel_rfl⟩
instance ilp24_0 : LpIs Q 24 0 (subAt [1, 1, 1, 1, 0, 1, 0, 0] (bodyOf Tryd.f24)) 51 := ⟨by kernel_rfl, by kernel_rfl⟩
instance ilp25_0 : LpIs Q 25 0 (subAt [1, 1, 0, 1, 0, 0] (bodyOf Tryd.f25)) 31 := ⟨by kernel_rfl, by kernel_rfl⟩
instance ilp30_0 : LpIs Q 30 0 (subAt [1, 0, 1, 0, 0] (bodyOf Tryd.f30)) 18 := ⟨by kernel_rfl, by kernel_rfl⟩
instance ilp31_0 : LpIs Q 31 0 (subAt [1, 0, 1, 0, 0] (bodyOf Tryd.f31)) 18 := ⟨by kernel_rfl, by kernel_rfl⟩
instance ilp33_0 : LpIs Q 33 0 (subAt [1, 1, 0, 1, 0, 0] (bodyOf Tryd.f33)) 19 := ⟨by kernel_rfl, by kernel_rfl⟩
instance ilp39_0 : LpIs Q 39 0 (subAt [1, 1, 1, 0, 1, 0, 0] (bodyOf Tryd.f39)) 46 := ⟨by kernel_rfl, by kernel_rfl⟩
instance ilp42_0 : LpIs Q 42 0 (subAt [1, 1, 0, 1, 0, 0] (bodyOf Tryd.f42)) 16 := ⟨by kernel_rfl, by kernel_rfl⟩
instance ilp44_0 : LpIs Q 44 0 (subAt [1, 0, 0] (bodyOf Tryd.f44)) 25 := ⟨by kernel_rfl, by kernel_rfl⟩
instance ilp44_1 : LpIs Q 44 1 (subAt [1, 0, 0, 1, 1, 0, 0, 1, 0, 0] (bodyOf Tryd.f44)) 25 := ⟨by kernel_rfl, by kernel_rfl⟩
instance iln22 : LnOk Q 22 := ⟨fun a n c => by kernel_rfl⟩
instance ilda25 : LdAOk Q 25 4 := ⟨fun b o s G => by kernel_rfl⟩
instance ilda28 : LdAOk Q 28 3 := ⟨fun b o s G => by kernel_rfl⟩
instance ieb4 : EbOk Q 4 := ⟨fun neg x y a b => by cases neg <;> cases a <;> cases b <;> kernel_rfl⟩
instance iln33 : LnOk Q 33 := ⟨fun a n c => by kernel_rfl⟩
instance iias33 : IasOk Q 33 3 := ⟨fun b o s n c k j => by kernel_rfl⟩
instance iln42 : LnOk Q 42 := ⟨fun a n c => by kernel_rfl⟩
noncomputable abbrev z3 : List Value := [(.int .i64 0)]
instance ibs22_3_0_1_2 : BsOk Q 22 3 (rep z3 3) 1 [(0, 0, 1), (1, 1, 1), (2, 2, 1)] := bs_ok Q (z0 := z3) (by kernel_rfl) rfl (by decide) (by kernel_rfl)
noncomputable abbrev z28 : List Value := [(.int .i64 0), (.int .i64 0), (.int .u64 0)]
instance ibd28_1 : BdOk Q 28 z28 [(1, 1, 1)] := bd_ok Q (by kernel_rfl) (by kernel_rfl) (by kernel_rfl)
instance ibd28_0 : BdOk Q 28 z28 [(0, 0, 1)] := bd_ok Q (by kernel_rfl) (by kernel_rfl) (by kernel_rfl)
instance ibs33_5_0_1_2_3_4 : BsOk Q 33 5 (rep z28 5) 3 [(0, 0, 3), (1, 3, 3), (2, 6, 3), (3, 9, 3), (4, 12, 3)] := bs_ok Q (z0 := z28) (by kernel_rfl) rfl (by decide) (by kernel_rfl)
noncomputable abbrev z25 : List Value := [(.int .i64 0), (.int .i64 0), (.int .i64 0), (.int .u64 0)]
instance ibd25_0 : BdOk Q 25 z25 [(0, 0, 1)] := bd_ok Q (by kernel_rfl) (by kernel_rfl) (by kernel_rfl)
instance ibs22_2_0_1 : BsOk Q 22 2 (rep z3 2) 1 [(0, 0, 1), (1, 1, 1)] := bs_ok Q (z0 := z3) (by kernel_rfl) rfl (by decide) (by kernel_rfl)
instance ibs22_1_0 : BsOk Q 22 1 (rep z3 1) 1 [(0, 0, 1)] := bs_ok Q (z0 := z3) (by kernel_rfl) rfl (by decide) (by kernel_rfl)
instance ibs42_7_0_1_2_3_4_5_6 : BsOk Q 42 7 (rep z25 7) 4 [(0, 0, 4), (1, 4, 4), (2, 8, 4), (3, 12, 4), (4, 16, 4), (5, 20, 4), (6, 24, 4)] := bs_ok Q (z0 := z25) (by kernel_rfl) rfl (by decide) (by kernel_rfl)
instance ibd28_ : BdOk Q 28 z28 [] := bd_ok Q (by kernel_rfl) (by kernel_rfl) (by kernel_rfl)
instance ibs33_7_0_1_2_3_4_5_6 : BsOk Q 33 7 (rep z28 7) 3 [(0, 0, 3), (1, 3, 3), (2, 6, 3), (3, 9, 3), (4, 12, 3), (5, 15, 3), (6, 18, 3)] := bs_ok Q (z0 := z28) (by kernel_rfl) rfl (by decide) (by kernel_rfl)
instance ifa28_0 : FaOk Q 28 0 0 := ⟨fun b o s => by kernel_rfl⟩
instance ild26 : LdOk Q 26 := ⟨fun b o s G => (show _ = loadOne b o G by kernel_rfl).trans (loadOne_eq b o G)⟩
instance ifa25_0 : FaOk Q 25 0 0 := ⟨fun b o s => by kernel_rfl⟩
instance ild3 : LdOk Q 3 := ⟨fun b o s G => (show _ = loadOne b o G by kernel_rfl).trans (loadOne_eq b o G)⟩
instance ifa28_1 : FaOk Q 28 1 1 := ⟨fun b o s => by kernel_rfl⟩
instance ifa25_1 : FaOk Q 25 1 1 := ⟨fun b o s => by kernel_rfl⟩
instance iias22 : IasOk Q 22 1 := ⟨fun b o s n c k j => by kernel_rfl⟩
instance iias42 : IasOk Q 42 4 := ⟨fun b o s n c k j => by kernel_rfl⟩
instance iap22_22 : ApOk Q 22 22 1 8 := ⟨fun s x G => by kernel_rfl⟩
instance ibs22_4_0_1_2_3 : BsOk Q 22 4 (rep z3 4) 1 [(0, 0, 1), (1, 1, 1), (2, 2, 1), (3, 3, 1)] := bs_ok Q (z0 := z3) (by kernel_rfl) rfl (by decide) (by kernel_rfl)
instance ibs22_0_ : BsOk Q 22 0 (rep z3 0) 1 [] := bs_ok Q (z0 := z3) (by kernel_rfl) rfl (by decide) (by kernel_rfl)
noncomputable abbrev z57 : List Value := [(.int .u64 0), (.int .u64 0), (.int .u64 0), (.int .u64 0), (.int .u64 0), (.int .u64 0), (.int .u64 0), (.int .u64 0), (.int .u64 0), (.int .u64 0), (.int .u64 0), (.int .u64 0), (.int .u64 0), (.int .u64 0), (.int .u64 0), (.int .u64 0)]
instance ial57 : AlOk Q 57 z57 := ⟨fun G => by kernel_rfl⟩
instance ist57 : StOk Q 57 16 := ⟨fun b o s v G => by kernel_rfl⟩
instance ilda57 : LdAOk Q 57 16 := ⟨fun b o s G => by kernel_rfl⟩
instance ial28 : AlOk Q 28 z28 := ⟨fun G => by kernel_rfl⟩
instance ist28 : StOk Q 28 3 := ⟨fun b o s v G => by kernel_rfl⟩
noncomputable abbrev z33 : List Value := [(.slice none 0 0)]
instance ial33 : AlOk Q 33 z33 := ⟨fun G => by kernel_rfl⟩
instance ild33 : LdOk Q 33 := ⟨fun b o s G => (show _ = loadOne b o G by kernel_rfl).trans (loadOne_eq b o G)⟩
instance ibs33_1_0 : BsOk Q 33 1 (rep z28 1) 3 [(0, 0, 3)] := bs_ok Q (z0 := z28) (by kernel_rfl) rfl (by decide) (by kernel_rfl)
instance iap33_33 : ApOk Q 33 33 3 24 := ⟨fun s x G => by kernel_rfl⟩
instance ist33 : StOk Q 33 1 := ⟨fun b o s v G => by kernel_rfl⟩
instance ibs33_2_0_1 : BsOk Q 33 2 (rep z28 2) 3 [(0, 0, 3), (1, 3, 3)] := bs_ok Q (z0 := z28) (by kernel_rfl) rfl (by decide) (by kernel_rfl)
noncomputable abbrev z4 : List Value := [(.bool false)]
instance imk68 : MkSlOk Q 68 1 1 z4 := ⟨fun k k' l c G => by kernel_rfl⟩
instance iias68 : IasOk Q 68 1 := ⟨fun b o s n c k j => by kernel_rfl⟩
instance ist4 : StOk Q 4 1 := ⟨fun b o s v G => by kernel_rfl⟩
instance ild4 : LdOk Q 4 := ⟨fun b o s G => (show _ = loadOne b o G by kernel_rfl).trans (loadOne_eq b o G)⟩
instance ist3 : StOk Q 3 1 := ⟨fun b o s v G => by kernel_rfl⟩
instance ibs42_0_ : BsOk Q 42 0 (rep z25 0) 4 [] := bs_ok Q (z0 := z25) (by kernel_rfl) rfl (by decide) (by kernel_rfl)
instance iap42_42 : ApOk Q 42 42 4 32 := ⟨fun s x G => by kernel_rfl⟩
instance ial25 : AlOk Q 25 z25 := ⟨fun G => by kernel_rfl⟩
instance ist25 : StOk Q 25 4 := ⟨fun b o s v G => by kernel_rfl⟩
instance ist26 : StOk Q 26 1 := ⟨fun b o s v G => by kernel_rfl⟩
instance ibd28_0_1 : BdOk Q 28 z28 [(0, 0, 1), (1, 1, 1)] := bd_ok Q (by kernel_rfl) (by kernel_rfl) (by kernel_rfl)
instance ibd25_0_1 : BdOk Q 25 z25 [(0, 0, 1), (1, 1, 1)] := bd_ok Q (by kernel_rfl) (by kernel_rfl) (by kernel_rfl)
instance iiaa57 : IaaOk Q 57 16 1 := ⟨fun b o s k j => by kernel_rfl⟩
instance ild23 : LdOk Q 23 := ⟨fun b o s G => (show _ = loadOne b o G by kernel_rfl).trans (loadOne_eq b o G)⟩
instance ist23 : StOk Q 23 1 := ⟨fun b o s v G => by kernel_rfl⟩
noncomputable abbrev z22 : List Value := [(.slice none 0 0)]
instance ial22 : AlOk Q 22 z22 := ⟨fun G => by kernel_rfl⟩
instance ild22 : LdOk Q 22 := ⟨fun b o s G => (show _ = loadOne b o G by kernel_rfl).trans (loadOne_eq b o G)⟩
instance ist22 : StOk Q 22 1 := ⟨fun b o s v G => by kernel_rfl⟩
instance iix57 : IxOk Q 57 16 := ⟨fun l k j => by kernel_rfl⟩
instance iiaa70 : IaaOk Q 70 64 1 := ⟨fun b o s k j => by kernel_rfl⟩
instance ild5 : LdOk Q 5 := ⟨fun b o s G => (show _ = loadOne b o G by kernel_rfl).trans (loadOne_eq b o G)⟩
instance icv5_3 : CvOk Q 5 3 .u8 .i64 := ⟨fun n => by kernel_rfl⟩
noncomputable def b3_0 (q : Bool) (e : Ex) (lp : Env → GS → Option (Exit × Env × GS)) (τ : Env) (G : GS) : Option (Exit × Env × GS) :=
  bV q (τ 0) fun a0_ =>
  bV q (τ 5) fun a5_ =>
  bV q (τ 9) fun a9_ =>
  bV q (τ 15) fun a15_ =>
  bV q (τ 18) fun a18_ =>
  bP (ln Q q 33 a15_) fun x0 =>
  bP (bn Q q .lss 3 (.tmp 89) (.tmp 91) a18_ x0) fun x1 =>
  bS (gd x1 true (some (a18_, G)) G) fun x2 G3 =>
  bS (gd x1 true (bP (bn Q q .lss 3 (.tmp 94) (.const (.int .i64 8)) x2 (.int .i64 8)) fun y => some (y, G3)) G3) fun x4 G5 =>
  bP (pickV x1 x4 (.bool false)) fun x6 =>
  ifV x6 (
  bP (lda Q q 25 4 a5_ (G5.room 12)) fun x7 =>
  bP (ias Q q 33 3 a15_ a18_) fun x8 =>
  bP (lda Q q 28 3 x8 (G5.room 12)) fun x9 =>
  bS (e.ev.cl 10 [a9_, x7, x9] (G5.room 12)) fun x11 G10 =>
  bP (pExtract x11 0) fun x12 =>
  bP (pExtract x11 1) fun x13 =>
  bP (lda Q q 25 4 a5_ (G10.room 12)) fun x14 =>
  bP (ias Q q 33 3 a15_ a18_) fun x15 =>
  bP (lda Q q 28 3 x15 (G10.room 12)) fun x16 =>
  bS (e.ev.cl 11 [a0_, x14, x16] (G10.room 12)) fun x18 G17 =>
  bP (pExtract x18 0) fun x19 =>
  bP (pExtract x18 1) fun x20 =>
  bP (un Q q .not x13) fun x21 =>
  bS (gd x21 false (some (x12, G17)) G17) fun x22 G23 =>
  bS (gd x21 false (some (x19, G23)) G23) fun x24 G25 =>
  bS (gd x21 false (bS (e.ev.cl 16 [x22, x24] G25) fun y G => some (y, G)) G25) fun x26 G27 =>
  bS (gd x21 false (bP (un Q q .not x26) fun y => some (y, G27)) G27) fun x28 G29 =>
  bP (pickV x21 (.bool true) x28) fun x30 =>
  ifV x30 (
  some (.ret, xq q 135 τ [(8, (.bool false)), (126, x30), (125, x28), (124, x26), (123, x24), (122, x22), (121, x21), (120, x21), (119, x13), (22, x20), (21, x19), (118, x20), (117, x19), (109, x18), (116, x18), (115, x16), (114, x15), (113, a18_), (112, a15_), (111, x14), (110, a0_), (20, x13), (19, x12), (108, x13), (107, x12), (99, x11), (106, x11), (105, x9), (104, x8), (103, a18_), (102, a15_), (101, x7), (100, a9_), (96, x6), (95, x4), (94, x2), (93, x1), (92, x1), (91, x0), (90, a15_), (89, a18_)] [(0, a0_), (5, a5_), (9, a9_), (15, a15_), (18, a18_)], G29)) (
  bS (e.ev.cl 20 [x12] G29) fun x31 G32 =>
  bP (bn Q q .add 3 (.tmp 97) (.const (.int .i64 1)) a18_ (.int .i64 1)) fun x33 =>
  lp (xq q 135 τ [(18, x33), (98, x33), (97, a18_), (128, x31), (127, x12), (126, x30), (125, x28), (124, x26), (123, x24), (122, x22), (121, x21), (120, x21), (119, x13), (22, x20), (21, x19), (118, x20), (117, x19), (109, x18), (116, x18), (115, x16), (114, x15), (113, a18_), (112, a15_), (111, x14), (110, a0_), (20, x13), (19, x12), (108, x13), (107, x12), (99, x11), (106, x11), (105, x9), (104, x8), (103, a18_), (102, a15_), (101, x7), (100, a9_), (96, x6), (95, x4), (94, x2), (93, x1), (92, x1), (91, x0), (90, a15_), (89, a18_)] [(0, a0_), (5, a5_), (9, a9_), (15, a15_)]) G32)) (
  some ((.exit 0), xq q 135 τ [(96, x6), (95, x4), (94, x2), (93, x1), (92, x1), (91, x0), (90, a15_), (89, a18_)] [(0, a0_), (5, a5_), (9, a9_), (15, a15_), (18, a18_)], G5))
theorem mb3_0 {e : Ex} {E : Ev} (h : ExLe Q e E) {lp lp' : Env → GS → Option (Exit × Env × GS)} (hlp : LpLe lp lp') (τ : Env) (G : GS) : Ref (b3_0 true e lp τ G) (b3_0 false (Ex.of E) lp' τ G) := by
  unfold b3_0
  exact Ref.gq
set_option maxHeartbeats 8000000 in
theorem l3_0 {orc : FuncId → Bool} {e : Ex} (h : ExLe Q e (E orc)) (lp : Env → GS → Option (Exit × Env × GS)) (hlp : ∀ τ G, Ref (lp τ G) (mapE ((E orc).lp (subAt [1, 1, 1, 1, 1, 1, 1, 1, 1, 1, 1, 0, 1, 0, 0] (bodyOf Tryd.f3)) (lst 135 τ) G))) (T : List Value) (G : GS) (hT : T.length = 135) : Ref (b3_0 true e lp (nth undef T) G) (mapE ((E orc).lp (subAt [1, 1, 1, 1, 1, 1, 1, 1, 1, 1, 1, 0, 1, 0, 0] (bodyOf Tryd.f3)) T G)) :=
  fun r hr => lp_sxN Q orc G hT (by kernel_rfl) (mb3_0 h ⟨hlp⟩ _ _ r hr)
/-- coxswain/coxswainlaw08.PoolNext -/
noncomputable def s3 (q : Bool) (e : Ex) (v0 v1 v2 v3 : Value) (G : GS) : Option (Value × GS) :=
  bS (bx q v1 G) fun x0 G1 =>
  bS (bx q v2 G1) fun x2 G3 =>
  bP (ln Q q 22 v0) fun x4 =>
  bP (bn Q q .gtr 3 (.tmp 24) (.const (.int .i64 1100)) x4 (.int .i64 1100)) fun x5 =>
  ifV x5 (
  bS (e.ev.cl 8 [] G3) fun x6 G7 =>
  some (x6, G7)) (
  bS (e.ev.cl 9 [v0] G3) fun x8 G9 =>
  bP (lda Q q 25 4 x0 G9) fun x10 =>
  bP (lda Q q 28 3 x2 G9) fun x11 =>
  bS (e.ev.cl 10 [x8, x10, x11] G9) fun x12 G13 =>
  bP (pExtract x12 0) fun x14 =>
  bP (pExtract x12 1) fun x15 =>
  bP (lda Q q 25 4 x0 G13) fun x16 =>
  bP (lda Q q 28 3 x2 G13) fun x17 =>
  bS (e.ev.cl 11 [v0, x16, x17] G13) fun x18 G19 =>
  bP (pExtract x18 0) fun x20 =>
  bP (pExtract x18 1) fun x21 =>
  bP (lda Q q 25 4 x0 (G19.room 8)) fun x22 =>
  bS (e.ev.cl 12 [x8, x22] (G19.room 8)) fun x24 G23 =>
  bP (lda Q q 25 4 x0 G23) fun x25 =>
  chk ((sameO (lda Q q 25 4 x0 (G19.room 8)) x25 && true)) <|
  bS (e.ev.cl 13 [v0, x25] G23) fun x27 G26 =>
  bS (e.ev.cl 14 [x8, v3] G26) fun x28 G29 =>
  bS (e.ev.cl 15 [v0, v3] G29) fun x30 G31 =>
  bS (e.ev.cl 16 [x14, x20] G31) fun x32 G33 =>
  bP (un Q q .not x32) fun x34 =>
  bS (gd x34 false (some (x15, G33)) G33) fun x35 G36 =>
  bS (gd x34 false (some (x21, G36)) G36) fun x37 G38 =>
  bS (gd x34 false (bP (eb Q q true 4 (.tmp 60) (.tmp 61) x35 x37) fun y => some (y, G38)) G38) fun x39 G40 =>
  bP (pickV x34 (.bool true) x39) fun x41 =>
  bS (gd x41 false (some (x24, G40)) G40) fun x42 G43 =>
  bS (gd x41 false (some (x27, G43)) G43) fun x44 G45 =>
  bS (gd x41 false (bS (e.ev.cl 17 [x42, x44] G45) fun y G => some (y, G)) G45) fun x46 G47 =>
  bS (gd x41 false (bP (un Q q .not x46) fun y => some (y, G47)) G47) fun x48 G49 =>
  bP (pickV x41 (.bool true) x48) fun x50 =>
  bS (gd x50 false (some (x28, G49)) G49) fun x51 G52 =>
  bS (gd x50 false (some (x30, G52)) G52) fun x53 G54 =>
  bS (gd x50 false (bS (e.ev.cl 16 [x51, x53] G54) fun y G => some (y, G)) G54) fun x55 G56 =>
  bS (gd x50 false (bP (un Q q .not x55) fun y => some (y, G56)) G56) fun x57 G58 =>
  bP (pickV x50 (.bool true) x57) fun x59 =>
  bS (gd x59 false (some (x8, G58)) G58) fun x60 G61 =>
  bS (gd x59 false (bS (e.ev.cl 18 [x60] G61) fun y G => some (y, G)) G61) fun x62 G63 =>
  bS (gd x59 false (some (v0, G63)) G63) fun x64 G65 =>
  bS (gd x59 false (bS (e.ev.cl 19 [x64] G65) fun y G => some (y, G)) G65) fun x66 G67 =>
  bS (gd x59 false (bP (bn Q q .neq 26 (.tmp 78) (.tmp 80) x62 x66) fun y => some (y, G67)) G67) fun x68 G69 =>
  bP (pickV x59 (.bool true) x68) fun x70 =>
  ifV x70 (
  some ((.bool false), G69)) (
  bS (e.ev.cl 20 [x14] G69) fun x71 G72 =>
  bS (e.ev.cl 20 [x28] G72) fun x73 G74 =>
  bS (e.ev.cl 21 [x24] G74) fun x75 G76 =>
  bLq q e 3 0 (subAt [1, 1, 1, 1, 1, 1, 1, 1, 1, 1, 1, 0, 1, 0, 0] (bodyOf Tryd.f3)) 135 (nth undef [v0, v1, v2, v3]) [(18, (.int .i64 0)), (88, x75), (87, x24), (86, x73), (85, x28), (84, x71), (83, x14), (82, x70), (81, x68), (80, x66), (79, x64), (78, x62), (77, x60), (76, x59), (75, x59), (74, x57), (73, x55), (72, x53), (71, x51), (70, x50), (69, x50), (68, x48), (67, x46), (66, x44), (65, x42), (64, x41), (63, x41), (62, x39), (61, x37), (60, x35), (59, x34), (58, x34), (57, x32), (56, x20), (55, x14), (17, x30), (16, x28), (54, x30), (53, v3), (52, v0), (51, x28), (50, v3), (49, x8), (15, x27), (14, x24), (48, x27), (47, x25), (46, v0), (45, x24), (44, x22), (43, x8), (13, x21), (12, x20), (42, x21), (41, x20), (36, x18), (40, x18), (39, x17), (38, x16), (37, v0), (11, x15), (10, x14), (35, x15), (34, x14), (29, x12), (33, x12), (32, x11), (31, x10), (30, x8), (9, x8), (28, x8), (27, v0), (25, x5), (24, x4), (23, v0), (8, (.bool false)), (6, x2), (5, x0)] [] G76 fun e77 t78 G79 =>
  bV q (t78 0) fun t78x0_ =>
  bV q (t78 8) fun t78x8_ =>
  bV q (t78 9) fun t78x9_ =>
  ifE e77 (.exit 0) (
  bS (e.ev.cl 16 [t78x9_, t78x0_] G79) fun x80 G81 =>
  bS (gd x80 true (bS (e.ev.cl 8 [] G81) fun y G => some (y, G)) G81) fun x82 G83 =>
  bP (pickV x80 x82 (.bool false)) fun x84 =>
  some (x84, G83)) (ifE e77 .ret (
  some (t78x8_, G79)) (none))))
theorem m3 {e : Ex} {E : Ev} (h : ExLe Q e E) (v0 v1 v2 v3 : Value) (G : GS) : Ref (s3 true e v0 v1 v2 v3 G) (s3 false (Ex.of E) v0 v1 v2 v3 G) := by
  unfold s3
  exact Ref.gq
set_option maxHeartbeats 8000000 in
theorem f3 {orc : FuncId → Bool} {e : Ex} (h : ExLe Q e (E orc)) (v0 v1 v2 v3 : Value) (G : GS) : Ref (s3 true e v0 v1 v2 v3 G) ((E orc).cl 3 [v0, v1, v2, v3] G) :=
  fun r hr => cl_sxE_some Q orc (vs := [v0, v1, v2, v3]) G Tryd.func3 (by kernel_rfl) (by kernel_rfl) (by kernel_rfl) (by kernel_rfl) (by kernel_rfl) (by kernel_rfl) (m3 h v0 v1 v2 v3 G r hr)
/-- coxswain/coxswainlaw08.PoolPlays -/
noncomputable def s4 (q : Bool) (e : Ex) (v0 v1 : Value) (G : GS) : Option (Value × GS) :=
  bP (ln Q q 42 v1) fun x0 =>
  bP (bn Q q .gtr 3 (.tmp 14) (.const (.int .i64 60)) x0 (.int .i64 60)) fun x1 =>
  ifV x1 (
  bS (e.ev.cl 8 [] G) fun x2 G3 =>
  some (x2, G3)) (
  bS (e.ev.cl 22 [v1] G) fun x4 G5 =>
  bS (e.ev.cl 23 [v0, x4] G5) fun x6 G7 =>
  bP (pExtract x6 0) fun x8 =>
  bP (pExtract x6 1) fun x9 =>
  bP (pExtract x6 2) fun x10 =>
  bS (e.ev.cl 24 [v0, v1] G7) fun x11 G12 =>
  bP (pExtract x11 0) fun x13 =>
  bP (pExtract x11 1) fun x14 =>
  bP (pExtract x11 2) fun x15 =>
  bS (e.ev.cl 17 [x8, x13] G12) fun x16 G17 =>
  bS (gd x16 true (some (x9, G17)) G17) fun x18 G19 =>
  bS (gd x16 true (some (x14, G19)) G19) fun x20 G21 =>
  bS (gd x16 true (bS (e.ev.cl 16 [x18, x20] G21) fun y G => some (y, G)) G21) fun x22 G23 =>
  bP (pickV x16 x22 (.bool false)) fun x24 =>
  bS (gd x24 true (some (x10, G23)) G23) fun x25 G26 =>
  bS (gd x24 true (some (x15, G26)) G26) fun x27 G28 =>
  bS (gd x24 true (bP (bn Q q .eql 26 (.tmp 42) (.tmp 43) x25 x27) fun y => some (y, G28)) G28) fun x29 G30 =>
  bP (pickV x24 x29 (.bool false)) fun x31 =>
  bS (e.ev.cl 21 [x8] G30) fun x32 G33 =>
  bS (e.ev.cl 20 [x9] G33) fun x34 G35 =>
  bS (gd x31 true (some (x4, G35)) G35) fun x36 G37 =>
  bS (gd x31 true (some (v1, G37)) G37) fun x38 G39 =>
  bS (gd x31 true (bS (e.ev.cl 25 [x36, x38] G39) fun y G => some (y, G)) G39) fun x40 G41 =>
  bP (pickV x31 x40 (.bool false)) fun x42 =>
  bS (gd x42 true (bS (e.ev.cl 8 [] G41) fun y G => some (y, G)) G41) fun x43 G44 =>
  bP (pickV x42 x43 (.bool false)) fun x45 =>
  some (x45, G44))
theorem m4 {e : Ex} {E : Ev} (h : ExLe Q e E) (v0 v1 : Value) (G : GS) : Ref (s4 true e v0 v1 G) (s4 false (Ex.of E) v0 v1 G) := by
  unfold s4
  exact Ref.gq
theorem f4 {orc : FuncId → Bool} {e : Ex} (h : ExLe Q e (E orc)) (v0 v1 : Value) (G : GS) : Ref (s4 true e v0 v1 G) ((E orc).cl 4 [v0, v1] G) :=
  fun r hr => cl_sxE_some Q orc (vs := [v0, v1]) G Tryd.func4 (by kernel_rfl) (by kernel_rfl) (by kernel_rfl) (by kernel_rfl) (by kernel_rfl) (by kernel_rfl) (m4 h v0 v1 G r hr)
/-- coxswain/coxswainlaw08.PoolKnown -/
noncomputable def s5 (q : Bool) (e : Ex) (G : GS) : Option (Value × GS) :=
  bS (e.ev.cl 27 [] G) fun x0 G1 =>
  bS (bs Q q 22 3 (rep z3 3) 1 [(0, 0, 1), (1, 1, 1), (2, 2, 1)] [(.int .i64 1), (.int .i64 4), (.int .i64 5)] G1) fun x2 G3 =>
  bS (e.ev.cl 26 [x0, (.int .i64 7), (.int .i64 0), (.bool true), x2] G3) fun x4 G5 =>
  bS (gd x4 true (bS (e.ev.cl 28 [(.int .i64 4)] G5) fun y G => some (y, G)) G5) fun x6 G7 =>
  bS (gd x4 true (bS (bs Q q 22 3 (rep z3 3) 1 [(0, 0, 1), (1, 1, 1), (2, 2, 1)] [(.int .i64 1), (.int .i64 4), (.int .i64 5)] G7) fun y G => some (y, G)) G7) fun x8 G9 =>
  bS (gd x4 true (bS (e.ev.cl 26 [x6, (.int .i64 8), (.int .i64 0), (.bool true), x8] G9) fun y G => some (y, G)) G9) fun x10 G11 =>
  bP (pickV x4 x10 (.bool false)) fun x12 =>
  bS (gd x12 true (bS (e.ev.cl 28 [(.int .i64 4)] G11) fun y G => some (y, G)) G11) fun x13 G14 =>
  bS (gd x12 true (bS (e.ev.cl 26 [x13, (.int .i64 0), (.int .i64 0), (.bool false), (.slice none 0 0)] G14) fun y G => some (y, G)) G14) fun x15 G16 =>
  bP (pickV x12 x15 (.bool false)) fun x17 =>
  bS (gd x17 true (bS (e.ev.cl 28 [(.int .i64 4)] G16) fun y G => some (y, G)) G16) fun x18 G19 =>
  bS (gd x17 true (bS (e.ev.cl 29 [x18, (.int .i64 8)] G19) fun y G => some (y, G)) G19) fun x20 G21 =>
  bP (pickV x17 x20 (.bool false)) fun x22 =>
  bS (gd x22 true (bS (e.ev.cl 28 [(.int .i64 0)] G21) fun y G => some (y, G)) G21) fun x23 G24 =>
  bS (gd x22 true (bS (e.ev.cl 29 [x23, (.int .i64 0)] G24) fun y G => some (y, G)) G24) fun x25 G26 =>
  bP (pickV x22 x25 (.bool false)) fun x27 =>
  bS (bs Q q 22 3 (rep z3 3) 1 [(0, 0, 1), (1, 1, 1), (2, 2, 1)] [(.int .i64 1), (.int .i64 4), (.int .i64 5)] G26) fun x28 G29 =>
  bS (e.ev.cl 27 [] G29) fun x30 G31 =>
  bS (e.ev.cl 12 [x28, x30] G31) fun x32 G33 =>
  bP (bd Q q 28 z28 [(1, 1, 1)] [(.int .i64 1)]) fun x34 =>
  bP (bd Q q 28 z28 [(1, 1, 1)] [(.int .i64 4)]) fun x35 =>
  bP (bd Q q 28 z28 [(1, 1, 1)] [(.int .i64 5)]) fun x36 =>
  bP (bd Q q 28 z28 [(0, 0, 1)] [(.int .i64 7)]) fun x37 =>
  bP (bd Q q 28 z28 [(0, 0, 1)] [(.int .i64 12)]) fun x38 =>
  bS (bs Q q 33 5 (rep z28 5) 3 [(0, 0, 3), (1, 3, 3), (2, 6, 3), (3, 9, 3), (4, 12, 3)] [x34, x35, x36, x37, x38] G33) fun x39 G40 =>
  bS (e.ev.cl 17 [x32, x39] G40) fun x41 G42 =>
  bS (gd x41 true (bS (bs Q q 22 3 (rep z3 3) 1 [(0, 0, 1), (1, 1, 1), (2, 2, 1)] [(.int .i64 1), (.int .i64 4), (.int .i64 5)] G42) fun y G => some (y, G)) G42) fun x43 G44 =>
  bS (gd x41 true (bP (bd Q q 25 z25 [(0, 0, 1)] [(.int .i64 1)]) fun y => some (y, G44)) G44) fun x45 G46 =>
  bS (gd x41 true (bS (e.ev.cl 12 [x43, x45] G46) fun y G => some (y, G)) G46) fun x47 G48 =>
  bS (gd x41 true (bP (ln Q q 33 x47) fun y => some (y, G48)) G48) fun x49 G50 =>
  bS (gd x41 true (bP (bn Q q .eql 3 (.tmp 44) (.const (.int .i64 0)) x49 (.int .i64 0)) fun y => some (y, G50)) G50) fun x51 G52 =>
  bP (pickV x41 x51 (.bool false)) fun x53 =>
  bS (bs Q q 22 3 (rep z3 3) 1 [(0, 0, 1), (1, 1, 1), (2, 2, 1)] [(.int .i64 1), (.int .i64 4), (.int .i64 5)] G52) fun x54 G55 =>
  bS (e.ev.cl 14 [x54, (.int .i64 (-1))] G55) fun x56 G57 =>
  bP (ln Q q 22 x56) fun x58 =>
  bP (bn Q q .eql 3 (.tmp 49) (.const (.int .i64 0)) x58 (.int .i64 0)) fun x59 =>
  bS (gd x59 true (bS (bs Q q 22 2 (rep z3 2) 1 [(0, 0, 1), (1, 1, 1)] [(.int .i64 1), (.int .i64 1)] G57) fun y G => some (y, G)) G57) fun x60 G61 =>
  bS (gd x59 true (bS (e.ev.cl 18 [x60] G61) fun y G => some (y, G)) G61) fun x62 G63 =>
  bS (gd x59 true (bP (bn Q q .eql 26 (.tmp 53) (.const (.int .i64 9)) x62 (.int .i64 9)) fun y => some (y, G63)) G63) fun x64 G65 =>
  bP (pickV x59 x64 (.bool false)) fun x66 =>
  bS (gd x66 true (bS (bs Q q 22 1 (rep z3 1) 1 [(0, 0, 1)] [(.int .i64 (-1))] G65) fun y G => some (y, G)) G65) fun x67 G68 =>
  bS (gd x66 true (bS (e.ev.cl 18 [x67] G68) fun y G => some (y, G)) G68) fun x69 G70 =>
  bS (gd x66 true (bP (bn Q q .eql 26 (.tmp 58) (.const (.int .i64 3)) x69 (.int .i64 3)) fun y => some (y, G70)) G70) fun x71 G72 =>
  bP (pickV x66 x71 (.bool false)) fun x73 =>
  bS (gd x73 true (bS (bs Q q 22 3 (rep z3 3) 1 [(0, 0, 1), (1, 1, 1), (2, 2, 1)] [(.int .i64 4), (.int .i64 1), (.int .i64 1024)] G72) fun y G => some (y, G)) G72) fun x74 G75 =>
  bS (gd x73 true (bS (e.ev.cl 18 [x74] G75) fun y G => some (y, G)) G75) fun x76 G77 =>
  bS (gd x73 true (bP (bn Q q .eql 26 (.tmp 63) (.const (.int .i64 3)) x76 (.int .i64 3)) fun y => some (y, G77)) G77) fun x78 G79 =>
  bP (pickV x73 x78 (.bool false)) fun x80 =>
  bS (e.ev.cl 27 [] G79) fun x81 G82 =>
  bS (e.ev.cl 27 [] G82) fun x83 G84 =>
  bS (e.ev.cl 27 [] G84) fun x85 G86 =>
  bS (e.ev.cl 28 [(.int .i64 0)] G86) fun x87 G88 =>
  bS (e.ev.cl 28 [(.int .i64 0)] G88) fun x89 G90 =>
  bP (bd Q q 25 z25 [(0, 0, 1)] [(.int .i64 1)]) fun x91 =>
  bS (e.ev.cl 27 [] G90) fun x92 G93 =>
  bS (bs Q q 42 7 (rep z25 7) 4 [(0, 0, 4), (1, 4, 4), (2, 8, 4), (3, 12, 4), (4, 16, 4), (5, 20, 4), (6, 24, 4)] [x81, x83, x85, x87, x89, x91, x92] G93) fun x94 G95 =>
  bS (e.ev.cl 23 [(.int .i64 2), x94] G95) fun x96 G97 =>
  bP (pExtract x96 0) fun x98 =>
  bP (pExtract x96 1) fun x99 =>
  bP (pExtract x96 2) fun x100 =>
  bS (e.ev.cl 23 [(.int .i64 1025), (.slice none 0 0)] G97) fun x101 G102 =>
  bP (pExtract x101 0) fun x103 =>
  bP (pExtract x101 1) fun x104 =>
  bP (pExtract x101 2) fun x105 =>
  bS (e.ev.cl 8 [] G102) fun x106 G107 =>
  bS (gd x106 true (some (x27, G107)) G107) fun x108 G109 =>
  bP (pickV x106 x108 (.bool false)) fun x110 =>
  bS (gd x110 true (some (x53, G109)) G109) fun x111 G112 =>
  bP (pickV x110 x111 (.bool false)) fun x113 =>
  bS (gd x113 true (some (x80, G112)) G112) fun x114 G115 =>
  bP (pickV x113 x114 (.bool false)) fun x116 =>
  bS (gd x116 true (some (x100, G115)) G115) fun x117 G118 =>
  bS (gd x116 true (bP (bn Q q .eql 26 (.tmp 95) (.const (.int .i64 0)) x117 (.int .i64 0)) fun y => some (y, G118)) G118) fun x119 G120 =>
  bP (pickV x116 x119 (.bool false)) fun x121 =>
  bS (gd x121 true (some (x99, G120)) G120) fun x122 G123 =>
  bS (gd x121 true (bP (ln Q q 22 x122) fun y => some (y, G123)) G123) fun x124 G125 =>
  bS (gd x121 true (bP (bn Q q .eql 3 (.tmp 100) (.const (.int .i64 0)) x124 (.int .i64 0)) fun y => some (y, G125)) G125) fun x126 G127 =>
  bP (pickV x121 x126 (.bool false)) fun x128 =>
  bS (gd x128 true (some (x98, G127)) G127) fun x129 G130 =>
  bS (gd x128 true (bP (bd Q q 28 z28 [] []) fun y => some (y, G130)) G130) fun x131 G132 =>
  bS (gd x128 true (bP (bd Q q 28 z28 [(1, 1, 1)] [(.int .i64 1)]) fun y => some (y, G132)) G132) fun x133 G134 =>
  bS (gd x128 true (bP (bd Q q 28 z28 [(0, 0, 1)] [(.int .i64 7)]) fun y => some (y, G134)) G134) fun x135 G136 =>
  bS (gd x128 true (bP (bd Q q 28 z28 [] []) fun y => some (y, G136)) G136) fun x137 G138 =>
  bS (gd x128 true (bP (bd Q q 28 z28 [(0, 0, 1)] [(.int .i64 8)]) fun y => some (y, G138)) G138) fun x139 G140 =>
  bS (gd x128 true (bP (bd Q q 28 z28 [] []) fun y => some (y, G140)) G140) fun x141 G142 =>
  bS (gd x128 true (bP (bd Q q 28 z28 [] []) fun y => some (y, G142)) G142) fun x143 G144 =>
  bS (gd x128 true (bS (bs Q q 33 7 (rep z28 7) 3 [(0, 0, 3), (1, 3, 3), (2, 6, 3), (3, 9, 3), (4, 12, 3), (5, 15, 3), (6, 18, 3)] [x131, x133, x135, x137, x139, x141, x143] G144) fun y G => some (y, G)) G144) fun x145 G146 =>
  bS (gd x128 true (bS (e.ev.cl 17 [x129, x145] G146) fun y G => some (y, G)) G146) fun x147 G148 =>
  bP (pickV x128 x147 (.bool false)) fun x149 =>
  bS (gd x149 true (some (x105, G148)) G148) fun x150 G151 =>
  bS (gd x149 true (bP (bn Q q .eql 26 (.tmp 116) (.const (.int .i64 3)) x150 (.int .i64 3)) fun y => some (y, G151)) G151) fun x152 G153 =>
  bP (pickV x149 x152 (.bool false)) fun x154 =>
  some (x154, G153)
theorem m5 {e : Ex} {E : Ev} (h : ExLe Q e E) (G : GS) : Ref (s5 true e  G) (s5 false (Ex.of E)  G) := by
  unfold s5
  exact Ref.gq
set_option maxHeartbeats 8000000 in
theorem f5 {orc : FuncId → Bool} {e : Ex} (h : ExLe Q e (E orc)) (ho : orc 5 = false) (G : GS) : Ref (s5 true e  G) ((E orc).cl 5 [] G) :=
  fun r hr => cl_sxE_some Q orc (vs := []) G Tryd.func5 (by kernel_rfl) (by kernel_rfl) ho (by kernel_rfl) (by kernel_rfl) (by kernel_rfl) (m5 h  G r hr)
noncomputable def jbl6_0_0 (q : Bool) (e : Ex) (lp : Env → GS → Option (Exit × Env × GS)) (τ : Env) (G : GS) : Option (Exit × Env × GS) :=
  bLq q e 6 1 (subAt [1, 1, 1, 1, 1, 1, 0, 1, 0, 0, 1, 0, 0, 1, 1, 1, 0, 1, 0, 0] (bodyOf Tryd.f6)) 169 τ [(14, (.int .i64 0))] [] G fun e17 t18 G19 =>
  bV q (t18 0) fun t18x0_ =>
  bV q (t18 4) fun t18x4_ =>
  bV q (t18 8) fun t18x8_ =>
  bV q (t18 11) fun t18x11_ =>
  bV q (t18 13) fun t18x13_ =>
  ifE e17 (.exit 3) (
  bP (un Q q .not t18x13_) fun x20 =>
  ifV x20 (
  some (.ret, xq q 169 t18 [(6, (.bool false)), (167, x20), (166, t18x13_)] [(0, t18x0_), (4, t18x4_), (8, t18x8_), (11, t18x11_)], G19)) (
  bP (bn Q q .add 3 (.tmp 49) (.const (.int .i64 1)) t18x11_ (.int .i64 1)) fun x21 =>
  lp (xq q 169 t18 [(11, x21), (50, x21), (49, t18x11_), (167, x20), (166, t18x13_)] [(0, t18x0_), (4, t18x4_), (8, t18x8_)]) G19)) (none)
noncomputable def jl6_0_0 (q : Bool) (e : Ex) (lp : Env → GS → Option (Exit × Env × GS)) (τ : Env) (G : GS) : Option (Exit × Env × GS) := jbl6_0_0 q e lp τ G
theorem mjl6_0_0 {e : Ex} {E : Ev} (h : ExLe Q e E) {lp lp' : Env → GS → Option (Exit × Env × GS)} (hlp : LpLe lp lp') (τ : Env) (G : GS) : Ref (jl6_0_0 true e lp τ G) (jl6_0_0 false (Ex.of E) lp' τ G) := by
  unfold jl6_0_0 jbl6_0_0
  exact Ref.gq
theorem mkjl6_0_0 {e : Ex} {E : Ev} (h : ExLe Q e E) {lp lp' : Env → GS → Option (Exit × Env × GS)} (hlp : LpLe lp lp') {τ : Env} {l U : List (Nat × Value)} {G : GS} (hU : UOk τ U) : Ref (jl6_0_0 true e lp (xq true 169 τ l U) G) (jl6_0_0 false (Ex.of E) lp' (xq false 169 τ l U) G) := by
  rw [xq_eq hU]
  exact mjl6_0_0 h hlp _ _
noncomputable def bb6_0 (q : Bool) (e : Ex) (lp : Env → GS → Option (Exit × Env × GS)) (J0 : Env → GS → Option (Exit × Env × GS)) (τ : Env) (G : GS) : Option (Exit × Env × GS) :=
  bV q (τ 0) fun a0_ =>
  bV q (τ 4) fun a4_ =>
  bV q (τ 8) fun a8_ =>
  bV q (τ 11) fun a11_ =>
  bP (ln Q q 33 a8_) fun x0 =>
  bP (bn Q q .lss 3 (.tmp 45) (.tmp 47) a11_ x0) fun x1 =>
  ifV x1 (
  bP (lda Q q 25 4 a4_ (G.room 12)) fun x2 =>
  bP (ias Q q 33 3 a8_ a11_) fun x3 =>
  bP (lda Q q 28 3 x3 (G.room 12)) fun x4 =>
  bS (e.ev.cl 10 [a0_, x2, x4] (G.room 12)) fun x6 G5 =>
  bP (pExtract x6 0) fun x7 =>
  bP (pExtract x6 1) fun x8 =>
  bP (un Q q .not x8) fun x9 =>
  bS (gd x9 false (some (x7, G5)) G5) fun x10 G11 =>
  bS (gd x9 false (bS (e.ev.cl 18 [x10] G11) fun y G => some (y, G)) G11) fun x12 G13 =>
  bS (gd x9 false (bP (bn Q q .neq 26 (.tmp 65) (.const (.int .i64 0)) x12 (.int .i64 0)) fun y => some (y, G13)) G13) fun x14 G15 =>
  bP (pickV x9 (.bool true) x14) fun x16 =>
  ifV x16 (
  some (.ret, xq q 169 τ [(6, (.bool false)), (67, x16), (66, x14), (65, x12), (64, x10), (63, x9), (62, x9), (61, x8), (13, x8), (12, x7), (60, x8), (59, x7), (51, x6), (58, x6), (57, x4), (56, x3), (55, a11_), (54, a8_), (53, x2), (52, a0_), (48, x1), (47, x0), (46, a8_), (45, a11_)] [(0, a0_), (4, a4_), (8, a8_), (11, a11_)], G15)) (
  bP (ias Q q 33 3 a8_ a11_) fun x22 =>
  bP (fa Q q 28 0 0 x22) fun x23 =>
  bP (ld Q q 26 x23 G15) fun x24 =>
  bP (bn Q q .neq 26 (.tmp 92) (.const (.int .i64 0)) x24 (.int .i64 0)) fun x25 =>
  ifV x25 (
  bS (e.ev.cl 16 [a0_, x7] G15) fun x26 G27 =>
  J0 (xq q 169 τ [(13, x26), (96, x26), (95, x7), (94, a0_), (87, x25), (93, x25), (92, x24), (91, x23), (90, x22), (89, a11_), (88, a8_), (67, x16), (66, x14), (65, x12), (64, x10), (63, x9), (62, x9), (61, x8), (13, x8), (12, x7), (60, x8), (59, x7), (51, x6), (58, x6), (57, x4), (56, x3), (55, a11_), (54, a8_), (53, x2), (52, a0_), (48, x1), (47, x0), (46, a8_), (45, a11_)] [(0, a0_), (4, a4_), (8, a8_), (11, a11_)]) G27) (
  bP (fa Q q 25 0 0 a4_) fun x28 =>
  bP (ld Q q 3 x28 G15) fun x29 =>
  bP (bn Q q .eql 3 (.tmp 99) (.const (.int .i64 7)) x29 (.int .i64 7)) fun x30 =>
  ifV x30 (
  bP (ln Q q 22 x7) fun x31 =>
  bP (ln Q q 22 a0_) fun x32 =>
  bP (bn Q q .sub 3 (.tmp 104) (.const (.int .i64 1)) x32 (.int .i64 1)) fun x33 =>
  bP (bn Q q .eql 3 (.tmp 102) (.tmp 105) x31 x33) fun x34 =>
  bS (gd x34 true (some (a0_, G15)) G15) fun x35 G36 =>
  bS (gd x34 true (some (a8_, G36)) G36) fun x37 G38 =>
  bS (gd x34 true (some (a11_, G38)) G38) fun x39 G40 =>
  bS (gd x34 true (bP (ias Q q 33 3 x37 x39) fun y => some (y, G40)) G40) fun x41 G42 =>
  bS (gd x34 true (bP (fa Q q 28 1 1 x41) fun y => some (y, G42)) G42) fun x43 G44 =>
  bS (gd x34 true (bP (ld Q q 3 x43 G44) fun y => some (y, G44)) G44) fun x45 G46 =>
  bS (gd x34 true (bS (e.ev.cl 31 [x35, x45] G46) fun y G => some (y, G)) G46) fun x47 G48 =>
  bP (pickV x34 x47 (.bool false)) fun x49 =>
  bS (gd x49 true (some (x7, G48)) G48) fun x50 G51 =>
  bS (gd x49 true (some (a8_, G51)) G51) fun x52 G53 =>
  bS (gd x49 true (some (a11_, G53)) G53) fun x54 G55 =>
  bS (gd x49 true (bP (ias Q q 33 3 x52 x54) fun y => some (y, G55)) G55) fun x56 G57 =>
  bS (gd x49 true (bP (fa Q q 28 1 1 x56) fun y => some (y, G57)) G57) fun x58 G59 =>
  bS (gd x49 true (bP (ld Q q 3 x58 G59) fun y => some (y, G59)) G59) fun x60 G61 =>
  bS (gd x49 true (bS (e.ev.cl 31 [x50, x60] G61) fun y G => some (y, G)) G61) fun x62 G63 =>
  bS (gd x49 true (bP (un Q q .not x62) fun y => some (y, G63)) G63) fun x64 G65 =>
  bP (pickV x49 x64 (.bool false)) fun x66 =>
  J0 (xq q 169 τ [(13, x66), (125, x66), (124, x64), (123, x62), (122, x60), (121, x58), (120, x56), (119, x54), (118, x52), (117, x50), (116, x49), (115, x49), (114, x47), (113, x45), (112, x43), (111, x41), (110, x39), (109, x37), (108, x35), (107, x34), (106, x34), (105, x33), (104, x32), (103, a0_), (102, x31), (101, x7), (97, x30), (100, x30), (99, x29), (98, x28), (87, x25), (93, x25), (92, x24), (91, x23), (90, x22), (89, a11_), (88, a8_), (67, x16), (66, x14), (65, x12), (64, x10), (63, x9), (62, x9), (61, x8), (13, x8), (12, x7), (60, x8), (59, x7), (51, x6), (58, x6), (57, x4), (56, x3), (55, a11_), (54, a8_), (53, x2), (52, a0_), (48, x1), (47, x0), (46, a8_), (45, a11_)] [(0, a0_), (4, a4_), (8, a8_), (11, a11_)]) G65) (
  bP (ln Q q 22 x7) fun x67 =>
  bP (ln Q q 22 a0_) fun x68 =>
  bP (bn Q q .add 3 (.tmp 71) (.const (.int .i64 1)) x68 (.int .i64 1)) fun x69 =>
  bP (bn Q q .eql 3 (.tmp 69) (.tmp 72) x67 x69) fun x70 =>
  bS (gd x70 true (some (a0_, G15)) G15) fun x71 G72 =>
  bS (gd x70 true (bP (fa Q q 25 1 1 a4_) fun y => some (y, G72)) G72) fun x73 G74 =>
  bS (gd x70 true (bP (ld Q q 3 x73 G74) fun y => some (y, G74)) G74) fun x75 G76 =>
  bS (gd x70 true (bS (e.ev.cl 31 [x71, x75] G76) fun y G => some (y, G)) G76) fun x77 G78 =>
  bS (gd x70 true (bP (un Q q .not x77) fun y => some (y, G78)) G78) fun x79 G80 =>
  bP (pickV x70 x79 (.bool false)) fun x81 =>
  bS (gd x81 true (some (x7, G80)) G80) fun x82 G83 =>
  bS (gd x81 true (bP (fa Q q 25 1 1 a4_) fun y => some (y, G83)) G83) fun x84 G85 =>
  bS (gd x81 true (bP (ld Q q 3 x84 G85) fun y => some (y, G85)) G85) fun x86 G87 =>
  bS (gd x81 true (bS (e.ev.cl 31 [x82, x86] G87) fun y G => some (y, G)) G87) fun x88 G89 =>
  bP (pickV x81 x88 (.bool false)) fun x90 =>
  J0 (xq q 169 τ [(13, x90), (86, x90), (85, x88), (84, x86), (83, x84), (82, x82), (81, x81), (80, x81), (79, x79), (78, x77), (77, x75), (76, x73), (75, x71), (74, x70), (73, x70), (72, x69), (71, x68), (70, a0_), (69, x67), (68, x7), (97, x30), (100, x30), (99, x29), (98, x28), (87, x25), (93, x25), (92, x24), (91, x23), (90, x22), (89, a11_), (88, a8_), (67, x16), (66, x14), (65, x12), (64, x10), (63, x9), (62, x9), (61, x8), (13, x8), (12, x7), (60, x8), (59, x7), (51, x6), (58, x6), (57, x4), (56, x3), (55, a11_), (54, a8_), (53, x2), (52, a0_), (48, x1), (47, x0), (46, a8_), (45, a11_)] [(0, a0_), (4, a4_), (8, a8_), (11, a11_)]) G89)))) (
  some ((.exit 0), xq q 169 τ [(48, x1), (47, x0), (46, a8_), (45, a11_)] [(0, a0_), (4, a4_), (8, a8_), (11, a11_)], G))
noncomputable def b6_0 (q : Bool) (e : Ex) (lp : Env → GS → Option (Exit × Env × GS)) (τ : Env) (G : GS) : Option (Exit × Env × GS) := bb6_0 q e lp (jl6_0_0 q e lp) τ G
theorem mb6_0 {e : Ex} {E : Ev} (h : ExLe Q e E) {lp lp' : Env → GS → Option (Exit × Env × GS)} (hlp : LpLe lp lp') (τ : Env) (G : GS) : Ref (b6_0 true e lp τ G) (b6_0 false (Ex.of E) lp' τ G) := by
  unfold b6_0 bb6_0
  repeat' (with_reducible first | exact Ref.rfl' _ | exact ROp.r | refine Ref.bP ?_ fun _ => ?_ | refine Ref.bS ?_ fun _ _ => ?_ | exact Ref.cl (by assumption) | refine Ref.ifV ?_ ?_ | refine LpLe.rx (by assumption) ?_ | refine Ref.xitq ?_ | exact UOk.z | refine UOk.c (by assumption) ?_ | exact Ref.nil _ | refine Ref.bVe fun _ _ => ?_ | refine Ref.bLq (by assumption) ?_ fun _ _ _ => ?_ | refine Ref.ifE ?_ ?_ | refine Ref.chk ?_ ?_ | refine Imp.and ?_ ?_ | refine Imp.or ?_ | exact Imp.rfl' _ | refine Imp.sameO ?_ | refine Ref.gd ?_ | exact Ref.cValue (by assumption) | refine Ref.bX ?_ fun _ _ _ => ?_ | exact Ref.scQ (by assumption) | exact Ref.xRangeQ (by assumption) | exact Ref.cInvoke (by assumption) | refine mkjl6_0_0 (by assumption) (by assumption) ?_)
noncomputable def jtl6_0 (J0 : Env → GS → Option (Exit × Env × GS)) : JT (Exit × Env × GS) :=
  (.n none .e (.n none (.n none (.n none .e (.n none .e (.n (some (fun T G => J0 (nth undef T) G)) .e .e))) .e) .e))
set_option maxHeartbeats 8000000 in
theorem jrl6_0_0 (orc : FuncId → Bool) (J0 : Env → GS → Option (Exit × Env × GS)) (T : List Value) (G : GS) : runC Q (evL Q orc) 169 (jtl6_0 J0) (subAt [1, 1, 1, 1, 1, 1, 0, 1, 0, 0] (bodyOf Tryd.f6)) (seqXE (fun τ G' => mapE ((E orc).lp (subAt [1, 1, 1, 1, 1, 1, 0, 1, 0, 0] (bodyOf Tryd.f6)) (lst 169 (nth undef (lst 169 τ))) G')) fun e τ G' => some (e, nth undef (lst 169 τ), G')) [true, false, false, true, true] (nth undef T) G = jbl6_0_0 false (Ex.of (E orc)) (fun τ G => mapE ((E orc).lp (subAt [1, 1, 1, 1, 1, 1, 0, 1, 0, 0] (bodyOf Tryd.f6)) (lst 169 τ) G))  (nth undef T) G := by kernel_rfl
set_option maxHeartbeats 8000000 in
theorem jol6_0 (orc : FuncId → Bool) : JOk Q orc 169 (jtl6_0 (jl6_0_0 false (Ex.of (E orc)) (fun τ G => mapE ((E orc).lp (subAt [1, 1, 1, 1, 1, 1, 0, 1, 0, 0] (bodyOf Tryd.f6)) (lst 169 τ) G))) ) (subAt [1, 1, 1, 1, 1, 1, 0, 1, 0, 0] (bodyOf Tryd.f6)) (seqXE (fun τ G' => mapE ((E orc).lp (subAt [1, 1, 1, 1, 1, 1, 0, 1, 0, 0] (bodyOf Tryd.f6)) (lst 169 (nth undef (lst 169 τ))) G')) fun e τ G' => some (e, nth undef (lst 169 τ), G')) :=
  jOk Q orc (l := [([true, false, false, true, true], (fun T G => jl6_0_0 false (Ex.of (E orc)) (fun τ G => mapE ((E orc).lp (subAt [1, 1, 1, 1, 1, 1, 0, 1, 0, 0] (bodyOf Tryd.f6)) (lst 169 τ) G)) (nth undef T) G))]) (by kernel_rfl) (AllE.c (fun T G => jrl6_0_0 orc (jl6_0_0 false (Ex.of (E orc)) (fun τ G => mapE ((E orc).lp (subAt [1, 1, 1, 1, 1, 1, 0, 1, 0, 0] (bodyOf Tryd.f6)) (lst 169 τ) G))) T G) (AllE.z))
set_option maxHeartbeats 8000000 in
theorem jel6_0 (orc : FuncId → Bool) (J0 : Env → GS → Option (Exit × Env × GS)) (T : List Value) (G : GS) : sxC Q (evL Q orc) 169 (jtl6_0 J0) (subAt [1, 1, 1, 1, 1, 1, 0, 1, 0, 0] (bodyOf Tryd.f6)) (nth undef T) G (seqXE (fun τ G' => mapE ((E orc).lp (subAt [1, 1, 1, 1, 1, 1, 0, 1, 0, 0] (bodyOf Tryd.f6)) (lst 169 (nth undef (lst 169 τ))) G')) fun e τ G' => some (e, nth undef (lst 169 τ), G')) = bb6_0 false (Ex.of (E orc)) (fun τ G => mapE ((E orc).lp (subAt [1, 1, 1, 1, 1, 1, 0, 1, 0, 0] (bodyOf Tryd.f6)) (lst 169 τ) G)) J0 (nth undef T) G := by kernel_rfl
set_option maxHeartbeats 8000000 in
theorem l6_0 {orc : FuncId → Bool} {e : Ex} (h : ExLe Q e (E orc)) (lp : Env → GS → Option (Exit × Env × GS)) (hlp : ∀ τ G, Ref (lp τ G) (mapE ((E orc).lp (subAt [1, 1, 1, 1, 1, 1, 0, 1, 0, 0] (bodyOf Tryd.f6)) (lst 169 τ) G))) (T : List Value) (G : GS) (hT : T.length = 169) : Ref (b6_0 true e lp (nth undef T) G) (mapE ((E orc).lp (subAt [1, 1, 1, 1, 1, 1, 0, 1, 0, 0] (bodyOf Tryd.f6)) T G)) :=
  fun r hr => lp_sxC Q orc G (jtl6_0 (jl6_0_0 false (Ex.of (E orc)) (fun τ G => mapE ((E orc).lp (subAt [1, 1, 1, 1, 1, 1, 0, 1, 0, 0] (bodyOf Tryd.f6)) (lst 169 τ) G))) ) hT (jol6_0 orc) (jel6_0 orc (jl6_0_0 false (Ex.of (E orc)) (fun τ G => mapE ((E orc).lp (subAt [1, 1, 1, 1, 1, 1, 0, 1, 0, 0] (bodyOf Tryd.f6)) (lst 169 τ) G))) T G) (mb6_0 h ⟨hlp⟩ _ _ r hr)
noncomputable def b6_1 (q : Bool) (e : Ex) (lp : Env → GS → Option (Exit × Env × GS)) (τ : Env) (G : GS) : Option (Exit × Env × GS) :=
  bV q (τ 0) fun a0_ =>
  bV q (τ 4) fun a4_ =>
  bV q (τ 8) fun a8_ =>
  bV q (τ 11) fun a11_ =>
  bV q (τ 12) fun a12_ =>
  bV q (τ 13) fun a13_ =>
  bV q (τ 14) fun a14_ =>
  bS (gd a13_ true (some (a14_, G)) G) fun x0 G1 =>
  bS (gd a13_ true (some (a0_, G1)) G1) fun x2 G3 =>
  bS (gd a13_ true (bP (ln Q q 22 x2) fun y => some (y, G3)) G3) fun x4 G5 =>
  bS (gd a13_ true (bP (bn Q q .lss 3 (.tmp 128) (.tmp 130) x0 x4) fun y => some (y, G5)) G5) fun x6 G7 =>
  bP (pickV a13_ x6 (.bool false)) fun x8 =>
  ifV x8 (
  bP (ias Q q 22 1 a0_ a14_) fun x9 =>
  bP (ld Q q 3 x9 (G7.room 32)) fun x10 =>
  bS (e.ev.cl 31 [a12_, x10] (G7.room 32)) fun x12 G11 =>
  bS (gd x12 false (bP (fa Q q 25 0 0 a4_) fun y => some (y, G11)) G11) fun x13 _ =>
  bS (gd x12 false (bP (ld Q q 3 x13 G11) fun y => some (y, G11)) G11) fun x14 _ =>
  bS (gd x12 false (bP (bn Q q .eql 3 (.tmp 143) (.const (.int .i64 7)) x14 (.int .i64 7)) fun y => some (y, G11)) G11) fun x15 _ =>
  bS (gd x12 false (some (x15, G11)) G11) fun x16 _ =>
  bS (gd x16 true (some (a8_, G11)) G11) fun x17 _ =>
  bS (gd x16 true (some (a11_, G11)) G11) fun x18 _ =>
  bS (gd x16 true (bP (ias Q q 33 3 x17 x18) fun y => some (y, G11)) G11) fun x19 _ =>
  bS (gd x16 true (bP (fa Q q 28 0 0 x19) fun y => some (y, G11)) G11) fun x20 _ =>
  bS (gd x16 true (bP (ld Q q 26 x20 G11) fun y => some (y, G11)) G11) fun x21 _ =>
  bS (gd x16 true (bP (bn Q q .eql 26 (.tmp 150) (.const (.int .i64 0)) x21 (.int .i64 0)) fun y => some (y, G11)) G11) fun x22 _ =>
  bS (gd x12 false (bP (pickV x16 x22 (.bool false)) fun y => some (y, G11)) G11) fun x23 _ =>
  bS (gd x12 false (some (x23, G11)) G11) fun x24 _ =>
  bS (gd x24 true (some (a0_, G11)) G11) fun x25 _ =>
  bS (gd x24 true (some (a14_, G11)) G11) fun x26 _ =>
  bS (gd x24 true (bP (ias Q q 22 1 x25 x26) fun y => some (y, G11)) G11) fun x27 _ =>
  bS (gd x24 true (bP (ld Q q 3 x27 G11) fun y => some (y, G11)) G11) fun x28 _ =>
  bS (gd x24 true (some (a8_, G11)) G11) fun x29 _ =>
  bS (gd x24 true (some (a11_, G11)) G11) fun x30 _ =>
  bS (gd x24 true (bP (ias Q q 33 3 x29 x30) fun y => some (y, G11)) G11) fun x31 _ =>
  bS (gd x24 true (bP (fa Q q 28 1 1 x31) fun y => some (y, G11)) G11) fun x32 _ =>
  bS (gd x24 true (bP (ld Q q 3 x32 G11) fun y => some (y, G11)) G11) fun x33 _ =>
  bS (gd x24 true (bP (bn Q q .eql 3 (.tmp 157) (.tmp 162) x28 x33) fun y => some (y, G11)) G11) fun x34 _ =>
  bS (gd x12 false (bP (pickV x24 x34 (.bool false)) fun y => some (y, G11)) G11) fun x35 _ =>
  bP (pickV x12 (.bool true) x35) fun x36 =>
  bP (bn Q q .add 3 (.tmp 133) (.const (.int .i64 1)) a14_ (.int .i64 1)) fun x37 =>
  lp (xq q 169 τ [(14, x37), (134, x37), (133, a14_), (13, x36), (165, x36), (164, x35), (163, x34), (162, x33), (161, x32), (160, x31), (159, x30), (158, x29), (157, x28), (156, x27), (155, x26), (154, x25), (153, x24), (152, x23), (151, x22), (150, x21), (149, x20), (148, x19), (147, x18), (146, x17), (145, x16), (144, x15), (143, x14), (142, x13), (141, x12), (140, x12), (139, x10), (138, x9), (137, a14_), (136, a0_), (135, a12_), (132, x8), (131, x6), (130, x4), (129, x2), (128, x0), (127, a13_), (126, a13_)] [(0, a0_), (4, a4_), (8, a8_), (11, a11_), (12, a12_)]) G11) (
  some ((.exit 3), xq q 169 τ [(132, x8), (131, x6), (130, x4), (129, x2), (128, x0), (127, a13_), (126, a13_)] [(0, a0_), (4, a4_), (8, a8_), (11, a11_), (12, a12_), (13, a13_), (14, a14_)], G7))
theorem mb6_1 {e : Ex} {E : Ev} (h : ExLe Q e E) {lp lp' : Env → GS → Option (Exit × Env × GS)} (hlp : LpLe lp lp') (τ : Env) (G : GS) : Ref (b6_1 true e lp τ G) (b6_1 false (Ex.of E) lp' τ G) := by
  unfold b6_1
  exact Ref.gq
set_option maxHeartbeats 8000000 in
theorem l6_1 {orc : FuncId → Bool} {e : Ex} (h : ExLe Q e (E orc)) (lp : Env → GS → Option (Exit × Env × GS)) (hlp : ∀ τ G, Ref (lp τ G) (mapE ((E orc).lp (subAt [1, 1, 1, 1, 1, 1, 0, 1, 0, 0, 1, 0, 0, 1, 1, 1, 0, 1, 0, 0] (bodyOf Tryd.f6)) (lst 169 τ) G))) (T : List Value) (G : GS) (hT : T.length = 169) : Ref (b6_1 true e lp (nth undef T) G) (mapE ((E orc).lp (subAt [1, 1, 1, 1, 1, 1, 0, 1, 0, 0, 1, 0, 0, 1, 1, 1, 0, 1, 0, 0] (bodyOf Tryd.f6)) T G)) :=
  fun r hr => lp_sxN Q orc G hT (by kernel_rfl) (mb6_1 h ⟨hlp⟩ _ _ r hr)
/-- coxswain/coxswainlaw08.PoolOne -/
noncomputable def s6 (q : Bool) (e : Ex) (v0 v1 v2 : Value) (G : GS) : Option (Value × GS) :=
  bS (bx q v1 G) fun x0 G1 =>
  bS (bx q v2 G1) fun x2 G3 =>
  bS (e.ev.cl 5 [] G3) fun x4 G5 =>
  bP (ln Q q 22 v0) fun x6 =>
  bP (bn Q q .gtr 3 (.tmp 17) (.const (.int .i64 60)) x6 (.int .i64 60)) fun x7 =>
  ifV x7 (
  some (x4, G5)) (
  bP (lda Q q 25 4 x0 G5) fun x8 =>
  bS (e.ev.cl 12 [v0, x8] G5) fun x9 G10 =>
  bP (lda Q q 25 4 x0 G10) fun x11 =>
  bP (lda Q q 28 3 x2 G10) fun x12 =>
  bS (e.ev.cl 10 [v0, x11, x12] G10) fun x13 G14 =>
  bP (pExtract x13 0) fun x15 =>
  bP (pExtract x13 1) fun x16 =>
  bP (lda Q q 28 3 x2 G14) fun x17 =>
  bS (e.ev.cl 30 [x9, x17] G14) fun x18 G19 =>
  bP (eb Q q true 4 (.tmp 30) (.tmp 33) x16 x18) fun x20 =>
  bS (gd x20 false (some (v0, G19)) G19) fun x21 G22 =>
  bS (gd x20 false (bS (e.ev.cl 18 [x21] G22) fun y G => some (y, G)) G22) fun x23 G24 =>
  bS (gd x20 false (bP (bn Q q .neq 26 (.tmp 37) (.const (.int .i64 0)) x23 (.int .i64 0)) fun y => some (y, G24)) G24) fun x25 G26 =>
  bS (gd x20 false (some (x25, G26)) G26) fun x27 G28 =>
  bS (gd x27 true (some (x9, G28)) G28) fun x29 G30 =>
  bS (gd x27 true (bP (ln Q q 33 x29) fun y => some (y, G30)) G30) fun x31 G32 =>
  bS (gd x27 true (bP (bn Q q .gtr 3 (.tmp 41) (.const (.int .i64 0)) x31 (.int .i64 0)) fun y => some (y, G32)) G32) fun x33 G34 =>
  bS (gd x20 false (bP (pickV x27 x33 (.bool false)) fun y => some (y, G34)) G34) fun x35 G36 =>
  bP (pickV x20 (.bool true) x35) fun x37 =>
  ifV x37 (
  some ((.bool false), G36)) (
  bLq q e 6 0 (subAt [1, 1, 1, 1, 1, 1, 0, 1, 0, 0] (bodyOf Tryd.f6)) 169 (nth undef [v0, v1, v2]) [(11, (.int .i64 0)), (44, x37), (43, x35), (42, x33), (41, x31), (40, x29), (39, x27), (38, x25), (37, x23), (36, x21), (35, x20), (34, x20), (33, x18), (32, x17), (31, x9), (30, x16), (10, x16), (9, x15), (29, x16), (28, x15), (23, x13), (27, x13), (26, x12), (25, x11), (24, v0), (8, x9), (22, x9), (21, x8), (20, v0), (18, x7), (17, x6), (16, v0), (7, x4), (15, x4), (6, (.bool false)), (5, x2), (4, x0)] [] G36 fun e38 t39 G40 =>
  bV q (t39 6) fun t39x6_ =>
  bV q (t39 7) fun t39x7_ =>
  ifE e38 (.exit 0) (
  some (t39x7_, G40)) (ifE e38 .ret (
  some (t39x6_, G40)) (none))))
theorem m6 {e : Ex} {E : Ev} (h : ExLe Q e E) (v0 v1 v2 : Value) (G : GS) : Ref (s6 true e v0 v1 v2 G) (s6 false (Ex.of E) v0 v1 v2 G) := by
  unfold s6
  exact Ref.gq
set_option maxHeartbeats 8000000 in
theorem f6 {orc : FuncId → Bool} {e : Ex} (h : ExLe Q e (E orc)) (v0 v1 v2 : Value) (G : GS) : Ref (s6 true e v0 v1 v2 G) ((E orc).cl 6 [v0, v1, v2] G) :=
  fun r hr => cl_sxE_some Q orc (vs := [v0, v1, v2]) G Tryd.func6 (by kernel_rfl) (by kernel_rfl) (by kernel_rfl) (by kernel_rfl) (by kernel_rfl) (by kernel_rfl) (m6 h v0 v1 v2 G r hr)
noncomputable def jbl7_0_0 (q : Bool) (e : Ex) (lp : Env → GS → Option (Exit × Env × GS)) (τ : Env) (G : GS) : Option (Exit × Env × GS) :=
  bV q (τ 1) fun a1_ =>
  bV q (τ 6) fun a6_ =>
  bV q (τ 9) fun a9_ =>
  bV q (τ 10) fun a10_ =>
  bV q (τ 11) fun a11_ =>
  bP (bn Q q .add 3 (.tmp 48) (.const (.int .i64 1)) a11_ (.int .i64 1)) fun x2 =>
  lp (xq q 163 τ [(11, x2), (49, x2), (48, a11_)] [(1, a1_), (6, a6_), (9, a9_), (10, a10_)]) G
noncomputable def jl7_0_0 (q : Bool) (e : Ex) (lp : Env → GS → Option (Exit × Env × GS)) (τ : Env) (G : GS) : Option (Exit × Env × GS) := jbl7_0_0 q e lp τ G
theorem mjl7_0_0 {e : Ex} {E : Ev} (h : ExLe Q e E) {lp lp' : Env → GS → Option (Exit × Env × GS)} (hlp : LpLe lp lp') (τ : Env) (G : GS) : Ref (jl7_0_0 true e lp τ G) (jl7_0_0 false (Ex.of E) lp' τ G) := by
  unfold jl7_0_0 jbl7_0_0
  exact Ref.gq
theorem mkjl7_0_0 {e : Ex} {E : Ev} (h : ExLe Q e E) {lp lp' : Env → GS → Option (Exit × Env × GS)} (hlp : LpLe lp lp') {τ : Env} {l U : List (Nat × Value)} {G : GS} (hU : UOk τ U) : Ref (jl7_0_0 true e lp (xq true 163 τ l U) G) (jl7_0_0 false (Ex.of E) lp' (xq false 163 τ l U) G) := by
  rw [xq_eq hU]
  exact mjl7_0_0 h hlp _ _
noncomputable def bb7_0 (q : Bool) (e : Ex) (lp : Env → GS → Option (Exit × Env × GS)) (J0 : Env → GS → Option (Exit × Env × GS)) (τ : Env) (G : GS) : Option (Exit × Env × GS) :=
  bV q (τ 1) fun a1_ =>
  bV q (τ 6) fun a6_ =>
  bV q (τ 9) fun a9_ =>
  bV q (τ 10) fun a10_ =>
  bV q (τ 11) fun a11_ =>
  bP (ln Q q 42 a1_) fun x0 =>
  bP (bn Q q .lss 3 (.tmp 44) (.tmp 46) a11_ x0) fun x1 =>
  ifV x1 (
  bP (ias Q q 42 4 a1_ a11_) fun x3 =>
  bP (fa Q q 25 0 0 x3) fun x4 =>
  bP (ld Q q 3 x4 G) fun x5 =>
  bP (bn Q q .eql 3 (.tmp 55) (.const (.int .i64 7)) x5 (.int .i64 7)) fun x6 =>
  bS (gd x6 true (some (a6_, G)) G) fun x7 G8 =>
  bS (gd x6 true (some (a11_, G8)) G8) fun x9 G10 =>
  bS (gd x6 true (bP (ias Q q 33 3 x7 x9) fun y => some (y, G10)) G10) fun x11 G12 =>
  bS (gd x6 true (bP (fa Q q 28 0 0 x11) fun y => some (y, G12)) G12) fun x13 G14 =>
  bS (gd x6 true (bP (ld Q q 26 x13 G14) fun y => some (y, G14)) G14) fun x15 G16 =>
  bS (gd x6 true (bP (bn Q q .eql 26 (.tmp 62) (.const (.int .i64 0)) x15 (.int .i64 0)) fun y => some (y, G16)) G16) fun x17 G18 =>
  bP (pickV x6 x17 (.bool false)) fun x19 =>
  ifV x19 (
  bP (bn Q q .eql 3 (.tmp 65) (.const (.int .i64 0)) a10_ (.int .i64 0)) fun x20 =>
  bS (gd x20 false (some (a9_, G18)) G18) fun x21 G22 =>
  bS (gd x20 false (some (a6_, G22)) G22) fun x23 G24 =>
  bS (gd x20 false (some (a11_, G24)) G24) fun x25 G26 =>
  bS (gd x20 false (bP (ias Q q 33 3 x23 x25) fun y => some (y, G26)) G26) fun x27 G28 =>
  bS (gd x20 false (bP (fa Q q 28 1 1 x27) fun y => some (y, G28)) G28) fun x29 G30 =>
  bS (gd x20 false (bP (ld Q q 3 x29 G30) fun y => some (y, G30)) G30) fun x31 G32 =>
  bS (gd x20 false (bS (e.ev.cl 31 [x21, x31] G32) fun y G => some (y, G)) G32) fun x33 G34 =>
  bP (pickV x20 (.bool true) x33) fun x35 =>
  ifV x35 (
  some (.ret, xq q 163 τ [(4, (.bool false)), (75, x35), (74, x33), (73, x31), (72, x29), (71, x27), (70, x25), (69, x23), (68, x21), (67, x20), (66, x20), (65, a10_), (50, x19), (64, x19), (63, x17), (62, x15), (61, x13), (60, x11), (59, x9), (58, x7), (57, x6), (56, x6), (55, x5), (54, x4), (53, x3), (52, a11_), (51, a1_), (47, x1), (46, x0), (45, a1_), (44, a11_)] [(1, a1_), (6, a6_), (9, a9_), (10, a10_), (11, a11_)], G34)) (
  bP (ias Q q 33 3 a6_ a11_) fun x36 =>
  bP (fa Q q 28 1 1 x36) fun x37 =>
  bP (ld Q q 3 x37 G34) fun x38 =>
  bS (bs Q q 22 1 (rep z3 1) 1 [(0, 0, 1)] [x38] G34) fun x39 G40 =>
  bS (ap Q q 22 22 1 8 a9_ x39 G40) fun x41 G42 =>
  bP (bn Q q .sub 3 (.tmp 84) (.const (.int .i64 1)) a10_ (.int .i64 1)) fun x43 =>
  J0 (xq q 163 τ [(10, x43), (85, x43), (84, a10_), (9, x41), (83, x41), (82, x39), (81, x38), (80, x37), (79, x36), (78, a11_), (77, a6_), (76, a9_), (75, x35), (74, x33), (73, x31), (72, x29), (71, x27), (70, x25), (69, x23), (68, x21), (67, x20), (66, x20), (65, a10_), (50, x19), (64, x19), (63, x17), (62, x15), (61, x13), (60, x11), (59, x9), (58, x7), (57, x6), (56, x6), (55, x5), (54, x4), (53, x3), (52, a11_), (51, a1_), (47, x1), (46, x0), (45, a1_), (44, a11_)] [(1, a1_), (6, a6_), (11, a11_)]) G42)) (
  bP (ias Q q 42 4 a1_ a11_) fun x44 =>
  bP (fa Q q 25 0 0 x44) fun x45 =>
  bP (ld Q q 3 x45 G18) fun x46 =>
  bP (bn Q q .eql 3 (.tmp 91) (.const (.int .i64 7)) x46 (.int .i64 7)) fun x47 =>
  ifV x47 (
  bP (bn Q q .neq 3 (.tmp 93) (.const (.int .i64 0)) a10_ (.int .i64 0)) fun x48 =>
  bS (gd x48 false (some (a6_, G18)) G18) fun x49 G50 =>
  bS (gd x48 false (some (a11_, G50)) G50) fun x51 G52 =>
  bS (gd x48 false (bP (ias Q q 33 3 x49 x51) fun y => some (y, G52)) G52) fun x53 G54 =>
  bS (gd x48 false (bP (fa Q q 28 0 0 x53) fun y => some (y, G54)) G54) fun x55 G56 =>
  bS (gd x48 false (bP (ld Q q 26 x55 G56) fun y => some (y, G56)) G56) fun x57 G58 =>
  bS (gd x48 false (bP (bn Q q .neq 26 (.tmp 100) (.const (.int .i64 7)) x57 (.int .i64 7)) fun y => some (y, G58)) G58) fun x59 G60 =>
  bP (pickV x48 (.bool true) x59) fun x61 =>
  ifV x61 (
  some (.ret, xq q 163 τ [(4, (.bool false)), (102, x61), (101, x59), (100, x57), (99, x55), (98, x53), (97, x51), (96, x49), (95, x48), (94, x48), (93, a10_), (86, x47), (92, x47), (91, x46), (90, x45), (89, x44), (88, a11_), (87, a1_), (50, x19), (64, x19), (63, x17), (62, x15), (61, x13), (60, x11), (59, x9), (58, x7), (57, x6), (56, x6), (55, x5), (54, x4), (53, x3), (52, a11_), (51, a1_), (47, x1), (46, x0), (45, a1_), (44, a11_)] [(1, a1_), (6, a6_), (9, a9_), (10, a10_), (11, a11_)], G60)) (
  J0 (xq q 163 τ [(102, x61), (101, x59), (100, x57), (99, x55), (98, x53), (97, x51), (96, x49), (95, x48), (94, x48), (93, a10_), (86, x47), (92, x47), (91, x46), (90, x45), (89, x44), (88, a11_), (87, a1_), (50, x19), (64, x19), (63, x17), (62, x15), (61, x13), (60, x11), (59, x9), (58, x7), (57, x6), (56, x6), (55, x5), (54, x4), (53, x3), (52, a11_), (51, a1_), (47, x1), (46, x0), (45, a1_), (44, a11_)] [(1, a1_), (6, a6_), (9, a9_), (10, a10_), (11, a11_)]) G60)) (
  bP (ias Q q 42 4 a1_ a11_) fun x62 =>
  bP (fa Q q 25 0 0 x62) fun x63 =>
  bP (ld Q q 3 x63 G18) fun x64 =>
  bP (bn Q q .eql 3 (.tmp 108) (.const (.int .i64 8)) x64 (.int .i64 8)) fun x65 =>
  bS (gd x65 true (some (a6_, G18)) G18) fun x66 G67 =>
  bS (gd x65 true (some (a11_, G67)) G67) fun x68 G69 =>
  bS (gd x65 true (bP (ias Q q 33 3 x66 x68) fun y => some (y, G69)) G69) fun x70 G71 =>
  bS (gd x65 true (bP (fa Q q 28 0 0 x70) fun y => some (y, G71)) G71) fun x72 G73 =>
  bS (gd x65 true (bP (ld Q q 26 x72 G73) fun y => some (y, G73)) G73) fun x74 G75 =>
  bS (gd x65 true (bP (bn Q q .eql 26 (.tmp 115) (.const (.int .i64 0)) x74 (.int .i64 0)) fun y => some (y, G75)) G75) fun x76 G77 =>
  bP (pickV x65 x76 (.bool false)) fun x78 =>
  ifV x78 (
  bLq q e 7 1 (subAt [1, 1, 1, 1, 1, 1, 1, 1, 0, 1, 0, 0, 1, 0, 0, 0, 1, 1, 1, 1, 1, 0, 1, 0, 1, 0, 0] (bodyOf Tryd.f7)) 163 τ [(13, (.int .i64 0)), (12, (.slice none 0 0)), (103, x78), (117, x78), (116, x76), (115, x74), (114, x72), (113, x70), (112, x68), (111, x66), (110, x65), (109, x65), (108, x64), (107, x63), (106, x62), (105, a11_), (104, a1_), (86, x47), (92, x47), (91, x46), (90, x45), (89, x44), (88, a11_), (87, a1_), (50, x19), (64, x19), (63, x17), (62, x15), (61, x13), (60, x11), (59, x9), (58, x7), (57, x6), (56, x6), (55, x5), (54, x4), (53, x3), (52, a11_), (51, a1_), (47, x1), (46, x0), (45, a1_), (44, a11_)] [] G77 fun e79 t80 G81 =>
  bV q (t80 1) fun t80x1_ =>
  bV q (t80 6) fun t80x6_ =>
  bV q (t80 10) fun t80x10_ =>
  bV q (t80 11) fun t80x11_ =>
  bV q (t80 12) fun t80x12_ =>
  ifE e79 (.exit 3) (
  bP (bn Q q .add 3 (.tmp 142) (.const (.int .i64 1)) t80x10_ (.int .i64 1)) fun x82 =>
  J0 (xq q 163 t80 [(10, x82), (143, x82), (142, t80x10_), (9, t80x12_), (141, t80x12_)] [(1, t80x1_), (6, t80x6_), (11, t80x11_)]) G81) (none)) (
  J0 (xq q 163 τ [(103, x78), (117, x78), (116, x76), (115, x74), (114, x72), (113, x70), (112, x68), (111, x66), (110, x65), (109, x65), (108, x64), (107, x63), (106, x62), (105, a11_), (104, a1_), (86, x47), (92, x47), (91, x46), (90, x45), (89, x44), (88, a11_), (87, a1_), (50, x19), (64, x19), (63, x17), (62, x15), (61, x13), (60, x11), (59, x9), (58, x7), (57, x6), (56, x6), (55, x5), (54, x4), (53, x3), (52, a11_), (51, a1_), (47, x1), (46, x0), (45, a1_), (44, a11_)] [(1, a1_), (6, a6_), (9, a9_), (10, a10_), (11, a11_)]) G77)))) (
  some ((.exit 0), xq q 163 τ [(47, x1), (46, x0), (45, a1_), (44, a11_)] [(1, a1_), (6, a6_), (9, a9_), (10, a10_), (11, a11_)], G))
noncomputable def b7_0 (q : Bool) (e : Ex) (lp : Env → GS → Option (Exit × Env × GS)) (τ : Env) (G : GS) : Option (Exit × Env × GS) := bb7_0 q e lp (jl7_0_0 q e lp) τ G
theorem mb7_0 {e : Ex} {E : Ev} (h : ExLe Q e E) {lp lp' : Env → GS → Option (Exit × Env × GS)} (hlp : LpLe lp lp') (τ : Env) (G : GS) : Ref (b7_0 true e lp τ G) (b7_0 false (Ex.of E) lp' τ G) := by
  unfold b7_0 bb7_0
  repeat' (with_reducible first | exact Ref.rfl' _ | exact ROp.r | refine Ref.bP ?_ fun _ => ?_ | refine Ref.bS ?_ fun _ _ => ?_ | exact Ref.cl (by assumption) | refine Ref.ifV ?_ ?_ | refine LpLe.rx (by assumption) ?_ | refine Ref.xitq ?_ | exact UOk.z | refine UOk.c (by assumption) ?_ | exact Ref.nil _ | refine Ref.bVe fun _ _ => ?_ | refine Ref.bLq (by assumption) ?_ fun _ _ _ => ?_ | refine Ref.ifE ?_ ?_ | refine Ref.chk ?_ ?_ | refine Imp.and ?_ ?_ | refine Imp.or ?_ | exact Imp.rfl' _ | refine Imp.sameO ?_ | refine Ref.gd ?_ | exact Ref.cValue (by assumption) | refine Ref.bX ?_ fun _ _ _ => ?_ | exact Ref.scQ (by assumption) | exact Ref.xRangeQ (by assumption) | exact Ref.cInvoke (by assumption) | refine mkjl7_0_0 (by assumption) (by assumption) ?_)
noncomputable def jtl7_0 (J0 : Env → GS → Option (Exit × Env × GS)) : JT (Exit × Env × GS) :=
  (.n none .e (.n (some (fun T G => J0 (nth undef T) G)) .e .e))
set_option maxHeartbeats 8000000 in
theorem jrl7_0_0 (orc : FuncId → Bool) (J0 : Env → GS → Option (Exit × Env × GS)) (T : List Value) (G : GS) : runC Q (evL Q orc) 163 (jtl7_0 J0) (subAt [1, 1, 1, 1, 1, 1, 1, 1, 0, 1, 0, 0] (bodyOf Tryd.f7)) (seqXE (fun τ G' => mapE ((E orc).lp (subAt [1, 1, 1, 1, 1, 1, 1, 1, 0, 1, 0, 0] (bodyOf Tryd.f7)) (lst 163 (nth undef (lst 163 τ))) G')) fun e τ G' => some (e, nth undef (lst 163 τ), G')) [true] (nth undef T) G = jbl7_0_0 false (Ex.of (E orc)) (fun τ G => mapE ((E orc).lp (subAt [1, 1, 1, 1, 1, 1, 1, 1, 0, 1, 0, 0] (bodyOf Tryd.f7)) (lst 163 τ) G))  (nth undef T) G := by kernel_rfl
set_option maxHeartbeats 8000000 in
theorem jol7_0 (orc : FuncId → Bool) : JOk Q orc 163 (jtl7_0 (jl7_0_0 false (Ex.of (E orc)) (fun τ G => mapE ((E orc).lp (subAt [1, 1, 1, 1, 1, 1, 1, 1, 0, 1, 0, 0] (bodyOf Tryd.f7)) (lst 163 τ) G))) ) (subAt [1, 1, 1, 1, 1, 1, 1, 1, 0, 1, 0, 0] (bodyOf Tryd.f7)) (seqXE (fun τ G' => mapE ((E orc).lp (subAt [1, 1, 1, 1, 1, 1, 1, 1, 0, 1, 0, 0] (bodyOf Tryd.f7)) (lst 163 (nth undef (lst 163 τ))) G')) fun e τ G' => some (e, nth undef (lst 163 τ), G')) :=
  jOk Q orc (l := [([true], (fun T G => jl7_0_0 false (Ex.of (E orc)) (fun τ G => mapE ((E orc).lp (subAt [1, 1, 1, 1, 1, 1, 1, 1, 0, 1, 0, 0] (bodyOf Tryd.f7)) (lst 163 τ) G)) (nth undef T) G))]) (by kernel_rfl) (AllE.c (fun T G => jrl7_0_0 orc (jl7_0_0 false (Ex.of (E orc)) (fun τ G => mapE ((E orc).lp (subAt [1, 1, 1, 1, 1, 1, 1, 1, 0, 1, 0, 0] (bodyOf Tryd.f7)) (lst 163 τ) G))) T G) (AllE.z))
set_option maxHeartbeats 8000000 in
theorem jel7_0 (orc : FuncId → Bool) (J0 : Env → GS → Option (Exit × Env × GS)) (T : List Value) (G : GS) : sxC Q (evL Q orc) 163 (jtl7_0 J0) (subAt [1, 1, 1, 1, 1, 1, 1, 1, 0, 1, 0, 0] (bodyOf Tryd.f7)) (nth undef T) G (seqXE (fun τ G' => mapE ((E orc).lp (subAt [1, 1, 1, 1, 1, 1, 1, 1, 0, 1, 0, 0] (bodyOf Tryd.f7)) (lst 163 (nth undef (lst 163 τ))) G')) fun e τ G' => some (e, nth undef (lst 163 τ), G')) = bb7_0 false (Ex.of (E orc)) (fun τ G => mapE ((E orc).lp (subAt [1, 1, 1, 1, 1, 1, 1, 1, 0, 1, 0, 0] (bodyOf Tryd.f7)) (lst 163 τ) G)) J0 (nth undef T) G := by kernel_rfl
set_option maxHeartbeats 8000000 in
theorem l7_0 {orc : FuncId → Bool} {e : Ex} (h : ExLe Q e (E orc)) (lp : Env → GS → Option (Exit × Env × GS)) (hlp : ∀ τ G, Ref (lp τ G) (mapE ((E orc).lp (subAt [1, 1, 1, 1, 1, 1, 1, 1, 0, 1, 0, 0] (bodyOf Tryd.f7)) (lst 163 τ) G))) (T : List Value) (G : GS) (hT : T.length = 163) : Ref (b7_0 true e lp (nth undef T) G) (mapE ((E orc).lp (subAt [1, 1, 1, 1, 1, 1, 1, 1, 0, 1, 0, 0] (bodyOf Tryd.f7)) T G)) :=
  fun r hr => lp_sxC Q orc G (jtl7_0 (jl7_0_0 false (Ex.of (E orc)) (fun τ G => mapE ((E orc).lp (subAt [1, 1, 1, 1, 1, 1, 1, 1, 0, 1, 0, 0] (bodyOf Tryd.f7)) (lst 163 τ) G))) ) hT (jol7_0 orc) (jel7_0 orc (jl7_0_0 false (Ex.of (E orc)) (fun τ G => mapE ((E orc).lp (subAt [1, 1, 1, 1, 1, 1, 1, 1, 0, 1, 0, 0] (bodyOf Tryd.f7)) (lst 163 τ) G))) T G) (mb7_0 h ⟨hlp⟩ _ _ r hr)
noncomputable def jbl7_1_0 (q : Bool) (e : Ex) (lp : Env → GS → Option (Exit × Env × GS)) (τ : Env) (G : GS) : Option (Exit × Env × GS) :=
  bV q (τ 1) fun a1_ =>
  bV q (τ 9) fun a9_ =>
  bV q (τ 11) fun a11_ =>
  bV q (τ 12) fun a12_ =>
  bV q (τ 13) fun a13_ =>
  bP (bn Q q .add 3 (.tmp 122) (.const (.int .i64 1)) a13_ (.int .i64 1)) fun x2 =>
  lp (xq q 163 τ [(13, x2), (123, x2), (122, a13_)] [(1, a1_), (9, a9_), (11, a11_), (12, a12_)]) G
noncomputable def jl7_1_0 (q : Bool) (e : Ex) (lp : Env → GS → Option (Exit × Env × GS)) (τ : Env) (G : GS) : Option (Exit × Env × GS) := jbl7_1_0 q e lp τ G
theorem mjl7_1_0 {e : Ex} {E : Ev} (h : ExLe Q e E) {lp lp' : Env → GS → Option (Exit × Env × GS)} (hlp : LpLe lp lp') (τ : Env) (G : GS) : Ref (jl7_1_0 true e lp τ G) (jl7_1_0 false (Ex.of E) lp' τ G) := by
  unfold jl7_1_0 jbl7_1_0
  exact Ref.gq
theorem mkjl7_1_0 {e : Ex} {E : Ev} (h : ExLe Q e E) {lp lp' : Env → GS → Option (Exit × Env × GS)} (hlp : LpLe lp lp') {τ : Env} {l U : List (Nat × Value)} {G : GS} (hU : UOk τ U) : Ref (jl7_1_0 true e lp (xq true 163 τ l U) G) (jl7_1_0 false (Ex.of E) lp' (xq false 163 τ l U) G) := by
  rw [xq_eq hU]
  exact mjl7_1_0 h hlp _ _
noncomputable def bb7_1 (q : Bool) (e : Ex) (lp : Env → GS → Option (Exit × Env × GS)) (J0 : Env → GS → Option (Exit × Env × GS)) (τ : Env) (G : GS) : Option (Exit × Env × GS) :=
  bV q (τ 1) fun a1_ =>
  bV q (τ 9) fun a9_ =>
  bV q (τ 11) fun a11_ =>
  bV q (τ 12) fun a12_ =>
  bV q (τ 13) fun a13_ =>
  bP (ln Q q 22 a9_) fun x0 =>
  bP (bn Q q .lss 3 (.tmp 118) (.tmp 120) a13_ x0) fun x1 =>
  ifV x1 (
  bP (ias Q q 22 1 a9_ a13_) fun x3 =>
  bP (ld Q q 3 x3 (G.room 10)) fun x4 =>
  bP (ias Q q 42 4 a1_ a11_) fun x5 =>
  bP (fa Q q 25 1 1 x5) fun x6 =>
  bP (ld Q q 3 x6 (G.room 10)) fun x7 =>
  bP (bn Q q .neq 3 (.tmp 127) (.tmp 132) x4 x7) fun x8 =>
  ifV x8 (
  bP (ias Q q 22 1 a9_ a13_) fun x9 =>
  bP (ld Q q 3 x9 (G.room 10)) fun x10 =>
  bS (bs Q q 22 1 (rep z3 1) 1 [(0, 0, 1)] [x10] (G.room 10)) fun x11 G12 =>
  bS (ap Q q 22 22 1 8 a12_ x11 G12) fun x13 G14 =>
  J0 (xq q 163 τ [(12, x13), (140, x13), (139, x11), (138, x10), (137, x9), (136, a13_), (135, a9_), (134, a12_), (133, x8), (132, x7), (131, x6), (130, x5), (129, a11_), (128, a1_), (127, x4), (126, x3), (125, a13_), (124, a9_), (121, x1), (120, x0), (119, a9_), (118, a13_)] [(1, a1_), (9, a9_), (11, a11_), (13, a13_)]) G14) (
  J0 (xq q 163 τ [(133, x8), (132, x7), (131, x6), (130, x5), (129, a11_), (128, a1_), (127, x4), (126, x3), (125, a13_), (124, a9_), (121, x1), (120, x0), (119, a9_), (118, a13_)] [(1, a1_), (9, a9_), (11, a11_), (12, a12_), (13, a13_)]) (G.room 10))) (
  some ((.exit 3), xq q 163 τ [(121, x1), (120, x0), (119, a9_), (118, a13_)] [(1, a1_), (9, a9_), (11, a11_), (12, a12_), (13, a13_)], G))
noncomputable def b7_1 (q : Bool) (e : Ex) (lp : Env → GS → Option (Exit × Env × GS)) (τ : Env) (G : GS) : Option (Exit × Env × GS) := bb7_1 q e lp (jl7_1_0 q e lp) τ G
theorem mb7_1 {e : Ex} {E : Ev} (h : ExLe Q e E) {lp lp' : Env → GS → Option (Exit × Env × GS)} (hlp : LpLe lp lp') (τ : Env) (G : GS) : Ref (b7_1 true e lp τ G) (b7_1 false (Ex.of E) lp' τ G) := by
  unfold b7_1 bb7_1
  repeat' (with_reducible first | exact Ref.rfl' _ | exact ROp.r | refine Ref.bP ?_ fun _ => ?_ | refine Ref.bS ?_ fun _ _ => ?_ | exact Ref.cl (by assumption) | refine Ref.ifV ?_ ?_ | refine LpLe.rx (by assumption) ?_ | refine Ref.xitq ?_ | exact UOk.z | refine UOk.c (by assumption) ?_ | exact Ref.nil _ | refine Ref.bVe fun _ _ => ?_ | refine Ref.bLq (by assumption) ?_ fun _ _ _ => ?_ | refine Ref.ifE ?_ ?_ | refine Ref.chk ?_ ?_ | refine Imp.and ?_ ?_ | refine Imp.or ?_ | exact Imp.rfl' _ | refine Imp.sameO ?_ | refine Ref.gd ?_ | exact Ref.cValue (by assumption) | refine Ref.bX ?_ fun _ _ _ => ?_ | exact Ref.scQ (by assumption) | exact Ref.xRangeQ (by assumption) | exact Ref.cInvoke (by assumption) | refine mkjl7_1_0 (by assumption) (by assumption) ?_)
noncomputable def jtl7_1 (J0 : Env → GS → Option (Exit × Env × GS)) : JT (Exit × Env × GS) :=
  (.n none .e (.n (some (fun T G => J0 (nth undef T) G)) .e .e))
set_option maxHeartbeats 8000000 in
theorem jrl7_1_0 (orc : FuncId → Bool) (J0 : Env → GS → Option (Exit × Env × GS)) (T : List Value) (G : GS) : runC Q (evL Q orc) 163 (jtl7_1 J0) (subAt [1, 1, 1, 1, 1, 1, 1, 1, 0, 1, 0, 0, 1, 0, 0, 0, 1, 1, 1, 1, 1, 0, 1, 0, 1, 0, 0] (bodyOf Tryd.f7)) (seqXE (fun τ G' => mapE ((E orc).lp (subAt [1, 1, 1, 1, 1, 1, 1, 1, 0, 1, 0, 0, 1, 0, 0, 0, 1, 1, 1, 1, 1, 0, 1, 0, 1, 0, 0] (bodyOf Tryd.f7)) (lst 163 (nth undef (lst 163 τ))) G')) fun e τ G' => some (e, nth undef (lst 163 τ), G')) [true] (nth undef T) G = jbl7_1_0 false (Ex.of (E orc)) (fun τ G => mapE ((E orc).lp (subAt [1, 1, 1, 1, 1, 1, 1, 1, 0, 1, 0, 0, 1, 0, 0, 0, 1, 1, 1, 1, 1, 0, 1, 0, 1, 0, 0] (bodyOf Tryd.f7)) (lst 163 τ) G))  (nth undef T) G := by kernel_rfl
set_option maxHeartbeats 8000000 in
theorem jol7_1 (orc : FuncId → Bool) : JOk Q orc 163 (jtl7_1 (jl7_1_0 false (Ex.of (E orc)) (fun τ G => mapE ((E orc).lp (subAt [1, 1, 1, 1, 1, 1, 1, 1, 0, 1, 0, 0, 1, 0, 0, 0, 1, 1, 1, 1, 1, 0, 1, 0, 1, 0, 0] (bodyOf Tryd.f7)) (lst 163 τ) G))) ) (subAt [1, 1, 1, 1, 1, 1, 1, 1, 0, 1, 0, 0, 1, 0, 0, 0, 1, 1, 1, 1, 1, 0, 1, 0, 1, 0, 0] (bodyOf Tryd.f7)) (seqXE (fun τ G' => mapE ((E orc).lp (subAt [1, 1, 1, 1, 1, 1, 1, 1, 0, 1, 0, 0, 1, 0, 0, 0, 1, 1, 1, 1, 1, 0, 1, 0, 1, 0, 0] (bodyOf Tryd.f7)) (lst 163 (nth undef (lst 163 τ))) G')) fun e τ G' => some (e, nth undef (lst 163 τ), G')) :=
  jOk Q orc (l := [([true], (fun T G => jl7_1_0 false (Ex.of (E orc)) (fun τ G => mapE ((E orc).lp (subAt [1, 1, 1, 1, 1, 1, 1, 1, 0, 1, 0, 0, 1, 0, 0, 0, 1, 1, 1, 1, 1, 0, 1, 0, 1, 0, 0] (bodyOf Tryd.f7)) (lst 163 τ) G)) (nth undef T) G))]) (by kernel_rfl) (AllE.c (fun T G => jrl7_1_0 orc (jl7_1_0 false (Ex.of (E orc)) (fun τ G => mapE ((E orc).lp (subAt [1, 1, 1, 1, 1, 1, 1, 1, 0, 1, 0, 0, 1, 0, 0, 0, 1, 1, 1, 1, 1, 0, 1, 0, 1, 0, 0] (bodyOf Tryd.f7)) (lst 163 τ) G))) T G) (AllE.z))
set_option maxHeartbeats 8000000 in
theorem jel7_1 (orc : FuncId → Bool) (J0 : Env → GS → Option (Exit × Env × GS)) (T : List Value) (G : GS) : sxC Q (evL Q orc) 163 (jtl7_1 J0) (subAt [1, 1, 1, 1, 1, 1, 1, 1, 0, 1, 0, 0, 1, 0, 0, 0, 1, 1, 1, 1, 1, 0, 1, 0, 1, 0, 0] (bodyOf Tryd.f7)) (nth undef T) G (seqXE (fun τ G' => mapE ((E orc).lp (subAt [1, 1, 1, 1, 1, 1, 1, 1, 0, 1, 0, 0, 1, 0, 0, 0, 1, 1, 1, 1, 1, 0, 1, 0, 1, 0, 0] (bodyOf Tryd.f7)) (lst 163 (nth undef (lst 163 τ))) G')) fun e τ G' => some (e, nth undef (lst 163 τ), G')) = bb7_1 false (Ex.of (E orc)) (fun τ G => mapE ((E orc).lp (subAt [1, 1, 1, 1, 1, 1, 1, 1, 0, 1, 0, 0, 1, 0, 0, 0, 1, 1, 1, 1, 1, 0, 1, 0, 1, 0, 0] (bodyOf Tryd.f7)) (lst 163 τ) G)) J0 (nth undef T) G := by kernel_rfl
set_option maxHeartbeats 8000000 in
theorem l7_1 {orc : FuncId → Bool} {e : Ex} (h : ExLe Q e (E orc)) (lp : Env → GS → Option (Exit × Env × GS)) (hlp : ∀ τ G, Ref (lp τ G) (mapE ((E orc).lp (subAt [1, 1, 1, 1, 1, 1, 1, 1, 0, 1, 0, 0, 1, 0, 0, 0, 1, 1, 1, 1, 1, 0, 1, 0, 1, 0, 0] (bodyOf Tryd.f7)) (lst 163 τ) G))) (T : List Value) (G : GS) (hT : T.length = 163) : Ref (b7_1 true e lp (nth undef T) G) (mapE ((E orc).lp (subAt [1, 1, 1, 1, 1, 1, 1, 1, 0, 1, 0, 0, 1, 0, 0, 0, 1, 1, 1, 1, 1, 0, 1, 0, 1, 0, 0] (bodyOf Tryd.f7)) T G)) :=
  fun r hr => lp_sxC Q orc G (jtl7_1 (jl7_1_0 false (Ex.of (E orc)) (fun τ G => mapE ((E orc).lp (subAt [1, 1, 1, 1, 1, 1, 1, 1, 0, 1, 0, 0, 1, 0, 0, 0, 1, 1, 1, 1, 1, 0, 1, 0, 1, 0, 0] (bodyOf Tryd.f7)) (lst 163 τ) G))) ) hT (jol7_1 orc) (jel7_1 orc (jl7_1_0 false (Ex.of (E orc)) (fun τ G => mapE ((E orc).lp (subAt [1, 1, 1, 1, 1, 1, 1, 1, 0, 1, 0, 0, 1, 0, 0, 0, 1, 1, 1, 1, 1, 0, 1, 0, 1, 0, 0] (bodyOf Tryd.f7)) (lst 163 τ) G))) T G) (mb7_1 h ⟨hlp⟩ _ _ r hr)
noncomputable def b7_2 (q : Bool) (e : Ex) (lp : Env → GS → Option (Exit × Env × GS)) (τ : Env) (G : GS) : Option (Exit × Env × GS) :=
  bV q (τ 7) fun a7_ =>
  bV q (τ 9) fun a9_ =>
  bV q (τ 14) fun a14_ =>
  bP (ln Q q 22 a9_) fun x0 =>
  bP (bn Q q .lss 3 (.tmp 144) (.tmp 146) a14_ x0) fun x1 =>
  ifV x1 (
  bP (ias Q q 22 1 a9_ a14_) fun x2 =>
  bP (ld Q q 3 x2 G) fun x3 =>
  bS (e.ev.cl 31 [a7_, x3] G) fun x4 G5 =>
  ifV x4 (
  some (.ret, xq q 163 τ [(4, (.bool false)), (155, x4), (154, x3), (153, x2), (152, a14_), (151, a9_), (150, a7_), (147, x1), (146, x0), (145, a9_), (144, a14_)] [(7, a7_), (9, a9_), (14, a14_)], G5)) (
  bP (bn Q q .add 3 (.tmp 148) (.const (.int .i64 1)) a14_ (.int .i64 1)) fun x6 =>
  lp (xq q 163 τ [(14, x6), (149, x6), (148, a14_), (155, x4), (154, x3), (153, x2), (152, a14_), (151, a9_), (150, a7_), (147, x1), (146, x0), (145, a9_), (144, a14_)] [(7, a7_), (9, a9_)]) G5)) (
  some ((.exit 5), xq q 163 τ [(147, x1), (146, x0), (145, a9_), (144, a14_)] [(7, a7_), (9, a9_), (14, a14_)], G))
theorem mb7_2 {e : Ex} {E : Ev} (h : ExLe Q e E) {lp lp' : Env → GS → Option (Exit × Env × GS)} (hlp : LpLe lp lp') (τ : Env) (G : GS) : Ref (b7_2 true e lp τ G) (b7_2 false (Ex.of E) lp' τ G) := by
  unfold b7_2
  exact Ref.gq
set_option maxHeartbeats 8000000 in
theorem l7_2 {orc : FuncId → Bool} {e : Ex} (h : ExLe Q e (E orc)) (lp : Env → GS → Option (Exit × Env × GS)) (hlp : ∀ τ G, Ref (lp τ G) (mapE ((E orc).lp (subAt [1, 1, 1, 1, 1, 1, 1, 1, 1, 0, 1, 0, 0] (bodyOf Tryd.f7)) (lst 163 τ) G))) (T : List Value) (G : GS) (hT : T.length = 163) : Ref (b7_2 true e lp (nth undef T) G) (mapE ((E orc).lp (subAt [1, 1, 1, 1, 1, 1, 1, 1, 1, 0, 1, 0, 0] (bodyOf Tryd.f7)) T G)) :=
  fun r hr => lp_sxN Q orc G hT (by kernel_rfl) (mb7_2 h ⟨hlp⟩ _ _ r hr)
/-- coxswain/coxswainlaw08.PoolGives -/
noncomputable def s7 (q : Bool) (e : Ex) (v0 v1 : Value) (G : GS) : Option (Value × GS) :=
  bS (e.ev.cl 5 [] G) fun x0 G1 =>
  bP (ln Q q 42 v1) fun x2 =>
  bP (bn Q q .gtr 3 (.tmp 17) (.const (.int .i64 60)) x2 (.int .i64 60)) fun x3 =>
  ifV x3 (
  some (x0, G1)) (
  bS (e.ev.cl 32 [v0, (.int .i64 21)] G1) fun x4 G5 =>
  bS (e.ev.cl 23 [x4, v1] G5) fun x6 G7 =>
  bP (pExtract x6 0) fun x8 =>
  bP (pExtract x6 1) fun x9 =>
  bP (pExtract x6 2) fun x10 =>
  bP (bn Q q .neq 26 (.tmp 29) (.const (.int .i64 0)) x10 (.int .i64 0)) fun x11 =>
  bS (gd x11 false (some (x8, G7)) G7) fun x12 G13 =>
  bS (gd x11 false (bP (ln Q q 33 x12) fun y => some (y, G13)) G13) fun x14 G15 =>
  bS (gd x11 false (some (v1, G15)) G15) fun x16 G17 =>
  bS (gd x11 false (bP (ln Q q 42 x16) fun y => some (y, G17)) G17) fun x18 G19 =>
  bS (gd x11 false (bP (bn Q q .neq 3 (.tmp 33) (.tmp 35) x14 x18) fun y => some (y, G19)) G19) fun x20 G21 =>
  bP (pickV x11 (.bool true) x20) fun x22 =>
  bS (gd x22 false (some (x9, G21)) G21) fun x23 G24 =>
  bS (gd x22 false (bS (e.ev.cl 18 [x23] G24) fun y G => some (y, G)) G24) fun x25 G26 =>
  bS (gd x22 false (bP (bn Q q .neq 26 (.tmp 40) (.const (.int .i64 0)) x25 (.int .i64 0)) fun y => some (y, G26)) G26) fun x27 G28 =>
  bP (pickV x22 (.bool true) x27) fun x29 =>
  ifV x29 (
  some ((.bool false), G28)) (
  bLq q e 7 0 (subAt [1, 1, 1, 1, 1, 1, 1, 1, 0, 1, 0, 0] (bodyOf Tryd.f7)) 163 (nth undef [v0, v1]) [(11, (.int .i64 0)), (10, x4), (43, x4), (9, (.slice none 0 0)), (42, x29), (41, x27), (40, x25), (39, x23), (38, x22), (37, x22), (36, x20), (35, x18), (34, x16), (33, x14), (32, x12), (31, x11), (30, x11), (29, x10), (8, x10), (7, x9), (6, x8), (28, x10), (27, x9), (26, x8), (22, x6), (25, x6), (24, v1), (23, x4), (0, x4), (21, x4), (20, v0), (18, x3), (17, x2), (16, v1), (5, x0), (15, x0), (4, (.bool false))] [] G28 fun e30 t31 G32 =>
  bV q (t31 4) fun t31x4_ =>
  ifE e30 (.exit 0) (
  bLq q e 7 2 (subAt [1, 1, 1, 1, 1, 1, 1, 1, 1, 0, 1, 0, 0] (bodyOf Tryd.f7)) 163 t31 [(14, (.int .i64 0))] [] G32 fun e33 t34 G35 =>
  bV q (t34 4) fun t34x4_ =>
  bV q (t34 5) fun t34x5_ =>
  bV q (t34 7) fun t34x7_ =>
  bV q (t34 10) fun t34x10_ =>
  ifE e33 (.exit 5) (
  bS (gd t34x5_ true (some (t34x7_, G35)) G35) fun x36 G37 =>
  bS (gd t34x5_ true (bP (ln Q q 22 x36) fun y => some (y, G37)) G37) fun x38 G39 =>
  bS (gd t34x5_ true (some (t34x10_, G39)) G39) fun x40 G41 =>
  bS (gd t34x5_ true (bP (bn Q q .eql 3 (.tmp 159) (.tmp 160) x38 x40) fun y => some (y, G41)) G41) fun x42 G43 =>
  bP (pickV t34x5_ x42 (.bool false)) fun x44 =>
  some (x44, G43)) (ifE e33 .ret (
  some (t34x4_, G35)) (none))) (ifE e30 .ret (
  some (t31x4_, G32)) (none))))
theorem m7 {e : Ex} {E : Ev} (h : ExLe Q e E) (v0 v1 : Value) (G : GS) : Ref (s7 true e v0 v1 G) (s7 false (Ex.of E) v0 v1 G) := by
  unfold s7
  exact Ref.gq
set_option maxHeartbeats 8000000 in
theorem f7 {orc : FuncId → Bool} {e : Ex} (h : ExLe Q e (E orc)) (v0 v1 : Value) (G : GS) : Ref (s7 true e v0 v1 G) ((E orc).cl 7 [v0, v1] G) :=
  fun r hr => cl_sxE_some Q orc (vs := [v0, v1]) G Tryd.func7 (by kernel_rfl) (by kernel_rfl) (by kernel_rfl) (by kernel_rfl) (by kernel_rfl) (by kernel_rfl) (m7 h v0 v1 G r hr)
/-- coxswain/coxswainlaw08.awake -/
noncomputable def s8 (q : Bool) (e : Ex) (G : GS) : Option (Value × GS) :=
  bS (e.ev.cl 27 [] G) fun x0 G1 =>
  bS (bs Q q 22 2 (rep z3 2) 1 [(0, 0, 1), (1, 1, 1)] [(.int .i64 1), (.int .i64 5)] G1) fun x2 G3 =>
  bS (e.ev.cl 26 [x0, (.int .i64 0), (.int .i64 4), (.bool true), x2] G3) fun x4 G5 =>
  bS (gd x4 true (bS (e.ev.cl 27 [] G5) fun y G => some (y, G)) G5) fun x6 G7 =>
  bS (gd x4 true (bS (e.ev.cl 26 [x6, (.int .i64 0), (.int .i64 2), (.bool false), (.slice none 0 0)] G7) fun y G => some (y, G)) G7) fun x8 G9 =>
  bP (pickV x4 x8 (.bool false)) fun x10 =>
  bS (gd x10 true (bS (e.ev.cl 28 [(.int .i64 2)] G9) fun y G => some (y, G)) G9) fun x11 G12 =>
  bS (gd x10 true (bS (bs Q q 22 4 (rep z3 4) 1 [(0, 0, 1), (1, 1, 1), (2, 2, 1), (3, 3, 1)] [(.int .i64 1), (.int .i64 2), (.int .i64 4), (.int .i64 5)] G12) fun y G => some (y, G)) G12) fun x13 G14 =>
  bS (gd x10 true (bS (e.ev.cl 26 [x11, (.int .i64 0), (.int .i64 0), (.bool true), x13] G14) fun y G => some (y, G)) G14) fun x15 G16 =>
  bP (pickV x10 x15 (.bool false)) fun x17 =>
  bS (gd x17 true (bS (e.ev.cl 28 [(.int .i64 1024)] G16) fun y G => some (y, G)) G16) fun x18 G19 =>
  bS (gd x17 true (bS (e.ev.cl 29 [x18, (.int .i64 3)] G19) fun y G => some (y, G)) G19) fun x20 G21 =>
  bP (pickV x17 x20 (.bool false)) fun x22 =>
  bS (gd x22 true (bS (bs Q q 22 3 (rep z3 3) 1 [(0, 0, 1), (1, 1, 1), (2, 2, 1)] [(.int .i64 1), (.int .i64 4), (.int .i64 5)] G21) fun y G => some (y, G)) G21) fun x23 G24 =>
  bS (gd x22 true (bS (e.ev.cl 14 [x23, (.int .i64 6)] G24) fun y G => some (y, G)) G24) fun x25 G26 =>
  bS (gd x22 true (bS (bs Q q 22 3 (rep z3 3) 1 [(0, 0, 1), (1, 1, 1), (2, 2, 1)] [(.int .i64 0), (.int .i64 2), (.int .i64 3)] G26) fun y G => some (y, G)) G26) fun x27 G28 =>
  bS (gd x22 true (bS (e.ev.cl 16 [x25, x27] G28) fun y G => some (y, G)) G28) fun x29 G30 =>
  bP (pickV x22 x29 (.bool false)) fun x31 =>
  bS (gd x31 true (bS (bs Q q 22 2 (rep z3 2) 1 [(0, 0, 1), (1, 1, 1)] [(.int .i64 4), (.int .i64 1)] G30) fun y G => some (y, G)) G30) fun x32 G33 =>
  bS (gd x31 true (bS (e.ev.cl 18 [x32] G33) fun y G => some (y, G)) G33) fun x34 G35 =>
  bS (gd x31 true (bP (bn Q q .eql 26 (.tmp 25) (.const (.int .i64 9)) x34 (.int .i64 9)) fun y => some (y, G35)) G35) fun x36 G37 =>
  bP (pickV x31 x36 (.bool false)) fun x38 =>
  some (x38, G37)
theorem m8 {e : Ex} {E : Ev} (h : ExLe Q e E) (G : GS) : Ref (s8 true e  G) (s8 false (Ex.of E)  G) := by
  unfold s8
  exact Ref.gq
theorem f8 {orc : FuncId → Bool} {e : Ex} (h : ExLe Q e (E orc)) (ho : orc 8 = false) (G : GS) : Ref (s8 true e  G) ((E orc).cl 8 [] G) :=
  fun r hr => cl_sxE_some Q orc (vs := []) G Tryd.func8 (by kernel_rfl) (by kernel_rfl) ho (by kernel_rfl) (by kernel_rfl) (by kernel_rfl) (m8 h  G r hr)
/-- coxswain/coxswainkit.CopyInts -/
noncomputable def s9 (q : Bool) (e : Ex) (v0 : Value) (G : GS) : Option (Value × GS) :=
  bS (bs Q q 22 0 (rep z3 0) 1 [] [] G) fun x0 G1 =>
  bS (ap Q q 22 22 1 8 x0 v0 G1) fun x2 G3 =>
  some (x2, G3)
theorem m9 {e : Ex} {E : Ev} (h : ExLe Q e E) (v0 : Value) (G : GS) : Ref (s9 true e v0 G) (s9 false (Ex.of E) v0 G) := by
  unfold s9
  exact Ref.gq
theorem f9 {orc : FuncId → Bool} {e : Ex} (h : ExLe Q e (E orc)) (v0 : Value) (G : GS) : Ref (s9 true e v0 G) ((E orc).cl 9 [v0] G) :=
  fun r hr => cl_sxE_some Q orc (vs := [v0]) G Tryd.func9 (by kernel_rfl) (by kernel_rfl) (by kernel_rfl) (by kernel_rfl) (by kernel_rfl) (by kernel_rfl) (m9 h v0 G r hr)
noncomputable def jb10_0 (q : Bool) (e : Ex) (τ : Env) (G : GS) : Option (Value × GS) :=
  bV q (τ 8) fun a8_ =>
  bP (lda Q q 57 16 a8_ G) fun x12 =>
  bS (e.ev.cl 38 [x12, (.int .i64 1024)] G) fun x13 G14 =>
  some (.tuple #[x13, (.bool true)], G14)
noncomputable def j10_0 (q : Bool) (e : Ex) (τ : Env) (G : GS) : Option (Value × GS) := jb10_0 q e τ G
theorem mj10_0 {e : Ex} {E : Ev} (h : ExLe Q e E) (τ : Env) (G : GS) : Ref (j10_0 true e τ G) (j10_0 false (Ex.of E) τ G) := by
  unfold j10_0 jb10_0
  exact Ref.gq
theorem mkj10_0 {e : Ex} {E : Ev} (h : ExLe Q e E) {τ : Env} {l U : List (Nat × Value)} {G : GS} (hU : UOk τ U) : Ref (j10_0 true e (xq true 72 τ l U) G) (j10_0 false (Ex.of E) (xq false 72 τ l U) G) := by
  rw [xq_eq hU]
  exact mj10_0 h _ _
noncomputable def sb10 (q : Bool) (e : Ex) (J0 : Env → GS → Option (Value × GS)) (v0 v1 v2 : Value) (G : GS) : Option (Value × GS) :=
  bS (bx q v1 G) fun x0 G1 =>
  bS (bx q v2 G1) fun x2 G3 =>
  bS (e.ev.cl 18 [v0] G3) fun x4 G5 =>
  bP (bn Q q .neq 26 (.tmp 14) (.const (.int .i64 0)) x4 (.int .i64 0)) fun x6 =>
  ifV x6 (
  some (.tuple #[(.slice none 0 0), (.bool false)], G5)) (
  bS (e.ev.cl 33 [v0] G5) fun x7 G8 =>
  bS (al Q q 57 z57 G8) fun x9 G10 =>
  bP (st Q q 57 16 x9 x7 G10) fun G11 =>
  bP (fa Q q 25 0 0 x0) fun x15 =>
  bP (ld Q q 3 x15 G11) fun x16 =>
  bP (bn Q q .eql 3 (.tmp 19) (.const (.int .i64 8)) x16 (.int .i64 8)) fun x17 =>
  ifV x17 (
  bP (lda Q q 57 16 x9 G11) fun x18 =>
  bP (fa Q q 25 1 1 x0) fun x19 =>
  bP (ld Q q 3 x19 G11) fun x20 =>
  bS (e.ev.cl 34 [x18, x20] G11) fun x21 G22 =>
  bP (pExtract x21 0) fun x23 =>
  bP (pExtract x21 1) fun x24 =>
  bS (al Q q 28 z28 G22) fun x25 G26 =>
  bS (al Q q 57 z57 G26) fun x27 G28 =>
  bP (st Q q 28 3 x25 x23 G28) fun G29 =>
  bP (st Q q 57 16 x27 x24 G29) fun G30 =>
  bP (lda Q q 28 3 x25 G30) fun x31 =>
  bP (lda Q q 28 3 x2 G30) fun x32 =>
  bP (bn Q q .neq 28 (.tmp 29) (.tmp 30) x31 x32) fun x33 =>
  ifV x33 (
  some (.tuple #[(.slice none 0 0), (.bool false)], G30)) (
  bP (lda Q q 57 16 x27 G30) fun x34 =>
  bP (st Q q 57 16 x9 x34 G30) fun G35 =>
  J0 (xq q 72 (nth undef [v0, v1, v2]) [(32, x34), (31, x33), (30, x32), (29, x31), (10, x27), (9, x25), (28, x24), (27, x23), (22, x21), (26, x21), (25, x20), (24, x19), (23, x18), (20, x17), (21, x17), (19, x16), (18, x15), (8, x9), (17, x7), (16, v0), (15, x6), (14, x4), (13, v0), (7, (.bool false)), (6, (.slice none 0 0)), (5, x2), (4, x0)] []) G35)) (
  bP (bn Q q .eql 3 (.tmp 19) (.const (.int .i64 7)) x16 (.int .i64 7)) fun x36 =>
  ifV x36 (
  bP (lda Q q 28 3 x2 G11) fun x37 =>
  bP (bd Q q 28 z28 [(0, 0, 1)] [(.int .i64 7)]) fun x38 =>
  bP (bn Q q .eql 28 (.tmp 35) (.tmp 36) x37 x38) fun x39 =>
  bS (gd x39 false (bP (lda Q q 28 3 x2 G11) fun y => some (y, G11)) G11) fun x40 G41 =>
  bS (gd x39 false (bP (bd Q q 28 z28 [(0, 0, 1)] [(.int .i64 12)]) fun y => some (y, G41)) G41) fun x42 G43 =>
  bS (gd x39 false (bP (bn Q q .eql 28 (.tmp 39) (.tmp 40) x40 x42) fun y => some (y, G43)) G43) fun x44 G45 =>
  bP (pickV x39 (.bool true) x44) fun x46 =>
  bP (fa Q q 28 1 1 x2) fun x47 =>
  bP (ld Q q 3 x47 G45) fun x48 =>
  bS (e.ev.cl 35 [x48] G45) fun x49 G50 =>
  bS (gd x49 true (bP (lda Q q 28 3 x2 G50) fun y => some (y, G50)) G50) fun x51 G52 =>
  bS (gd x49 true (bP (fa Q q 28 1 1 x2) fun y => some (y, G52)) G52) fun x53 G54 =>
  bS (gd x49 true (bP (ld Q q 3 x53 G54) fun y => some (y, G54)) G54) fun x55 G56 =>
  bS (gd x49 true (bP (bd Q q 28 z28 [(1, 1, 1)] [x55]) fun y => some (y, G56)) G56) fun x57 G58 =>
  bS (gd x49 true (bP (bn Q q .eql 28 (.tmp 47) (.tmp 50) x51 x57) fun y => some (y, G58)) G58) fun x59 G60 =>
  bP (pickV x49 x59 (.bool false)) fun x61 =>
  bS (gd x61 true (bP (lda Q q 57 16 x9 G60) fun y => some (y, G60)) G60) fun x62 G63 =>
  bS (gd x61 true (bP (fa Q q 28 1 1 x2) fun y => some (y, G63)) G63) fun x64 G65 =>
  bS (gd x61 true (bP (ld Q q 3 x64 G65) fun y => some (y, G65)) G65) fun x66 G67 =>
  bS (gd x61 true (bS (e.ev.cl 36 [x62, x66] G67) fun y G => some (y, G)) G67) fun x68 G69 =>
  bP (pickV x61 x68 (.bool false)) fun x70 =>
  bP (un Q q .not x46) fun x71 =>
  bS (gd x71 true (some (x70, G69)) G69) fun x72 G73 =>
  bS (gd x71 true (bP (un Q q .not x72) fun y => some (y, G73)) G73) fun x74 G75 =>
  bP (pickV x71 x74 (.bool false)) fun x76 =>
  ifV x76 (
  some (.tuple #[(.slice none 0 0), (.bool false)], G75)) (
  ifV x70 (
  bP (lda Q q 57 16 x9 G75) fun x77 =>
  bP (fa Q q 28 1 1 x2) fun x78 =>
  bP (ld Q q 3 x78 G75) fun x79 =>
  bS (e.ev.cl 37 [x77, x79] G75) fun x80 G81 =>
  bP (st Q q 57 16 x9 x80 G81) fun G82 =>
  J0 (xq q 72 (nth undef [v0, v1, v2]) [(69, x80), (68, x79), (67, x78), (66, x77), (65, x70), (64, x76), (63, x74), (62, x72), (61, x71), (60, x71), (59, x46), (12, x70), (58, x70), (57, x68), (56, x66), (55, x64), (54, x62), (53, x61), (52, x61), (51, x59), (50, x57), (49, x55), (48, x53), (47, x51), (46, x49), (45, x49), (44, x48), (43, x47), (11, x46), (42, x46), (41, x44), (40, x42), (39, x40), (38, x39), (37, x39), (36, x38), (35, x37), (33, x36), (34, x36), (20, x17), (21, x17), (19, x16), (18, x15), (8, x9), (17, x7), (16, v0), (15, x6), (14, x4), (13, v0), (7, (.bool false)), (6, (.slice none 0 0)), (5, x2), (4, x0)] []) G82) (
  J0 (xq q 72 (nth undef [v0, v1, v2]) [(65, x70), (64, x76), (63, x74), (62, x72), (61, x71), (60, x71), (59, x46), (12, x70), (58, x70), (57, x68), (56, x66), (55, x64), (54, x62), (53, x61), (52, x61), (51, x59), (50, x57), (49, x55), (48, x53), (47, x51), (46, x49), (45, x49), (44, x48), (43, x47), (11, x46), (42, x46), (41, x44), (40, x42), (39, x40), (38, x39), (37, x39), (36, x38), (35, x37), (33, x36), (34, x36), (20, x17), (21, x17), (19, x16), (18, x15), (8, x9), (17, x7), (16, v0), (15, x6), (14, x4), (13, v0), (7, (.bool false)), (6, (.slice none 0 0)), (5, x2), (4, x0)] []) G75))) (
  some (.tuple #[(.slice none 0 0), (.bool false)], G11))))
/-- coxswain/pool.Next -/
noncomputable def s10 (q : Bool) (e : Ex) (v0 v1 v2 : Value) (G : GS) : Option (Value × GS) := sb10 q e (j10_0 q e) v0 v1 v2 G
theorem m10 {e : Ex} {E : Ev} (h : ExLe Q e E) (v0 v1 v2 : Value) (G : GS) : Ref (s10 true e v0 v1 v2 G) (s10 false (Ex.of E) v0 v1 v2 G) := by
  unfold s10 sb10
  repeat' (with_reducible first | exact Ref.rfl' _ | exact ROp.r | refine Ref.bP ?_ fun _ => ?_ | refine Ref.bS ?_ fun _ _ => ?_ | exact Ref.cl (by assumption) | refine Ref.ifV ?_ ?_ | refine LpLe.rx (by assumption) ?_ | refine Ref.xitq ?_ | exact UOk.z | refine UOk.c (by assumption) ?_ | exact Ref.nil _ | refine Ref.bVe fun _ _ => ?_ | refine Ref.bLq (by assumption) ?_ fun _ _ _ => ?_ | refine Ref.ifE ?_ ?_ | refine Ref.chk ?_ ?_ | refine Imp.and ?_ ?_ | refine Imp.or ?_ | exact Imp.rfl' _ | refine Imp.sameO ?_ | refine Ref.gd ?_ | exact Ref.cValue (by assumption) | refine Ref.bX ?_ fun _ _ _ => ?_ | exact Ref.scQ (by assumption) | exact Ref.xRangeQ (by assumption) | exact Ref.cInvoke (by assumption) | refine mkj10_0 (by assumption) ?_)
noncomputable def jt10 (J0 : Env → GS → Option (Value × GS)) : JT (Value × GS) :=
  (.n none .e (.n none .e (.n none .e (.n (some (fun T G => J0 (nth undef T) G)) .e .e))))
theorem jr10_0 (orc : FuncId → Bool) (J0 : Env → GS → Option (Value × GS)) (T : List Value) (G : GS) : runC Q (evL Q orc) Tryd.f10.ntmps (jt10 J0) (bodyOf Tryd.f10) (retE Q Tryd.f10.results.toList) [true, true, true] (nth undef T) G = jb10_0 false (Ex.of (E orc))  (nth undef T) G := by kernel_rfl
theorem jo10 (orc : FuncId → Bool) : JOk Q orc Tryd.f10.ntmps (jt10 (j10_0 false (Ex.of (E orc))) ) (bodyOf Tryd.f10) (retE Q Tryd.f10.results.toList) :=
  jOk Q orc (l := [([true, true, true], (fun T G => j10_0 false (Ex.of (E orc)) (nth undef T) G))]) (by kernel_rfl) (AllE.c (fun T G => jr10_0 orc (j10_0 false (Ex.of (E orc))) T G) (AllE.z))
theorem je10 (orc : FuncId → Bool) (J0 : Env → GS → Option (Value × GS)) (v0 v1 v2 : Value) (G : GS) : sxC Q (evL Q orc) Tryd.f10.ntmps (jt10 J0) (bodyOf Tryd.f10) (nth undef [v0, v1, v2]) G (retE Q Tryd.f10.results.toList) = sb10 false (Ex.of (E orc)) J0 v0 v1 v2 G := by kernel_rfl
theorem f10 {orc : FuncId → Bool} {e : Ex} (h : ExLe Q e (E orc)) (v0 v1 v2 : Value) (G : GS) : Ref (s10 true e v0 v1 v2 G) ((E orc).cl 10 [v0, v1, v2] G) :=
  fun r hr => cl_sxC Q orc (vs := [v0, v1, v2]) G (jt10 (j10_0 false (Ex.of (E orc))) ) Tryd.func10 (by kernel_rfl) (by kernel_rfl) (by kernel_rfl) (by kernel_rfl) (by kernel_rfl) (jo10 orc) (je10 orc (j10_0 false (Ex.of (E orc))) v0 v1 v2 G) (m10 h v0 v1 v2 G r hr)
noncomputable def b11_0 (q : Bool) (e : Ex) (lp : Env → GS → Option (Exit × Env × GS)) (τ : Env) (G : GS) : Option (Exit × Env × GS) :=
  bV q (τ 0) fun a0_ =>
  bV q (τ 4) fun a4_ =>
  bV q (τ 5) fun a5_ =>
  bV q (τ 8) fun a8_ =>
  bV q (τ 9) fun a9_ =>
  bP (ln Q q 33 a8_) fun x0 =>
  bP (bn Q q .lss 3 (.tmp 13) (.tmp 15) a9_ x0) fun x1 =>
  ifV x1 (
  bP (ias Q q 33 3 a8_ a9_) fun x2 =>
  bP (lda Q q 28 3 x2 (G.room 6)) fun x3 =>
  bP (lda Q q 28 3 a5_ (G.room 6)) fun x4 =>
  bP (bn Q q .eql 28 (.tmp 22) (.tmp 23) x3 x4) fun x5 =>
  ifV x5 (
  bP (lda Q q 25 4 a4_ (G.room 6)) fun x6 =>
  bP (lda Q q 28 3 a5_ (G.room 6)) fun x7 =>
  bS (e.ev.cl 39 [a0_, x6, x7] (G.room 6)) fun x8 G9 =>
  some (.ret, xq q 29 τ [(7, (.bool true)), (6, x8), (28, x8), (27, x7), (26, x6), (25, a0_), (24, x5), (23, x4), (22, x3), (21, x2), (20, a9_), (19, a8_), (16, x1), (15, x0), (14, a8_), (13, a9_)] [(0, a0_), (4, a4_), (5, a5_), (8, a8_), (9, a9_)], G9)) (
  bP (bn Q q .add 3 (.tmp 17) (.const (.int .i64 1)) a9_ (.int .i64 1)) fun x10 =>
  lp (xq q 29 τ [(9, x10), (18, x10), (17, a9_), (24, x5), (23, x4), (22, x3), (21, x2), (20, a9_), (19, a8_), (16, x1), (15, x0), (14, a8_), (13, a9_)] [(0, a0_), (4, a4_), (5, a5_), (8, a8_)]) (G.room 6))) (
  some ((.exit 0), xq q 29 τ [(16, x1), (15, x0), (14, a8_), (13, a9_)] [(0, a0_), (4, a4_), (5, a5_), (8, a8_), (9, a9_)], G))
theorem mb11_0 {e : Ex} {E : Ev} (h : ExLe Q e E) {lp lp' : Env → GS → Option (Exit × Env × GS)} (hlp : LpLe lp lp') (τ : Env) (G : GS) : Ref (b11_0 true e lp τ G) (b11_0 false (Ex.of E) lp' τ G) := by
  unfold b11_0
  exact Ref.gq
theorem l11_0 {orc : FuncId → Bool} {e : Ex} (h : ExLe Q e (E orc)) (lp : Env → GS → Option (Exit × Env × GS)) (hlp : ∀ τ G, Ref (lp τ G) (mapE ((E orc).lp (subAt [1, 1, 0, 1, 0, 0] (bodyOf Tryd.f11)) (lst 29 τ) G))) (T : List Value) (G : GS) (hT : T.length = 29) : Ref (b11_0 true e lp (nth undef T) G) (mapE ((E orc).lp (subAt [1, 1, 0, 1, 0, 0] (bodyOf Tryd.f11)) T G)) :=
  fun r hr => lp_sxN Q orc G hT (by kernel_rfl) (mb11_0 h ⟨hlp⟩ _ _ r hr)
/-- coxswain/coxswainref08.Next -/
noncomputable def s11 (q : Bool) (e : Ex) (v0 v1 v2 : Value) (G : GS) : Option (Value × GS) :=
  bS (bx q v1 G) fun x0 G1 =>
  bS (bx q v2 G1) fun x2 G3 =>
  bP (lda Q q 25 4 x0 G3) fun x4 =>
  bS (e.ev.cl 13 [v0, x4] G3) fun x5 G6 =>
  bLq q e 11 0 (subAt [1, 1, 0, 1, 0, 0] (bodyOf Tryd.f11)) 29 (nth undef [v0, v1, v2]) [(9, (.int .i64 0)), (8, x5), (12, x5), (11, x4), (10, v0), (7, (.bool false)), (6, (.slice none 0 0)), (5, x2), (4, x0)] [] G6 fun e7 t8 G9 =>
  bV q (t8 6) fun t8x6_ =>
  bV q (t8 7) fun t8x7_ =>
  ifE e7 (.exit 0) (
  some (.tuple #[(.slice none 0 0), (.bool false)], G9)) (ifE e7 .ret (
  some (.tuple #[t8x6_, t8x7_], G9)) (none))
theorem m11 {e : Ex} {E : Ev} (h : ExLe Q e E) (v0 v1 v2 : Value) (G : GS) : Ref (s11 true e v0 v1 v2 G) (s11 false (Ex.of E) v0 v1 v2 G) := by
  unfold s11
  exact Ref.gq
theorem f11 {orc : FuncId → Bool} {e : Ex} (h : ExLe Q e (E orc)) (v0 v1 v2 : Value) (G : GS) : Ref (s11 true e v0 v1 v2 G) ((E orc).cl 11 [v0, v1, v2] G) :=
  fun r hr => cl_sxE_some Q orc (vs := [v0, v1, v2]) G Tryd.func11 (by kernel_rfl) (by kernel_rfl) (by kernel_rfl) (by kernel_rfl) (by kernel_rfl) (by kernel_rfl) (m11 h v0 v1 v2 G r hr)
/-- coxswain/pool.All -/
noncomputable def s12 (q : Bool) (e : Ex) (v0 v1 : Value) (G : GS) : Option (Value × GS) :=
  bS (bx q v1 G) fun x0 G1 =>
  bS (e.ev.cl 18 [v0] G1) fun x2 G3 =>
  bP (bn Q q .neq 26 (.tmp 10) (.const (.int .i64 0)) x2 (.int .i64 0)) fun x4 =>
  ifV x4 (
  some ((.slice none 0 0), G3)) (
  bS (al Q q 33 z33 G3) fun x5 G6 =>
  bP (fa Q q 25 0 0 x0) fun x7 =>
  bP (ld Q q 3 x7 G6) fun x8 =>
  bP (bn Q q .eql 3 (.tmp 13) (.const (.int .i64 8)) x8 (.int .i64 8)) fun x9 =>
  ifV x9 (
  bS (e.ev.cl 33 [v0] (G6.room 12)) fun x11 G10 =>
  bP (fa Q q 25 1 1 x0) fun x12 =>
  bP (ld Q q 3 x12 G10) fun x13 =>
  chk ((sameO (ld Q q 3 x12 (G6.room 12)) x13 && true)) <|
  bS (e.ev.cl 34 [x11, x13] G10) fun x15 G14 =>
  bP (pExtract x15 0) fun x16 =>
  bP (pExtract x15 1) fun x17 =>
  bS (al Q q 28 z28 (G14.at' (G6.nx + 8))) fun x18 G19 =>
  bS (al Q q 57 z57 ((G19.back G14).at' (G6.nx + 9))) fun x20 G21 =>
  bP (st Q q 28 3 x18 x16 (G21.back (G19.back G14))) fun G22 =>
  bP (st Q q 57 16 x20 x17 G22) fun G23 =>
  bP (ld Q q 33 x5 G23) fun x24 =>
  bP (lda Q q 28 3 x18 G23) fun x25 =>
  bS (bs Q q 33 1 (rep z28 1) 3 [(0, 0, 3)] [x25] G23) fun x26 G27 =>
  bS (ap Q q 33 33 3 24 x24 x26 G27) fun x28 G29 =>
  bP (st Q q 33 1 x5 x28 G29) fun G30 =>
  bP (ld Q q 33 x5 G30) fun x31 =>
  some (x31, G30)) (
  bP (bn Q q .eql 3 (.tmp 13) (.const (.int .i64 7)) x8 (.int .i64 7)) fun x32 =>
  ifV x32 (
  bS (e.ev.cl 33 [v0] G6) fun x33 G34 =>
  bS (e.ev.cl 40 [x33] G34) fun x35 G36 =>
  bX (xRange e.ev x35 #[33] (subAt [1, 1, 1, 0, 1, 0, 1, 1, 1, 0, 0, 1, 0, 0] (bodyOf Tryd.f12)) (subAt [1, 1, 1, 0, 1, 0, 1, 1, 1, 0, 0, 1, 0, 1] (bodyOf Tryd.f12)) (lsq q 45 (nth undef [v0, v1]) [(32, x35), (31, x33), (30, v0), (28, x32), (29, x32), (14, x9), (15, x9), (13, x8), (12, x7), (5, x5), (11, x4), (10, x2), (9, v0), (4, (.slice none 0 0)), (3, x0)]) G36) fun e37 T38 G39 =>
  bV q (nth undef T38 5) fun T38x5_ =>
  ifE e37 .normal (
  bP (ld Q q 33 T38x5_ G39) fun x40 =>
  bP (bd Q q 28 z28 [(0, 0, 1)] [(.int .i64 7)]) fun x41 =>
  bP (bd Q q 28 z28 [(0, 0, 1)] [(.int .i64 12)]) fun x42 =>
  bS (bs Q q 33 2 (rep z28 2) 3 [(0, 0, 3), (1, 3, 3)] [x41, x42] G39) fun x43 G44 =>
  bS (ap Q q 33 33 3 24 x40 x43 G44) fun x45 G46 =>
  bP (st Q q 33 1 T38x5_ x45 G46) fun G47 =>
  bP (ld Q q 33 T38x5_ G47) fun x48 =>
  some (x48, G47)) (none)) (
  some ((.slice none 0 0), G6))))
theorem m12 {e : Ex} {E : Ev} (h : ExLe Q e E) (v0 v1 : Value) (G : GS) : Ref (s12 true e v0 v1 G) (s12 false (Ex.of E) v0 v1 G) := by
  unfold s12
  exact Ref.gq
theorem f12 {orc : FuncId → Bool} {e : Ex} (h : ExLe Q e (E orc)) (v0 v1 : Value) (G : GS) : Ref (s12 true e v0 v1 G) ((E orc).cl 12 [v0, v1] G) :=
  fun r hr => cl_sxE_some Q orc (vs := [v0, v1]) G Tryd.func12 (by kernel_rfl) (by kernel_rfl) (by kernel_rfl) (by kernel_rfl) (by kernel_rfl) (by kernel_rfl) (m12 h v0 v1 G r hr)
noncomputable def r12_0 (q : Bool) (e : Ex) (l : Nat) (τ : Env) (u0 : Value) (G : GS) : Option (Value × GS) :=
  bV q (τ 5) fun a5_ =>
  bP (G.loop l) fun r0 => if r0.st = .ready then
  bP (ld Q q 33 a5_ (G.putLoop l (Lp.setSt r0 .busy))) fun x1 =>
  bP (bd Q q 28 z28 [(1, 1, 1)] [u0]) fun x2 =>
  bS (bs Q q 33 1 (rep z28 1) 3 [(0, 0, 3)] [x2] (G.putLoop l (Lp.setSt r0 .busy))) fun x3 G4 =>
  bS (ap Q q 33 33 3 24 x1 x3 G4) fun x5 G6 =>
  bP (st Q q 33 1 a5_ x5 G6) fun G7 =>
  roundEnd l .normal G7
  else none
theorem mr12_0 {e : Ex} {E : Ev} (h : ExLe Q e E) (l : Nat) (τ : Env) (u0 : Value) (G : GS) : Ref (r12_0 true e l τ u0 G) (r12_0 false (Ex.of E) l τ u0 G) := by
  unfold r12_0
  repeat' (with_reducible first | exact Ref.rfl' _ | exact ROp.r | refine Ref.bP ?_ fun _ => ?_ | refine Ref.bS ?_ fun _ _ => ?_ | exact Ref.cl (by assumption) | refine Ref.ifV ?_ ?_ | refine LpLe.rx (by assumption) ?_ | refine Ref.xitq ?_ | exact UOk.z | refine UOk.c (by assumption) ?_ | exact Ref.nil _ | refine Ref.bVe fun _ _ => ?_ | refine Ref.bLq (by assumption) ?_ fun _ _ _ => ?_ | refine Ref.ifE ?_ ?_ | refine Ref.chk ?_ ?_ | refine Imp.and ?_ ?_ | refine Imp.or ?_ | exact Imp.rfl' _ | refine Imp.sameO ?_ | refine Ref.gd ?_ | exact Ref.cValue (by assumption) | refine Ref.bX ?_ fun _ _ _ => ?_ | exact Ref.scQ (by assumption) | exact Ref.xRangeQ (by assumption) | exact Ref.cInvoke (by assumption) | refine Ref.rdy ?_)
theorem d12_0 {orc : FuncId → Bool} {e : Ex} (h : ExLe Q e (E orc)) (l : Nat) (T : List Value) (u0 : Value) (G : GS) {st : LoopState} {pend : Option Code} (hl : G.loop l = some ⟨st, pend, T, [33], (subAt [1, 1, 1, 0, 1, 0, 1, 1, 1, 0, 0, 1, 0, 0] (bodyOf Tryd.f12)), (subAt [1, 1, 1, 0, 1, 0, 1, 1, 1, 0, 0, 1, 0, 1] (bodyOf Tryd.f12))⟩) (hT : T.length = 45) : Ref (r12_0 true e l (nth undef T) u0 G) ((E orc).rd l [u0] G) :=
  fun r hr => rd_sxE Q orc hl (by kernel_rfl) hT (by kernel_rfl) (mr12_0 h l _ u0 G r hr)
noncomputable def b13_0 (q : Bool) (e : Ex) (lp : Env → GS → Option (Exit × Env × GS)) (τ : Env) (G : GS) : Option (Exit × Env × GS) :=
  bV q (τ 0) fun a0_ =>
  bV q (τ 5) fun a5_ =>
  bV q (τ 6) fun a6_ =>
  bP (ln Q q 22 a0_) fun x0 =>
  bP (bn Q q .lss 3 (.tmp 14) (.tmp 16) a6_ x0) fun x1 =>
  ifV x1 (
  bP (ias Q q 22 1 a0_ a6_) fun x2 =>
  bP (ld Q q 3 x2 G) fun x3 =>
  bP (bd Q q 28 z28 [(1, 1, 1)] [x3]) fun x4 =>
  bS (bs Q q 33 1 (rep z28 1) 3 [(0, 0, 3)] [x4] G) fun x5 G6 =>
  bS (ap Q q 33 33 3 24 a5_ x5 G6) fun x7 G8 =>
  bP (bn Q q .add 3 (.tmp 18) (.const (.int .i64 1)) a6_ (.int .i64 1)) fun x9 =>
  lp (xq q 59 τ [(6, x9), (19, x9), (18, a6_), (5, x7), (27, x7), (26, x5), (25, x4), (24, x3), (23, x2), (22, a6_), (21, a0_), (20, a5_), (17, x1), (16, x0), (15, a0_), (14, a6_)] [(0, a0_)]) G8) (
  some ((.exit 1), xq q 59 τ [(17, x1), (16, x0), (15, a0_), (14, a6_)] [(0, a0_), (5, a5_), (6, a6_)], G))
theorem mb13_0 {e : Ex} {E : Ev} (h : ExLe Q e E) {lp lp' : Env → GS → Option (Exit × Env × GS)} (hlp : LpLe lp lp') (τ : Env) (G : GS) : Ref (b13_0 true e lp τ G) (b13_0 false (Ex.of E) lp' τ G) := by
  unfold b13_0
  exact Ref.gq
theorem l13_0 {orc : FuncId → Bool} {e : Ex} (h : ExLe Q e (E orc)) (lp : Env → GS → Option (Exit × Env × GS)) (hlp : ∀ τ G, Ref (lp τ G) (mapE ((E orc).lp (subAt [1, 1, 1, 0, 0, 1, 0, 0, 1, 0, 0] (bodyOf Tryd.f13)) (lst 59 τ) G))) (T : List Value) (G : GS) (hT : T.length = 59) : Ref (b13_0 true e lp (nth undef T) G) (mapE ((E orc).lp (subAt [1, 1, 1, 0, 0, 1, 0, 0, 1, 0, 0] (bodyOf Tryd.f13)) T G)) :=
  fun r hr => lp_sxN Q orc G hT (by kernel_rfl) (mb13_0 h ⟨hlp⟩ _ _ r hr)
/-- coxswain/coxswainref08.All -/
noncomputable def s13 (q : Bool) (e : Ex) (v0 v1 : Value) (G : GS) : Option (Value × GS) :=
  bS (bx q v1 G) fun x0 G1 =>
  bS (e.ev.cl 19 [v0] G1) fun x2 G3 =>
  bP (bn Q q .neq 26 (.tmp 8) (.const (.int .i64 0)) x2 (.int .i64 0)) fun x4 =>
  ifV x4 (
  some ((.slice none 0 0), G3)) (
  bP (fa Q q 25 0 0 x0) fun x5 =>
  bP (ld Q q 3 x5 G3) fun x6 =>
  bP (bn Q q .eql 3 (.tmp 12) (.const (.int .i64 7)) x6 (.int .i64 7)) fun x7 =>
  ifV x7 (
  bLq q e 13 0 (subAt [1, 1, 1, 0, 0, 1, 0, 0, 1, 0, 0] (bodyOf Tryd.f13)) 59 (nth undef [v0, v1]) [(6, (.int .i64 0)), (10, x7), (13, x7), (12, x6), (11, x5), (5, (.slice none 0 0)), (9, x4), (8, x2), (7, v0), (4, (.slice none 0 0)), (3, x0)] [] G3 fun e8 t9 G10 =>
  bV q (t9 5) fun t9x5_ =>
  ifE e8 (.exit 1) (
  bP (bd Q q 28 z28 [(0, 0, 1)] [(.int .i64 7)]) fun x11 =>
  bP (bd Q q 28 z28 [(0, 0, 1)] [(.int .i64 12)]) fun x12 =>
  bS (bs Q q 33 2 (rep z28 2) 3 [(0, 0, 3), (1, 3, 3)] [x11, x12] G10) fun x13 G14 =>
  bS (ap Q q 33 33 3 24 t9x5_ x13 G14) fun x15 G16 =>
  some (x15, G16)) (none)) (
  bP (fa Q q 25 0 0 x0) fun x17 =>
  bP (ld Q q 3 x17 G3) fun x18 =>
  bP (bn Q q .neq 3 (.tmp 35) (.const (.int .i64 8)) x18 (.int .i64 8)) fun x19 =>
  ifV x19 (
  some ((.slice none 0 0), G3)) (
  bP (fa Q q 25 1 1 x0) fun x20 =>
  bP (ld Q q 3 x20 G3) fun x21 =>
  bS (e.ev.cl 41 [x21] G3) fun x22 G23 =>
  bP (un Q q .not x22) fun x24 =>
  ifV x24 (
  bP (bd Q q 28 z28 [(0, 0, 1)] [(.int .i64 3)]) fun x25 =>
  bS (bs Q q 33 1 (rep z28 1) 3 [(0, 0, 3)] [x25] G23) fun x26 G27 =>
  bS (ap Q q 33 33 3 24 (.slice none 0 0) x26 G27) fun x28 G29 =>
  some (x28, G29)) (
  bP (fa Q q 25 1 1 x0) fun x30 =>
  bP (ld Q q 3 x30 G23) fun x31 =>
  bS (e.ev.cl 31 [v0, x31] G23) fun x32 G33 =>
  ifV x32 (
  bP (bd Q q 28 z28 [(0, 0, 1)] [(.int .i64 8)]) fun x34 =>
  bS (bs Q q 33 1 (rep z28 1) 3 [(0, 0, 3)] [x34] G33) fun x35 G36 =>
  bS (ap Q q 33 33 3 24 (.slice none 0 0) x35 G36) fun x37 G38 =>
  some (x37, G38)) (
  bP (bd Q q 28 z28 [] []) fun x39 =>
  bS (bs Q q 33 1 (rep z28 1) 3 [(0, 0, 3)] [x39] G33) fun x40 G41 =>
  bS (ap Q q 33 33 3 24 (.slice none 0 0) x40 G41) fun x42 G43 =>
  some (x42, G43))))))
theorem m13 {e : Ex} {E : Ev} (h : ExLe Q e E) (v0 v1 : Value) (G : GS) : Ref (s13 true e v0 v1 G) (s13 false (Ex.of E) v0 v1 G) := by
  unfold s13
  exact Ref.gq
theorem f13 {orc : FuncId → Bool} {e : Ex} (h : ExLe Q e (E orc)) (v0 v1 : Value) (G : GS) : Ref (s13 true e v0 v1 G) ((E orc).cl 13 [v0, v1] G) :=
  fun r hr => cl_sxE_some Q orc (vs := [v0, v1]) G Tryd.func13 (by kernel_rfl) (by kernel_rfl) (by kernel_rfl) (by kernel_rfl) (by kernel_rfl) (by kernel_rfl) (m13 h v0 v1 G r hr)
/-- coxswain/pool.Rest -/
noncomputable def s14 (q : Bool) (e : Ex) (v0 v1 : Value) (G : GS) : Option (Value × GS) :=
  bS (e.ev.cl 42 [v1] G) fun x0 G1 =>
  bS (al Q q 57 z57 G1) fun x2 G3 =>
  bP (st Q q 57 16 x2 x0 G3) fun G4 =>
  bS (e.ev.cl 33 [v0] G4) fun x5 G6 =>
  bS (e.ev.cl 40 [x5] G6) fun x7 G8 =>
  bX (xRange e.ev x7 #[12] (subAt [1, 1, 0, 1, 0, 0] (bodyOf Tryd.f14)) (subAt [1, 1, 0, 1, 0, 1] (bodyOf Tryd.f14)) (lsq q 18 (nth undef [v0, v1]) [(11, x7), (10, x5), (9, v0), (5, x2), (8, x0), (7, v1), (4, (.slice none 0 0))]) G8) fun e9 T10 G11 =>
  bV q (nth undef T10 5) fun T10x5_ =>
  ifE e9 .normal (
  bP (lda Q q 57 16 T10x5_ G11) fun x12 =>
  bS (e.ev.cl 38 [x12, (.int .i64 1024)] G11) fun x13 G14 =>
  some (x13, G14)) (none)
theorem m14 {e : Ex} {E : Ev} (h : ExLe Q e E) (v0 v1 : Value) (G : GS) : Ref (s14 true e v0 v1 G) (s14 false (Ex.of E) v0 v1 G) := by
  unfold s14
  exact Ref.gq
theorem f14 {orc : FuncId → Bool} {e : Ex} (h : ExLe Q e (E orc)) (v0 v1 : Value) (G : GS) : Ref (s14 true e v0 v1 G) ((E orc).cl 14 [v0, v1] G) :=
  fun r hr => cl_sxE_some Q orc (vs := [v0, v1]) G Tryd.func14 (by kernel_rfl) (by kernel_rfl) (by kernel_rfl) (by kernel_rfl) (by kernel_rfl) (by kernel_rfl) (m14 h v0 v1 G r hr)
noncomputable def r14_0 (q : Bool) (e : Ex) (l : Nat) (τ : Env) (u0 : Value) (G : GS) : Option (Value × GS) :=
  bV q (τ 5) fun a5_ =>
  bP (G.loop l) fun r0 => if r0.st = .ready then
  bP (lda Q q 57 16 a5_ (G.putLoop l (Lp.setSt r0 .busy))) fun x1 =>
  bS (e.ev.cl 37 [x1, u0] (G.putLoop l (Lp.setSt r0 .busy))) fun x2 G3 =>
  bP (st Q q 57 16 a5_ x2 G3) fun G4 =>
  roundEnd l .normal G4
  else none
theorem mr14_0 {e : Ex} {E : Ev} (h : ExLe Q e E) (l : Nat) (τ : Env) (u0 : Value) (G : GS) : Ref (r14_0 true e l τ u0 G) (r14_0 false (Ex.of E) l τ u0 G) := by
  unfold r14_0
  repeat' (with_reducible first | exact Ref.rfl' _ | exact ROp.r | refine Ref.bP ?_ fun _ => ?_ | refine Ref.bS ?_ fun _ _ => ?_ | exact Ref.cl (by assumption) | refine Ref.ifV ?_ ?_ | refine LpLe.rx (by assumption) ?_ | refine Ref.xitq ?_ | exact UOk.z | refine UOk.c (by assumption) ?_ | exact Ref.nil _ | refine Ref.bVe fun _ _ => ?_ | refine Ref.bLq (by assumption) ?_ fun _ _ _ => ?_ | refine Ref.ifE ?_ ?_ | refine Ref.chk ?_ ?_ | refine Imp.and ?_ ?_ | refine Imp.or ?_ | exact Imp.rfl' _ | refine Imp.sameO ?_ | refine Ref.gd ?_ | exact Ref.cValue (by assumption) | refine Ref.bX ?_ fun _ _ _ => ?_ | exact Ref.scQ (by assumption) | exact Ref.xRangeQ (by assumption) | exact Ref.cInvoke (by assumption) | refine Ref.rdy ?_)
theorem d14_0 {orc : FuncId → Bool} {e : Ex} (h : ExLe Q e (E orc)) (l : Nat) (T : List Value) (u0 : Value) (G : GS) {st : LoopState} {pend : Option Code} (hl : G.loop l = some ⟨st, pend, T, [12], (subAt [1, 1, 0, 1, 0, 0] (bodyOf Tryd.f14)), (subAt [1, 1, 0, 1, 0, 1] (bodyOf Tryd.f14))⟩) (hT : T.length = 18) : Ref (r14_0 true e l (nth undef T) u0 G) ((E orc).rd l [u0] G) :=
  fun r hr => rd_sxE Q orc hl (by kernel_rfl) hT (by kernel_rfl) (mr14_0 h l _ u0 G r hr)
noncomputable def jbl15_0_0 (q : Bool) (e : Ex) (lp : Env → GS → Option (Exit × Env × GS)) (τ : Env) (G : GS) : Option (Exit × Env × GS) :=
  bV q (τ 0) fun a0_ =>
  bV q (τ 5) fun a5_ =>
  bV q (τ 6) fun a6_ =>
  bP (bn Q q .add 3 (.tmp 14) (.const (.int .i64 1)) a6_ (.int .i64 1)) fun x2 =>
  lp (xq q 46 τ [(6, x2), (15, x2), (14, a6_)] [(0, a0_), (5, a5_)]) G
noncomputable def jl15_0_0 (q : Bool) (e : Ex) (lp : Env → GS → Option (Exit × Env × GS)) (τ : Env) (G : GS) : Option (Exit × Env × GS) := jbl15_0_0 q e lp τ G
theorem mjl15_0_0 {e : Ex} {E : Ev} (h : ExLe Q e E) {lp lp' : Env → GS → Option (Exit × Env × GS)} (hlp : LpLe lp lp') (τ : Env) (G : GS) : Ref (jl15_0_0 true e lp τ G) (jl15_0_0 false (Ex.of E) lp' τ G) := by
  unfold jl15_0_0 jbl15_0_0
  exact Ref.gq
theorem mkjl15_0_0 {e : Ex} {E : Ev} (h : ExLe Q e E) {lp lp' : Env → GS → Option (Exit × Env × GS)} (hlp : LpLe lp lp') {τ : Env} {l U : List (Nat × Value)} {G : GS} (hU : UOk τ U) : Ref (jl15_0_0 true e lp (xq true 46 τ l U) G) (jl15_0_0 false (Ex.of E) lp' (xq false 46 τ l U) G) := by
  rw [xq_eq hU]
  exact mjl15_0_0 h hlp _ _
noncomputable def bb15_0 (q : Bool) (e : Ex) (lp : Env → GS → Option (Exit × Env × GS)) (J0 : Env → GS → Option (Exit × Env × GS)) (τ : Env) (G : GS) : Option (Exit × Env × GS) :=
  bV q (τ 0) fun a0_ =>
  bV q (τ 5) fun a5_ =>
  bV q (τ 6) fun a6_ =>
  bP (ln Q q 22 a0_) fun x0 =>
  bP (bn Q q .lss 3 (.tmp 10) (.tmp 12) a6_ x0) fun x1 =>
  ifV x1 (
  bP (ias Q q 22 1 a0_ a6_) fun x3 =>
  bP (ld Q q 3 x3 G) fun x4 =>
  bS (e.ev.cl 41 [x4] G) fun x5 G6 =>
  ifV x5 (
  bP (ias Q q 22 1 a0_ a6_) fun x7 =>
  bP (ld Q q 3 x7 G6) fun x8 =>
  bP (ias Q q 68 1 a5_ x8) fun x9 =>
  bP (st Q q 4 1 x9 (.bool true) G6) fun G10 =>
  J0 (xq q 46 τ [(26, x9), (25, x8), (24, x7), (23, a6_), (22, a0_), (21, a5_), (20, x5), (19, x4), (18, x3), (17, a6_), (16, a0_), (13, x1), (12, x0), (11, a0_), (10, a6_)] [(0, a0_), (5, a5_), (6, a6_)]) G10) (
  J0 (xq q 46 τ [(20, x5), (19, x4), (18, x3), (17, a6_), (16, a0_), (13, x1), (12, x0), (11, a0_), (10, a6_)] [(0, a0_), (5, a5_), (6, a6_)]) G6)) (
  some ((.exit 0), xq q 46 τ [(13, x1), (12, x0), (11, a0_), (10, a6_)] [(0, a0_), (5, a5_), (6, a6_)], G))
noncomputable def b15_0 (q : Bool) (e : Ex) (lp : Env → GS → Option (Exit × Env × GS)) (τ : Env) (G : GS) : Option (Exit × Env × GS) := bb15_0 q e lp (jl15_0_0 q e lp) τ G
theorem mb15_0 {e : Ex} {E : Ev} (h : ExLe Q e E) {lp lp' : Env → GS → Option (Exit × Env × GS)} (hlp : LpLe lp lp') (τ : Env) (G : GS) : Ref (b15_0 true e lp τ G) (b15_0 false (Ex.of E) lp' τ G) := by
  unfold b15_0 bb15_0
  repeat' (with_reducible first | exact Ref.rfl' _ | exact ROp.r | refine Ref.bP ?_ fun _ => ?_ | refine Ref.bS ?_ fun _ _ => ?_ | exact Ref.cl (by assumption) | refine Ref.ifV ?_ ?_ | refine LpLe.rx (by assumption) ?_ | refine Ref.xitq ?_ | exact UOk.z | refine UOk.c (by assumption) ?_ | exact Ref.nil _ | refine Ref.bVe fun _ _ => ?_ | refine Ref.bLq (by assumption) ?_ fun _ _ _ => ?_ | refine Ref.ifE ?_ ?_ | refine Ref.chk ?_ ?_ | refine Imp.and ?_ ?_ | refine Imp.or ?_ | exact Imp.rfl' _ | refine Imp.sameO ?_ | refine Ref.gd ?_ | exact Ref.cValue (by assumption) | refine Ref.bX ?_ fun _ _ _ => ?_ | exact Ref.scQ (by assumption) | exact Ref.xRangeQ (by assumption) | exact Ref.cInvoke (by assumption) | refine mkjl15_0_0 (by assumption) (by assumption) ?_)
noncomputable def jtl15_0 (J0 : Env → GS → Option (Exit × Env × GS)) : JT (Exit × Env × GS) :=
  (.n none .e (.n (some (fun T G => J0 (nth undef T) G)) .e .e))
theorem jrl15_0_0 (orc : FuncId → Bool) (J0 : Env → GS → Option (Exit × Env × GS)) (T : List Value) (G : GS) : runC Q (evL Q orc) 46 (jtl15_0 J0) (subAt [1, 1, 0, 1, 0, 0] (bodyOf Tryd.f15)) (seqXE (fun τ G' => mapE ((E orc).lp (subAt [1, 1, 0, 1, 0, 0] (bodyOf Tryd.f15)) (lst 46 (nth undef (lst 46 τ))) G')) fun e τ G' => some (e, nth undef (lst 46 τ), G')) [true] (nth undef T) G = jbl15_0_0 false (Ex.of (E orc)) (fun τ G => mapE ((E orc).lp (subAt [1, 1, 0, 1, 0, 0] (bodyOf Tryd.f15)) (lst 46 τ) G))  (nth undef T) G := by kernel_rfl
theorem jol15_0 (orc : FuncId → Bool) : JOk Q orc 46 (jtl15_0 (jl15_0_0 false (Ex.of (E orc)) (fun τ G => mapE ((E orc).lp (subAt [1, 1, 0, 1, 0, 0] (bodyOf Tryd.f15)) (lst 46 τ) G))) ) (subAt [1, 1, 0, 1, 0, 0] (bodyOf Tryd.f15)) (seqXE (fun τ G' => mapE ((E orc).lp (subAt [1, 1, 0, 1, 0, 0] (bodyOf Tryd.f15)) (lst 46 (nth undef (lst 46 τ))) G')) fun e τ G' => some (e, nth undef (lst 46 τ), G')) :=
  jOk Q orc (l := [([true], (fun T G => jl15_0_0 false (Ex.of (E orc)) (fun τ G => mapE ((E orc).lp (subAt [1, 1, 0, 1, 0, 0] (bodyOf Tryd.f15)) (lst 46 τ) G)) (nth undef T) G))]) (by kernel_rfl) (AllE.c (fun T G => jrl15_0_0 orc (jl15_0_0 false (Ex.of (E orc)) (fun τ G => mapE ((E orc).lp (subAt [1, 1, 0, 1, 0, 0] (bodyOf Tryd.f15)) (lst 46 τ) G))) T G) (AllE.z))
theorem jel15_0 (orc : FuncId → Bool) (J0 : Env → GS → Option (Exit × Env × GS)) (T : List Value) (G : GS) : sxC Q (evL Q orc) 46 (jtl15_0 J0) (subAt [1, 1, 0, 1, 0, 0] (bodyOf Tryd.f15)) (nth undef T) G (seqXE (fun τ G' => mapE ((E orc).lp (subAt [1, 1, 0, 1, 0, 0] (bodyOf Tryd.f15)) (lst 46 (nth undef (lst 46 τ))) G')) fun e τ G' => some (e, nth undef (lst 46 τ), G')) = bb15_0 false (Ex.of (E orc)) (fun τ G => mapE ((E orc).lp (subAt [1, 1, 0, 1, 0, 0] (bodyOf Tryd.f15)) (lst 46 τ) G)) J0 (nth undef T) G := by kernel_rfl
theorem l15_0 {orc : FuncId → Bool} {e : Ex} (h : ExLe Q e (E orc)) (lp : Env → GS → Option (Exit × Env × GS)) (hlp : ∀ τ G, Ref (lp τ G) (mapE ((E orc).lp (subAt [1, 1, 0, 1, 0, 0] (bodyOf Tryd.f15)) (lst 46 τ) G))) (T : List Value) (G : GS) (hT : T.length = 46) : Ref (b15_0 true e lp (nth undef T) G) (mapE ((E orc).lp (subAt [1, 1, 0, 1, 0, 0] (bodyOf Tryd.f15)) T G)) :=
  fun r hr => lp_sxC Q orc G (jtl15_0 (jl15_0_0 false (Ex.of (E orc)) (fun τ G => mapE ((E orc).lp (subAt [1, 1, 0, 1, 0, 0] (bodyOf Tryd.f15)) (lst 46 τ) G))) ) hT (jol15_0 orc) (jel15_0 orc (jl15_0_0 false (Ex.of (E orc)) (fun τ G => mapE ((E orc).lp (subAt [1, 1, 0, 1, 0, 0] (bodyOf Tryd.f15)) (lst 46 τ) G))) T G) (mb15_0 h ⟨hlp⟩ _ _ r hr)
noncomputable def jbl15_1_0 (q : Bool) (e : Ex) (lp : Env → GS → Option (Exit × Env × GS)) (τ : Env) (G : GS) : Option (Exit × Env × GS) :=
  bV q (τ 1) fun a1_ =>
  bV q (τ 5) fun a5_ =>
  bV q (τ 7) fun a7_ =>
  bV q (τ 8) fun a8_ =>
  bP (bn Q q .add 3 (.tmp 34) (.const (.int .i64 1)) a8_ (.int .i64 1)) fun x6 =>
  lp (xq q 46 τ [(8, x6), (35, x6), (34, a8_)] [(1, a1_), (5, a5_), (7, a7_)]) G
noncomputable def jl15_1_0 (q : Bool) (e : Ex) (lp : Env → GS → Option (Exit × Env × GS)) (τ : Env) (G : GS) : Option (Exit × Env × GS) := jbl15_1_0 q e lp τ G
theorem mjl15_1_0 {e : Ex} {E : Ev} (h : ExLe Q e E) {lp lp' : Env → GS → Option (Exit × Env × GS)} (hlp : LpLe lp lp') (τ : Env) (G : GS) : Ref (jl15_1_0 true e lp τ G) (jl15_1_0 false (Ex.of E) lp' τ G) := by
  unfold jl15_1_0 jbl15_1_0
  exact Ref.gq
theorem mkjl15_1_0 {e : Ex} {E : Ev} (h : ExLe Q e E) {lp lp' : Env → GS → Option (Exit × Env × GS)} (hlp : LpLe lp lp') {τ : Env} {l U : List (Nat × Value)} {G : GS} (hU : UOk τ U) : Ref (jl15_1_0 true e lp (xq true 46 τ l U) G) (jl15_1_0 false (Ex.of E) lp' (xq false 46 τ l U) G) := by
  rw [xq_eq hU]
  exact mjl15_1_0 h hlp _ _
noncomputable def bb15_1 (q : Bool) (e : Ex) (lp : Env → GS → Option (Exit × Env × GS)) (J0 : Env → GS → Option (Exit × Env × GS)) (τ : Env) (G : GS) : Option (Exit × Env × GS) :=
  bV q (τ 1) fun a1_ =>
  bV q (τ 5) fun a5_ =>
  bV q (τ 7) fun a7_ =>
  bV q (τ 8) fun a8_ =>
  bP (bn Q q .lss 3 (.tmp 27) (.tmp 28) a8_ a1_) fun x0 =>
  bS (gd x0 true (some (a8_, G)) G) fun x1 G2 =>
  bS (gd x0 true (bP (bn Q q .lss 3 (.tmp 31) (.const (.int .i64 1024)) x1 (.int .i64 1024)) fun y => some (y, G2)) G2) fun x3 G4 =>
  bP (pickV x0 x3 (.bool false)) fun x5 =>
  ifV x5 (
  bP (ias Q q 68 1 a5_ a8_) fun x7 =>
  bP (ld Q q 4 x7 G4) fun x8 =>
  bP (un Q q .not x8) fun x9 =>
  ifV x9 (
  bS (bs Q q 22 1 (rep z3 1) 1 [(0, 0, 1)] [a8_] G4) fun x10 G11 =>
  bS (ap Q q 22 22 1 8 a7_ x10 G11) fun x12 G13 =>
  J0 (xq q 46 τ [(7, x12), (44, x12), (43, x10), (42, a8_), (41, a7_), (40, x9), (39, x8), (38, x7), (37, a8_), (36, a5_), (33, x5), (32, x3), (31, x1), (30, x0), (29, x0), (28, a1_), (27, a8_)] [(1, a1_), (5, a5_), (8, a8_)]) G13) (
  J0 (xq q 46 τ [(40, x9), (39, x8), (38, x7), (37, a8_), (36, a5_), (33, x5), (32, x3), (31, x1), (30, x0), (29, x0), (28, a1_), (27, a8_)] [(1, a1_), (5, a5_), (7, a7_), (8, a8_)]) G4)) (
  some ((.exit 2), xq q 46 τ [(33, x5), (32, x3), (31, x1), (30, x0), (29, x0), (28, a1_), (27, a8_)] [(1, a1_), (5, a5_), (7, a7_), (8, a8_)], G4))
noncomputable def b15_1 (q : Bool) (e : Ex) (lp : Env → GS → Option (Exit × Env × GS)) (τ : Env) (G : GS) : Option (Exit × Env × GS) := bb15_1 q e lp (jl15_1_0 q e lp) τ G
theorem mb15_1 {e : Ex} {E : Ev} (h : ExLe Q e E) {lp lp' : Env → GS → Option (Exit × Env × GS)} (hlp : LpLe lp lp') (τ : Env) (G : GS) : Ref (b15_1 true e lp τ G) (b15_1 false (Ex.of E) lp' τ G) := by
  unfold b15_1 bb15_1
  repeat' (with_reducible first | exact Ref.rfl' _ | exact ROp.r | refine Ref.bP ?_ fun _ => ?_ | refine Ref.bS ?_ fun _ _ => ?_ | exact Ref.cl (by assumption) | refine Ref.ifV ?_ ?_ | refine LpLe.rx (by assumption) ?_ | refine Ref.xitq ?_ | exact UOk.z | refine UOk.c (by assumption) ?_ | exact Ref.nil _ | refine Ref.bVe fun _ _ => ?_ | refine Ref.bLq (by assumption) ?_ fun _ _ _ => ?_ | refine Ref.ifE ?_ ?_ | refine Ref.chk ?_ ?_ | refine Imp.and ?_ ?_ | refine Imp.or ?_ | exact Imp.rfl' _ | refine Imp.sameO ?_ | refine Ref.gd ?_ | exact Ref.cValue (by assumption) | refine Ref.bX ?_ fun _ _ _ => ?_ | exact Ref.scQ (by assumption) | exact Ref.xRangeQ (by assumption) | exact Ref.cInvoke (by assumption) | refine mkjl15_1_0 (by assumption) (by assumption) ?_)
noncomputable def jtl15_1 (J0 : Env → GS → Option (Exit × Env × GS)) : JT (Exit × Env × GS) :=
  (.n none .e (.n (some (fun T G => J0 (nth undef T) G)) .e .e))
theorem jrl15_1_0 (orc : FuncId → Bool) (J0 : Env → GS → Option (Exit × Env × GS)) (T : List Value) (G : GS) : runC Q (evL Q orc) 46 (jtl15_1 J0) (subAt [1, 1, 1, 1, 0, 1, 0, 0] (bodyOf Tryd.f15)) (seqXE (fun τ G' => mapE ((E orc).lp (subAt [1, 1, 1, 1, 0, 1, 0, 0] (bodyOf Tryd.f15)) (lst 46 (nth undef (lst 46 τ))) G')) fun e τ G' => some (e, nth undef (lst 46 τ), G')) [true] (nth undef T) G = jbl15_1_0 false (Ex.of (E orc)) (fun τ G => mapE ((E orc).lp (subAt [1, 1, 1, 1, 0, 1, 0, 0] (bodyOf Tryd.f15)) (lst 46 τ) G))  (nth undef T) G := by kernel_rfl
theorem jol15_1 (orc : FuncId → Bool) : JOk Q orc 46 (jtl15_1 (jl15_1_0 false (Ex.of (E orc)) (fun τ G => mapE ((E orc).lp (subAt [1, 1, 1, 1, 0, 1, 0, 0] (bodyOf Tryd.f15)) (lst 46 τ) G))) ) (subAt [1, 1, 1, 1, 0, 1, 0, 0] (bodyOf Tryd.f15)) (seqXE (fun τ G' => mapE ((E orc).lp (subAt [1, 1, 1, 1, 0, 1, 0, 0] (bodyOf Tryd.f15)) (lst 46 (nth undef (lst 46 τ))) G')) fun e τ G' => some (e, nth undef (lst 46 τ), G')) :=
  jOk Q orc (l := [([true], (fun T G => jl15_1_0 false (Ex.of (E orc)) (fun τ G => mapE ((E orc).lp (subAt [1, 1, 1, 1, 0, 1, 0, 0] (bodyOf Tryd.f15)) (lst 46 τ) G)) (nth undef T) G))]) (by kernel_rfl) (AllE.c (fun T G => jrl15_1_0 orc (jl15_1_0 false (Ex.of (E orc)) (fun τ G => mapE ((E orc).lp (subAt [1, 1, 1, 1, 0, 1, 0, 0] (bodyOf Tryd.f15)) (lst 46 τ) G))) T G) (AllE.z))
theorem jel15_1 (orc : FuncId → Bool) (J0 : Env → GS → Option (Exit × Env × GS)) (T : List Value) (G : GS) : sxC Q (evL Q orc) 46 (jtl15_1 J0) (subAt [1, 1, 1, 1, 0, 1, 0, 0] (bodyOf Tryd.f15)) (nth undef T) G (seqXE (fun τ G' => mapE ((E orc).lp (subAt [1, 1, 1, 1, 0, 1, 0, 0] (bodyOf Tryd.f15)) (lst 46 (nth undef (lst 46 τ))) G')) fun e τ G' => some (e, nth undef (lst 46 τ), G')) = bb15_1 false (Ex.of (E orc)) (fun τ G => mapE ((E orc).lp (subAt [1, 1, 1, 1, 0, 1, 0, 0] (bodyOf Tryd.f15)) (lst 46 τ) G)) J0 (nth undef T) G := by kernel_rfl
theorem l15_1 {orc : FuncId → Bool} {e : Ex} (h : ExLe Q e (E orc)) (lp : Env → GS → Option (Exit × Env × GS)) (hlp : ∀ τ G, Ref (lp τ G) (mapE ((E orc).lp (subAt [1, 1, 1, 1, 0, 1, 0, 0] (bodyOf Tryd.f15)) (lst 46 τ) G))) (T : List Value) (G : GS) (hT : T.length = 46) : Ref (b15_1 true e lp (nth undef T) G) (mapE ((E orc).lp (subAt [1, 1, 1, 1, 0, 1, 0, 0] (bodyOf Tryd.f15)) T G)) :=
  fun r hr => lp_sxC Q orc G (jtl15_1 (jl15_1_0 false (Ex.of (E orc)) (fun τ G => mapE ((E orc).lp (subAt [1, 1, 1, 1, 0, 1, 0, 0] (bodyOf Tryd.f15)) (lst 46 τ) G))) ) hT (jol15_1 orc) (jel15_1 orc (jl15_1_0 false (Ex.of (E orc)) (fun τ G => mapE ((E orc).lp (subAt [1, 1, 1, 1, 0, 1, 0, 0] (bodyOf Tryd.f15)) (lst 46 τ) G))) T G) (mb15_1 h ⟨hlp⟩ _ _ r hr)
/-- coxswain/coxswainref08.Rest -/
noncomputable def s15 (q : Bool) (e : Ex) (v0 v1 : Value) (G : GS) : Option (Value × GS) :=
  bS (mk Q q 68 1 1 z4 (.int .i64 1024) (.int .i64 1024) G) fun x0 G1 =>
  bLq q e 15 0 (subAt [1, 1, 0, 1, 0, 0] (bodyOf Tryd.f15)) 46 (nth undef [v0, v1]) [(6, (.int .i64 0)), (5, x0), (9, x0), (4, (.slice none 0 0))] [] G1 fun e2 t3 G4 =>
  ifE e2 (.exit 0) (
  bLq q e 15 1 (subAt [1, 1, 1, 1, 0, 1, 0, 0] (bodyOf Tryd.f15)) 46 t3 [(8, (.int .i64 0)), (7, (.slice none 0 0))] [] G4 fun e5 t6 G7 =>
  bV q (t6 7) fun t6x7_ =>
  ifE e5 (.exit 2) (
  some (t6x7_, G7)) (none)) (none)
theorem m15 {e : Ex} {E : Ev} (h : ExLe Q e E) (v0 v1 : Value) (G : GS) : Ref (s15 true e v0 v1 G) (s15 false (Ex.of E) v0 v1 G) := by
  unfold s15
  exact Ref.gq
theorem f15 {orc : FuncId → Bool} {e : Ex} (h : ExLe Q e (E orc)) (v0 v1 : Value) (G : GS) : Ref (s15 true e v0 v1 G) ((E orc).cl 15 [v0, v1] G) :=
  fun r hr => cl_sxE_some Q orc (vs := [v0, v1]) G Tryd.func15 (by kernel_rfl) (by kernel_rfl) (by kernel_rfl) (by kernel_rfl) (by kernel_rfl) (by kernel_rfl) (m15 h v0 v1 G r hr)
noncomputable def b16_0 (q : Bool) (e : Ex) (lp : Env → GS → Option (Exit × Env × GS)) (τ : Env) (G : GS) : Option (Exit × Env × GS) :=
  bV q (τ 0) fun a0_ =>
  bV q (τ 1) fun a1_ =>
  bV q (τ 5) fun a5_ =>
  bV q (τ 6) fun a6_ =>
  bS (gd a5_ true (some (a6_, G)) G) fun x0 G1 =>
  bS (gd a5_ true (some (a0_, G1)) G1) fun x2 G3 =>
  bS (gd a5_ true (bP (ln Q q 22 x2) fun y => some (y, G3)) G3) fun x4 G5 =>
  bS (gd a5_ true (bP (bn Q q .lss 3 (.tmp 14) (.tmp 16) x0 x4) fun y => some (y, G5)) G5) fun x6 G7 =>
  bP (pickV a5_ x6 (.bool false)) fun x8 =>
  ifV x8 (
  bP (ias Q q 22 1 a0_ a6_) fun x9 =>
  bP (ld Q q 3 x9 (G7.room 10)) fun x10 =>
  bP (ias Q q 22 1 a1_ a6_) fun x11 =>
  bP (ld Q q 3 x11 (G7.room 10)) fun x12 =>
  bP (bn Q q .eql 3 (.tmp 24) (.tmp 28) x10 x12) fun x13 =>
  bP (bn Q q .add 3 (.tmp 19) (.const (.int .i64 1)) a6_ (.int .i64 1)) fun x14 =>
  lp (xq q 31 τ [(6, x14), (20, x14), (19, a6_), (5, x13), (29, x13), (28, x12), (27, x11), (26, a6_), (25, a1_), (24, x10), (23, x9), (22, a6_), (21, a0_), (18, x8), (17, x6), (16, x4), (15, x2), (14, x0), (13, a5_), (12, a5_)] [(0, a0_), (1, a1_)]) (G7.room 10)) (
  some ((.exit 0), xq q 31 τ [(18, x8), (17, x6), (16, x4), (15, x2), (14, x0), (13, a5_), (12, a5_)] [(0, a0_), (1, a1_), (5, a5_), (6, a6_)], G7))
theorem mb16_0 {e : Ex} {E : Ev} (h : ExLe Q e E) {lp lp' : Env → GS → Option (Exit × Env × GS)} (hlp : LpLe lp lp') (τ : Env) (G : GS) : Ref (b16_0 true e lp τ G) (b16_0 false (Ex.of E) lp' τ G) := by
  unfold b16_0
  exact Ref.gq
theorem l16_0 {orc : FuncId → Bool} {e : Ex} (h : ExLe Q e (E orc)) (lp : Env → GS → Option (Exit × Env × GS)) (hlp : ∀ τ G, Ref (lp τ G) (mapE ((E orc).lp (subAt [1, 1, 0, 1, 0, 0] (bodyOf Tryd.f16)) (lst 31 τ) G))) (T : List Value) (G : GS) (hT : T.length = 31) : Ref (b16_0 true e lp (nth undef T) G) (mapE ((E orc).lp (subAt [1, 1, 0, 1, 0, 0] (bodyOf Tryd.f16)) T G)) :=
  fun r hr => lp_sxN Q orc G hT (by kernel_rfl) (mb16_0 h ⟨hlp⟩ _ _ r hr)
/-- coxswain/coxswainkit.SameInts -/
noncomputable def s16 (q : Bool) (e : Ex) (v0 v1 : Value) (G : GS) : Option (Value × GS) :=
  bP (ln Q q 22 v0) fun x0 =>
  bP (ln Q q 22 v1) fun x1 =>
  bP (bn Q q .eql 3 (.tmp 8) (.tmp 10) x0 x1) fun x2 =>
  bLq q e 16 0 (subAt [1, 1, 0, 1, 0, 0] (bodyOf Tryd.f16)) 31 (nth undef [v0, v1]) [(6, (.int .i64 0)), (5, x2), (11, x2), (10, x1), (9, v1), (8, x0), (7, v0), (4, (.bool false))] [] G fun e3 t4 G5 =>
  bV q (t4 5) fun t4x5_ =>
  ifE e3 (.exit 0) (
  some (t4x5_, G5)) (none)
theorem m16 {e : Ex} {E : Ev} (h : ExLe Q e E) (v0 v1 : Value) (G : GS) : Ref (s16 true e v0 v1 G) (s16 false (Ex.of E) v0 v1 G) := by
  unfold s16
  exact Ref.gq
theorem f16 {orc : FuncId → Bool} {e : Ex} (h : ExLe Q e (E orc)) (v0 v1 : Value) (G : GS) : Ref (s16 true e v0 v1 G) ((E orc).cl 16 [v0, v1] G) :=
  fun r hr => cl_sxE_some Q orc (vs := [v0, v1]) G Tryd.func16 (by kernel_rfl) (by kernel_rfl) (by kernel_rfl) (by kernel_rfl) (by kernel_rfl) (by kernel_rfl) (m16 h v0 v1 G r hr)
noncomputable def b17_0 (q : Bool) (e : Ex) (lp : Env → GS → Option (Exit × Env × GS)) (τ : Env) (G : GS) : Option (Exit × Env × GS) :=
  bV q (τ 0) fun a0_ =>
  bV q (τ 1) fun a1_ =>
  bV q (τ 5) fun a5_ =>
  bV q (τ 6) fun a6_ =>
  bS (gd a5_ true (some (a6_, G)) G) fun x0 G1 =>
  bS (gd a5_ true (some (a0_, G1)) G1) fun x2 G3 =>
  bS (gd a5_ true (bP (ln Q q 33 x2) fun y => some (y, G3)) G3) fun x4 G5 =>
  bS (gd a5_ true (bP (bn Q q .lss 3 (.tmp 14) (.tmp 16) x0 x4) fun y => some (y, G5)) G5) fun x6 G7 =>
  bP (pickV a5_ x6 (.bool false)) fun x8 =>
  ifV x8 (
  bP (ias Q q 33 3 a0_ a6_) fun x9 =>
  bP (lda Q q 28 3 x9 (G7.room 10)) fun x10 =>
  bP (ias Q q 33 3 a1_ a6_) fun x11 =>
  bP (lda Q q 28 3 x11 (G7.room 10)) fun x12 =>
  bP (bn Q q .eql 28 (.tmp 24) (.tmp 28) x10 x12) fun x13 =>
  bP (bn Q q .add 3 (.tmp 19) (.const (.int .i64 1)) a6_ (.int .i64 1)) fun x14 =>
  lp (xq q 31 τ [(6, x14), (20, x14), (19, a6_), (5, x13), (29, x13), (28, x12), (27, x11), (26, a6_), (25, a1_), (24, x10), (23, x9), (22, a6_), (21, a0_), (18, x8), (17, x6), (16, x4), (15, x2), (14, x0), (13, a5_), (12, a5_)] [(0, a0_), (1, a1_)]) (G7.room 10)) (
  some ((.exit 0), xq q 31 τ [(18, x8), (17, x6), (16, x4), (15, x2), (14, x0), (13, a5_), (12, a5_)] [(0, a0_), (1, a1_), (5, a5_), (6, a6_)], G7))
theorem mb17_0 {e : Ex} {E : Ev} (h : ExLe Q e E) {lp lp' : Env → GS → Option (Exit × Env × GS)} (hlp : LpLe lp lp') (τ : Env) (G : GS) : Ref (b17_0 true e lp τ G) (b17_0 false (Ex.of E) lp' τ G) := by
  unfold b17_0
  exact Ref.gq
theorem l17_0 {orc : FuncId → Bool} {e : Ex} (h : ExLe Q e (E orc)) (lp : Env → GS → Option (Exit × Env × GS)) (hlp : ∀ τ G, Ref (lp τ G) (mapE ((E orc).lp (subAt [1, 1, 0, 1, 0, 0] (bodyOf Tryd.f17)) (lst 31 τ) G))) (T : List Value) (G : GS) (hT : T.length = 31) : Ref (b17_0 true e lp (nth undef T) G) (mapE ((E orc).lp (subAt [1, 1, 0, 1, 0, 0] (bodyOf Tryd.f17)) T G)) :=
  fun r hr => lp_sxN Q orc G hT (by kernel_rfl) (mb17_0 h ⟨hlp⟩ _ _ r hr)
/-- coxswain/coxswainkit.SameAnswers -/
noncomputable def s17 (q : Bool) (e : Ex) (v0 v1 : Value) (G : GS) : Option (Value × GS) :=
  bP (ln Q q 33 v0) fun x0 =>
  bP (ln Q q 33 v1) fun x1 =>
  bP (bn Q q .eql 3 (.tmp 8) (.tmp 10) x0 x1) fun x2 =>
  bLq q e 17 0 (subAt [1, 1, 0, 1, 0, 0] (bodyOf Tryd.f17)) 31 (nth undef [v0, v1]) [(6, (.int .i64 0)), (5, x2), (11, x2), (10, x1), (9, v1), (8, x0), (7, v0), (4, (.bool false))] [] G fun e3 t4 G5 =>
  bV q (t4 5) fun t4x5_ =>
  ifE e3 (.exit 0) (
  some (t4x5_, G5)) (none)
theorem m17 {e : Ex} {E : Ev} (h : ExLe Q e E) (v0 v1 : Value) (G : GS) : Ref (s17 true e v0 v1 G) (s17 false (Ex.of E) v0 v1 G) := by
  unfold s17
  exact Ref.gq
theorem f17 {orc : FuncId → Bool} {e : Ex} (h : ExLe Q e (E orc)) (v0 v1 : Value) (G : GS) : Ref (s17 true e v0 v1 G) ((E orc).cl 17 [v0, v1] G) :=
  fun r hr => cl_sxE_some Q orc (vs := [v0, v1]) G Tryd.func17 (by kernel_rfl) (by kernel_rfl) (by kernel_rfl) (by kernel_rfl) (by kernel_rfl) (by kernel_rfl) (m17 h v0 v1 G r hr)
noncomputable def b18_0 (q : Bool) (e : Ex) (lp : Env → GS → Option (Exit × Env × GS)) (τ : Env) (G : GS) : Option (Exit × Env × GS) :=
  bV q (τ 6) fun a6_ =>
  bV q (τ 7) fun a7_ =>
  bV q (τ 8) fun a8_ =>
  bP (bn Q q .lss 3 (.tmp 8) (.tmp 7) a8_ a7_) fun x0 =>
  ifV x0 (
  bP (ias Q q 22 1 a6_ a8_) fun x1 =>
  bP (ld Q q 3 x1 G) fun x2 =>
  bS (e.ev.cl 35 [x2] G) fun x3 G4 =>
  bP (un Q q .not x3) fun x5 =>
  ifV x5 (
  some (.ret, xq q 32 τ [(2, (.int .i64 3)), (14, x5), (13, x3), (12, x2), (4, x2), (11, x2), (10, x1), (9, x0)] [(6, a6_), (7, a7_), (8, a8_)], G4)) (
  bP (bn Q q .add 3 (.tmp 8) (.const (.int .i64 1)) a8_ (.int .i64 1)) fun x6 =>
  lp (xq q 32 τ [(8, x6), (15, x6), (14, x5), (13, x3), (12, x2), (4, x2), (11, x2), (10, x1), (9, x0)] [(6, a6_), (7, a7_)]) G4)) (
  some ((.exit 0), xq q 32 τ [(9, x0)] [(6, a6_), (7, a7_), (8, a8_)], G))
theorem mb18_0 {e : Ex} {E : Ev} (h : ExLe Q e E) {lp lp' : Env → GS → Option (Exit × Env × GS)} (hlp : LpLe lp lp') (τ : Env) (G : GS) : Ref (b18_0 true e lp τ G) (b18_0 false (Ex.of E) lp' τ G) := by
  unfold b18_0
  exact Ref.gq
theorem l18_0 {orc : FuncId → Bool} {e : Ex} (h : ExLe Q e (E orc)) (lp : Env → GS → Option (Exit × Env × GS)) (hlp : ∀ τ G, Ref (lp τ G) (mapE ((E orc).lp (subAt [1, 0, 1, 0, 0] (bodyOf Tryd.f18)) (lst 32 τ) G))) (T : List Value) (G : GS) (hT : T.length = 32) : Ref (b18_0 true e lp (nth undef T) G) (mapE ((E orc).lp (subAt [1, 0, 1, 0, 0] (bodyOf Tryd.f18)) T G)) :=
  fun r hr => lp_sxN Q orc G hT (by kernel_rfl) (mb18_0 h ⟨hlp⟩ _ _ r hr)
noncomputable def b18_1 (q : Bool) (e : Ex) (lp : Env → GS → Option (Exit × Env × GS)) (τ : Env) (G : GS) : Option (Exit × Env × GS) :=
  bV q (τ 0) fun a0_ =>
  bV q (τ 5) fun a5_ =>
  bP (ln Q q 22 a0_) fun x0 =>
  bP (bn Q q .lss 3 (.tmp 16) (.tmp 18) a5_ x0) fun x1 =>
  ifV x1 (
  bP (ias Q q 22 1 a0_ a5_) fun x2 =>
  bP (ld Q q 3 x2 (G.room 10)) fun x3 =>
  bP (bn Q q .sub 3 (.tmp 27) (.const (.int .i64 1)) a5_ (.int .i64 1)) fun x4 =>
  bP (ias Q q 22 1 a0_ x4) fun x5 =>
  bP (ld Q q 3 x5 (G.room 10)) fun x6 =>
  bP (bn Q q .leq 3 (.tmp 25) (.tmp 30) x3 x6) fun x7 =>
  ifV x7 (
  some (.ret, xq q 32 τ [(2, (.int .i64 9)), (31, x7), (30, x6), (29, x5), (28, x4), (27, a5_), (26, a0_), (25, x3), (24, x2), (23, a5_), (22, a0_), (19, x1), (18, x0), (17, a0_), (16, a5_)] [(0, a0_), (5, a5_)], (G.room 10))) (
  bP (bn Q q .add 3 (.tmp 20) (.const (.int .i64 1)) a5_ (.int .i64 1)) fun x8 =>
  lp (xq q 32 τ [(5, x8), (21, x8), (20, a5_), (31, x7), (30, x6), (29, x5), (28, x4), (27, a5_), (26, a0_), (25, x3), (24, x2), (23, a5_), (22, a0_), (19, x1), (18, x0), (17, a0_), (16, a5_)] [(0, a0_)]) (G.room 10))) (
  some ((.exit 2), xq q 32 τ [(19, x1), (18, x0), (17, a0_), (16, a5_)] [(0, a0_), (5, a5_)], G))
theorem mb18_1 {e : Ex} {E : Ev} (h : ExLe Q e E) {lp lp' : Env → GS → Option (Exit × Env × GS)} (hlp : LpLe lp lp') (τ : Env) (G : GS) : Ref (b18_1 true e lp τ G) (b18_1 false (Ex.of E) lp' τ G) := by
  unfold b18_1
  exact Ref.gq
theorem l18_1 {orc : FuncId → Bool} {e : Ex} (h : ExLe Q e (E orc)) (lp : Env → GS → Option (Exit × Env × GS)) (hlp : ∀ τ G, Ref (lp τ G) (mapE ((E orc).lp (subAt [1, 1, 0, 1, 0, 0] (bodyOf Tryd.f18)) (lst 32 τ) G))) (T : List Value) (G : GS) (hT : T.length = 32) : Ref (b18_1 true e lp (nth undef T) G) (mapE ((E orc).lp (subAt [1, 1, 0, 1, 0, 0] (bodyOf Tryd.f18)) T G)) :=
  fun r hr => lp_sxN Q orc G hT (by kernel_rfl) (mb18_1 h ⟨hlp⟩ _ _ r hr)
/-- coxswain/pool.Check -/
noncomputable def s18 (q : Bool) (e : Ex) (v0 : Value) (G : GS) : Option (Value × GS) :=
  bP (ln Q q 22 v0) fun x0 =>
  bLq q e 18 0 (subAt [1, 0, 1, 0, 0] (bodyOf Tryd.f18)) 32 (nth undef [v0]) [(8, (.int .i64 0)), (7, x0), (6, v0), (2, (.int .i64 0))] [] G fun e1 t2 G3 =>
  bV q (t2 2) fun t2x2_ =>
  ifE e1 (.exit 0) (
  bLq q e 18 1 (subAt [1, 1, 0, 1, 0, 0] (bodyOf Tryd.f18)) 32 t2 [(5, (.int .i64 1))] [] G3 fun e4 t5 G6 =>
  bV q (t5 2) fun t5x2_ =>
  ifE e4 (.exit 2) (
  some ((.int .i64 0), G6)) (ifE e4 .ret (
  some (t5x2_, G6)) (none))) (ifE e1 .ret (
  some (t2x2_, G3)) (none))
theorem m18 {e : Ex} {E : Ev} (h : ExLe Q e E) (v0 : Value) (G : GS) : Ref (s18 true e v0 G) (s18 false (Ex.of E) v0 G) := by
  unfold s18
  exact Ref.gq
theorem f18 {orc : FuncId → Bool} {e : Ex} (h : ExLe Q e (E orc)) (v0 : Value) (G : GS) : Ref (s18 true e v0 G) ((E orc).cl 18 [v0] G) :=
  fun r hr => cl_sxE_some Q orc (vs := [v0]) G Tryd.func18 (by kernel_rfl) (by kernel_rfl) (by kernel_rfl) (by kernel_rfl) (by kernel_rfl) (by kernel_rfl) (m18 h v0 G r hr)
noncomputable def b19_0 (q : Bool) (e : Ex) (lp : Env → GS → Option (Exit × Env × GS)) (τ : Env) (G : GS) : Option (Exit × Env × GS) :=
  bV q (τ 0) fun a0_ =>
  bV q (τ 3) fun a3_ =>
  bP (ln Q q 22 a0_) fun x0 =>
  bP (bn Q q .lss 3 (.tmp 5) (.tmp 7) a3_ x0) fun x1 =>
  ifV x1 (
  bP (ias Q q 22 1 a0_ a3_) fun x2 =>
  bP (ld Q q 3 x2 G) fun x3 =>
  bS (e.ev.cl 41 [x3] G) fun x4 G5 =>
  bP (un Q q .not x4) fun x6 =>
  ifV x6 (
  some (.ret, xq q 33 τ [(2, (.int .i64 3)), (16, x6), (15, x4), (14, x3), (13, x2), (12, a3_), (11, a0_), (8, x1), (7, x0), (6, a0_), (5, a3_)] [(0, a0_), (3, a3_)], G5)) (
  bP (bn Q q .add 3 (.tmp 9) (.const (.int .i64 1)) a3_ (.int .i64 1)) fun x7 =>
  lp (xq q 33 τ [(3, x7), (10, x7), (9, a3_), (16, x6), (15, x4), (14, x3), (13, x2), (12, a3_), (11, a0_), (8, x1), (7, x0), (6, a0_), (5, a3_)] [(0, a0_)]) G5)) (
  some ((.exit 0), xq q 33 τ [(8, x1), (7, x0), (6, a0_), (5, a3_)] [(0, a0_), (3, a3_)], G))
theorem mb19_0 {e : Ex} {E : Ev} (h : ExLe Q e E) {lp lp' : Env → GS → Option (Exit × Env × GS)} (hlp : LpLe lp lp') (τ : Env) (G : GS) : Ref (b19_0 true e lp τ G) (b19_0 false (Ex.of E) lp' τ G) := by
  unfold b19_0
  exact Ref.gq
theorem l19_0 {orc : FuncId → Bool} {e : Ex} (h : ExLe Q e (E orc)) (lp : Env → GS → Option (Exit × Env × GS)) (hlp : ∀ τ G, Ref (lp τ G) (mapE ((E orc).lp (subAt [1, 0, 1, 0, 0] (bodyOf Tryd.f19)) (lst 33 τ) G))) (T : List Value) (G : GS) (hT : T.length = 33) : Ref (b19_0 true e lp (nth undef T) G) (mapE ((E orc).lp (subAt [1, 0, 1, 0, 0] (bodyOf Tryd.f19)) T G)) :=
  fun r hr => lp_sxN Q orc G hT (by kernel_rfl) (mb19_0 h ⟨hlp⟩ _ _ r hr)
noncomputable def b19_1 (q : Bool) (e : Ex) (lp : Env → GS → Option (Exit × Env × GS)) (τ : Env) (G : GS) : Option (Exit × Env × GS) :=
  bV q (τ 0) fun a0_ =>
  bV q (τ 4) fun a4_ =>
  bP (ln Q q 22 a0_) fun x0 =>
  bP (bn Q q .lss 3 (.tmp 17) (.tmp 19) a4_ x0) fun x1 =>
  ifV x1 (
  bP (bn Q q .sub 3 (.tmp 24) (.const (.int .i64 1)) a4_ (.int .i64 1)) fun x2 =>
  bP (ias Q q 22 1 a0_ x2) fun x3 =>
  bP (ld Q q 3 x3 (G.room 10)) fun x4 =>
  bP (ias Q q 22 1 a0_ a4_) fun x5 =>
  bP (ld Q q 3 x5 (G.room 10)) fun x6 =>
  bP (bn Q q .geq 3 (.tmp 27) (.tmp 31) x4 x6) fun x7 =>
  ifV x7 (
  some (.ret, xq q 33 τ [(2, (.int .i64 9)), (32, x7), (31, x6), (30, x5), (29, a4_), (28, a0_), (27, x4), (26, x3), (25, x2), (24, a4_), (23, a0_), (20, x1), (19, x0), (18, a0_), (17, a4_)] [(0, a0_), (4, a4_)], (G.room 10))) (
  bP (bn Q q .add 3 (.tmp 21) (.const (.int .i64 1)) a4_ (.int .i64 1)) fun x8 =>
  lp (xq q 33 τ [(4, x8), (22, x8), (21, a4_), (32, x7), (31, x6), (30, x5), (29, a4_), (28, a0_), (27, x4), (26, x3), (25, x2), (24, a4_), (23, a0_), (20, x1), (19, x0), (18, a0_), (17, a4_)] [(0, a0_)]) (G.room 10))) (
  some ((.exit 2), xq q 33 τ [(20, x1), (19, x0), (18, a0_), (17, a4_)] [(0, a0_), (4, a4_)], G))
theorem mb19_1 {e : Ex} {E : Ev} (h : ExLe Q e E) {lp lp' : Env → GS → Option (Exit × Env × GS)} (hlp : LpLe lp lp') (τ : Env) (G : GS) : Ref (b19_1 true e lp τ G) (b19_1 false (Ex.of E) lp' τ G) := by
  unfold b19_1
  exact Ref.gq
theorem l19_1 {orc : FuncId → Bool} {e : Ex} (h : ExLe Q e (E orc)) (lp : Env → GS → Option (Exit × Env × GS)) (hlp : ∀ τ G, Ref (lp τ G) (mapE ((E orc).lp (subAt [1, 1, 0, 1, 0, 0] (bodyOf Tryd.f19)) (lst 33 τ) G))) (T : List Value) (G : GS) (hT : T.length = 33) : Ref (b19_1 true e lp (nth undef T) G) (mapE ((E orc).lp (subAt [1, 1, 0, 1, 0, 0] (bodyOf Tryd.f19)) T G)) :=
  fun r hr => lp_sxN Q orc G hT (by kernel_rfl) (mb19_1 h ⟨hlp⟩ _ _ r hr)
/-- coxswain/coxswainref08.Check -/
noncomputable def s19 (q : Bool) (e : Ex) (v0 : Value) (G : GS) : Option (Value × GS) :=
  bLq q e 19 0 (subAt [1, 0, 1, 0, 0] (bodyOf Tryd.f19)) 33 (nth undef [v0]) [(3, (.int .i64 0)), (2, (.int .i64 0))] [] G fun e0 t1 G2 =>
  bV q (t1 2) fun t1x2_ =>
  ifE e0 (.exit 0) (
  bLq q e 19 1 (subAt [1, 1, 0, 1, 0, 0] (bodyOf Tryd.f19)) 33 t1 [(4, (.int .i64 1))] [] G2 fun e3 t4 G5 =>
  bV q (t4 2) fun t4x2_ =>
  ifE e3 (.exit 2) (
  some ((.int .i64 0), G5)) (ifE e3 .ret (
  some (t4x2_, G5)) (none))) (ifE e0 .ret (
  some (t1x2_, G2)) (none))
theorem m19 {e : Ex} {E : Ev} (h : ExLe Q e E) (v0 : Value) (G : GS) : Ref (s19 true e v0 G) (s19 false (Ex.of E) v0 G) := by
  unfold s19
  exact Ref.gq
theorem f19 {orc : FuncId → Bool} {e : Ex} (h : ExLe Q e (E orc)) (v0 : Value) (G : GS) : Ref (s19 true e v0 G) ((E orc).cl 19 [v0] G) :=
  fun r hr => cl_sxE_some Q orc (vs := [v0]) G Tryd.func19 (by kernel_rfl) (by kernel_rfl) (by kernel_rfl) (by kernel_rfl) (by kernel_rfl) (by kernel_rfl) (m19 h v0 G r hr)
noncomputable def b20_0 (q : Bool) (e : Ex) (lp : Env → GS → Option (Exit × Env × GS)) (τ : Env) (G : GS) : Option (Exit × Env × GS) :=
  bV q (τ 0) fun a0_ =>
  bV q (τ 2) fun a2_ =>
  bP (ln Q q 22 a0_) fun x0 =>
  bP (bn Q q .lss 3 (.tmp 3) (.tmp 5) a2_ x0) fun x1 =>
  ifV x1 (
  bP (ias Q q 22 1 a0_ a2_) fun x2 =>
  bP (st Q q 3 1 x2 (.int .i64 (-77)) G) fun G3 =>
  bP (bn Q q .add 3 (.tmp 7) (.const (.int .i64 1)) a2_ (.int .i64 1)) fun x4 =>
  lp (xq q 12 τ [(2, x4), (8, x4), (7, a2_), (11, x2), (10, a2_), (9, a0_), (6, x1), (5, x0), (4, a0_), (3, a2_)] [(0, a0_)]) G3) (
  some ((.exit 0), xq q 12 τ [(6, x1), (5, x0), (4, a0_), (3, a2_)] [(0, a0_), (2, a2_)], G))
theorem mb20_0 {e : Ex} {E : Ev} (h : ExLe Q e E) {lp lp' : Env → GS → Option (Exit × Env × GS)} (hlp : LpLe lp lp') (τ : Env) (G : GS) : Ref (b20_0 true e lp τ G) (b20_0 false (Ex.of E) lp' τ G) := by
  unfold b20_0
  exact Ref.gq
theorem l20_0 {orc : FuncId → Bool} {e : Ex} (h : ExLe Q e (E orc)) (lp : Env → GS → Option (Exit × Env × GS)) (hlp : ∀ τ G, Ref (lp τ G) (mapE ((E orc).lp (subAt [1, 0, 0] (bodyOf Tryd.f20)) (lst 12 τ) G))) (T : List Value) (G : GS) (hT : T.length = 12) : Ref (b20_0 true e lp (nth undef T) G) (mapE ((E orc).lp (subAt [1, 0, 0] (bodyOf Tryd.f20)) T G)) :=
  fun r hr => lp_sxN Q orc G hT (by kernel_rfl) (mb20_0 h ⟨hlp⟩ _ _ r hr)
/-- coxswain/coxswainkit.OverInts -/
noncomputable def s20 (q : Bool) (e : Ex) (v0 : Value) (G : GS) : Option (Value × GS) :=
  bLq q e 20 0 (subAt [1, 0, 0] (bodyOf Tryd.f20)) 12 (nth undef [v0]) [(2, (.int .i64 0))] [] G fun e0 t1 G2 =>
  ifE e0 (.exit 0) (
  some (.tuple #[], G2)) (none)
theorem m20 {e : Ex} {E : Ev} (h : ExLe Q e E) (v0 : Value) (G : GS) : Ref (s20 true e v0 G) (s20 false (Ex.of E) v0 G) := by
  unfold s20
  exact Ref.gq
theorem f20 {orc : FuncId → Bool} {e : Ex} (h : ExLe Q e (E orc)) (v0 : Value) (G : GS) : Ref (s20 true e v0 G) ((E orc).cl 20 [v0] G) :=
  fun r hr => cl_sxE_some Q orc (vs := [v0]) G Tryd.func20 (by kernel_rfl) (by kernel_rfl) (by kernel_rfl) (by kernel_rfl) (by kernel_rfl) (by kernel_rfl) (m20 h v0 G r hr)
noncomputable def b21_0 (q : Bool) (e : Ex) (lp : Env → GS → Option (Exit × Env × GS)) (τ : Env) (G : GS) : Option (Exit × Env × GS) :=
  bV q (τ 0) fun a0_ =>
  bV q (τ 2) fun a2_ =>
  bP (ln Q q 33 a0_) fun x0 =>
  bP (bn Q q .lss 3 (.tmp 3) (.tmp 5) a2_ x0) fun x1 =>
  ifV x1 (
  bP (bd Q q 28 z28 [(1, 1, 1)] [(.int .i64 (-77))]) fun x2 =>
  bP (ias Q q 33 3 a0_ a2_) fun x3 =>
  bP (st Q q 28 3 x3 x2 G) fun G4 =>
  bP (bn Q q .add 3 (.tmp 7) (.const (.int .i64 1)) a2_ (.int .i64 1)) fun x5 =>
  lp (xq q 13 τ [(2, x5), (8, x5), (7, a2_), (12, x3), (11, x2), (10, a2_), (9, a0_), (6, x1), (5, x0), (4, a0_), (3, a2_)] [(0, a0_)]) G4) (
  some ((.exit 0), xq q 13 τ [(6, x1), (5, x0), (4, a0_), (3, a2_)] [(0, a0_), (2, a2_)], G))
theorem mb21_0 {e : Ex} {E : Ev} (h : ExLe Q e E) {lp lp' : Env → GS → Option (Exit × Env × GS)} (hlp : LpLe lp lp') (τ : Env) (G : GS) : Ref (b21_0 true e lp τ G) (b21_0 false (Ex.of E) lp' τ G) := by
  unfold b21_0
  exact Ref.gq
theorem l21_0 {orc : FuncId → Bool} {e : Ex} (h : ExLe Q e (E orc)) (lp : Env → GS → Option (Exit × Env × GS)) (hlp : ∀ τ G, Ref (lp τ G) (mapE ((E orc).lp (subAt [1, 0, 0] (bodyOf Tryd.f21)) (lst 13 τ) G))) (T : List Value) (G : GS) (hT : T.length = 13) : Ref (b21_0 true e lp (nth undef T) G) (mapE ((E orc).lp (subAt [1, 0, 0] (bodyOf Tryd.f21)) T G)) :=
  fun r hr => lp_sxN Q orc G hT (by kernel_rfl) (mb21_0 h ⟨hlp⟩ _ _ r hr)
/-- coxswain/coxswainkit.OverAnswers -/
noncomputable def s21 (q : Bool) (e : Ex) (v0 : Value) (G : GS) : Option (Value × GS) :=
  bLq q e 21 0 (subAt [1, 0, 0] (bodyOf Tryd.f21)) 13 (nth undef [v0]) [(2, (.int .i64 0))] [] G fun e0 t1 G2 =>
  ifE e0 (.exit 0) (
  some (.tuple #[], G2)) (none)
theorem m21 {e : Ex} {E : Ev} (h : ExLe Q e E) (v0 : Value) (G : GS) : Ref (s21 true e v0 G) (s21 false (Ex.of E) v0 G) := by
  unfold s21
  exact Ref.gq
theorem f21 {orc : FuncId → Bool} {e : Ex} (h : ExLe Q e (E orc)) (v0 : Value) (G : GS) : Ref (s21 true e v0 G) ((E orc).cl 21 [v0] G) :=
  fun r hr => cl_sxE_some Q orc (vs := [v0]) G Tryd.func21 (by kernel_rfl) (by kernel_rfl) (by kernel_rfl) (by kernel_rfl) (by kernel_rfl) (by kernel_rfl) (m21 h v0 G r hr)
/-- coxswain/coxswainkit.CopyOps -/
noncomputable def s22 (q : Bool) (e : Ex) (v0 : Value) (G : GS) : Option (Value × GS) :=
  bS (bs Q q 42 0 (rep z25 0) 4 [] [] G) fun x0 G1 =>
  bS (ap Q q 42 42 4 32 x0 v0 G1) fun x2 G3 =>
  some (x2, G3)
theorem m22 {e : Ex} {E : Ev} (h : ExLe Q e E) (v0 : Value) (G : GS) : Ref (s22 true e v0 G) (s22 false (Ex.of E) v0 G) := by
  unfold s22
  exact Ref.gq
theorem f22 {orc : FuncId → Bool} {e : Ex} (h : ExLe Q e (E orc)) (v0 : Value) (G : GS) : Ref (s22 true e v0 G) ((E orc).cl 22 [v0] G) :=
  fun r hr => cl_sxE_some Q orc (vs := [v0]) G Tryd.func22 (by kernel_rfl) (by kernel_rfl) (by kernel_rfl) (by kernel_rfl) (by kernel_rfl) (by kernel_rfl) (m22 h v0 G r hr)
noncomputable def jbl23_0_0 (q : Bool) (e : Ex) (lp : Env → GS → Option (Exit × Env × GS)) (τ : Env) (G : GS) : Option (Exit × Env × GS) :=
  bV q (τ 7) fun a7_ =>
  bV q (τ 8) fun a8_ =>
  bV q (τ 11) fun a11_ =>
  bV q (τ 21) fun a21_ =>
  bV q (τ 22) fun a22_ =>
  bV q (τ 23) fun a23_ =>
  bP (lda Q q 28 3 a11_ G) fun x8 =>
  bS (bs Q q 33 1 (rep z28 1) 3 [(0, 0, 3)] [x8] G) fun x9 G10 =>
  bS (ap Q q 33 33 3 24 a7_ x9 G10) fun x11 G12 =>
  bP (bn Q q .add 3 (.tmp 23) (.const (.int .i64 1)) a23_ (.int .i64 1)) fun x13 =>
  lp (xq q 57 τ [(23, x13), (53, x13), (7, x11), (52, x11), (51, x9), (50, x8), (49, a7_)] [(8, a8_), (11, a11_), (21, a21_), (22, a22_)]) G12
noncomputable def jl23_0_0 (q : Bool) (e : Ex) (lp : Env → GS → Option (Exit × Env × GS)) (τ : Env) (G : GS) : Option (Exit × Env × GS) := jbl23_0_0 q e lp τ G
theorem mjl23_0_0 {e : Ex} {E : Ev} (h : ExLe Q e E) {lp lp' : Env → GS → Option (Exit × Env × GS)} (hlp : LpLe lp lp') (τ : Env) (G : GS) : Ref (jl23_0_0 true e lp τ G) (jl23_0_0 false (Ex.of E) lp' τ G) := by
  unfold jl23_0_0 jbl23_0_0
  exact Ref.gq
theorem mkjl23_0_0 {e : Ex} {E : Ev} (h : ExLe Q e E) {lp lp' : Env → GS → Option (Exit × Env × GS)} (hlp : LpLe lp lp') {τ : Env} {l U : List (Nat × Value)} {G : GS} (hU : UOk τ U) : Ref (jl23_0_0 true e lp (xq true 57 τ l U) G) (jl23_0_0 false (Ex.of E) lp' (xq false 57 τ l U) G) := by
  rw [xq_eq hU]
  exact mjl23_0_0 h hlp _ _
noncomputable def bb23_0 (q : Bool) (e : Ex) (lp : Env → GS → Option (Exit × Env × GS)) (J0 : Env → GS → Option (Exit × Env × GS)) (τ : Env) (G : GS) : Option (Exit × Env × GS) :=
  bV q (τ 7) fun a7_ =>
  bV q (τ 8) fun a8_ =>
  bV q (τ 11) fun a11_ =>
  bV q (τ 21) fun a21_ =>
  bV q (τ 22) fun a22_ =>
  bV q (τ 23) fun a23_ =>
  bP (bn Q q .lss 3 (.tmp 23) (.tmp 22) a23_ a22_) fun x0 =>
  ifV x0 (
  bP (ias Q q 42 4 a21_ a23_) fun x1 =>
  bP (lda Q q 25 4 x1 G) fun x2 =>
  bS (al Q q 25 z25 G) fun x3 G4 =>
  bP (st Q q 25 4 x3 x2 G4) fun G5 =>
  bS (al Q q 28 z28 G5) fun x6 G7 =>
  bP (fa Q q 25 0 0 x3) fun x14 =>
  bP (ld Q q 3 x14 G7) fun x15 =>
  bP (bn Q q .eql 3 (.tmp 28) (.const (.int .i64 8)) x15 (.int .i64 8)) fun x16 =>
  ifV x16 (
  bP (lda Q q 57 16 a8_ G7) fun x17 =>
  bP (fa Q q 25 1 1 x3) fun x18 =>
  bP (ld Q q 3 x18 G7) fun x19 =>
  bS (e.ev.cl 34 [x17, x19] G7) fun x20 G21 =>
  bP (pExtract x20 0) fun x22 =>
  bP (pExtract x20 1) fun x23 =>
  bP (st Q q 28 3 x6 x22 G21) fun G24 =>
  bP (st Q q 57 16 a8_ x23 G24) fun G25 =>
  J0 (xq q 57 τ [(37, x23), (36, x22), (31, x20), (35, x20), (34, x19), (33, x18), (32, x17), (29, x16), (30, x16), (28, x15), (27, x14), (11, x6), (10, x3), (26, x2), (25, x1), (24, x0)] [(7, a7_), (8, a8_), (21, a21_), (22, a22_), (23, a23_)]) G25) (
  bP (bn Q q .eql 3 (.tmp 28) (.const (.int .i64 7)) x15 (.int .i64 7)) fun x26 =>
  ifV x26 (
  bP (fa Q q 28 0 0 x6) fun x27 =>
  bP (st Q q 26 1 x27 (.int .i64 7) G7) fun G28 =>
  bP (lda Q q 57 16 a8_ G28) fun x29 =>
  bS (e.ev.cl 40 [x29] G28) fun x30 G31 =>
  bX (xRange e.ev x30 #[43] (subAt [1, 1, 1, 1, 0, 1, 0, 0, 1, 1, 0, 0, 1, 1, 0, 1, 0, 1, 1, 1, 0, 1, 1, 0, 0] (bodyOf Tryd.f23)) (subAt [1, 1, 1, 1, 0, 1, 0, 0, 1, 1, 0, 0, 1, 1, 0, 1, 0, 1, 1, 1, 0, 1, 1, 0, 1] (bodyOf Tryd.f23)) (lsq q 57 τ [(42, x30), (41, x29), (40, x27), (38, x26), (39, x26), (29, x16), (30, x16), (28, x15), (27, x14), (11, x6), (10, x3), (26, x2), (25, x1), (24, x0)]) G31) fun e32 T33 G34 =>
  bV q (nth undef T33 7) fun T33x7_ =>
  bV q (nth undef T33 8) fun T33x8_ =>
  bV q (nth undef T33 11) fun T33x11_ =>
  bV q (nth undef T33 21) fun T33x21_ =>
  bV q (nth undef T33 22) fun T33x22_ =>
  bV q (nth undef T33 23) fun T33x23_ =>
  ifE e32 .normal (
  J0 (xq q 57 (nth undef T33) [] [(7, T33x7_), (8, T33x8_), (11, T33x11_), (21, T33x21_), (22, T33x22_), (23, T33x23_)]) G34) (ifE e32 (.exit 3) (
  J0 (xq q 57 (nth undef T33) [] [(7, T33x7_), (8, T33x8_), (11, T33x11_), (21, T33x21_), (22, T33x22_), (23, T33x23_)]) G34) (none))) (
  J0 (xq q 57 τ [(38, x26), (39, x26), (29, x16), (30, x16), (28, x15), (27, x14), (11, x6), (10, x3), (26, x2), (25, x1), (24, x0)] [(7, a7_), (8, a8_), (21, a21_), (22, a22_), (23, a23_)]) G7))) (
  some ((.exit 0), xq q 57 τ [(24, x0)] [(7, a7_), (8, a8_), (11, a11_), (21, a21_), (22, a22_), (23, a23_)], G))
noncomputable def b23_0 (q : Bool) (e : Ex) (lp : Env → GS → Option (Exit × Env × GS)) (τ : Env) (G : GS) : Option (Exit × Env × GS) := bb23_0 q e lp (jl23_0_0 q e lp) τ G
theorem mb23_0 {e : Ex} {E : Ev} (h : ExLe Q e E) {lp lp' : Env → GS → Option (Exit × Env × GS)} (hlp : LpLe lp lp') (τ : Env) (G : GS) : Ref (b23_0 true e lp τ G) (b23_0 false (Ex.of E) lp' τ G) := by
  unfold b23_0 bb23_0
  repeat' (with_reducible first | exact Ref.rfl' _ | exact ROp.r | refine Ref.bP ?_ fun _ => ?_ | refine Ref.bS ?_ fun _ _ => ?_ | exact Ref.cl (by assumption) | refine Ref.ifV ?_ ?_ | refine LpLe.rx (by assumption) ?_ | refine Ref.xitq ?_ | exact UOk.z | refine UOk.c (by assumption) ?_ | exact Ref.nil _ | refine Ref.bVe fun _ _ => ?_ | refine Ref.bLq (by assumption) ?_ fun _ _ _ => ?_ | refine Ref.ifE ?_ ?_ | refine Ref.chk ?_ ?_ | refine Imp.and ?_ ?_ | refine Imp.or ?_ | exact Imp.rfl' _ | refine Imp.sameO ?_ | refine Ref.gd ?_ | exact Ref.cValue (by assumption) | refine Ref.bX ?_ fun _ _ _ => ?_ | exact Ref.scQ (by assumption) | exact Ref.xRangeQ (by assumption) | exact Ref.cInvoke (by assumption) | refine mkjl23_0_0 (by assumption) (by assumption) ?_)
noncomputable def jtl23_0 (J0 : Env → GS → Option (Exit × Env × GS)) : JT (Exit × Env × GS) :=
  (.n none .e (.n none .e (.n none (.n none (.n none .e (.n none .e (.n (some (fun T G => J0 (nth undef T) G)) .e .e))) .e) .e)))
theorem jrl23_0_0 (orc : FuncId → Bool) (J0 : Env → GS → Option (Exit × Env × GS)) (T : List Value) (G : GS) : runC Q (evL Q orc) 57 (jtl23_0 J0) (subAt [1, 1, 1, 1, 0, 1, 0, 0] (bodyOf Tryd.f23)) (seqXE (fun τ G' => mapE ((E orc).lp (subAt [1, 1, 1, 1, 0, 1, 0, 0] (bodyOf Tryd.f23)) (lst 57 (nth undef (lst 57 τ))) G')) fun e τ G' => some (e, nth undef (lst 57 τ), G')) [true, true, false, false, true, true] (nth undef T) G = jbl23_0_0 false (Ex.of (E orc)) (fun τ G => mapE ((E orc).lp (subAt [1, 1, 1, 1, 0, 1, 0, 0] (bodyOf Tryd.f23)) (lst 57 τ) G))  (nth undef T) G := by kernel_rfl
theorem jol23_0 (orc : FuncId → Bool) : JOk Q orc 57 (jtl23_0 (jl23_0_0 false (Ex.of (E orc)) (fun τ G => mapE ((E orc).lp (subAt [1, 1, 1, 1, 0, 1, 0, 0] (bodyOf Tryd.f23)) (lst 57 τ) G))) ) (subAt [1, 1, 1, 1, 0, 1, 0, 0] (bodyOf Tryd.f23)) (seqXE (fun τ G' => mapE ((E orc).lp (subAt [1, 1, 1, 1, 0, 1, 0, 0] (bodyOf Tryd.f23)) (lst 57 (nth undef (lst 57 τ))) G')) fun e τ G' => some (e, nth undef (lst 57 τ), G')) :=
  jOk Q orc (l := [([true, true, false, false, true, true], (fun T G => jl23_0_0 false (Ex.of (E orc)) (fun τ G => mapE ((E orc).lp (subAt [1, 1, 1, 1, 0, 1, 0, 0] (bodyOf Tryd.f23)) (lst 57 τ) G)) (nth undef T) G))]) (by kernel_rfl) (AllE.c (fun T G => jrl23_0_0 orc (jl23_0_0 false (Ex.of (E orc)) (fun τ G => mapE ((E orc).lp (subAt [1, 1, 1, 1, 0, 1, 0, 0] (bodyOf Tryd.f23)) (lst 57 τ) G))) T G) (AllE.z))
theorem jel23_0 (orc : FuncId → Bool) (J0 : Env → GS → Option (Exit × Env × GS)) (T : List Value) (G : GS) : sxC Q (evL Q orc) 57 (jtl23_0 J0) (subAt [1, 1, 1, 1, 0, 1, 0, 0] (bodyOf Tryd.f23)) (nth undef T) G (seqXE (fun τ G' => mapE ((E orc).lp (subAt [1, 1, 1, 1, 0, 1, 0, 0] (bodyOf Tryd.f23)) (lst 57 (nth undef (lst 57 τ))) G')) fun e τ G' => some (e, nth undef (lst 57 τ), G')) = bb23_0 false (Ex.of (E orc)) (fun τ G => mapE ((E orc).lp (subAt [1, 1, 1, 1, 0, 1, 0, 0] (bodyOf Tryd.f23)) (lst 57 τ) G)) J0 (nth undef T) G := by kernel_rfl
theorem l23_0 {orc : FuncId → Bool} {e : Ex} (h : ExLe Q e (E orc)) (lp : Env → GS → Option (Exit × Env × GS)) (hlp : ∀ τ G, Ref (lp τ G) (mapE ((E orc).lp (subAt [1, 1, 1, 1, 0, 1, 0, 0] (bodyOf Tryd.f23)) (lst 57 τ) G))) (T : List Value) (G : GS) (hT : T.length = 57) : Ref (b23_0 true e lp (nth undef T) G) (mapE ((E orc).lp (subAt [1, 1, 1, 1, 0, 1, 0, 0] (bodyOf Tryd.f23)) T G)) :=
  fun r hr => lp_sxC Q orc G (jtl23_0 (jl23_0_0 false (Ex.of (E orc)) (fun τ G => mapE ((E orc).lp (subAt [1, 1, 1, 1, 0, 1, 0, 0] (bodyOf Tryd.f23)) (lst 57 τ) G))) ) hT (jol23_0 orc) (jel23_0 orc (jl23_0_0 false (Ex.of (E orc)) (fun τ G => mapE ((E orc).lp (subAt [1, 1, 1, 1, 0, 1, 0, 0] (bodyOf Tryd.f23)) (lst 57 τ) G))) T G) (mb23_0 h ⟨hlp⟩ _ _ r hr)
/-- coxswain/pool.Play -/
noncomputable def s23 (q : Bool) (e : Ex) (v0 v1 : Value) (G : GS) : Option (Value × GS) :=
  bP (bn Q q .lss 3 (.tmp 13) (.const (.int .i64 0)) v0 (.int .i64 0)) fun x0 =>
  bS (gd x0 false (some (v0, G)) G) fun x1 G2 =>
  bS (gd x0 false (bP (bn Q q .gtr 3 (.tmp 16) (.const (.int .i64 1024)) x1 (.int .i64 1024)) fun y => some (y, G2)) G2) fun x3 G4 =>
  bP (pickV x0 (.bool true) x3) fun x5 =>
  ifV x5 (
  some (.tuple #[(.slice none 0 0), (.slice none 0 0), (.int .i64 3)], G4)) (
  bS (e.ev.cl 42 [v0] G4) fun x6 G7 =>
  bS (al Q q 57 z57 G7) fun x8 G9 =>
  bP (st Q q 57 16 x8 x6 G9) fun G10 =>
  bP (ln Q q 42 v1) fun x11 =>
  bLq q e 23 0 (subAt [1, 1, 1, 1, 0, 1, 0, 0] (bodyOf Tryd.f23)) 57 (nth undef [v0, v1]) [(23, (.int .i64 0)), (22, x11), (21, v1), (8, x8), (20, x6), (19, v0), (7, (.slice none 0 0)), (18, x5), (17, x3), (16, x1), (15, x0), (14, x0), (13, v0), (6, (.int .i64 0)), (5, (.slice none 0 0)), (4, (.slice none 0 0))] [] G10 fun e12 t13 G14 =>
  bV q (t13 7) fun t13x7_ =>
  bV q (t13 8) fun t13x8_ =>
  ifE e12 (.exit 0) (
  bP (lda Q q 57 16 t13x8_ G14) fun x15 =>
  bS (e.ev.cl 38 [x15, (.int .i64 1024)] G14) fun x16 G17 =>
  some (.tuple #[t13x7_, x16, (.int .i64 0)], G17)) (none))
theorem m23 {e : Ex} {E : Ev} (h : ExLe Q e E) (v0 v1 : Value) (G : GS) : Ref (s23 true e v0 v1 G) (s23 false (Ex.of E) v0 v1 G) := by
  unfold s23
  exact Ref.gq
theorem f23 {orc : FuncId → Bool} {e : Ex} (h : ExLe Q e (E orc)) (v0 v1 : Value) (G : GS) : Ref (s23 true e v0 v1 G) ((E orc).cl 23 [v0, v1] G) :=
  fun r hr => cl_sxE_some Q orc (vs := [v0, v1]) G Tryd.func23 (by kernel_rfl) (by kernel_rfl) (by kernel_rfl) (by kernel_rfl) (by kernel_rfl) (by kernel_rfl) (m23 h v0 v1 G r hr)
noncomputable def r23_0 (q : Bool) (e : Ex) (l : Nat) (τ : Env) (u0 : Value) (G : GS) : Option (Value × GS) :=
  bV q (τ 8) fun a8_ =>
  bV q (τ 11) fun a11_ =>
  bP (G.loop l) fun r0 => if r0.st = .ready then
  bP (bd Q q 28 z28 [(1, 1, 1)] [u0]) fun x1 =>
  bP (lda Q q 57 16 a8_ (G.putLoop l (Lp.setSt r0 .busy))) fun x2 =>
  bS (e.ev.cl 37 [x2, u0] (G.putLoop l (Lp.setSt r0 .busy))) fun x3 G4 =>
  bP (st Q q 28 3 a11_ x1 G4) fun G5 =>
  bP (st Q q 57 16 a8_ x3 G5) fun G6 =>
  roundEnd l (.exit 3) G6
  else none
theorem mr23_0 {e : Ex} {E : Ev} (h : ExLe Q e E) (l : Nat) (τ : Env) (u0 : Value) (G : GS) : Ref (r23_0 true e l τ u0 G) (r23_0 false (Ex.of E) l τ u0 G) := by
  unfold r23_0
  repeat' (with_reducible first | exact Ref.rfl' _ | exact ROp.r | refine Ref.bP ?_ fun _ => ?_ | refine Ref.bS ?_ fun _ _ => ?_ | exact Ref.cl (by assumption) | refine Ref.ifV ?_ ?_ | refine LpLe.rx (by assumption) ?_ | refine Ref.xitq ?_ | exact UOk.z | refine UOk.c (by assumption) ?_ | exact Ref.nil _ | refine Ref.bVe fun _ _ => ?_ | refine Ref.bLq (by assumption) ?_ fun _ _ _ => ?_ | refine Ref.ifE ?_ ?_ | refine Ref.chk ?_ ?_ | refine Imp.and ?_ ?_ | refine Imp.or ?_ | exact Imp.rfl' _ | refine Imp.sameO ?_ | refine Ref.gd ?_ | exact Ref.cValue (by assumption) | refine Ref.bX ?_ fun _ _ _ => ?_ | exact Ref.scQ (by assumption) | exact Ref.xRangeQ (by assumption) | exact Ref.cInvoke (by assumption) | refine Ref.rdy ?_)
theorem d23_0 {orc : FuncId → Bool} {e : Ex} (h : ExLe Q e (E orc)) (l : Nat) (T : List Value) (u0 : Value) (G : GS) {st : LoopState} {pend : Option Code} (hl : G.loop l = some ⟨st, pend, T, [43], (subAt [1, 1, 1, 1, 0, 1, 0, 0, 1, 1, 0, 0, 1, 1, 0, 1, 0, 1, 1, 1, 0, 1, 1, 0, 0] (bodyOf Tryd.f23)), (subAt [1, 1, 1, 1, 0, 1, 0, 0, 1, 1, 0, 0, 1, 1, 0, 1, 0, 1, 1, 1, 0, 1, 1, 0, 1] (bodyOf Tryd.f23))⟩) (hT : T.length = 57) : Ref (r23_0 true e l (nth undef T) u0 G) ((E orc).rd l [u0] G) :=
  fun r hr => rd_sxE Q orc hl (by kernel_rfl) hT (by kernel_rfl) (mr23_0 h l _ u0 G r hr)
noncomputable def jbl24_0_0 (q : Bool) (e : Ex) (lp : Env → GS → Option (Exit × Env × GS)) (τ : Env) (G : GS) : Option (Exit × Env × GS) :=
  bV q (τ 1) fun a1_ =>
  bV q (τ 7) fun a7_ =>
  bV q (τ 8) fun a8_ =>
  bV q (τ 9) fun a9_ =>
  bV q (τ 11) fun a11_ =>
  bP (lda Q q 28 3 a11_ G) fun x8 =>
  bS (bs Q q 33 1 (rep z28 1) 3 [(0, 0, 3)] [x8] G) fun x9 G10 =>
  bS (ap Q q 33 33 3 24 a8_ x9 G10) fun x11 G12 =>
  bP (bn Q q .add 3 (.tmp 24) (.const (.int .i64 1)) a9_ (.int .i64 1)) fun x13 =>
  lp (xq q 51 τ [(9, x13), (25, x13), (24, a9_), (8, x11), (48, x11), (47, x9), (46, x8), (45, a8_)] [(1, a1_), (7, a7_), (11, a11_)]) G12
noncomputable def jl24_0_0 (q : Bool) (e : Ex) (lp : Env → GS → Option (Exit × Env × GS)) (τ : Env) (G : GS) : Option (Exit × Env × GS) := jbl24_0_0 q e lp τ G
theorem mjl24_0_0 {e : Ex} {E : Ev} (h : ExLe Q e E) {lp lp' : Env → GS → Option (Exit × Env × GS)} (hlp : LpLe lp lp') (τ : Env) (G : GS) : Ref (jl24_0_0 true e lp τ G) (jl24_0_0 false (Ex.of E) lp' τ G) := by
  unfold jl24_0_0 jbl24_0_0
  exact Ref.gq
theorem mkjl24_0_0 {e : Ex} {E : Ev} (h : ExLe Q e E) {lp lp' : Env → GS → Option (Exit × Env × GS)} (hlp : LpLe lp lp') {τ : Env} {l U : List (Nat × Value)} {G : GS} (hU : UOk τ U) : Ref (jl24_0_0 true e lp (xq true 51 τ l U) G) (jl24_0_0 false (Ex.of E) lp' (xq false 51 τ l U) G) := by
  rw [xq_eq hU]
  exact mjl24_0_0 h hlp _ _
noncomputable def bb24_0 (q : Bool) (e : Ex) (lp : Env → GS → Option (Exit × Env × GS)) (J0 : Env → GS → Option (Exit × Env × GS)) (τ : Env) (G : GS) : Option (Exit × Env × GS) :=
  bV q (τ 1) fun a1_ =>
  bV q (τ 7) fun a7_ =>
  bV q (τ 8) fun a8_ =>
  bV q (τ 9) fun a9_ =>
  bV q (τ 11) fun a11_ =>
  bP (ln Q q 42 a1_) fun x0 =>
  bP (bn Q q .lss 3 (.tmp 20) (.tmp 22) a9_ x0) fun x1 =>
  ifV x1 (
  bP (ias Q q 42 4 a1_ a9_) fun x2 =>
  bP (lda Q q 25 4 x2 G) fun x3 =>
  bS (e.ev.cl 13 [a7_, x3] G) fun x4 G5 =>
  bS (al Q q 28 z28 G5) fun x6 G7 =>
  bP (ln Q q 33 x4) fun x14 =>
  bP (bn Q q .gtr 3 (.tmp 33) (.const (.int .i64 0)) x14 (.int .i64 0)) fun x15 =>
  ifV x15 (
  bP (ias Q q 33 3 x4 (.int .i64 0)) fun x16 =>
  bP (lda Q q 28 3 x16 G7) fun x17 =>
  bP (st Q q 28 3 x6 x17 G7) fun G18 =>
  bP (ias Q q 42 4 a1_ a9_) fun x19 =>
  bP (lda Q q 25 4 x19 (G18.room 8)) fun x20 =>
  bP (lda Q q 28 3 x6 (G18.room 8)) fun x21 =>
  bS (e.ev.cl 39 [a7_, x20, x21] (G18.room 8)) fun x23 G22 =>
  J0 (xq q 51 τ [(7, x23), (44, x23), (43, x21), (42, x20), (41, x19), (40, a9_), (39, a1_), (38, a7_), (37, x17), (36, x16), (35, x4), (34, x15), (33, x14), (32, x4), (11, x6), (10, x4), (31, x4), (30, x3), (29, x2), (28, a9_), (27, a1_), (26, a7_), (23, x1), (22, x0), (21, a1_), (20, a9_)] [(1, a1_), (8, a8_), (9, a9_)]) G22) (
  J0 (xq q 51 τ [(34, x15), (33, x14), (32, x4), (11, x6), (10, x4), (31, x4), (30, x3), (29, x2), (28, a9_), (27, a1_), (26, a7_), (23, x1), (22, x0), (21, a1_), (20, a9_)] [(1, a1_), (7, a7_), (8, a8_), (9, a9_)]) G7)) (
  some ((.exit 0), xq q 51 τ [(23, x1), (22, x0), (21, a1_), (20, a9_)] [(1, a1_), (7, a7_), (8, a8_), (9, a9_), (11, a11_)], G))
noncomputable def b24_0 (q : Bool) (e : Ex) (lp : Env → GS → Option (Exit × Env × GS)) (τ : Env) (G : GS) : Option (Exit × Env × GS) := bb24_0 q e lp (jl24_0_0 q e lp) τ G
theorem mb24_0 {e : Ex} {E : Ev} (h : ExLe Q e E) {lp lp' : Env → GS → Option (Exit × Env × GS)} (hlp : LpLe lp lp') (τ : Env) (G : GS) : Ref (b24_0 true e lp τ G) (b24_0 false (Ex.of E) lp' τ G) := by
  unfold b24_0 bb24_0
  repeat' (with_reducible first | exact Ref.rfl' _ | exact ROp.r | refine Ref.bP ?_ fun _ => ?_ | refine Ref.bS ?_ fun _ _ => ?_ | exact Ref.cl (by assumption) | refine Ref.ifV ?_ ?_ | refine LpLe.rx (by assumption) ?_ | refine Ref.xitq ?_ | exact UOk.z | refine UOk.c (by assumption) ?_ | exact Ref.nil _ | refine Ref.bVe fun _ _ => ?_ | refine Ref.bLq (by assumption) ?_ fun _ _ _ => ?_ | refine Ref.ifE ?_ ?_ | refine Ref.chk ?_ ?_ | refine Imp.and ?_ ?_ | refine Imp.or ?_ | exact Imp.rfl' _ | refine Imp.sameO ?_ | refine Ref.gd ?_ | exact Ref.cValue (by assumption) | refine Ref.bX ?_ fun _ _ _ => ?_ | exact Ref.scQ (by assumption) | exact Ref.xRangeQ (by assumption) | exact Ref.cInvoke (by assumption) | refine mkjl24_0_0 (by assumption) (by assumption) ?_)
noncomputable def jtl24_0 (J0 : Env → GS → Option (Exit × Env × GS)) : JT (Exit × Env × GS) :=
  (.n none .e (.n none (.n none (.n none .e (.n none .e (.n (some (fun T G => J0 (nth undef T) G)) .e .e))) .e) .e))
theorem jrl24_0_0 (orc : FuncId → Bool) (J0 : Env → GS → Option (Exit × Env × GS)) (T : List Value) (G : GS) : runC Q (evL Q orc) 51 (jtl24_0 J0) (subAt [1, 1, 1, 1, 0, 1, 0, 0] (bodyOf Tryd.f24)) (seqXE (fun τ G' => mapE ((E orc).lp (subAt [1, 1, 1, 1, 0, 1, 0, 0] (bodyOf Tryd.f24)) (lst 51 (nth undef (lst 51 τ))) G')) fun e τ G' => some (e, nth undef (lst 51 τ), G')) [true, false, false, true, true] (nth undef T) G = jbl24_0_0 false (Ex.of (E orc)) (fun τ G => mapE ((E orc).lp (subAt [1, 1, 1, 1, 0, 1, 0, 0] (bodyOf Tryd.f24)) (lst 51 τ) G))  (nth undef T) G := by kernel_rfl
theorem jol24_0 (orc : FuncId → Bool) : JOk Q orc 51 (jtl24_0 (jl24_0_0 false (Ex.of (E orc)) (fun τ G => mapE ((E orc).lp (subAt [1, 1, 1, 1, 0, 1, 0, 0] (bodyOf Tryd.f24)) (lst 51 τ) G))) ) (subAt [1, 1, 1, 1, 0, 1, 0, 0] (bodyOf Tryd.f24)) (seqXE (fun τ G' => mapE ((E orc).lp (subAt [1, 1, 1, 1, 0, 1, 0, 0] (bodyOf Tryd.f24)) (lst 51 (nth undef (lst 51 τ))) G')) fun e τ G' => some (e, nth undef (lst 51 τ), G')) :=
  jOk Q orc (l := [([true, false, false, true, true], (fun T G => jl24_0_0 false (Ex.of (E orc)) (fun τ G => mapE ((E orc).lp (subAt [1, 1, 1, 1, 0, 1, 0, 0] (bodyOf Tryd.f24)) (lst 51 τ) G)) (nth undef T) G))]) (by kernel_rfl) (AllE.c (fun T G => jrl24_0_0 orc (jl24_0_0 false (Ex.of (E orc)) (fun τ G => mapE ((E orc).lp (subAt [1, 1, 1, 1, 0, 1, 0, 0] (bodyOf Tryd.f24)) (lst 51 τ) G))) T G) (AllE.z))
theorem jel24_0 (orc : FuncId → Bool) (J0 : Env → GS → Option (Exit × Env × GS)) (T : List Value) (G : GS) : sxC Q (evL Q orc) 51 (jtl24_0 J0) (subAt [1, 1, 1, 1, 0, 1, 0, 0] (bodyOf Tryd.f24)) (nth undef T) G (seqXE (fun τ G' => mapE ((E orc).lp (subAt [1, 1, 1, 1, 0, 1, 0, 0] (bodyOf Tryd.f24)) (lst 51 (nth undef (lst 51 τ))) G')) fun e τ G' => some (e, nth undef (lst 51 τ), G')) = bb24_0 false (Ex.of (E orc)) (fun τ G => mapE ((E orc).lp (subAt [1, 1, 1, 1, 0, 1, 0, 0] (bodyOf Tryd.f24)) (lst 51 τ) G)) J0 (nth undef T) G := by kernel_rfl
theorem l24_0 {orc : FuncId → Bool} {e : Ex} (h : ExLe Q e (E orc)) (lp : Env → GS → Option (Exit × Env × GS)) (hlp : ∀ τ G, Ref (lp τ G) (mapE ((E orc).lp (subAt [1, 1, 1, 1, 0, 1, 0, 0] (bodyOf Tryd.f24)) (lst 51 τ) G))) (T : List Value) (G : GS) (hT : T.length = 51) : Ref (b24_0 true e lp (nth undef T) G) (mapE ((E orc).lp (subAt [1, 1, 1, 1, 0, 1, 0, 0] (bodyOf Tryd.f24)) T G)) :=
  fun r hr => lp_sxC Q orc G (jtl24_0 (jl24_0_0 false (Ex.of (E orc)) (fun τ G => mapE ((E orc).lp (subAt [1, 1, 1, 1, 0, 1, 0, 0] (bodyOf Tryd.f24)) (lst 51 τ) G))) ) hT (jol24_0 orc) (jel24_0 orc (jl24_0_0 false (Ex.of (E orc)) (fun τ G => mapE ((E orc).lp (subAt [1, 1, 1, 1, 0, 1, 0, 0] (bodyOf Tryd.f24)) (lst 51 τ) G))) T G) (mb24_0 h ⟨hlp⟩ _ _ r hr)
/-- coxswain/coxswainref08.Play -/
noncomputable def s24 (q : Bool) (e : Ex) (v0 v1 : Value) (G : GS) : Option (Value × GS) :=
  bP (bn Q q .lss 3 (.tmp 12) (.const (.int .i64 0)) v0 (.int .i64 0)) fun x0 =>
  bS (gd x0 false (some (v0, G)) G) fun x1 G2 =>
  bS (gd x0 false (bP (bn Q q .gtr 3 (.tmp 15) (.const (.int .i64 1024)) x1 (.int .i64 1024)) fun y => some (y, G2)) G2) fun x3 G4 =>
  bP (pickV x0 (.bool true) x3) fun x5 =>
  ifV x5 (
  some (.tuple #[(.slice none 0 0), (.slice none 0 0), (.int .i64 3)], G4)) (
  bS (e.ev.cl 15 [(.slice none 0 0), v0] G4) fun x6 G7 =>
  bLq q e 24 0 (subAt [1, 1, 1, 1, 0, 1, 0, 0] (bodyOf Tryd.f24)) 51 (nth undef [v0, v1]) [(9, (.int .i64 0)), (8, (.slice none 0 0)), (7, x6), (19, x6), (18, v0), (17, x5), (16, x3), (15, x1), (14, x0), (13, x0), (12, v0), (6, (.int .i64 0)), (5, (.slice none 0 0)), (4, (.slice none 0 0))] [] G7 fun e8 t9 G10 =>
  bV q (t9 7) fun t9x7_ =>
  bV q (t9 8) fun t9x8_ =>
  ifE e8 (.exit 0) (
  some (.tuple #[t9x8_, t9x7_, (.int .i64 0)], G10)) (none))
theorem m24 {e : Ex} {E : Ev} (h : ExLe Q e E) (v0 v1 : Value) (G : GS) : Ref (s24 true e v0 v1 G) (s24 false (Ex.of E) v0 v1 G) := by
  unfold s24
  exact Ref.gq
theorem f24 {orc : FuncId → Bool} {e : Ex} (h : ExLe Q e (E orc)) (v0 v1 : Value) (G : GS) : Ref (s24 true e v0 v1 G) ((E orc).cl 24 [v0, v1] G) :=
  fun r hr => cl_sxE_some Q orc (vs := [v0, v1]) G Tryd.func24 (by kernel_rfl) (by kernel_rfl) (by kernel_rfl) (by kernel_rfl) (by kernel_rfl) (by kernel_rfl) (m24 h v0 v1 G r hr)
noncomputable def b25_0 (q : Bool) (e : Ex) (lp : Env → GS → Option (Exit × Env × GS)) (τ : Env) (G : GS) : Option (Exit × Env × GS) :=
  bV q (τ 0) fun a0_ =>
  bV q (τ 1) fun a1_ =>
  bV q (τ 5) fun a5_ =>
  bV q (τ 6) fun a6_ =>
  bS (gd a5_ true (some (a6_, G)) G) fun x0 G1 =>
  bS (gd a5_ true (some (a0_, G1)) G1) fun x2 G3 =>
  bS (gd a5_ true (bP (ln Q q 42 x2) fun y => some (y, G3)) G3) fun x4 G5 =>
  bS (gd a5_ true (bP (bn Q q .lss 3 (.tmp 14) (.tmp 16) x0 x4) fun y => some (y, G5)) G5) fun x6 G7 =>
  bP (pickV a5_ x6 (.bool false)) fun x8 =>
  ifV x8 (
  bP (ias Q q 42 4 a0_ a6_) fun x9 =>
  bP (lda Q q 25 4 x9 (G7.room 10)) fun x10 =>
  bP (ias Q q 42 4 a1_ a6_) fun x11 =>
  bP (lda Q q 25 4 x11 (G7.room 10)) fun x12 =>
  bP (bn Q q .eql 25 (.tmp 24) (.tmp 28) x10 x12) fun x13 =>
  bP (bn Q q .add 3 (.tmp 19) (.const (.int .i64 1)) a6_ (.int .i64 1)) fun x14 =>
  lp (xq q 31 τ [(6, x14), (20, x14), (19, a6_), (5, x13), (29, x13), (28, x12), (27, x11), (26, a6_), (25, a1_), (24, x10), (23, x9), (22, a6_), (21, a0_), (18, x8), (17, x6), (16, x4), (15, x2), (14, x0), (13, a5_), (12, a5_)] [(0, a0_), (1, a1_)]) (G7.room 10)) (
  some ((.exit 0), xq q 31 τ [(18, x8), (17, x6), (16, x4), (15, x2), (14, x0), (13, a5_), (12, a5_)] [(0, a0_), (1, a1_), (5, a5_), (6, a6_)], G7))
theorem mb25_0 {e : Ex} {E : Ev} (h : ExLe Q e E) {lp lp' : Env → GS → Option (Exit × Env × GS)} (hlp : LpLe lp lp') (τ : Env) (G : GS) : Ref (b25_0 true e lp τ G) (b25_0 false (Ex.of E) lp' τ G) := by
  unfold b25_0
  exact Ref.gq
theorem l25_0 {orc : FuncId → Bool} {e : Ex} (h : ExLe Q e (E orc)) (lp : Env → GS → Option (Exit × Env × GS)) (hlp : ∀ τ G, Ref (lp τ G) (mapE ((E orc).lp (subAt [1, 1, 0, 1, 0, 0] (bodyOf Tryd.f25)) (lst 31 τ) G))) (T : List Value) (G : GS) (hT : T.length = 31) : Ref (b25_0 true e lp (nth undef T) G) (mapE ((E orc).lp (subAt [1, 1, 0, 1, 0, 0] (bodyOf Tryd.f25)) T G)) :=
  fun r hr => lp_sxN Q orc G hT (by kernel_rfl) (mb25_0 h ⟨hlp⟩ _ _ r hr)
/-- coxswain/coxswainkit.SameOps -/
noncomputable def s25 (q : Bool) (e : Ex) (v0 v1 : Value) (G : GS) : Option (Value × GS) :=
  bP (ln Q q 42 v0) fun x0 =>
  bP (ln Q q 42 v1) fun x1 =>
  bP (bn Q q .eql 3 (.tmp 8) (.tmp 10) x0 x1) fun x2 =>
  bLq q e 25 0 (subAt [1, 1, 0, 1, 0, 0] (bodyOf Tryd.f25)) 31 (nth undef [v0, v1]) [(6, (.int .i64 0)), (5, x2), (11, x2), (10, x1), (9, v1), (8, x0), (7, v0), (4, (.bool false))] [] G fun e3 t4 G5 =>
  bV q (t4 5) fun t4x5_ =>
  ifE e3 (.exit 0) (
  some (t4x5_, G5)) (none)
theorem m25 {e : Ex} {E : Ev} (h : ExLe Q e E) (v0 v1 : Value) (G : GS) : Ref (s25 true e v0 v1 G) (s25 false (Ex.of E) v0 v1 G) := by
  unfold s25
  exact Ref.gq
theorem f25 {orc : FuncId → Bool} {e : Ex} (h : ExLe Q e (E orc)) (v0 v1 : Value) (G : GS) : Ref (s25 true e v0 v1 G) ((E orc).cl 25 [v0, v1] G) :=
  fun r hr => cl_sxE_some Q orc (vs := [v0, v1]) G Tryd.func25 (by kernel_rfl) (by kernel_rfl) (by kernel_rfl) (by kernel_rfl) (by kernel_rfl) (by kernel_rfl) (m25 h v0 v1 G r hr)
/-- coxswain/coxswainlaw08.next -/
noncomputable def s26 (q : Bool) (e : Ex) (v0 v1 v2 v3 v4 : Value) (G : GS) : Option (Value × GS) :=
  bS (bx q v0 G) fun x0 G1 =>
  bS (bs Q q 22 3 (rep z3 3) 1 [(0, 0, 1), (1, 1, 1), (2, 2, 1)] [(.int .i64 1), (.int .i64 4), (.int .i64 5)] G1) fun x2 G3 =>
  bP (lda Q q 25 4 x0 G3) fun x4 =>
  bP (bd Q q 28 z28 [(0, 0, 1), (1, 1, 1)] [v1, v2]) fun x5 =>
  bS (e.ev.cl 10 [x2, x4, x5] G3) fun x6 G7 =>
  bP (pExtract x6 0) fun x8 =>
  bP (pExtract x6 1) fun x9 =>
  bP (eb Q q false 4 (.tmp 22) (.tmp 23) x9 v3) fun x10 =>
  bS (gd x10 true (some (x8, G7)) G7) fun x11 G12 =>
  bS (gd x10 true (some (v4, G12)) G12) fun x13 G14 =>
  bS (gd x10 true (bS (e.ev.cl 16 [x11, x13] G14) fun y G => some (y, G)) G14) fun x15 G16 =>
  bP (pickV x10 x15 (.bool false)) fun x17 =>
  some (x17, G16)
theorem m26 {e : Ex} {E : Ev} (h : ExLe Q e E) (v0 v1 v2 v3 v4 : Value) (G : GS) : Ref (s26 true e v0 v1 v2 v3 v4 G) (s26 false (Ex.of E) v0 v1 v2 v3 v4 G) := by
  unfold s26
  exact Ref.gq
theorem f26 {orc : FuncId → Bool} {e : Ex} (h : ExLe Q e (E orc)) (v0 v1 v2 v3 v4 : Value) (G : GS) : Ref (s26 true e v0 v1 v2 v3 v4 G) ((E orc).cl 26 [v0, v1, v2, v3, v4] G) :=
  fun r hr => cl_sxE_some Q orc (vs := [v0, v1, v2, v3, v4]) G Tryd.func26 (by kernel_rfl) (by kernel_rfl) (by kernel_rfl) (by kernel_rfl) (by kernel_rfl) (by kernel_rfl) (m26 h v0 v1 v2 v3 v4 G r hr)
/-- coxswain/coxswainlaw08.alloc -/
noncomputable def s27 (q : Bool) (e : Ex) (G : GS) : Option (Value × GS) :=
  bS (al Q q 25 z25 G) fun x0 G1 =>
  bP (bd Q q 25 z25 [(0, 0, 1)] [(.int .i64 7)]) fun x2 =>
  bP (st Q q 25 4 x0 x2 G1) fun G3 =>
  bP (lda Q q 25 4 x0 G3) fun x4 =>
  some (x4, G3)
theorem m27 {e : Ex} {E : Ev} (h : ExLe Q e E) (G : GS) : Ref (s27 true e  G) (s27 false (Ex.of E)  G) := by
  unfold s27
  exact Ref.gq
theorem f27 {orc : FuncId → Bool} {e : Ex} (h : ExLe Q e (E orc)) (ho : orc 27 = false) (G : GS) : Ref (s27 true e  G) ((E orc).cl 27 [] G) :=
  fun r hr => cl_sxE_some Q orc (vs := []) G Tryd.func27 (by kernel_rfl) (by kernel_rfl) ho (by kernel_rfl) (by kernel_rfl) (by kernel_rfl) (m27 h  G r hr)
/-- coxswain/coxswainlaw08.free -/
noncomputable def s28 (q : Bool) (e : Ex) (v0 : Value) (G : GS) : Option (Value × GS) :=
  bS (al Q q 25 z25 G) fun x0 G1 =>
  bP (bd Q q 25 z25 [(0, 0, 1), (1, 1, 1)] [(.int .i64 8), v0]) fun x2 =>
  bP (st Q q 25 4 x0 x2 G1) fun G3 =>
  bP (lda Q q 25 4 x0 G3) fun x4 =>
  some (x4, G3)
theorem m28 {e : Ex} {E : Ev} (h : ExLe Q e E) (v0 : Value) (G : GS) : Ref (s28 true e v0 G) (s28 false (Ex.of E) v0 G) := by
  unfold s28
  exact Ref.gq
theorem f28 {orc : FuncId → Bool} {e : Ex} (h : ExLe Q e (E orc)) (v0 : Value) (G : GS) : Ref (s28 true e v0 G) ((E orc).cl 28 [v0] G) :=
  fun r hr => cl_sxE_some Q orc (vs := [v0]) G Tryd.func28 (by kernel_rfl) (by kernel_rfl) (by kernel_rfl) (by kernel_rfl) (by kernel_rfl) (by kernel_rfl) (m28 h v0 G r hr)
/-- coxswain/coxswainlaw08.one -/
noncomputable def s29 (q : Bool) (e : Ex) (v0 v1 : Value) (G : GS) : Option (Value × GS) :=
  bS (bx q v0 G) fun x0 G1 =>
  bS (bs Q q 22 3 (rep z3 3) 1 [(0, 0, 1), (1, 1, 1), (2, 2, 1)] [(.int .i64 1), (.int .i64 4), (.int .i64 5)] G1) fun x2 G3 =>
  bP (lda Q q 25 4 x0 G3) fun x4 =>
  bS (e.ev.cl 12 [x2, x4] G3) fun x5 G6 =>
  bP (bd Q q 28 z28 [(0, 0, 1)] [v1]) fun x7 =>
  bS (bs Q q 33 1 (rep z28 1) 3 [(0, 0, 3)] [x7] G6) fun x8 G9 =>
  bS (e.ev.cl 17 [x5, x8] G9) fun x10 G11 =>
  some (x10, G11)
theorem m29 {e : Ex} {E : Ev} (h : ExLe Q e E) (v0 v1 : Value) (G : GS) : Ref (s29 true e v0 v1 G) (s29 false (Ex.of E) v0 v1 G) := by
  unfold s29
  exact Ref.gq
theorem f29 {orc : FuncId → Bool} {e : Ex} (h : ExLe Q e (E orc)) (v0 v1 : Value) (G : GS) : Ref (s29 true e v0 v1 G) ((E orc).cl 29 [v0, v1] G) :=
  fun r hr => cl_sxE_some Q orc (vs := [v0, v1]) G Tryd.func29 (by kernel_rfl) (by kernel_rfl) (by kernel_rfl) (by kernel_rfl) (by kernel_rfl) (by kernel_rfl) (m29 h v0 v1 G r hr)
noncomputable def b30_0 (q : Bool) (e : Ex) (lp : Env → GS → Option (Exit × Env × GS)) (τ : Env) (G : GS) : Option (Exit × Env × GS) :=
  bV q (τ 0) fun a0_ =>
  bV q (τ 3) fun a3_ =>
  bV q (τ 5) fun a5_ =>
  bP (ln Q q 33 a0_) fun x0 =>
  bP (bn Q q .lss 3 (.tmp 6) (.tmp 8) a5_ x0) fun x1 =>
  ifV x1 (
  bP (ias Q q 33 3 a0_ a5_) fun x2 =>
  bP (lda Q q 28 3 x2 (G.room 6)) fun x3 =>
  bP (lda Q q 28 3 a3_ (G.room 6)) fun x4 =>
  bP (bn Q q .eql 28 (.tmp 15) (.tmp 16) x3 x4) fun x5 =>
  ifV x5 (
  some (.ret, xq q 18 τ [(4, (.bool true)), (17, x5), (16, x4), (15, x3), (14, x2), (13, a5_), (12, a0_), (9, x1), (8, x0), (7, a0_), (6, a5_)] [(0, a0_), (3, a3_), (5, a5_)], (G.room 6))) (
  bP (bn Q q .add 3 (.tmp 10) (.const (.int .i64 1)) a5_ (.int .i64 1)) fun x6 =>
  lp (xq q 18 τ [(5, x6), (11, x6), (10, a5_), (17, x5), (16, x4), (15, x3), (14, x2), (13, a5_), (12, a0_), (9, x1), (8, x0), (7, a0_), (6, a5_)] [(0, a0_), (3, a3_)]) (G.room 6))) (
  some ((.exit 0), xq q 18 τ [(9, x1), (8, x0), (7, a0_), (6, a5_)] [(0, a0_), (3, a3_), (5, a5_)], G))
theorem mb30_0 {e : Ex} {E : Ev} (h : ExLe Q e E) {lp lp' : Env → GS → Option (Exit × Env × GS)} (hlp : LpLe lp lp') (τ : Env) (G : GS) : Ref (b30_0 true e lp τ G) (b30_0 false (Ex.of E) lp' τ G) := by
  unfold b30_0
  exact Ref.gq
theorem l30_0 {orc : FuncId → Bool} {e : Ex} (h : ExLe Q e (E orc)) (lp : Env → GS → Option (Exit × Env × GS)) (hlp : ∀ τ G, Ref (lp τ G) (mapE ((E orc).lp (subAt [1, 0, 1, 0, 0] (bodyOf Tryd.f30)) (lst 18 τ) G))) (T : List Value) (G : GS) (hT : T.length = 18) : Ref (b30_0 true e lp (nth undef T) G) (mapE ((E orc).lp (subAt [1, 0, 1, 0, 0] (bodyOf Tryd.f30)) T G)) :=
  fun r hr => lp_sxN Q orc G hT (by kernel_rfl) (mb30_0 h ⟨hlp⟩ _ _ r hr)
/-- coxswain/coxswainlaw08.has -/
noncomputable def s30 (q : Bool) (e : Ex) (v0 v1 : Value) (G : GS) : Option (Value × GS) :=
  bS (bx q v1 G) fun x0 G1 =>
  bLq q e 30 0 (subAt [1, 0, 1, 0, 0] (bodyOf Tryd.f30)) 18 (nth undef [v0, v1]) [(5, (.int .i64 0)), (4, (.bool false)), (3, x0)] [] G1 fun e2 t3 G4 =>
  bV q (t3 4) fun t3x4_ =>
  ifE e2 (.exit 0) (
  some ((.bool false), G4)) (ifE e2 .ret (
  some (t3x4_, G4)) (none))
theorem m30 {e : Ex} {E : Ev} (h : ExLe Q e E) (v0 v1 : Value) (G : GS) : Ref (s30 true e v0 v1 G) (s30 false (Ex.of E) v0 v1 G) := by
  unfold s30
  exact Ref.gq
theorem f30 {orc : FuncId → Bool} {e : Ex} (h : ExLe Q e (E orc)) (v0 v1 : Value) (G : GS) : Ref (s30 true e v0 v1 G) ((E orc).cl 30 [v0, v1] G) :=
  fun r hr => cl_sxE_some Q orc (vs := [v0, v1]) G Tryd.func30 (by kernel_rfl) (by kernel_rfl) (by kernel_rfl) (by kernel_rfl) (by kernel_rfl) (by kernel_rfl) (m30 h v0 v1 G r hr)
noncomputable def b31_0 (q : Bool) (e : Ex) (lp : Env → GS → Option (Exit × Env × GS)) (τ : Env) (G : GS) : Option (Exit × Env × GS) :=
  bV q (τ 0) fun a0_ =>
  bV q (τ 1) fun a1_ =>
  bV q (τ 5) fun a5_ =>
  bP (ln Q q 22 a0_) fun x0 =>
  bP (bn Q q .lss 3 (.tmp 6) (.tmp 8) a5_ x0) fun x1 =>
  ifV x1 (
  bP (ias Q q 22 1 a0_ a5_) fun x2 =>
  bP (ld Q q 3 x2 G) fun x3 =>
  bP (bn Q q .eql 3 (.tmp 15) (.tmp 16) x3 a1_) fun x4 =>
  ifV x4 (
  some (.ret, xq q 18 τ [(4, (.bool true)), (17, x4), (16, a1_), (15, x3), (14, x2), (13, a5_), (12, a0_), (9, x1), (8, x0), (7, a0_), (6, a5_)] [(0, a0_), (1, a1_), (5, a5_)], G)) (
  bP (bn Q q .add 3 (.tmp 10) (.const (.int .i64 1)) a5_ (.int .i64 1)) fun x5 =>
  lp (xq q 18 τ [(5, x5), (11, x5), (10, a5_), (17, x4), (16, a1_), (15, x3), (14, x2), (13, a5_), (12, a0_), (9, x1), (8, x0), (7, a0_), (6, a5_)] [(0, a0_), (1, a1_)]) G)) (
  some ((.exit 0), xq q 18 τ [(9, x1), (8, x0), (7, a0_), (6, a5_)] [(0, a0_), (1, a1_), (5, a5_)], G))
theorem mb31_0 {e : Ex} {E : Ev} (h : ExLe Q e E) {lp lp' : Env → GS → Option (Exit × Env × GS)} (hlp : LpLe lp lp') (τ : Env) (G : GS) : Ref (b31_0 true e lp τ G) (b31_0 false (Ex.of E) lp' τ G) := by
  unfold b31_0
  exact Ref.gq
theorem l31_0 {orc : FuncId → Bool} {e : Ex} (h : ExLe Q e (E orc)) (lp : Env → GS → Option (Exit × Env × GS)) (hlp : ∀ τ G, Ref (lp τ G) (mapE ((E orc).lp (subAt [1, 0, 1, 0, 0] (bodyOf Tryd.f31)) (lst 18 τ) G))) (T : List Value) (G : GS) (hT : T.length = 18) : Ref (b31_0 true e lp (nth undef T) G) (mapE ((E orc).lp (subAt [1, 0, 1, 0, 0] (bodyOf Tryd.f31)) T G)) :=
  fun r hr => lp_sxN Q orc G hT (by kernel_rfl) (mb31_0 h ⟨hlp⟩ _ _ r hr)
/-- coxswain/coxswainkit.Among -/
noncomputable def s31 (q : Bool) (e : Ex) (v0 v1 : Value) (G : GS) : Option (Value × GS) :=
  bLq q e 31 0 (subAt [1, 0, 1, 0, 0] (bodyOf Tryd.f31)) 18 (nth undef [v0, v1]) [(5, (.int .i64 0)), (4, (.bool false))] [] G fun e0 t1 G2 =>
  bV q (t1 4) fun t1x4_ =>
  ifE e0 (.exit 0) (
  some ((.bool false), G2)) (ifE e0 .ret (
  some (t1x4_, G2)) (none))
theorem m31 {e : Ex} {E : Ev} (h : ExLe Q e E) (v0 v1 : Value) (G : GS) : Ref (s31 true e v0 v1 G) (s31 false (Ex.of E) v0 v1 G) := by
  unfold s31
  exact Ref.gq
theorem f31 {orc : FuncId → Bool} {e : Ex} (h : ExLe Q e (E orc)) (v0 v1 : Value) (G : GS) : Ref (s31 true e v0 v1 G) ((E orc).cl 31 [v0, v1] G) :=
  fun r hr => cl_sxE_some Q orc (vs := [v0, v1]) G Tryd.func31 (by kernel_rfl) (by kernel_rfl) (by kernel_rfl) (by kernel_rfl) (by kernel_rfl) (by kernel_rfl) (m31 h v0 v1 G r hr)
/-- coxswain/coxswainkit.Pick -/
noncomputable def s32 (q : Bool) (e : Ex) (v0 v1 : Value) (G : GS) : Option (Value × GS) :=
  bP (bn Q q .leq 3 (.tmp 5) (.const (.int .i64 0)) v1 (.int .i64 0)) fun x0 =>
  ifV x0 (
  some ((.int .i64 0), G)) (
  bP (bn Q q .rem 3 (.tmp 7) (.tmp 8) v0 v1) fun x1 =>
  bP (bn Q q .lss 3 (.tmp 10) (.const (.int .i64 0)) x1 (.int .i64 0)) fun x2 =>
  ifV x2 (
  bP (bn Q q .add 3 (.tmp 12) (.tmp 13) x1 v1) fun x3 =>
  some (x3, G)) (
  some (x1, G)))
theorem m32 {e : Ex} {E : Ev} (h : ExLe Q e E) (v0 v1 : Value) (G : GS) : Ref (s32 true e v0 v1 G) (s32 false (Ex.of E) v0 v1 G) := by
  unfold s32
  exact Ref.gq
theorem f32 {orc : FuncId → Bool} {e : Ex} (h : ExLe Q e (E orc)) (v0 v1 : Value) (G : GS) : Ref (s32 true e v0 v1 G) ((E orc).cl 32 [v0, v1] G) :=
  fun r hr => cl_sxE_some Q orc (vs := [v0, v1]) G Tryd.func32 (by kernel_rfl) (by kernel_rfl) (by kernel_rfl) (by kernel_rfl) (by kernel_rfl) (by kernel_rfl) (m32 h v0 v1 G r hr)
noncomputable def b33_0 (q : Bool) (e : Ex) (lp : Env → GS → Option (Exit × Env × GS)) (τ : Env) (G : GS) : Option (Exit × Env × GS) :=
  bV q (τ 3) fun a3_ =>
  bV q (τ 6) fun a6_ =>
  bV q (τ 7) fun a7_ =>
  bV q (τ 8) fun a8_ =>
  bP (bn Q q .lss 3 (.tmp 8) (.tmp 7) a8_ a7_) fun x0 =>
  ifV x0 (
  bP (ias Q q 22 1 a6_ a8_) fun x1 =>
  bP (ld Q q 3 x1 G) fun x2 =>
  bS (e.ev.cl 35 [x2] G) fun x3 G4 =>
  ifV x3 (
  bP (lda Q q 57 16 a3_ G4) fun x5 =>
  bS (e.ev.cl 43 [x5, x2] G4) fun x6 G7 =>
  bP (st Q q 57 16 a3_ x6 G7) fun G8 =>
  bP (bn Q q .add 3 (.tmp 8) (.const (.int .i64 1)) a8_ (.int .i64 1)) fun x9 =>
  lp (xq q 19 τ [(8, x9), (17, x9), (16, x6), (15, x2), (14, x5), (13, x3), (12, x2), (5, x2), (11, x2), (10, x1), (9, x0)] [(3, a3_), (6, a6_), (7, a7_)]) G8) (
  bP (bn Q q .add 3 (.tmp 8) (.const (.int .i64 1)) a8_ (.int .i64 1)) fun x10 =>
  lp (xq q 19 τ [(8, x10), (17, x10), (13, x3), (12, x2), (5, x2), (11, x2), (10, x1), (9, x0)] [(3, a3_), (6, a6_), (7, a7_)]) G4)) (
  some ((.exit 0), xq q 19 τ [(9, x0)] [(3, a3_), (6, a6_), (7, a7_), (8, a8_)], G))
theorem mb33_0 {e : Ex} {E : Ev} (h : ExLe Q e E) {lp lp' : Env → GS → Option (Exit × Env × GS)} (hlp : LpLe lp lp') (τ : Env) (G : GS) : Ref (b33_0 true e lp τ G) (b33_0 false (Ex.of E) lp' τ G) := by
  unfold b33_0
  exact Ref.gq
theorem l33_0 {orc : FuncId → Bool} {e : Ex} (h : ExLe Q e (E orc)) (lp : Env → GS → Option (Exit × Env × GS)) (hlp : ∀ τ G, Ref (lp τ G) (mapE ((E orc).lp (subAt [1, 1, 0, 1, 0, 0] (bodyOf Tryd.f33)) (lst 19 τ) G))) (T : List Value) (G : GS) (hT : T.length = 19) : Ref (b33_0 true e lp (nth undef T) G) (mapE ((E orc).lp (subAt [1, 1, 0, 1, 0, 0] (bodyOf Tryd.f33)) T G)) :=
  fun r hr => lp_sxN Q orc G hT (by kernel_rfl) (mb33_0 h ⟨hlp⟩ _ _ r hr)
/-- coxswain/pool.of -/
noncomputable def s33 (q : Bool) (e : Ex) (v0 : Value) (G : GS) : Option (Value × GS) :=
  bS (al Q q 57 z57 G) fun x0 G1 =>
  bS (al Q q 57 z57 G1) fun x2 G3 =>
  bP (ln Q q 22 v0) fun x4 =>
  bLq q e 33 0 (subAt [1, 1, 0, 1, 0, 0] (bodyOf Tryd.f33)) 19 (nth undef [v0]) [(8, (.int .i64 0)), (7, x4), (6, v0), (3, x2), (2, x0)] [] G3 fun e5 t6 G7 =>
  bV q (t6 2) fun t6x2_ =>
  bV q (t6 3) fun t6x3_ =>
  ifE e5 (.exit 0) (
  bP (lda Q q 57 16 t6x3_ G7) fun x8 =>
  bP (st Q q 57 16 t6x2_ x8 G7) fun G9 =>
  bP (lda Q q 57 16 t6x2_ G9) fun x10 =>
  some (x10, G9)) (none)
theorem m33 {e : Ex} {E : Ev} (h : ExLe Q e E) (v0 : Value) (G : GS) : Ref (s33 true e v0 G) (s33 false (Ex.of E) v0 G) := by
  unfold s33
  exact Ref.gq
theorem f33 {orc : FuncId → Bool} {e : Ex} (h : ExLe Q e (E orc)) (v0 : Value) (G : GS) : Ref (s33 true e v0 G) ((E orc).cl 33 [v0] G) :=
  fun r hr => cl_sxE_some Q orc (vs := [v0]) G Tryd.func33 (by kernel_rfl) (by kernel_rfl) (by kernel_rfl) (by kernel_rfl) (by kernel_rfl) (by kernel_rfl) (m33 h v0 G r hr)
/-- coxswain/pool.free -/
noncomputable def s34 (q : Bool) (e : Ex) (v0 v1 : Value) (G : GS) : Option (Value × GS) :=
  bS (bx q v0 G) fun x0 G1 =>
  bS (al Q q 28 z28 G1) fun x2 G3 =>
  bS (al Q q 57 z57 G3) fun x4 G5 =>
  bS (e.ev.cl 35 [v1] G5) fun x6 G7 =>
  bP (un Q q .not x6) fun x8 =>
  ifV x8 (
  bP (bd Q q 28 z28 [(0, 0, 1)] [(.int .i64 3)]) fun x9 =>
  bP (lda Q q 57 16 x0 (G7.room 4)) fun x10 =>
  bP (st Q q 28 3 x2 x9 (G7.room 4)) fun G11 =>
  chk ((sameO (lda Q q 57 16 x0 G11) x10 && true)) <|
  bP (st Q q 57 16 x4 x10 G11) fun G12 =>
  bP (lda Q q 28 3 x2 G12) fun x13 =>
  bP (lda Q q 57 16 x4 G12) fun x14 =>
  some (.tuple #[x13, x14], G12)) (
  bP (lda Q q 57 16 x0 G7) fun x15 =>
  bS (e.ev.cl 36 [x15, v1] G7) fun x16 G17 =>
  ifV x16 (
  bP (bd Q q 28 z28 [(0, 0, 1)] [(.int .i64 8)]) fun x18 =>
  bP (lda Q q 57 16 x0 (G17.room 4)) fun x19 =>
  bP (st Q q 28 3 x2 x18 (G17.room 4)) fun G20 =>
  chk ((sameO (lda Q q 57 16 x0 G20) x19 && true)) <|
  bP (st Q q 57 16 x4 x19 G20) fun G21 =>
  bP (lda Q q 28 3 x2 G21) fun x22 =>
  bP (lda Q q 57 16 x4 G21) fun x23 =>
  some (.tuple #[x22, x23], G21)) (
  bP (bd Q q 28 z28 [] []) fun x24 =>
  bP (lda Q q 57 16 x0 G17) fun x25 =>
  bS (e.ev.cl 43 [x25, v1] G17) fun x26 G27 =>
  bP (st Q q 28 3 x2 x24 G27) fun G28 =>
  bP (st Q q 57 16 x4 x26 G28) fun G29 =>
  bP (lda Q q 28 3 x2 G29) fun x30 =>
  bP (lda Q q 57 16 x4 G29) fun x31 =>
  some (.tuple #[x30, x31], G29)))
theorem m34 {e : Ex} {E : Ev} (h : ExLe Q e E) (v0 v1 : Value) (G : GS) : Ref (s34 true e v0 v1 G) (s34 false (Ex.of E) v0 v1 G) := by
  unfold s34
  exact Ref.gq
theorem f34 {orc : FuncId → Bool} {e : Ex} (h : ExLe Q e (E orc)) (v0 v1 : Value) (G : GS) : Ref (s34 true e v0 v1 G) ((E orc).cl 34 [v0, v1] G) :=
  fun r hr => cl_sxE_some Q orc (vs := [v0, v1]) G Tryd.func34 (by kernel_rfl) (by kernel_rfl) (by kernel_rfl) (by kernel_rfl) (by kernel_rfl) (by kernel_rfl) (m34 h v0 v1 G r hr)
/-- coxswain/pool.inside -/
noncomputable def s35 (q : Bool) (e : Ex) (v0 : Value) (G : GS) : Option (Value × GS) :=
  bP (bn Q q .geq 3 (.tmp 3) (.const (.int .i64 0)) v0 (.int .i64 0)) fun x0 =>
  bS (gd x0 true (some (v0, G)) G) fun x1 G2 =>
  bS (gd x0 true (bP (bn Q q .lss 3 (.tmp 6) (.const (.int .i64 1024)) x1 (.int .i64 1024)) fun y => some (y, G2)) G2) fun x3 G4 =>
  bP (pickV x0 x3 (.bool false)) fun x5 =>
  some (x5, G4)
theorem m35 {e : Ex} {E : Ev} (h : ExLe Q e E) (v0 : Value) (G : GS) : Ref (s35 true e v0 G) (s35 false (Ex.of E) v0 G) := by
  unfold s35
  exact Ref.gq
theorem f35 {orc : FuncId → Bool} {e : Ex} (h : ExLe Q e (E orc)) (v0 : Value) (G : GS) : Ref (s35 true e v0 G) ((E orc).cl 35 [v0] G) :=
  fun r hr => cl_sxE_some Q orc (vs := [v0]) G Tryd.func35 (by kernel_rfl) (by kernel_rfl) (by kernel_rfl) (by kernel_rfl) (by kernel_rfl) (by kernel_rfl) (m35 h v0 G r hr)
/-- (coxswain/pool.set).has -/
noncomputable def s36 (q : Bool) (e : Ex) (v0 v1 : Value) (G : GS) : Option (Value × GS) :=
  bS (bx q v0 G) fun x0 G1 =>
  bP (bn Q q .quo 3 (.tmp 5) (.const (.int .i64 64)) v1 (.int .i64 64)) fun x2 =>
  bP (iaa Q q 57 16 1 x0 x2) fun x3 =>
  bP (ld Q q 23 x3 G1) fun x4 =>
  bP (bn Q q .rem 3 (.tmp 9) (.const (.int .i64 64)) v1 (.int .i64 64)) fun x5 =>
  bP (bn Q q .shr 23 (.tmp 8) (.tmp 10) x4 x5) fun x6 =>
  bP (bn Q q .and 23 (.tmp 11) (.const (.int .u64 1)) x6 (.int .u64 1)) fun x7 =>
  bP (bn Q q .eql 23 (.tmp 12) (.const (.int .u64 1)) x7 (.int .u64 1)) fun x8 =>
  some (x8, G1)
theorem m36 {e : Ex} {E : Ev} (h : ExLe Q e E) (v0 v1 : Value) (G : GS) : Ref (s36 true e v0 v1 G) (s36 false (Ex.of E) v0 v1 G) := by
  unfold s36
  exact Ref.gq
theorem f36 {orc : FuncId → Bool} {e : Ex} (h : ExLe Q e (E orc)) (v0 v1 : Value) (G : GS) : Ref (s36 true e v0 v1 G) ((E orc).cl 36 [v0, v1] G) :=
  fun r hr => cl_sxE_some Q orc (vs := [v0, v1]) G Tryd.func36 (by kernel_rfl) (by kernel_rfl) (by kernel_rfl) (by kernel_rfl) (by kernel_rfl) (by kernel_rfl) (m36 h v0 v1 G r hr)
/-- (coxswain/pool.set).without -/
noncomputable def s37 (q : Bool) (e : Ex) (v0 v1 : Value) (G : GS) : Option (Value × GS) :=
  bS (bx q v0 G) fun x0 G1 =>
  bS (al Q q 57 z57 G1) fun x2 G3 =>
  bP (bn Q q .quo 3 (.tmp 5) (.const (.int .i64 64)) v1 (.int .i64 64)) fun x4 =>
  bP (iaa Q q 57 16 1 x0 x4) fun x5 =>
  bP (ld Q q 23 x5 (G3.room 10)) fun x6 =>
  bP (bn Q q .rem 3 (.tmp 9) (.const (.int .i64 64)) v1 (.int .i64 64)) fun x7 =>
  bP (bn Q q .shl 23 (.const (.int .u64 1)) (.tmp 10) (.int .u64 1) x7) fun x8 =>
  bP (bn Q q .andNot 23 (.tmp 8) (.tmp 11) x6 x8) fun x9 =>
  bP (iaa Q q 57 16 1 x0 x4) fun x10 =>
  bP (st Q q 23 1 x10 x9 (G3.room 10)) fun G11 =>
  bP (lda Q q 57 16 x0 G11) fun x12 =>
  bP (st Q q 57 16 x2 x12 G11) fun G13 =>
  bP (lda Q q 57 16 x2 G13) fun x14 =>
  some (x14, G13)
theorem m37 {e : Ex} {E : Ev} (h : ExLe Q e E) (v0 v1 : Value) (G : GS) : Ref (s37 true e v0 v1 G) (s37 false (Ex.of E) v0 v1 G) := by
  unfold s37
  exact Ref.gq
theorem f37 {orc : FuncId → Bool} {e : Ex} (h : ExLe Q e (E orc)) (v0 v1 : Value) (G : GS) : Ref (s37 true e v0 v1 G) ((E orc).cl 37 [v0, v1] G) :=
  fun r hr => cl_sxE_some Q orc (vs := [v0, v1]) G Tryd.func37 (by kernel_rfl) (by kernel_rfl) (by kernel_rfl) (by kernel_rfl) (by kernel_rfl) (by kernel_rfl) (m37 h v0 v1 G r hr)
/-- (coxswain/pool.set).list -/
noncomputable def s38 (q : Bool) (e : Ex) (v0 v1 : Value) (G : GS) : Option (Value × GS) :=
  bS (bx q v0 G) fun x0 G1 =>
  bS (bx q v1 G1) fun x2 G3 =>
  bS (al Q q 22 z22 G3) fun x4 G5 =>
  bP (lda Q q 57 16 x0 G5) fun x6 =>
  bS (e.ev.cl 40 [x6] G5) fun x7 G8 =>
  bX (xRange e.ev x7 #[9] (subAt [1, 1, 0, 1, 0, 0] (bodyOf Tryd.f38)) (subAt [1, 1, 0, 1, 0, 1] (bodyOf Tryd.f38)) (lsq q 19 (nth undef [v0, v1]) [(8, x7), (7, x6), (5, x4), (4, (.slice none 0 0)), (3, x2), (2, x0)]) G8) fun e9 T10 G11 =>
  bV q (nth undef T10 5) fun T10x5_ =>
  ifE e9 .normal (
  bP (ld Q q 22 T10x5_ G11) fun x12 =>
  some (x12, G11)) (ifE e9 (.exit 0) (
  bP (ld Q q 22 T10x5_ G11) fun x13 =>
  some (x13, G11)) (none))
theorem m38 {e : Ex} {E : Ev} (h : ExLe Q e E) (v0 v1 : Value) (G : GS) : Ref (s38 true e v0 v1 G) (s38 false (Ex.of E) v0 v1 G) := by
  unfold s38
  exact Ref.gq
theorem f38 {orc : FuncId → Bool} {e : Ex} (h : ExLe Q e (E orc)) (v0 v1 : Value) (G : GS) : Ref (s38 true e v0 v1 G) ((E orc).cl 38 [v0, v1] G) :=
  fun r hr => cl_sxE_some Q orc (vs := [v0, v1]) G Tryd.func38 (by kernel_rfl) (by kernel_rfl) (by kernel_rfl) (by kernel_rfl) (by kernel_rfl) (by kernel_rfl) (m38 h v0 v1 G r hr)
noncomputable def r38_0 (q : Bool) (e : Ex) (l : Nat) (τ : Env) (u0 : Value) (G : GS) : Option (Value × GS) :=
  bV q (τ 3) fun a3_ =>
  bV q (τ 5) fun a5_ =>
  bP (G.loop l) fun r0 => if r0.st = .ready then
  bP (ld Q q 22 a5_ (G.putLoop l (Lp.setSt r0 .busy))) fun x1 =>
  bP (ln Q q 22 x1) fun x2 =>
  bP (ld Q q 3 a3_ (G.putLoop l (Lp.setSt r0 .busy))) fun x3 =>
  bP (bn Q q .geq 3 (.tmp 11) (.tmp 12) x2 x3) fun x4 =>
  ifV x4 (
  roundEnd l (.exit 0) (G.putLoop l (Lp.setSt r0 .busy))) (
  bP (ld Q q 22 a5_ (G.putLoop l (Lp.setSt r0 .busy))) fun x5 =>
  bS (bs Q q 22 1 (rep z3 1) 1 [(0, 0, 1)] [u0] (G.putLoop l (Lp.setSt r0 .busy))) fun x6 G7 =>
  bS (ap Q q 22 22 1 8 x5 x6 G7) fun x8 G9 =>
  bP (st Q q 22 1 a5_ x8 G9) fun G10 =>
  roundEnd l .normal G10)
  else none
theorem mr38_0 {e : Ex} {E : Ev} (h : ExLe Q e E) (l : Nat) (τ : Env) (u0 : Value) (G : GS) : Ref (r38_0 true e l τ u0 G) (r38_0 false (Ex.of E) l τ u0 G) := by
  unfold r38_0
  repeat' (with_reducible first | exact Ref.rfl' _ | exact ROp.r | refine Ref.bP ?_ fun _ => ?_ | refine Ref.bS ?_ fun _ _ => ?_ | exact Ref.cl (by assumption) | refine Ref.ifV ?_ ?_ | refine LpLe.rx (by assumption) ?_ | refine Ref.xitq ?_ | exact UOk.z | refine UOk.c (by assumption) ?_ | exact Ref.nil _ | refine Ref.bVe fun _ _ => ?_ | refine Ref.bLq (by assumption) ?_ fun _ _ _ => ?_ | refine Ref.ifE ?_ ?_ | refine Ref.chk ?_ ?_ | refine Imp.and ?_ ?_ | refine Imp.or ?_ | exact Imp.rfl' _ | refine Imp.sameO ?_ | refine Ref.gd ?_ | exact Ref.cValue (by assumption) | refine Ref.bX ?_ fun _ _ _ => ?_ | exact Ref.scQ (by assumption) | exact Ref.xRangeQ (by assumption) | exact Ref.cInvoke (by assumption) | refine Ref.rdy ?_)
theorem d38_0 {orc : FuncId → Bool} {e : Ex} (h : ExLe Q e (E orc)) (l : Nat) (T : List Value) (u0 : Value) (G : GS) {st : LoopState} {pend : Option Code} (hl : G.loop l = some ⟨st, pend, T, [9], (subAt [1, 1, 0, 1, 0, 0] (bodyOf Tryd.f38)), (subAt [1, 1, 0, 1, 0, 1] (bodyOf Tryd.f38))⟩) (hT : T.length = 19) : Ref (r38_0 true e l (nth undef T) u0 G) ((E orc).rd l [u0] G) :=
  fun r hr => rd_sxE Q orc hl (by kernel_rfl) hT (by kernel_rfl) (mr38_0 h l _ u0 G r hr)
noncomputable def jbl39_0_0 (q : Bool) (e : Ex) (lp : Env → GS → Option (Exit × Env × GS)) (τ : Env) (G : GS) : Option (Exit × Env × GS) :=
  bV q (τ 0) fun a0_ =>
  bV q (τ 4) fun a4_ =>
  bV q (τ 5) fun a5_ =>
  bV q (τ 7) fun a7_ =>
  bV q (τ 8) fun a8_ =>
  bV q (τ 9) fun a9_ =>
  bP (bn Q q .add 3 (.tmp 17) (.const (.int .i64 1)) a8_ (.int .i64 1)) fun x1 =>
  lp (xq q 46 τ [(8, x1), (18, x1), (17, a8_)] [(0, a0_), (4, a4_), (5, a5_), (7, a7_), (9, a9_)]) G
noncomputable def jl39_0_0 (q : Bool) (e : Ex) (lp : Env → GS → Option (Exit × Env × GS)) (τ : Env) (G : GS) : Option (Exit × Env × GS) := jbl39_0_0 q e lp τ G
theorem mjl39_0_0 {e : Ex} {E : Ev} (h : ExLe Q e E) {lp lp' : Env → GS → Option (Exit × Env × GS)} (hlp : LpLe lp lp') (τ : Env) (G : GS) : Ref (jl39_0_0 true e lp τ G) (jl39_0_0 false (Ex.of E) lp' τ G) := by
  unfold jl39_0_0 jbl39_0_0
  exact Ref.gq
theorem mkjl39_0_0 {e : Ex} {E : Ev} (h : ExLe Q e E) {lp lp' : Env → GS → Option (Exit × Env × GS)} (hlp : LpLe lp lp') {τ : Env} {l U : List (Nat × Value)} {G : GS} (hU : UOk τ U) : Ref (jl39_0_0 true e lp (xq true 46 τ l U) G) (jl39_0_0 false (Ex.of E) lp' (xq false 46 τ l U) G) := by
  rw [xq_eq hU]
  exact mjl39_0_0 h hlp _ _
noncomputable def jbl39_0_1 (q : Bool) (e : Ex) (lp : Env → GS → Option (Exit × Env × GS)) (J0 : Env → GS → Option (Exit × Env × GS)) (τ : Env) (G : GS) : Option (Exit × Env × GS) :=
  bV q (τ 0) fun a0_ =>
  bV q (τ 4) fun a4_ =>
  bV q (τ 5) fun a5_ =>
  bV q (τ 7) fun a7_ =>
  bV q (τ 8) fun a8_ =>
  bV q (τ 9) fun a9_ =>
  ifV a9_ (
  bS (bs Q q 22 1 (rep z3 1) 1 [(0, 0, 1)] [a8_] G) fun x4 G5 =>
  bS (ap Q q 22 22 1 8 a7_ x4 G5) fun x6 G7 =>
  J0 (xq q 46 τ [(7, x6), (44, x6), (43, x4), (42, a8_), (41, a7_), (40, a9_)] [(0, a0_), (4, a4_), (5, a5_), (8, a8_), (9, a9_)]) G7) (
  J0 (xq q 46 τ [(40, a9_)] [(0, a0_), (4, a4_), (5, a5_), (7, a7_), (8, a8_), (9, a9_)]) G)
noncomputable def jl39_0_1 (q : Bool) (e : Ex) (lp : Env → GS → Option (Exit × Env × GS)) (τ : Env) (G : GS) : Option (Exit × Env × GS) := jbl39_0_1 q e lp (jl39_0_0 q e lp) τ G
theorem mjl39_0_1 {e : Ex} {E : Ev} (h : ExLe Q e E) {lp lp' : Env → GS → Option (Exit × Env × GS)} (hlp : LpLe lp lp') (τ : Env) (G : GS) : Ref (jl39_0_1 true e lp τ G) (jl39_0_1 false (Ex.of E) lp' τ G) := by
  unfold jl39_0_1 jbl39_0_1
  repeat' (with_reducible first | exact Ref.rfl' _ | exact ROp.r | refine Ref.bP ?_ fun _ => ?_ | refine Ref.bS ?_ fun _ _ => ?_ | exact Ref.cl (by assumption) | refine Ref.ifV ?_ ?_ | refine LpLe.rx (by assumption) ?_ | refine Ref.xitq ?_ | exact UOk.z | refine UOk.c (by assumption) ?_ | exact Ref.nil _ | refine Ref.bVe fun _ _ => ?_ | refine Ref.bLq (by assumption) ?_ fun _ _ _ => ?_ | refine Ref.ifE ?_ ?_ | refine Ref.chk ?_ ?_ | refine Imp.and ?_ ?_ | refine Imp.or ?_ | exact Imp.rfl' _ | refine Imp.sameO ?_ | refine Ref.gd ?_ | exact Ref.cValue (by assumption) | refine Ref.bX ?_ fun _ _ _ => ?_ | exact Ref.scQ (by assumption) | exact Ref.xRangeQ (by assumption) | exact Ref.cInvoke (by assumption) | refine mkjl39_0_0 (by assumption) (by assumption) ?_)
theorem mkjl39_0_1 {e : Ex} {E : Ev} (h : ExLe Q e E) {lp lp' : Env → GS → Option (Exit × Env × GS)} (hlp : LpLe lp lp') {τ : Env} {l U : List (Nat × Value)} {G : GS} (hU : UOk τ U) : Ref (jl39_0_1 true e lp (xq true 46 τ l U) G) (jl39_0_1 false (Ex.of E) lp' (xq false 46 τ l U) G) := by
  rw [xq_eq hU]
  exact mjl39_0_1 h hlp _ _
noncomputable def jbl39_0_2 (q : Bool) (e : Ex) (lp : Env → GS → Option (Exit × Env × GS)) (J0 J1 : Env → GS → Option (Exit × Env × GS)) (τ : Env) (G : GS) : Option (Exit × Env × GS) :=
  bV q (τ 0) fun a0_ =>
  bV q (τ 4) fun a4_ =>
  bV q (τ 5) fun a5_ =>
  bV q (τ 7) fun a7_ =>
  bV q (τ 8) fun a8_ =>
  bV q (τ 9) fun a9_ =>
  bP (fa Q q 25 0 0 a4_) fun x8 =>
  bP (ld Q q 3 x8 G) fun x9 =>
  bP (bn Q q .eql 3 (.tmp 32) (.const (.int .i64 8)) x9 (.int .i64 8)) fun x10 =>
  bS (gd x10 true (some (a8_, G)) G) fun x11 G12 =>
  bS (gd x10 true (bP (fa Q q 25 1 1 a4_) fun y => some (y, G12)) G12) fun x13 G14 =>
  bS (gd x10 true (bP (ld Q q 3 x13 G14) fun y => some (y, G14)) G14) fun x15 G16 =>
  bS (gd x10 true (bP (bn Q q .eql 3 (.tmp 35) (.tmp 37) x11 x15) fun y => some (y, G16)) G16) fun x17 G18 =>
  bP (pickV x10 x17 (.bool false)) fun x19 =>
  ifV x19 (
  J1 (xq q 46 τ [(9, (.bool true)), (39, x19), (38, x17), (37, x15), (36, x13), (35, x11), (34, x10), (33, x10), (32, x9), (31, x8)] [(0, a0_), (4, a4_), (5, a5_), (7, a7_), (8, a8_)]) G18) (
  J1 (xq q 46 τ [(39, x19), (38, x17), (37, x15), (36, x13), (35, x11), (34, x10), (33, x10), (32, x9), (31, x8)] [(0, a0_), (4, a4_), (5, a5_), (7, a7_), (8, a8_), (9, a9_)]) G18)
noncomputable def jl39_0_2 (q : Bool) (e : Ex) (lp : Env → GS → Option (Exit × Env × GS)) (τ : Env) (G : GS) : Option (Exit × Env × GS) := jbl39_0_2 q e lp (jl39_0_0 q e lp) (jl39_0_1 q e lp) τ G
theorem mjl39_0_2 {e : Ex} {E : Ev} (h : ExLe Q e E) {lp lp' : Env → GS → Option (Exit × Env × GS)} (hlp : LpLe lp lp') (τ : Env) (G : GS) : Ref (jl39_0_2 true e lp τ G) (jl39_0_2 false (Ex.of E) lp' τ G) := by
  unfold jl39_0_2 jbl39_0_2
  repeat' (with_reducible first | exact Ref.rfl' _ | exact ROp.r | refine Ref.bP ?_ fun _ => ?_ | refine Ref.bS ?_ fun _ _ => ?_ | exact Ref.cl (by assumption) | refine Ref.ifV ?_ ?_ | refine LpLe.rx (by assumption) ?_ | refine Ref.xitq ?_ | exact UOk.z | refine UOk.c (by assumption) ?_ | exact Ref.nil _ | refine Ref.bVe fun _ _ => ?_ | refine Ref.bLq (by assumption) ?_ fun _ _ _ => ?_ | refine Ref.ifE ?_ ?_ | refine Ref.chk ?_ ?_ | refine Imp.and ?_ ?_ | refine Imp.or ?_ | exact Imp.rfl' _ | refine Imp.sameO ?_ | refine Ref.gd ?_ | exact Ref.cValue (by assumption) | refine Ref.bX ?_ fun _ _ _ => ?_ | exact Ref.scQ (by assumption) | exact Ref.xRangeQ (by assumption) | exact Ref.cInvoke (by assumption) | refine mkjl39_0_0 (by assumption) (by assumption) ?_ | refine mkjl39_0_1 (by assumption) (by assumption) ?_)
theorem mkjl39_0_2 {e : Ex} {E : Ev} (h : ExLe Q e E) {lp lp' : Env → GS → Option (Exit × Env × GS)} (hlp : LpLe lp lp') {τ : Env} {l U : List (Nat × Value)} {G : GS} (hU : UOk τ U) : Ref (jl39_0_2 true e lp (xq true 46 τ l U) G) (jl39_0_2 false (Ex.of E) lp' (xq false 46 τ l U) G) := by
  rw [xq_eq hU]
  exact mjl39_0_2 h hlp _ _
noncomputable def bb39_0 (q : Bool) (e : Ex) (lp : Env → GS → Option (Exit × Env × GS)) (J0 J1 J2 : Env → GS → Option (Exit × Env × GS)) (τ : Env) (G : GS) : Option (Exit × Env × GS) :=
  bV q (τ 0) fun a0_ =>
  bV q (τ 4) fun a4_ =>
  bV q (τ 5) fun a5_ =>
  bV q (τ 7) fun a7_ =>
  bV q (τ 8) fun a8_ =>
  bV q (τ 9) fun a9_ =>
  bP (bn Q q .lss 3 (.tmp 15) (.const (.int .i64 1024)) a8_ (.int .i64 1024)) fun x0 =>
  ifV x0 (
  bS (e.ev.cl 31 [a0_, a8_] G) fun x2 G3 =>
  bP (fa Q q 25 0 0 a4_) fun x20 =>
  bP (ld Q q 3 x20 G3) fun x21 =>
  bP (bn Q q .eql 3 (.tmp 23) (.const (.int .i64 7)) x21 (.int .i64 7)) fun x22 =>
  bS (gd x22 true (some (a8_, G3)) G3) fun x23 G24 =>
  bS (gd x22 true (bP (fa Q q 28 1 1 a5_) fun y => some (y, G24)) G24) fun x25 G26 =>
  bS (gd x22 true (bP (ld Q q 3 x25 G26) fun y => some (y, G26)) G26) fun x27 G28 =>
  bS (gd x22 true (bP (bn Q q .eql 3 (.tmp 26) (.tmp 28) x23 x27) fun y => some (y, G28)) G28) fun x29 G30 =>
  bP (pickV x22 x29 (.bool false)) fun x31 =>
  ifV x31 (
  J2 (xq q 46 τ [(9, (.bool false)), (30, x31), (29, x29), (28, x27), (27, x25), (26, x23), (25, x22), (24, x22), (23, x21), (22, x20), (9, x2), (21, x2), (20, a8_), (19, a0_), (16, x0), (15, a8_)] [(0, a0_), (4, a4_), (5, a5_), (7, a7_), (8, a8_)]) G30) (
  J2 (xq q 46 τ [(30, x31), (29, x29), (28, x27), (27, x25), (26, x23), (25, x22), (24, x22), (23, x21), (22, x20), (9, x2), (21, x2), (20, a8_), (19, a0_), (16, x0), (15, a8_)] [(0, a0_), (4, a4_), (5, a5_), (7, a7_), (8, a8_)]) G30)) (
  some ((.exit 0), xq q 46 τ [(16, x0), (15, a8_)] [(0, a0_), (4, a4_), (5, a5_), (7, a7_), (8, a8_), (9, a9_)], G))
noncomputable def b39_0 (q : Bool) (e : Ex) (lp : Env → GS → Option (Exit × Env × GS)) (τ : Env) (G : GS) : Option (Exit × Env × GS) := bb39_0 q e lp (jl39_0_0 q e lp) (jl39_0_1 q e lp) (jl39_0_2 q e lp) τ G
theorem mb39_0 {e : Ex} {E : Ev} (h : ExLe Q e E) {lp lp' : Env → GS → Option (Exit × Env × GS)} (hlp : LpLe lp lp') (τ : Env) (G : GS) : Ref (b39_0 true e lp τ G) (b39_0 false (Ex.of E) lp' τ G) := by
  unfold b39_0 bb39_0
  repeat' (with_reducible first | exact Ref.rfl' _ | exact ROp.r | refine Ref.bP ?_ fun _ => ?_ | refine Ref.bS ?_ fun _ _ => ?_ | exact Ref.cl (by assumption) | refine Ref.ifV ?_ ?_ | refine LpLe.rx (by assumption) ?_ | refine Ref.xitq ?_ | exact UOk.z | refine UOk.c (by assumption) ?_ | exact Ref.nil _ | refine Ref.bVe fun _ _ => ?_ | refine Ref.bLq (by assumption) ?_ fun _ _ _ => ?_ | refine Ref.ifE ?_ ?_ | refine Ref.chk ?_ ?_ | refine Imp.and ?_ ?_ | refine Imp.or ?_ | exact Imp.rfl' _ | refine Imp.sameO ?_ | refine Ref.gd ?_ | exact Ref.cValue (by assumption) | refine Ref.bX ?_ fun _ _ _ => ?_ | exact Ref.scQ (by assumption) | exact Ref.xRangeQ (by assumption) | exact Ref.cInvoke (by assumption) | refine mkjl39_0_0 (by assumption) (by assumption) ?_ | refine mkjl39_0_1 (by assumption) (by assumption) ?_ | refine mkjl39_0_2 (by assumption) (by assumption) ?_)
noncomputable def jtl39_0 (J0 J1 J2 : Env → GS → Option (Exit × Env × GS)) : JT (Exit × Env × GS) :=
  (.n none .e (.n (some (fun T G => J0 (nth undef T) G)) (.n none (.n none .e (.n (some (fun T G => J2 (nth undef T) G)) .e (.n (some (fun T G => J1 (nth undef T) G)) .e .e))) .e) .e))
theorem jrl39_0_0 (orc : FuncId → Bool) (J0 J1 J2 : Env → GS → Option (Exit × Env × GS)) (T : List Value) (G : GS) : runC Q (evL Q orc) 46 (jtl39_0 J0 J1 J2) (subAt [1, 1, 1, 0, 1, 0, 0] (bodyOf Tryd.f39)) (seqXE (fun τ G' => mapE ((E orc).lp (subAt [1, 1, 1, 0, 1, 0, 0] (bodyOf Tryd.f39)) (lst 46 (nth undef (lst 46 τ))) G')) fun e τ G' => some (e, nth undef (lst 46 τ), G')) [true] (nth undef T) G = jbl39_0_0 false (Ex.of (E orc)) (fun τ G => mapE ((E orc).lp (subAt [1, 1, 1, 0, 1, 0, 0] (bodyOf Tryd.f39)) (lst 46 τ) G))  (nth undef T) G := by kernel_rfl
theorem jrl39_0_2 (orc : FuncId → Bool) (J0 J1 J2 : Env → GS → Option (Exit × Env × GS)) (T : List Value) (G : GS) : runC Q (evL Q orc) 46 (jtl39_0 J0 J1 J2) (subAt [1, 1, 1, 0, 1, 0, 0] (bodyOf Tryd.f39)) (seqXE (fun τ G' => mapE ((E orc).lp (subAt [1, 1, 1, 0, 1, 0, 0] (bodyOf Tryd.f39)) (lst 46 (nth undef (lst 46 τ))) G')) fun e τ G' => some (e, nth undef (lst 46 τ), G')) [true, false, false, true] (nth undef T) G = jbl39_0_2 false (Ex.of (E orc)) (fun τ G => mapE ((E orc).lp (subAt [1, 1, 1, 0, 1, 0, 0] (bodyOf Tryd.f39)) (lst 46 τ) G)) J0 J1 (nth undef T) G := by kernel_rfl
theorem jrl39_0_1 (orc : FuncId → Bool) (J0 J1 J2 : Env → GS → Option (Exit × Env × GS)) (T : List Value) (G : GS) : runC Q (evL Q orc) 46 (jtl39_0 J0 J1 J2) (subAt [1, 1, 1, 0, 1, 0, 0] (bodyOf Tryd.f39)) (seqXE (fun τ G' => mapE ((E orc).lp (subAt [1, 1, 1, 0, 1, 0, 0] (bodyOf Tryd.f39)) (lst 46 (nth undef (lst 46 τ))) G')) fun e τ G' => some (e, nth undef (lst 46 τ), G')) [true, false, false, true, true] (nth undef T) G = jbl39_0_1 false (Ex.of (E orc)) (fun τ G => mapE ((E orc).lp (subAt [1, 1, 1, 0, 1, 0, 0] (bodyOf Tryd.f39)) (lst 46 τ) G)) J0 (nth undef T) G := by kernel_rfl
theorem jol39_0 (orc : FuncId → Bool) : JOk Q orc 46 (jtl39_0 (jl39_0_0 false (Ex.of (E orc)) (fun τ G => mapE ((E orc).lp (subAt [1, 1, 1, 0, 1, 0, 0] (bodyOf Tryd.f39)) (lst 46 τ) G))) (jl39_0_1 false (Ex.of (E orc)) (fun τ G => mapE ((E orc).lp (subAt [1, 1, 1, 0, 1, 0, 0] (bodyOf Tryd.f39)) (lst 46 τ) G))) (jl39_0_2 false (Ex.of (E orc)) (fun τ G => mapE ((E orc).lp (subAt [1, 1, 1, 0, 1, 0, 0] (bodyOf Tryd.f39)) (lst 46 τ) G))) ) (subAt [1, 1, 1, 0, 1, 0, 0] (bodyOf Tryd.f39)) (seqXE (fun τ G' => mapE ((E orc).lp (subAt [1, 1, 1, 0, 1, 0, 0] (bodyOf Tryd.f39)) (lst 46 (nth undef (lst 46 τ))) G')) fun e τ G' => some (e, nth undef (lst 46 τ), G')) :=
  jOk Q orc (l := [([true], (fun T G => jl39_0_0 false (Ex.of (E orc)) (fun τ G => mapE ((E orc).lp (subAt [1, 1, 1, 0, 1, 0, 0] (bodyOf Tryd.f39)) (lst 46 τ) G)) (nth undef T) G)), ([true, false, false, true], (fun T G => jl39_0_2 false (Ex.of (E orc)) (fun τ G => mapE ((E orc).lp (subAt [1, 1, 1, 0, 1, 0, 0] (bodyOf Tryd.f39)) (lst 46 τ) G)) (nth undef T) G)), ([true, false, false, true, true], (fun T G => jl39_0_1 false (Ex.of (E orc)) (fun τ G => mapE ((E orc).lp (subAt [1, 1, 1, 0, 1, 0, 0] (bodyOf Tryd.f39)) (lst 46 τ) G)) (nth undef T) G))]) (by kernel_rfl) (AllE.c (fun T G => jrl39_0_0 orc (jl39_0_0 false (Ex.of (E orc)) (fun τ G => mapE ((E orc).lp (subAt [1, 1, 1, 0, 1, 0, 0] (bodyOf Tryd.f39)) (lst 46 τ) G))) (jl39_0_1 false (Ex.of (E orc)) (fun τ G => mapE ((E orc).lp (subAt [1, 1, 1, 0, 1, 0, 0] (bodyOf Tryd.f39)) (lst 46 τ) G))) (jl39_0_2 false (Ex.of (E orc)) (fun τ G => mapE ((E orc).lp (subAt [1, 1, 1, 0, 1, 0, 0] (bodyOf Tryd.f39)) (lst 46 τ) G))) T G) (AllE.c (fun T G => jrl39_0_2 orc (jl39_0_0 false (Ex.of (E orc)) (fun τ G => mapE ((E orc).lp (subAt [1, 1, 1, 0, 1, 0, 0] (bodyOf Tryd.f39)) (lst 46 τ) G))) (jl39_0_1 false (Ex.of (E orc)) (fun τ G => mapE ((E orc).lp (subAt [1, 1, 1, 0, 1, 0, 0] (bodyOf Tryd.f39)) (lst 46 τ) G))) (jl39_0_2 false (Ex.of (E orc)) (fun τ G => mapE ((E orc).lp (subAt [1, 1, 1, 0, 1, 0, 0] (bodyOf Tryd.f39)) (lst 46 τ) G))) T G) (AllE.c (fun T G => jrl39_0_1 orc (jl39_0_0 false (Ex.of (E orc)) (fun τ G => mapE ((E orc).lp (subAt [1, 1, 1, 0, 1, 0, 0] (bodyOf Tryd.f39)) (lst 46 τ) G))) (jl39_0_1 false (Ex.of (E orc)) (fun τ G => mapE ((E orc).lp (subAt [1, 1, 1, 0, 1, 0, 0] (bodyOf Tryd.f39)) (lst 46 τ) G))) (jl39_0_2 false (Ex.of (E orc)) (fun τ G => mapE ((E orc).lp (subAt [1, 1, 1, 0, 1, 0, 0] (bodyOf Tryd.f39)) (lst 46 τ) G))) T G) (AllE.z))))
theorem jel39_0 (orc : FuncId → Bool) (J0 J1 J2 : Env → GS → Option (Exit × Env × GS)) (T : List Value) (G : GS) : sxC Q (evL Q orc) 46 (jtl39_0 J0 J1 J2) (subAt [1, 1, 1, 0, 1, 0, 0] (bodyOf Tryd.f39)) (nth undef T) G (seqXE (fun τ G' => mapE ((E orc).lp (subAt [1, 1, 1, 0, 1, 0, 0] (bodyOf Tryd.f39)) (lst 46 (nth undef (lst 46 τ))) G')) fun e τ G' => some (e, nth undef (lst 46 τ), G')) = bb39_0 false (Ex.of (E orc)) (fun τ G => mapE ((E orc).lp (subAt [1, 1, 1, 0, 1, 0, 0] (bodyOf Tryd.f39)) (lst 46 τ) G)) J0 J1 J2 (nth undef T) G := by kernel_rfl
theorem l39_0 {orc : FuncId → Bool} {e : Ex} (h : ExLe Q e (E orc)) (lp : Env → GS → Option (Exit × Env × GS)) (hlp : ∀ τ G, Ref (lp τ G) (mapE ((E orc).lp (subAt [1, 1, 1, 0, 1, 0, 0] (bodyOf Tryd.f39)) (lst 46 τ) G))) (T : List Value) (G : GS) (hT : T.length = 46) : Ref (b39_0 true e lp (nth undef T) G) (mapE ((E orc).lp (subAt [1, 1, 1, 0, 1, 0, 0] (bodyOf Tryd.f39)) T G)) :=
  fun r hr => lp_sxC Q orc G (jtl39_0 (jl39_0_0 false (Ex.of (E orc)) (fun τ G => mapE ((E orc).lp (subAt [1, 1, 1, 0, 1, 0, 0] (bodyOf Tryd.f39)) (lst 46 τ) G))) (jl39_0_1 false (Ex.of (E orc)) (fun τ G => mapE ((E orc).lp (subAt [1, 1, 1, 0, 1, 0, 0] (bodyOf Tryd.f39)) (lst 46 τ) G))) (jl39_0_2 false (Ex.of (E orc)) (fun τ G => mapE ((E orc).lp (subAt [1, 1, 1, 0, 1, 0, 0] (bodyOf Tryd.f39)) (lst 46 τ) G))) ) hT (jol39_0 orc) (jel39_0 orc (jl39_0_0 false (Ex.of (E orc)) (fun τ G => mapE ((E orc).lp (subAt [1, 1, 1, 0, 1, 0, 0] (bodyOf Tryd.f39)) (lst 46 τ) G))) (jl39_0_1 false (Ex.of (E orc)) (fun τ G => mapE ((E orc).lp (subAt [1, 1, 1, 0, 1, 0, 0] (bodyOf Tryd.f39)) (lst 46 τ) G))) (jl39_0_2 false (Ex.of (E orc)) (fun τ G => mapE ((E orc).lp (subAt [1, 1, 1, 0, 1, 0, 0] (bodyOf Tryd.f39)) (lst 46 τ) G))) T G) (mb39_0 h ⟨hlp⟩ _ _ r hr)
/-- coxswain/coxswainref08.behind -/
noncomputable def s39 (q : Bool) (e : Ex) (v0 v1 v2 : Value) (G : GS) : Option (Value × GS) :=
  bS (bx q v1 G) fun x0 G1 =>
  bS (bx q v2 G1) fun x2 G3 =>
  bP (fa Q q 28 0 0 x2) fun x4 =>
  bP (ld Q q 26 x4 G3) fun x5 =>
  bP (bn Q q .neq 26 (.tmp 11) (.const (.int .i64 0)) x5 (.int .i64 0)) fun x6 =>
  ifV x6 (
  bS (e.ev.cl 9 [v0] G3) fun x7 G8 =>
  some (x7, G8)) (
  bLq q e 39 0 (subAt [1, 1, 1, 0, 1, 0, 0] (bodyOf Tryd.f39)) 46 (nth undef [v0, v1, v2]) [(8, (.int .i64 0)), (7, (.slice none 0 0)), (12, x6), (11, x5), (10, x4), (6, (.slice none 0 0)), (5, x2), (4, x0)] [] G3 fun e9 t10 G11 =>
  bV q (t10 7) fun t10x7_ =>
  ifE e9 (.exit 0) (
  some (t10x7_, G11)) (none))
theorem m39 {e : Ex} {E : Ev} (h : ExLe Q e E) (v0 v1 v2 : Value) (G : GS) : Ref (s39 true e v0 v1 v2 G) (s39 false (Ex.of E) v0 v1 v2 G) := by
  unfold s39
  exact Ref.gq
theorem f39 {orc : FuncId → Bool} {e : Ex} (h : ExLe Q e (E orc)) (v0 v1 v2 : Value) (G : GS) : Ref (s39 true e v0 v1 v2 G) ((E orc).cl 39 [v0, v1, v2] G) :=
  fun r hr => cl_sxE_some Q orc (vs := [v0, v1, v2]) G Tryd.func39 (by kernel_rfl) (by kernel_rfl) (by kernel_rfl) (by kernel_rfl) (by kernel_rfl) (by kernel_rfl) (m39 h v0 v1 v2 G r hr)
/-- (coxswain/pool.set).all -/
noncomputable def s40 (q : Bool) (e : Ex) (v0 : Value) (G : GS) : Option (Value × GS) :=
  bS (bx q v0 G) fun x0 G1 =>
  some ((.func (.func 44) #[] #[x0]), G1)
theorem m40 {e : Ex} {E : Ev} (h : ExLe Q e E) (v0 : Value) (G : GS) : Ref (s40 true e v0 G) (s40 false (Ex.of E) v0 G) := by
  unfold s40
  exact Ref.gq
theorem f40 {orc : FuncId → Bool} {e : Ex} (h : ExLe Q e (E orc)) (v0 : Value) (G : GS) : Ref (s40 true e v0 G) ((E orc).cl 40 [v0] G) :=
  fun r hr => cl_sxE_some Q orc (vs := [v0]) G Tryd.func40 (by kernel_rfl) (by kernel_rfl) (by kernel_rfl) (by kernel_rfl) (by kernel_rfl) (by kernel_rfl) (m40 h v0 G r hr)
/-- coxswain/coxswainref08.index -/
noncomputable def s41 (q : Bool) (e : Ex) (v0 : Value) (G : GS) : Option (Value × GS) :=
  bP (bn Q q .geq 3 (.tmp 3) (.const (.int .i64 0)) v0 (.int .i64 0)) fun x0 =>
  bS (gd x0 true (some (v0, G)) G) fun x1 G2 =>
  bS (gd x0 true (bP (bn Q q .lss 3 (.tmp 6) (.const (.int .i64 1024)) x1 (.int .i64 1024)) fun y => some (y, G2)) G2) fun x3 G4 =>
  bP (pickV x0 x3 (.bool false)) fun x5 =>
  some (x5, G4)
theorem m41 {e : Ex} {E : Ev} (h : ExLe Q e E) (v0 : Value) (G : GS) : Ref (s41 true e v0 G) (s41 false (Ex.of E) v0 G) := by
  unfold s41
  exact Ref.gq
theorem f41 {orc : FuncId → Bool} {e : Ex} (h : ExLe Q e (E orc)) (v0 : Value) (G : GS) : Ref (s41 true e v0 G) ((E orc).cl 41 [v0] G) :=
  fun r hr => cl_sxE_some Q orc (vs := [v0]) G Tryd.func41 (by kernel_rfl) (by kernel_rfl) (by kernel_rfl) (by kernel_rfl) (by kernel_rfl) (by kernel_rfl) (m41 h v0 G r hr)
noncomputable def b42_0 (q : Bool) (e : Ex) (lp : Env → GS → Option (Exit × Env × GS)) (τ : Env) (G : GS) : Option (Exit × Env × GS) :=
  bV q (τ 3) fun a3_ =>
  bV q (τ 7) fun a7_ =>
  bV q (τ 8) fun a8_ =>
  bP (bn Q q .lss 3 (.tmp 8) (.tmp 7) a8_ a7_) fun x0 =>
  ifV x0 (
  bP (lda Q q 57 16 a3_ G) fun x1 =>
  bS (e.ev.cl 43 [x1, a8_] G) fun x2 G3 =>
  bP (st Q q 57 16 a3_ x2 G3) fun G4 =>
  bP (bn Q q .add 3 (.tmp 8) (.const (.int .i64 1)) a8_ (.int .i64 1)) fun x5 =>
  lp (xq q 16 τ [(8, x5), (14, x5), (13, x2), (12, a8_), (11, x1), (4, a8_), (10, a8_), (9, x0)] [(3, a3_), (7, a7_)]) G4) (
  some ((.exit 0), xq q 16 τ [(9, x0)] [(3, a3_), (7, a7_), (8, a8_)], G))
theorem mb42_0 {e : Ex} {E : Ev} (h : ExLe Q e E) {lp lp' : Env → GS → Option (Exit × Env × GS)} (hlp : LpLe lp lp') (τ : Env) (G : GS) : Ref (b42_0 true e lp τ G) (b42_0 false (Ex.of E) lp' τ G) := by
  unfold b42_0
  exact Ref.gq
theorem l42_0 {orc : FuncId → Bool} {e : Ex} (h : ExLe Q e (E orc)) (lp : Env → GS → Option (Exit × Env × GS)) (hlp : ∀ τ G, Ref (lp τ G) (mapE ((E orc).lp (subAt [1, 1, 0, 1, 0, 0] (bodyOf Tryd.f42)) (lst 16 τ) G))) (T : List Value) (G : GS) (hT : T.length = 16) : Ref (b42_0 true e lp (nth undef T) G) (mapE ((E orc).lp (subAt [1, 1, 0, 1, 0, 0] (bodyOf Tryd.f42)) T G)) :=
  fun r hr => lp_sxN Q orc G hT (by kernel_rfl) (mb42_0 h ⟨hlp⟩ _ _ r hr)
/-- coxswain/pool.first -/
noncomputable def s42 (q : Bool) (e : Ex) (v0 : Value) (G : GS) : Option (Value × GS) :=
  bS (al Q q 57 z57 G) fun x0 G1 =>
  bS (al Q q 57 z57 G1) fun x2 G3 =>
  bP (mx Q q #[3, 3] v0 (.int .i64 0)) fun x4 =>
  bP (mn Q q #[3, 3] x4 (.int .i64 1024)) fun x5 =>
  bLq q e 42 0 (subAt [1, 1, 0, 1, 0, 0] (bodyOf Tryd.f42)) 16 (nth undef [v0]) [(8, (.int .i64 0)), (7, x5), (6, x4), (5, v0), (3, x2), (2, x0)] [] G3 fun e6 t7 G8 =>
  bV q (t7 2) fun t7x2_ =>
  bV q (t7 3) fun t7x3_ =>
  ifE e6 (.exit 0) (
  bP (lda Q q 57 16 t7x3_ G8) fun x9 =>
  bP (st Q q 57 16 t7x2_ x9 G8) fun G10 =>
  bP (lda Q q 57 16 t7x2_ G10) fun x11 =>
  some (x11, G10)) (none)
theorem m42 {e : Ex} {E : Ev} (h : ExLe Q e E) (v0 : Value) (G : GS) : Ref (s42 true e v0 G) (s42 false (Ex.of E) v0 G) := by
  unfold s42
  exact Ref.gq
theorem f42 {orc : FuncId → Bool} {e : Ex} (h : ExLe Q e (E orc)) (v0 : Value) (G : GS) : Ref (s42 true e v0 G) ((E orc).cl 42 [v0] G) :=
  fun r hr => cl_sxE_some Q orc (vs := [v0]) G Tryd.func42 (by kernel_rfl) (by kernel_rfl) (by kernel_rfl) (by kernel_rfl) (by kernel_rfl) (by kernel_rfl) (m42 h v0 G r hr)
/-- (coxswain/pool.set).with -/
noncomputable def s43 (q : Bool) (e : Ex) (v0 v1 : Value) (G : GS) : Option (Value × GS) :=
  bS (bx q v0 G) fun x0 G1 =>
  bS (al Q q 57 z57 G1) fun x2 G3 =>
  bP (bn Q q .quo 3 (.tmp 5) (.const (.int .i64 64)) v1 (.int .i64 64)) fun x4 =>
  bP (iaa Q q 57 16 1 x0 x4) fun x5 =>
  bP (ld Q q 23 x5 (G3.room 10)) fun x6 =>
  bP (bn Q q .rem 3 (.tmp 9) (.const (.int .i64 64)) v1 (.int .i64 64)) fun x7 =>
  bP (bn Q q .shl 23 (.const (.int .u64 1)) (.tmp 10) (.int .u64 1) x7) fun x8 =>
  bP (bn Q q .or 23 (.tmp 8) (.tmp 11) x6 x8) fun x9 =>
  bP (iaa Q q 57 16 1 x0 x4) fun x10 =>
  bP (st Q q 23 1 x10 x9 (G3.room 10)) fun G11 =>
  bP (lda Q q 57 16 x0 G11) fun x12 =>
  bP (st Q q 57 16 x2 x12 G11) fun G13 =>
  bP (lda Q q 57 16 x2 G13) fun x14 =>
  some (x14, G13)
theorem m43 {e : Ex} {E : Ev} (h : ExLe Q e E) (v0 v1 : Value) (G : GS) : Ref (s43 true e v0 v1 G) (s43 false (Ex.of E) v0 v1 G) := by
  unfold s43
  exact Ref.gq
theorem f43 {orc : FuncId → Bool} {e : Ex} (h : ExLe Q e (E orc)) (v0 v1 : Value) (G : GS) : Ref (s43 true e v0 v1 G) ((E orc).cl 43 [v0, v1] G) :=
  fun r hr => cl_sxE_some Q orc (vs := [v0, v1]) G Tryd.func43 (by kernel_rfl) (by kernel_rfl) (by kernel_rfl) (by kernel_rfl) (by kernel_rfl) (by kernel_rfl) (m43 h v0 v1 G r hr)
noncomputable def b44_0 (q : Bool) (e : Ex) (lp : Env → GS → Option (Exit × Env × GS)) (τ : Env) (G : GS) : Option (Exit × Env × GS) :=
  bV q (τ 5) fun a5_ =>
  bV q (τ 6) fun a6_ =>
  bP (bn Q q .lss 3 (.tmp 6) (.const (.int .i64 16)) a6_ (.int .i64 16)) fun x0 =>
  ifV x0 (
  bP (ix Q q 57 16 a5_ a6_) fun x1 =>
  bLq q e 44 1 (subAt [1, 0, 0, 1, 1, 0, 0, 1, 0, 0] (bodyOf Tryd.f44)) 25 τ [(4, x1), (3, a6_), (9, x1), (8, a6_), (7, x0)] [] G fun e2 t3 G4 =>
  bV q (t3 5) fun t3x5_ =>
  bV q (t3 6) fun t3x6_ =>
  ifE e2 (.exit 2) (
  bP (bn Q q .add 3 (.tmp 6) (.const (.int .i64 1)) t3x6_ (.int .i64 1)) fun x5 =>
  lp (xq q 25 t3 [(6, x5), (24, x5)] [(5, t3x5_)]) G4) (ifE e2 .ret (
  some (.ret, xq q 25 t3 [] [(5, t3x5_), (6, t3x6_)], G4)) (none))) (
  some ((.exit 0), xq q 25 τ [(7, x0)] [(5, a5_), (6, a6_)], G))
theorem mb44_0 {e : Ex} {E : Ev} (h : ExLe Q e E) {lp lp' : Env → GS → Option (Exit × Env × GS)} (hlp : LpLe lp lp') (τ : Env) (G : GS) : Ref (b44_0 true e lp τ G) (b44_0 false (Ex.of E) lp' τ G) := by
  unfold b44_0
  exact Ref.gq
theorem l44_0 {orc : FuncId → Bool} {e : Ex} (h : ExLe Q e (E orc)) (lp : Env → GS → Option (Exit × Env × GS)) (hlp : ∀ τ G, Ref (lp τ G) (mapE ((E orc).lp (subAt [1, 0, 0] (bodyOf Tryd.f44)) (lst 25 τ) G))) (T : List Value) (G : GS) (hT : T.length = 25) : Ref (b44_0 true e lp (nth undef T) G) (mapE ((E orc).lp (subAt [1, 0, 0] (bodyOf Tryd.f44)) T G)) :=
  fun r hr => lp_sxN Q orc G hT (by kernel_rfl) (mb44_0 h ⟨hlp⟩ _ _ r hr)
noncomputable def b44_1 (q : Bool) (e : Ex) (lp : Env → GS → Option (Exit × Env × GS)) (τ : Env) (G : GS) : Option (Exit × Env × GS) :=
  bV q (τ 0) fun a0_ =>
  bV q (τ 3) fun a3_ =>
  bV q (τ 4) fun a4_ =>
  bP (bn Q q .neq 23 (.tmp 10) (.const (.int .u64 0)) a4_ (.int .u64 0)) fun x0 =>
  ifV x0 (
  bP (bn Q q .mul 3 (.tmp 17) (.const (.int .i64 64)) a3_ (.int .i64 64)) fun x1 =>
  bS (e.ev.cl 45 [a4_] G) fun x2 G3 =>
  bP (bn Q q .add 3 (.tmp 18) (.tmp 20) x1 x2) fun x4 =>
  bS (cValue e.ev a0_ [x4] G3) fun x5 G6 =>
  bP (un Q q .not x5) fun x7 =>
  ifV x7 (
  some (.ret, xq q 25 τ [(23, x7), (22, x5), (21, x4), (20, x2), (19, a4_), (18, x1), (17, a3_), (16, a0_), (11, x0), (10, a4_)] [(0, a0_), (3, a3_), (4, a4_)], G6)) (
  bP (bn Q q .sub 23 (.tmp 13) (.const (.int .u64 1)) a4_ (.int .u64 1)) fun x8 =>
  bP (bn Q q .and 23 (.tmp 12) (.tmp 14) a4_ x8) fun x9 =>
  lp (xq q 25 τ [(4, x9), (15, x9), (14, x8), (13, a4_), (12, a4_), (23, x7), (22, x5), (21, x4), (20, x2), (19, a4_), (18, x1), (17, a3_), (16, a0_), (11, x0), (10, a4_)] [(0, a0_), (3, a3_)]) G6)) (
  some ((.exit 2), xq q 25 τ [(11, x0), (10, a4_)] [(0, a0_), (3, a3_), (4, a4_)], G))
theorem mb44_1 {e : Ex} {E : Ev} (h : ExLe Q e E) {lp lp' : Env → GS → Option (Exit × Env × GS)} (hlp : LpLe lp lp') (τ : Env) (G : GS) : Ref (b44_1 true e lp τ G) (b44_1 false (Ex.of E) lp' τ G) := by
  unfold b44_1
  exact Ref.gq
theorem l44_1 {orc : FuncId → Bool} {e : Ex} (h : ExLe Q e (E orc)) (lp : Env → GS → Option (Exit × Env × GS)) (hlp : ∀ τ G, Ref (lp τ G) (mapE ((E orc).lp (subAt [1, 0, 0, 1, 1, 0, 0, 1, 0, 0] (bodyOf Tryd.f44)) (lst 25 τ) G))) (T : List Value) (G : GS) (hT : T.length = 25) : Ref (b44_1 true e lp (nth undef T) G) (mapE ((E orc).lp (subAt [1, 0, 0, 1, 1, 0, 0, 1, 0, 0] (bodyOf Tryd.f44)) T G)) :=
  fun r hr => lp_sxN Q orc G hT (by kernel_rfl) (mb44_1 h ⟨hlp⟩ _ _ r hr)
/-- (coxswain/pool.set).all$1 -/
noncomputable def s44 (q : Bool) (e : Ex) (v0 v1 : Value) (G : GS) : Option (Value × GS) :=
  bP (lda Q q 57 16 v1 G) fun x0 =>
  bLq q e 44 0 (subAt [1, 0, 0] (bodyOf Tryd.f44)) 25 (nth undef [v0, v1]) [(6, (.int .i64 0)), (5, x0)] [] G fun e1 t2 G3 =>
  ifE e1 (.exit 0) (
  some (.tuple #[], G3)) (ifE e1 .ret (
  some (.tuple #[], G3)) (none))
theorem m44 {e : Ex} {E : Ev} (h : ExLe Q e E) (v0 v1 : Value) (G : GS) : Ref (s44 true e v0 v1 G) (s44 false (Ex.of E) v0 v1 G) := by
  unfold s44
  exact Ref.gq
theorem f44 {orc : FuncId → Bool} {e : Ex} (h : ExLe Q e (E orc)) (v0 v1 : Value) (G : GS) : Ref (s44 true e v0 v1 G) ((E orc).cl 44 [v0, v1] G) :=
  fun r hr => cl_sxE_some Q orc (vs := [v0, v1]) G Tryd.func44 (by kernel_rfl) (by kernel_rfl) (by kernel_rfl) (by kernel_rfl) (by kernel_rfl) (by kernel_rfl) (m44 h v0 v1 G r hr)
noncomputable def clT (orc : FuncId → Bool) (e : Ex) (f : FuncId) (vs : List Value) (G : GS) : Option (Value × GS) :=
  fork f 23 (
fork f 12 (
fork f 7 (
fork f 4 (
fork f 3 (
leaf f 3 (app4 (s3 true e) vs G)) (
leaf f 4 (app2 (s4 true e) vs G))) (
fork f 5 (
leaf f 5 (app0 (orc 5) (hasTab Q G) (s5 true e) vs G)) (
fork f 6 (
leaf f 6 (app3 (s6 true e) vs G)) (
leaf f 7 (app2 (s7 true e) vs G))))) (
fork f 9 (
fork f 8 (
leaf f 8 (app0 (orc 8) (hasTab Q G) (s8 true e) vs G)) (
leaf f 9 (app1 (s9 true e) vs G))) (
fork f 10 (
leaf f 10 (app3 (s10 true e) vs G)) (
fork f 11 (
leaf f 11 (app3 (s11 true e) vs G)) (
leaf f 12 (app2 (s12 true e) vs G)))))) (
fork f 17 (
fork f 14 (
fork f 13 (
leaf f 13 (app2 (s13 true e) vs G)) (
leaf f 14 (app2 (s14 true e) vs G))) (
fork f 15 (
leaf f 15 (app2 (s15 true e) vs G)) (
fork f 16 (
leaf f 16 (app2 (s16 true e) vs G)) (
leaf f 17 (app2 (s17 true e) vs G))))) (
fork f 20 (
fork f 18 (
leaf f 18 (app1 (s18 true e) vs G)) (
fork f 19 (
leaf f 19 (app1 (s19 true e) vs G)) (
leaf f 20 (app1 (s20 true e) vs G)))) (
fork f 21 (
leaf f 21 (app1 (s21 true e) vs G)) (
fork f 22 (
leaf f 22 (app1 (s22 true e) vs G)) (
leaf f 23 (app2 (s23 true e) vs G))))))) (
fork f 34 (
fork f 28 (
fork f 25 (
fork f 24 (
leaf f 24 (app2 (s24 true e) vs G)) (
leaf f 25 (app2 (s25 true e) vs G))) (
fork f 26 (
leaf f 26 (app5 (s26 true e) vs G)) (
fork f 27 (
leaf f 27 (app0 (orc 27) (hasTab Q G) (s27 true e) vs G)) (
leaf f 28 (app1 (s28 true e) vs G))))) (
fork f 31 (
fork f 29 (
leaf f 29 (app2 (s29 true e) vs G)) (
fork f 30 (
leaf f 30 (app2 (s30 true e) vs G)) (
leaf f 31 (app2 (s31 true e) vs G)))) (
fork f 32 (
leaf f 32 (app2 (s32 true e) vs G)) (
fork f 33 (
leaf f 33 (app1 (s33 true e) vs G)) (
leaf f 34 (app2 (s34 true e) vs G)))))) (
fork f 39 (
fork f 36 (
fork f 35 (
leaf f 35 (app1 (s35 true e) vs G)) (
leaf f 36 (app2 (s36 true e) vs G))) (
fork f 37 (
leaf f 37 (app2 (s37 true e) vs G)) (
fork f 38 (
leaf f 38 (app2 (s38 true e) vs G)) (
leaf f 39 (app3 (s39 true e) vs G))))) (
fork f 42 (
fork f 40 (
leaf f 40 (app1 (s40 true e) vs G)) (
fork f 41 (
leaf f 41 (app1 (s41 true e) vs G)) (
leaf f 42 (app1 (s42 true e) vs G)))) (
fork f 43 (
leaf f 43 (app2 (s43 true e) vs G)) (
fork f 44 (
leaf f 44 (app2 (s44 true e) vs G)) (
leaf f 45 (pur vs G)))))))
theorem clT_ok {orc : FuncId → Bool} {e : Ex} (h : ExLe Q e (E orc)) (f : FuncId) (vs : List Value) (G : GS) : Ref (clT orc e f vs G) ((E orc).cl f vs G) :=
  Ref.fork (
Ref.fork (
Ref.fork (
Ref.fork (
Ref.fork (
Ref.leaf (y := fun f => (E orc).cl f vs G) (Ref.app4 (fun u0 u1 u2 u3 G => f3 h u0 u1 u2 u3 G) vs G)) (
Ref.leaf (y := fun f => (E orc).cl f vs G) (Ref.app2 (fun u0 u1 G => f4 h u0 u1 G) vs G))) (
Ref.fork (
Ref.leaf (y := fun f => (E orc).cl f vs G) (Ref.app0 (fun ho G => f5 h ho G) vs G)) (
Ref.fork (
Ref.leaf (y := fun f => (E orc).cl f vs G) (Ref.app3 (fun u0 u1 u2 G => f6 h u0 u1 u2 G) vs G)) (
Ref.leaf (y := fun f => (E orc).cl f vs G) (Ref.app2 (fun u0 u1 G => f7 h u0 u1 G) vs G))))) (
Ref.fork (
Ref.fork (
Ref.leaf (y := fun f => (E orc).cl f vs G) (Ref.app0 (fun ho G => f8 h ho G) vs G)) (
Ref.leaf (y := fun f => (E orc).cl f vs G) (Ref.app1 (fun u0 G => f9 h u0 G) vs G))) (
Ref.fork (
Ref.leaf (y := fun f => (E orc).cl f vs G) (Ref.app3 (fun u0 u1 u2 G => f10 h u0 u1 u2 G) vs G)) (
Ref.fork (
Ref.leaf (y := fun f => (E orc).cl f vs G) (Ref.app3 (fun u0 u1 u2 G => f11 h u0 u1 u2 G) vs G)) (
Ref.leaf (y := fun f => (E orc).cl f vs G) (Ref.app2 (fun u0 u1 G => f12 h u0 u1 G) vs G)))))) (
Ref.fork (
Ref.fork (
Ref.fork (
Ref.leaf (y := fun f => (E orc).cl f vs G) (Ref.app2 (fun u0 u1 G => f13 h u0 u1 G) vs G)) (
Ref.leaf (y := fun f => (E orc).cl f vs G) (Ref.app2 (fun u0 u1 G => f14 h u0 u1 G) vs G))) (
Ref.fork (
Ref.leaf (y := fun f => (E orc).cl f vs G) (Ref.app2 (fun u0 u1 G => f15 h u0 u1 G) vs G)) (
Ref.fork (
Ref.leaf (y := fun f => (E orc).cl f vs G) (Ref.app2 (fun u0 u1 G => f16 h u0 u1 G) vs G)) (
Ref.leaf (y := fun f => (E orc).cl f vs G) (Ref.app2 (fun u0 u1 G => f17 h u0 u1 G) vs G))))) (
Ref.fork (
Ref.fork (
Ref.leaf (y := fun f => (E orc).cl f vs G) (Ref.app1 (fun u0 G => f18 h u0 G) vs G)) (
Ref.fork (
Ref.leaf (y := fun f => (E orc).cl f vs G) (Ref.app1 (fun u0 G => f19 h u0 G) vs G)) (
Ref.leaf (y := fun f => (E orc).cl f vs G) (Ref.app1 (fun u0 G => f20 h u0 G) vs G)))) (
Ref.fork (
Ref.leaf (y := fun f => (E orc).cl f vs G) (Ref.app1 (fun u0 G => f21 h u0 G) vs G)) (
Ref.fork (
Ref.leaf (y := fun f => (E orc).cl f vs G) (Ref.app1 (fun u0 G => f22 h u0 G) vs G)) (
Ref.leaf (y := fun f => (E orc).cl f vs G) (Ref.app2 (fun u0 u1 G => f23 h u0 u1 G) vs G))))))) (
Ref.fork (
Ref.fork (
Ref.fork (
Ref.fork (
Ref.leaf (y := fun f => (E orc).cl f vs G) (Ref.app2 (fun u0 u1 G => f24 h u0 u1 G) vs G)) (
Ref.leaf (y := fun f => (E orc).cl f vs G) (Ref.app2 (fun u0 u1 G => f25 h u0 u1 G) vs G))) (
Ref.fork (
Ref.leaf (y := fun f => (E orc).cl f vs G) (Ref.app5 (fun u0 u1 u2 u3 u4 G => f26 h u0 u1 u2 u3 u4 G) vs G)) (
Ref.fork (
Ref.leaf (y := fun f => (E orc).cl f vs G) (Ref.app0 (fun ho G => f27 h ho G) vs G)) (
Ref.leaf (y := fun f => (E orc).cl f vs G) (Ref.app1 (fun u0 G => f28 h u0 G) vs G))))) (
Ref.fork (
Ref.fork (
Ref.leaf (y := fun f => (E orc).cl f vs G) (Ref.app2 (fun u0 u1 G => f29 h u0 u1 G) vs G)) (
Ref.fork (
Ref.leaf (y := fun f => (E orc).cl f vs G) (Ref.app2 (fun u0 u1 G => f30 h u0 u1 G) vs G)) (
Ref.leaf (y := fun f => (E orc).cl f vs G) (Ref.app2 (fun u0 u1 G => f31 h u0 u1 G) vs G)))) (
Ref.fork (
Ref.leaf (y := fun f => (E orc).cl f vs G) (Ref.app2 (fun u0 u1 G => f32 h u0 u1 G) vs G)) (
Ref.fork (
Ref.leaf (y := fun f => (E orc).cl f vs G) (Ref.app1 (fun u0 G => f33 h u0 G) vs G)) (
Ref.leaf (y := fun f => (E orc).cl f vs G) (Ref.app2 (fun u0 u1 G => f34 h u0 u1 G) vs G)))))) (
Ref.fork (
Ref.fork (
Ref.fork (
Ref.leaf (y := fun f => (E orc).cl f vs G) (Ref.app1 (fun u0 G => f35 h u0 G) vs G)) (
Ref.leaf (y := fun f => (E orc).cl f vs G) (Ref.app2 (fun u0 u1 G => f36 h u0 u1 G) vs G))) (
Ref.fork (
Ref.leaf (y := fun f => (E orc).cl f vs G) (Ref.app2 (fun u0 u1 G => f37 h u0 u1 G) vs G)) (
Ref.fork (
Ref.leaf (y := fun f => (E orc).cl f vs G) (Ref.app2 (fun u0 u1 G => f38 h u0 u1 G) vs G)) (
Ref.leaf (y := fun f => (E orc).cl f vs G) (Ref.app3 (fun u0 u1 u2 G => f39 h u0 u1 u2 G) vs G))))) (
Ref.fork (
Ref.fork (
Ref.leaf (y := fun f => (E orc).cl f vs G) (Ref.app1 (fun u0 G => f40 h u0 G) vs G)) (
Ref.fork (
Ref.leaf (y := fun f => (E orc).cl f vs G) (Ref.app1 (fun u0 G => f41 h u0 G) vs G)) (
Ref.leaf (y := fun f => (E orc).cl f vs G) (Ref.app1 (fun u0 G => f42 h u0 G) vs G)))) (
Ref.fork (
Ref.leaf (y := fun f => (E orc).cl f vs G) (Ref.app2 (fun u0 u1 G => f43 h u0 u1 G) vs G)) (
Ref.fork (
Ref.leaf (y := fun f => (E orc).cl f vs G) (Ref.app2 (fun u0 u1 G => f44 h u0 u1 G) vs G)) (
Ref.leaf (y := fun f => (E orc).cl f vs G) (Ref.pur (P := Q) (by kernel_rfl) vs G)))))))
noncomputable def lpT (FUEL : Nat) (e : Ex) (f k : Nat) (τ : Env) (G : GS) : Option (Exit × Env × GS) :=
  fork f 19 (
fork f 13 (
fork f 6 (
fork f 3 (
leaf f 3 (leaf k 0 (lpS 135 (b3_0 true e) FUEL τ G))) (
leaf f 6 (fork k 0 (leaf k 0 (lpS 169 (b6_0 true e) FUEL τ G)) (leaf k 1 (lpS 169 (b6_1 true e) FUEL τ G))))) (
fork f 7 (
leaf f 7 (fork k 0 (leaf k 0 (lpS 163 (b7_0 true e) FUEL τ G)) (fork k 1 (leaf k 1 (lpS 163 (b7_1 true e) FUEL τ G)) (leaf k 2 (lpS 163 (b7_2 true e) FUEL τ G))))) (
fork f 11 (
leaf f 11 (leaf k 0 (lpS 29 (b11_0 true e) FUEL τ G))) (
leaf f 13 (leaf k 0 (lpS 59 (b13_0 true e) FUEL τ G)))))) (
fork f 16 (
fork f 15 (
leaf f 15 (fork k 0 (leaf k 0 (lpS 46 (b15_0 true e) FUEL τ G)) (leaf k 1 (lpS 46 (b15_1 true e) FUEL τ G)))) (
leaf f 16 (leaf k 0 (lpS 31 (b16_0 true e) FUEL τ G)))) (
fork f 17 (
leaf f 17 (leaf k 0 (lpS 31 (b17_0 true e) FUEL τ G))) (
fork f 18 (
leaf f 18 (fork k 0 (leaf k 0 (lpS 32 (b18_0 true e) FUEL τ G)) (leaf k 1 (lpS 32 (b18_1 true e) FUEL τ G)))) (
leaf f 19 (fork k 0 (leaf k 0 (lpS 33 (b19_0 true e) FUEL τ G)) (leaf k 1 (lpS 33 (b19_1 true e) FUEL τ G)))))))) (
fork f 25 (
fork f 21 (
fork f 20 (
leaf f 20 (leaf k 0 (lpS 12 (b20_0 true e) FUEL τ G))) (
leaf f 21 (leaf k 0 (lpS 13 (b21_0 true e) FUEL τ G)))) (
fork f 23 (
leaf f 23 (leaf k 0 (lpS 57 (b23_0 true e) FUEL τ G))) (
fork f 24 (
leaf f 24 (leaf k 0 (lpS 51 (b24_0 true e) FUEL τ G))) (
leaf f 25 (leaf k 0 (lpS 31 (b25_0 true e) FUEL τ G)))))) (
fork f 33 (
fork f 30 (
leaf f 30 (leaf k 0 (lpS 18 (b30_0 true e) FUEL τ G))) (
fork f 31 (
leaf f 31 (leaf k 0 (lpS 18 (b31_0 true e) FUEL τ G))) (
leaf f 33 (leaf k 0 (lpS 19 (b33_0 true e) FUEL τ G))))) (
fork f 39 (
leaf f 39 (leaf k 0 (lpS 46 (b39_0 true e) FUEL τ G))) (
fork f 42 (
leaf f 42 (leaf k 0 (lpS 16 (b42_0 true e) FUEL τ G))) (
leaf f 44 (fork k 0 (leaf k 0 (lpS 25 (b44_0 true e) FUEL τ G)) (leaf k 1 (lpS 25 (b44_1 true e) FUEL τ G))))))))
theorem lpT_ok {orc : FuncId → Bool} {e : Ex} (h : ExLe Q e (E orc)) (FUEL f k : Nat) (τ : Env) (G : GS) : Ref (lpT FUEL e f k τ G) (mapE ((E orc).lp (codeAt Q f k) (lst (nOf Q f) τ) G)) :=
  Ref.fork (
Ref.fork (
Ref.fork (
Ref.fork (
Ref.leaf (y := fun f => mapE ((E orc).lp (codeAt Q f k) (lst (nOf Q f) τ) G)) (Ref.leaf (y := fun k => mapE ((E orc).lp (codeAt Q 3 k) (lst (nOf Q 3) τ) G)) (lp_leaf (c := (subAt [1, 1, 1, 1, 1, 1, 1, 1, 1, 1, 1, 0, 1, 0, 0] (bodyOf Tryd.f3))) (l3_0 h) _ _ _))) (
Ref.leaf (y := fun f => mapE ((E orc).lp (codeAt Q f k) (lst (nOf Q f) τ) G)) (Ref.fork (Ref.leaf (y := fun k => mapE ((E orc).lp (codeAt Q 6 k) (lst (nOf Q 6) τ) G)) (lp_leaf (c := (subAt [1, 1, 1, 1, 1, 1, 0, 1, 0, 0] (bodyOf Tryd.f6))) (l6_0 h) _ _ _)) (Ref.leaf (y := fun k => mapE ((E orc).lp (codeAt Q 6 k) (lst (nOf Q 6) τ) G)) (lp_leaf (c := (subAt [1, 1, 1, 1, 1, 1, 0, 1, 0, 0, 1, 0, 0, 1, 1, 1, 0, 1, 0, 0] (bodyOf Tryd.f6))) (l6_1 h) _ _ _))))) (
Ref.fork (
Ref.leaf (y := fun f => mapE ((E orc).lp (codeAt Q f k) (lst (nOf Q f) τ) G)) (Ref.fork (Ref.leaf (y := fun k => mapE ((E orc).lp (codeAt Q 7 k) (lst (nOf Q 7) τ) G)) (lp_leaf (c := (subAt [1, 1, 1, 1, 1, 1, 1, 1, 0, 1, 0, 0] (bodyOf Tryd.f7))) (l7_0 h) _ _ _)) (Ref.fork (Ref.leaf (y := fun k => mapE ((E orc).lp (codeAt Q 7 k) (lst (nOf Q 7) τ) G)) (lp_leaf (c := (subAt [1, 1, 1, 1, 1, 1, 1, 1, 0, 1, 0, 0, 1, 0, 0, 0, 1, 1, 1, 1, 1, 0, 1, 0, 1, 0, 0] (bodyOf Tryd.f7))) (l7_1 h) _ _ _)) (Ref.leaf (y := fun k => mapE ((E orc).lp (codeAt Q 7 k) (lst (nOf Q 7) τ) G)) (lp_leaf (c := (subAt [1, 1, 1, 1, 1, 1, 1, 1, 1, 0, 1, 0, 0] (bodyOf Tryd.f7))) (l7_2 h) _ _ _))))) (
Ref.fork (
Ref.leaf (y := fun f => mapE ((E orc).lp (codeAt Q f k) (lst (nOf Q f) τ) G)) (Ref.leaf (y := fun k => mapE ((E orc).lp (codeAt Q 11 k) (lst (nOf Q 11) τ) G)) (lp_leaf (c := (subAt [1, 1, 0, 1, 0, 0] (bodyOf Tryd.f11))) (l11_0 h) _ _ _))) (
Ref.leaf (y := fun f => mapE ((E orc).lp (codeAt Q f k) (lst (nOf Q f) τ) G)) (Ref.leaf (y := fun k => mapE ((E orc).lp (codeAt Q 13 k) (lst (nOf Q 13) τ) G)) (lp_leaf (c := (subAt [1, 1, 1, 0, 0, 1, 0, 0, 1, 0, 0] (bodyOf Tryd.f13))) (l13_0 h) _ _ _)))))) (
Ref.fork (
Ref.fork (
Ref.leaf (y := fun f => mapE ((E orc).lp (codeAt Q f k) (lst (nOf Q f) τ) G)) (Ref.fork (Ref.leaf (y := fun k => mapE ((E orc).lp (codeAt Q 15 k) (lst (nOf Q 15) τ) G)) (lp_leaf (c := (subAt [1, 1, 0, 1, 0, 0] (bodyOf Tryd.f15))) (l15_0 h) _ _ _)) (Ref.leaf (y := fun k => mapE ((E orc).lp (codeAt Q 15 k) (lst (nOf Q 15) τ) G)) (lp_leaf (c := (subAt [1, 1, 1, 1, 0, 1, 0, 0] (bodyOf Tryd.f15))) (l15_1 h) _ _ _)))) (
Ref.leaf (y := fun f => mapE ((E orc).lp (codeAt Q f k) (lst (nOf Q f) τ) G)) (Ref.leaf (y := fun k => mapE ((E orc).lp (codeAt Q 16 k) (lst (nOf Q 16) τ) G)) (lp_leaf (c := (subAt [1, 1, 0, 1, 0, 0] (bodyOf Tryd.f16))) (l16_0 h) _ _ _)))) (
Ref.fork (
Ref.leaf (y := fun f => mapE ((E orc).lp (codeAt Q f k) (lst (nOf Q f) τ) G)) (Ref.leaf (y := fun k => mapE ((E orc).lp (codeAt Q 17 k) (lst (nOf Q 17) τ) G)) (lp_leaf (c := (subAt [1, 1, 0, 1, 0, 0] (bodyOf Tryd.f17))) (l17_0 h) _ _ _))) (
Ref.fork (
Ref.leaf (y := fun f => mapE ((E orc).lp (codeAt Q f k) (lst (nOf Q f) τ) G)) (Ref.fork (Ref.leaf (y := fun k => mapE ((E orc).lp (codeAt Q 18 k) (lst (nOf Q 18) τ) G)) (lp_leaf (c := (subAt [1, 0, 1, 0, 0] (bodyOf Tryd.f18))) (l18_0 h) _ _ _)) (Ref.leaf (y := fun k => mapE ((E orc).lp (codeAt Q 18 k) (lst (nOf Q 18) τ) G)) (lp_leaf (c := (subAt [1, 1, 0, 1, 0, 0] (bodyOf Tryd.f18))) (l18_1 h) _ _ _)))) (
Ref.leaf (y := fun f => mapE ((E orc).lp (codeAt Q f k) (lst (nOf Q f) τ) G)) (Ref.fork (Ref.leaf (y := fun k => mapE ((E orc).lp (codeAt Q 19 k) (lst (nOf Q 19) τ) G)) (lp_leaf (c := (subAt [1, 0, 1, 0, 0] (bodyOf Tryd.f19))) (l19_0 h) _ _ _)) (Ref.leaf (y := fun k => mapE ((E orc).lp (codeAt Q 19 k) (lst (nOf Q 19) τ) G)) (lp_leaf (c := (subAt [1, 1, 0, 1, 0, 0] (bodyOf Tryd.f19))) (l19_1 h) _ _ _)))))))) (
Ref.fork (
Ref.fork (
Ref.fork (
Ref.leaf (y := fun f => mapE ((E orc).lp (codeAt Q f k) (lst (nOf Q f) τ) G)) (Ref.leaf (y := fun k => mapE ((E orc).lp (codeAt Q 20 k) (lst (nOf Q 20) τ) G)) (lp_leaf (c := (subAt [1, 0, 0] (bodyOf Tryd.f20))) (l20_0 h) _ _ _))) (
Ref.leaf (y := fun f => mapE ((E orc).lp (codeAt Q f k) (lst (nOf Q f) τ) G)) (Ref.leaf (y := fun k => mapE ((E orc).lp (codeAt Q 21 k) (lst (nOf Q 21) τ) G)) (lp_leaf (c := (subAt [1, 0, 0] (bodyOf Tryd.f21))) (l21_0 h) _ _ _)))) (
Ref.fork (
Ref.leaf (y := fun f => mapE ((E orc).lp (codeAt Q f k) (lst (nOf Q f) τ) G)) (Ref.leaf (y := fun k => mapE ((E orc).lp (codeAt Q 23 k) (lst (nOf Q 23) τ) G)) (lp_leaf (c := (subAt [1, 1, 1, 1, 0, 1, 0, 0] (bodyOf Tryd.f23))) (l23_0 h) _ _ _))) (
Ref.fork (
Ref.leaf (y := fun f => mapE ((E orc).lp (codeAt Q f k) (lst (nOf Q f) τ) G)) (Ref.leaf (y := fun k => mapE ((E orc).lp (codeAt Q 24 k) (lst (nOf Q 24) τ) G)) (lp_leaf (c := (subAt [1, 1, 1, 1, 0, 1, 0, 0] (bodyOf Tryd.f24))) (l24_0 h) _ _ _))) (
Ref.leaf (y := fun f => mapE ((E orc).lp (codeAt Q f k) (lst (nOf Q f) τ) G)) (Ref.leaf (y := fun k => mapE ((E orc).lp (codeAt Q 25 k) (lst (nOf Q 25) τ) G)) (lp_leaf (c := (subAt [1, 1, 0, 1, 0, 0] (bodyOf Tryd.f25))) (l25_0 h) _ _ _)))))) (
Ref.fork (
Ref.fork (
Ref.leaf (y := fun f => mapE ((E orc).lp (codeAt Q f k) (lst (nOf Q f) τ) G)) (Ref.leaf (y := fun k => mapE ((E orc).lp (codeAt Q 30 k) (lst (nOf Q 30) τ) G)) (lp_leaf (c := (subAt [1, 0, 1, 0, 0] (bodyOf Tryd.f30))) (l30_0 h) _ _ _))) (
Ref.fork (
Ref.leaf (y := fun f => mapE ((E orc).lp (codeAt Q f k) (lst (nOf Q f) τ) G)) (Ref.leaf (y := fun k => mapE ((E orc).lp (codeAt Q 31 k) (lst (nOf Q 31) τ) G)) (lp_leaf (c := (subAt [1, 0, 1, 0, 0] (bodyOf Tryd.f31))) (l31_0 h) _ _ _))) (
Ref.leaf (y := fun f => mapE ((E orc).lp (codeAt Q f k) (lst (nOf Q f) τ) G)) (Ref.leaf (y := fun k => mapE ((E orc).lp (codeAt Q 33 k) (lst (nOf Q 33) τ) G)) (lp_leaf (c := (subAt [1, 1, 0, 1, 0, 0] (bodyOf Tryd.f33))) (l33_0 h) _ _ _))))) (
Ref.fork (
Ref.leaf (y := fun f => mapE ((E orc).lp (codeAt Q f k) (lst (nOf Q f) τ) G)) (Ref.leaf (y := fun k => mapE ((E orc).lp (codeAt Q 39 k) (lst (nOf Q 39) τ) G)) (lp_leaf (c := (subAt [1, 1, 1, 0, 1, 0, 0] (bodyOf Tryd.f39))) (l39_0 h) _ _ _))) (
Ref.fork (
Ref.leaf (y := fun f => mapE ((E orc).lp (codeAt Q f k) (lst (nOf Q f) τ) G)) (Ref.leaf (y := fun k => mapE ((E orc).lp (codeAt Q 42 k) (lst (nOf Q 42) τ) G)) (lp_leaf (c := (subAt [1, 1, 0, 1, 0, 0] (bodyOf Tryd.f42))) (l42_0 h) _ _ _))) (
Ref.leaf (y := fun f => mapE ((E orc).lp (codeAt Q f k) (lst (nOf Q f) τ) G)) (Ref.fork (Ref.leaf (y := fun k => mapE ((E orc).lp (codeAt Q 44 k) (lst (nOf Q 44) τ) G)) (lp_leaf (c := (subAt [1, 0, 0] (bodyOf Tryd.f44))) (l44_0 h) _ _ _)) (Ref.leaf (y := fun k => mapE ((E orc).lp (codeAt Q 44 k) (lst (nOf Q 44) τ) G)) (lp_leaf (c := (subAt [1, 0, 0, 1, 1, 0, 0, 1, 0, 0] (bodyOf Tryd.f44))) (l44_1 h) _ _ _))))))))
noncomputable def kE (orc : FuncId → Bool) (n : Nat) : Ex := Nat.rec (motive := fun _ => Ex) ⟨Ev.zero, fun _ _ _ _ => none⟩ (fun _ e => ⟨⟨(evO Q orc 0).ex, clT orc e, (evO Q orc 2000).rd, (evO Q orc 2000).sc, (evO Q orc 0).lp⟩, lpT 6000 e⟩) n
theorem kE_ok (orc : FuncId → Bool) : ∀ n, ExLe Q (kE orc n) (E orc)
  | 0 => ⟨zero_le _, fun _ _ _ _ => .nil _⟩
  | n + 1 => ⟨⟨(le_evL Q orc 0).ex, fun f vs G r hr => clT_ok (kE_ok orc n) f vs G r hr, (le_evL Q orc 2000).rd, (le_evL Q orc 2000).sc, (le_evL Q orc 0).lp⟩, lpT_ok (kE_ok orc n) 6000⟩
/-- what the tables find true is true -/
theorem at_kE {orc : FuncId → Bool} {n f : Nat} {vs : List Value} (h : isTrue ((kE orc n).ev.cl f vs GS.empty) = true) : ∃ G', (E orc).cl f vs GS.empty = some (.bool true, G') := isTrue_of ((kE_ok orc n).ev.cl f vs GS.empty) h
theorem closed_kE {orc : FuncId → Bool} (ho : OrcOk Q orc) (hmix : Q.follows .mixedOrders = true) {n f : Nat} (h : isTrue ((kE orc n).ev.cl f [] GS.empty) = true) (w : World) : Calls Q f #[] w fun e w' => e = .returned (.bool true) ∧ Go.RowKit.Below w.heap.size w w' :=
  let ⟨_, hG⟩ := at_kE h
  law_plain hmix ho hG fun _ => trivial
end Go.Proofs.YtocbppgkgcoehaaDoor.Lift
