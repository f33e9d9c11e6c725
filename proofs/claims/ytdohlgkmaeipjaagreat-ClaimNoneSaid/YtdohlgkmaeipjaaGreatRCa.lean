/- the program's code, spelled out by a program of ours (lift3.lean) -/
import Derived.Test.YtdohlgkmaeipjaaGreatProg
import Derived.Test.YtdohlgkmaeipjaaGreatGhPJ
import Derived.Test.YtdohlgkmaeipjaaGreatGhPG
import Derived.KernelRfl
namespace Go.Proofs.YtdohlgkmaeipjaaGreat.Lift
open Go Go.Proofs.YtdohlgkmaeipjaaGreat.Gh Go.Proofs
set_option linter.unusedVariables false
set_option maxRecDepth 100000
@[reducible] noncomputable def Q : Program := Tryz.prog
@[reducible] noncomputable def E (orc : FuncId → Bool) : Ev := evL Tryz.prog orc
instance ilp3_0 : LpIs Q 3 0 (subAt [1, 1, 1, 1, 0, 1, 0, 0] (bodyOf Tryz.f3)) 157 := ⟨by kernel_rfl, by kernel_rfl⟩
instance ilp12_0 : LpIs Q 12 0 (subAt [1, 0, 1, 1, 0, 0, 0] (bodyOf Tryz.f12)) 162 := ⟨by kernel_rfl, by kernel_rfl⟩
instance ilp53_0 : LpIs Q 53 0 (subAt [1, 1, 1, 0, 1, 0, 0] (bodyOf Tryz.f53)) 42 := ⟨by kernel_rfl, by kernel_rfl⟩
instance ilp80_0 : LpIs Q 80 0 (subAt [1, 1, 1, 1, 1, 0, 1, 0, 0] (bodyOf Tryz.f80)) 38 := ⟨by kernel_rfl, by kernel_rfl⟩
instance ilp81_0 : LpIs Q 81 0 (subAt [1, 1, 0, 1, 0, 0] (bodyOf Tryz.f81)) 54 := ⟨by kernel_rfl, by kernel_rfl⟩
instance ilp82_0 : LpIs Q 82 0 (subAt [1, 1, 0, 1, 0, 0] (bodyOf Tryz.f82)) 61 := ⟨by kernel_rfl, by kernel_rfl⟩
instance ilp84_0 : LpIs Q 84 0 (subAt [1, 1, 0, 1, 0, 0] (bodyOf Tryz.f84)) 31 := ⟨by kernel_rfl, by kernel_rfl⟩
instance ilp156_0 : LpIs Q 156 0 (subAt [1, 1, 1, 1, 0, 0] (bodyOf Tryz.f156)) 24 := ⟨by kernel_rfl, by kernel_rfl⟩
instance ilp171_0 : LpIs Q 171 0 (subAt [1, 1, 1, 1, 1, 0, 0] (bodyOf Tryz.f171)) 29 := ⟨by kernel_rfl, by kernel_rfl⟩
instance ilp196_0 : LpIs Q 196 0 (subAt [1, 0, 1, 1, 1, 1, 1, 0, 0, 0] (bodyOf Tryz.f196)) 195 := ⟨by kernel_rfl, by kernel_rfl⟩
instance ilp246_0 : LpIs Q 246 0 (subAt [1, 1, 1, 1, 0, 0] (bodyOf Tryz.f246)) 23 := ⟨by kernel_rfl, by kernel_rfl⟩
instance ilp257_0 : LpIs Q 257 0 (subAt [1, 1, 1, 1, 0, 0] (bodyOf Tryz.f257)) 34 := ⟨by kernel_rfl, by kernel_rfl⟩
instance ilp351_0 : LpIs Q 351 0 (subAt [1, 1, 0, 0] (bodyOf Tryz.f351)) 40 := ⟨by kernel_rfl, by kernel_rfl⟩
instance ilp355_0 : LpIs Q 355 0 (subAt [1, 1, 0, 0] (bodyOf Tryz.f355)) 35 := ⟨by kernel_rfl, by kernel_rfl⟩
instance ilp357_0 : LpIs Q 357 0 (subAt [1, 0, 1, 0, 0] (bodyOf Tryz.f357)) 24 := ⟨by kernel_rfl, by kernel_rfl⟩
instance ilp358_0 : LpIs Q 358 0 (subAt [1, 1, 0, 1, 0, 0] (bodyOf Tryz.f358)) 24 := ⟨by kernel_rfl, by kernel_rfl⟩
instance ilp359_0 : LpIs Q 359 0 (subAt [1, 0, 0] (bodyOf Tryz.f359)) 18 := ⟨by kernel_rfl, by kernel_rfl⟩
instance ilp397_0 : LpIs Q 397 0 (subAt [1, 1, 0, 0] (bodyOf Tryz.f397)) 25 := ⟨by kernel_rfl, by kernel_rfl⟩
instance iep32 : EpOk Q 32 := ⟨fun neg x y => by cases neg <;> kernel_rfl, fun neg x y a => by cases neg <;> kernel_rfl, fun neg x y a => by cases neg <;> kernel_rfl⟩
noncomputable abbrev z48 : List Value := [(.int .i64 0), (.int .i64 0), (.int .i64 0), (.int .i64 0), (.int .i64 0), (.int .i64 0), (.int .i64 0), (.int .i64 0), (.int .i64 0), (.int .i64 0), (.int .i64 0), (.int .i64 0), (.int .i64 0), (.int .i64 0), (.bool false), (.pointer none), (.pointer none), (.int .i64 0), (.int .u64 0), (.int .i64 0), (.int .u64 0), (.int .u64 0), (.int .i64 0), (.int .u64 0), (.bool false), (.int .i64 0)]
instance ibd48_ : BdOk Q 48 z48 [] := bd_ok Q (by kernel_rfl) (by kernel_rfl) (by kernel_rfl)
noncomputable abbrev z36 : List Value := [(.pointer none)]
instance ibs49_2_0_1 : BsOk Q 49 2 (rep z36 2) 1 [(0, 0, 1), (1, 1, 1)] := bs_ok Q (z0 := z36) (by kernel_rfl) rfl (by decide) (by kernel_rfl)
noncomputable abbrev z55 : List Value := [(.int .i64 0), (.int .i64 0), (.int .i64 0), (.int .i64 0), (.int .i64 0), (.int .i64 0), (.int .i64 0), (.int .i64 0), (.int .i64 0), (.int .i64 0), (.int .i64 0), (.int .i64 0), (.int .i64 0), (.int .i64 0), (.int .u64 0), (.int .i64 0), (.int .u64 0), (.int .u64 0), (.int .i64 0), (.int .u64 0), (.bool false), (.int .i64 0)]
instance ibd55_ : BdOk Q 55 z55 [] := bd_ok Q (by kernel_rfl) (by kernel_rfl) (by kernel_rfl)
noncomputable abbrev z50 : List Value := [(.pointer none)]
instance ibs56_2_0_1 : BsOk Q 56 2 (rep z50 2) 1 [(0, 0, 1), (1, 1, 1)] := bs_ok Q (z0 := z50) (by kernel_rfl) rfl (by decide) (by kernel_rfl)
instance iias49 : IasOk Q 49 1 := ⟨fun b o s n c k j => by kernel_rfl⟩
instance ild36 : LdOk Q 36 := ⟨fun b o s G => (show _ = loadOne b o G by kernel_rfl).trans (loadOne_eq b o G)⟩
noncomputable abbrev z44 : List Value := [(.int .u64 0), (.int .i64 0)]
instance ial44 : AlOk Q 44 z44 := ⟨fun G => by kernel_rfl⟩
instance ist44 : StOk Q 44 2 := ⟨fun b o s v G => by kernel_rfl⟩
instance iias56 : IasOk Q 56 1 := ⟨fun b o s n c k j => by kernel_rfl⟩
instance ild50 : LdOk Q 50 := ⟨fun b o s G => (show _ = loadOne b o G by kernel_rfl).trans (loadOne_eq b o G)⟩
instance ilda44 : LdAOk Q 44 2 := ⟨fun b o s G => by kernel_rfl⟩
instance ilda31 : LdAOk Q 31 13 := ⟨fun b o s G => by kernel_rfl⟩
noncomputable abbrev z156 : List Value := (zs 4096 (.int .u64 0))
instance ial156 : AlOk Q 156 z156 := ⟨fun G => by kernel_rfl⟩
noncomputable abbrev z158 : List Value := [(.pointer none), (.int .i64 0), (.int .i64 0), (.int .i64 0), (.int .u64 0), (.int .u64 0), (.bool false), (.int .i64 0)]
instance ibd158_0_1 : BdOk Q 158 z158 [(0, 0, 1), (1, 1, 1)] := bd_ok Q (by kernel_rfl) (by kernel_rfl) (by kernel_rfl)
instance iep36 : EpOk Q 36 := ⟨fun neg x y => by cases neg <;> kernel_rfl, fun neg x y a => by cases neg <;> kernel_rfl, fun neg x y a => by cases neg <;> kernel_rfl⟩
instance ibd44_ : BdOk Q 44 z44 [] := bd_ok Q (by kernel_rfl) (by kernel_rfl) (by kernel_rfl)
instance ifa48_0 : FaOk Q 48 0 0 := ⟨fun b o s => by kernel_rfl⟩
instance iep50 : EpOk Q 50 := ⟨fun neg x y => by cases neg <;> kernel_rfl, fun neg x y a => by cases neg <;> kernel_rfl, fun neg x y a => by cases neg <;> kernel_rfl⟩
instance ifa55_0 : FaOk Q 55 0 0 := ⟨fun b o s => by kernel_rfl⟩
instance ifa46_2 : FaOk Q 46 2 17 := ⟨fun b o s => by kernel_rfl⟩
instance ild3 : LdOk Q 3 := ⟨fun b o s G => (show _ = loadOne b o G by kernel_rfl).trans (loadOne_eq b o G)⟩
instance ifa46_5 : FaOk Q 46 5 20 := ⟨fun b o s => by kernel_rfl⟩
instance ist42 : StOk Q 42 1 := ⟨fun b o s v G => by kernel_rfl⟩
instance ist3 : StOk Q 3 1 := ⟨fun b o s v G => by kernel_rfl⟩
instance ild42 : LdOk Q 42 := ⟨fun b o s G => (show _ = loadOne b o G by kernel_rfl).trans (loadOne_eq b o G)⟩
instance ifa46_3 : FaOk Q 46 3 18 := ⟨fun b o s => by kernel_rfl⟩
instance ild41 : LdOk Q 41 := ⟨fun b o s G => (show _ = loadOne b o G by kernel_rfl).trans (loadOne_eq b o G)⟩
instance ifa46_7 : FaOk Q 46 7 23 := ⟨fun b o s => by kernel_rfl⟩
instance ist41 : StOk Q 41 1 := ⟨fun b o s v G => by kernel_rfl⟩
instance ifa46_0 : FaOk Q 46 0 0 := ⟨fun b o s => by kernel_rfl⟩
instance ifa46_4 : FaOk Q 46 4 19 := ⟨fun b o s => by kernel_rfl⟩
instance ifa46_1 : FaOk Q 46 1 13 := ⟨fun b o s => by kernel_rfl⟩
instance ifa40_1 : FaOk Q 40 1 1 := ⟨fun b o s => by kernel_rfl⟩
instance ist4 : StOk Q 4 1 := ⟨fun b o s v G => by kernel_rfl⟩
instance ifa46_6 : FaOk Q 46 6 21 := ⟨fun b o s => by kernel_rfl⟩
instance ifa44_0 : FaOk Q 44 0 0 := ⟨fun b o s => by kernel_rfl⟩
instance ifa40_2 : FaOk Q 40 2 2 := ⟨fun b o s => by kernel_rfl⟩
instance ist37 : StOk Q 37 1 := ⟨fun b o s v G => by kernel_rfl⟩
instance ifa53_2 : FaOk Q 53 2 13 := ⟨fun b o s => by kernel_rfl⟩
instance ifa53_6 : FaOk Q 53 6 17 := ⟨fun b o s => by kernel_rfl⟩
instance ild4 : LdOk Q 4 := ⟨fun b o s G => (show _ = loadOne b o G by kernel_rfl).trans (loadOne_eq b o G)⟩
instance ifa53_7 : FaOk Q 53 7 19 := ⟨fun b o s => by kernel_rfl⟩
instance ifa31_3 : FaOk Q 31 3 3 := ⟨fun b o s => by kernel_rfl⟩
instance ifa29_0 : FaOk Q 29 0 0 := ⟨fun b o s => by kernel_rfl⟩
instance ifa25_0 : FaOk Q 25 0 0 := ⟨fun b o s => by kernel_rfl⟩
instance ifa23_2 : FaOk Q 23 2 2 := ⟨fun b o s => by kernel_rfl⟩
instance ifa31_2 : FaOk Q 31 2 2 := ⟨fun b o s => by kernel_rfl⟩
instance ifa31_0 : FaOk Q 31 0 0 := ⟨fun b o s => by kernel_rfl⟩
instance ifa31_1 : FaOk Q 31 1 1 := ⟨fun b o s => by kernel_rfl⟩
instance ibd48_0 : BdOk Q 48 z48 [(0, 0, 26)] := bd_ok Q (by kernel_rfl) (by kernel_rfl) (by kernel_rfl)
instance ibd55_0 : BdOk Q 55 z55 [(0, 0, 22)] := bd_ok Q (by kernel_rfl) (by kernel_rfl) (by kernel_rfl)
instance ifa158_3 : FaOk Q 158 3 7 := ⟨fun b o s => by kernel_rfl⟩
instance ibd44_0_1 : BdOk Q 44 z44 [(0, 0, 1), (1, 1, 1)] := bd_ok Q (by kernel_rfl) (by kernel_rfl) (by kernel_rfl)
noncomputable abbrev z3 : List Value := [(.int .i64 0)]
instance ibs78_2_0_1 : BsOk Q 78 2 (rep z3 2) 1 [(0, 0, 1), (1, 1, 1)] := bs_ok Q (z0 := z3) (by kernel_rfl) rfl (by decide) (by kernel_rfl)
instance ibs78_1_0 : BsOk Q 78 1 (rep z3 1) 1 [(0, 0, 1)] := bs_ok Q (z0 := z3) (by kernel_rfl) rfl (by decide) (by kernel_rfl)
noncomputable abbrev z246 : List Value := [(.pointer none), (.int .u64 0), (.int .u64 0)]
instance ibd246_0_1 : BdOk Q 246 z246 [(0, 0, 1), (1, 1, 1)] := bd_ok Q (by kernel_rfl) (by kernel_rfl) (by kernel_rfl)
instance ial246 : AlOk Q 246 z246 := ⟨fun G => by kernel_rfl⟩
instance ist246 : StOk Q 246 3 := ⟨fun b o s v G => by kernel_rfl⟩
instance ifa246_0 : FaOk Q 246 0 0 := ⟨fun b o s => by kernel_rfl⟩
instance ild243 : LdOk Q 243 := ⟨fun b o s G => (show _ = loadOne b o G by kernel_rfl).trans (loadOne_eq b o G)⟩
instance ilda246 : LdAOk Q 246 3 := ⟨fun b o s G => by kernel_rfl⟩
noncomputable abbrev z68 : List Value := [(.int .i64 0), (.int .i64 0), (.int .u64 0), (.int .u64 0), (.bool false)]
instance ial68 : AlOk Q 68 z68 := ⟨fun G => by kernel_rfl⟩
instance ibd68_ : BdOk Q 68 z68 [] := bd_ok Q (by kernel_rfl) (by kernel_rfl) (by kernel_rfl)
instance ist68 : StOk Q 68 5 := ⟨fun b o s v G => by kernel_rfl⟩
instance ifa158_2 : FaOk Q 158 2 2 := ⟨fun b o s => by kernel_rfl⟩
instance ilda68 : LdAOk Q 68 5 := ⟨fun b o s G => by kernel_rfl⟩
instance ifa158_0 : FaOk Q 158 0 0 := ⟨fun b o s => by kernel_rfl⟩
instance ild153 : LdOk Q 153 := ⟨fun b o s G => (show _ = loadOne b o G by kernel_rfl).trans (loadOne_eq b o G)⟩
instance iep153 : EpOk Q 153 := ⟨fun neg x y => by cases neg <;> kernel_rfl, fun neg x y a => by cases neg <;> kernel_rfl, fun neg x y a => by cases neg <;> kernel_rfl⟩
instance ifa158_1 : FaOk Q 158 1 1 := ⟨fun b o s => by kernel_rfl⟩
noncomputable abbrev z41 : List Value := [(.int .u64 0)]
instance imk111 : MkSlOk Q 111 1 8 z41 := ⟨fun k k' l c G => by kernel_rfl⟩
instance isla156 : SlAOk Q 156 4096 1 := ⟨fun a lo hi mx G => by kernel_rfl⟩
instance iln253 : LnOk Q 253 := ⟨fun a n c => by kernel_rfl⟩
instance iias253 : IasOk Q 253 1 := ⟨fun b o s n c k j => by kernel_rfl⟩
instance ild154 : LdOk Q 154 := ⟨fun b o s G => (show _ = loadOne b o G by kernel_rfl).trans (loadOne_eq b o G)⟩
instance iias111 : IasOk Q 111 1 := ⟨fun b o s n c k j => by kernel_rfl⟩
instance ifa46_8 : FaOk Q 46 8 24 := ⟨fun b o s => by kernel_rfl⟩
instance ifa46_9 : FaOk Q 46 9 25 := ⟨fun b o s => by kernel_rfl⟩
instance ild33 : LdOk Q 33 := ⟨fun b o s G => (show _ = loadOne b o G by kernel_rfl).trans (loadOne_eq b o G)⟩
instance ifa53_8 : FaOk Q 53 8 20 := ⟨fun b o s => by kernel_rfl⟩
instance ifa53_9 : FaOk Q 53 9 21 := ⟨fun b o s => by kernel_rfl⟩
noncomputable abbrev z274 : List Value := [(.int .i64 0), (.int .i64 0)]
instance ial274 : AlOk Q 274 z274 := ⟨fun G => by kernel_rfl⟩
instance ist274 : StOk Q 274 2 := ⟨fun b o s v G => by kernel_rfl⟩
instance ifa274_0 : FaOk Q 274 0 0 := ⟨fun b o s => by kernel_rfl⟩
instance ist33 : StOk Q 33 1 := ⟨fun b o s v G => by kernel_rfl⟩
instance ifa40_0 : FaOk Q 40 0 0 := ⟨fun b o s => by kernel_rfl⟩
instance icv3_41 : CvOk Q 3 41 .i64 .u64 := ⟨fun n => by kernel_rfl⟩
instance icv41_3 : CvOk Q 41 3 .u64 .i64 := ⟨fun n => by kernel_rfl⟩
instance ibd246_0_1_2 : BdOk Q 246 z246 [(0, 0, 1), (1, 1, 1), (2, 2, 1)] := bd_ok Q (by kernel_rfl) (by kernel_rfl) (by kernel_rfl)
instance ifd68_4 : FdOk Q 68 4 4 := ⟨fun l => by kernel_rfl⟩
instance ifa44_1 : FaOk Q 44 1 1 := ⟨fun b o s => by kernel_rfl⟩
noncomputable abbrev z283 : List Value := [(.int .i64 0), (.int .i64 0), (.int .i64 0), (.int .i64 0), (.int .i64 0), (.int .i64 0), (.int .i64 0), (.int .i64 0), (.int .i64 0), (.int .i64 0), (.int .i64 0), (.int .i64 0), (.int .i64 0), (.int .u64 0), (.int .i64 0), (.int .i64 0), (.int .i64 0), (.int .u64 0), (.int .u64 0), (.int .u64 0), (.slice none 0 0), (.int .u64 0), (.bool false), (.int .i64 0)]
instance ibd283_0_1_7 : BdOk Q 283 z283 [(0, 0, 13), (1, 13, 1), (7, 22, 1)] := bd_ok Q (by kernel_rfl) (by kernel_rfl) (by kernel_rfl)
instance ifa283_2 : FaOk Q 283 2 14 := ⟨fun b o s => by kernel_rfl⟩
instance ifa283_8 : FaOk Q 283 8 23 := ⟨fun b o s => by kernel_rfl⟩
noncomputable abbrev z280 : List Value := [(.int .i64 0), (.int .i64 0), (.int .u64 0), (.int .u64 0)]
instance imk281 : MkSlOk Q 281 4 32 z280 := ⟨fun k k' l c G => by kernel_rfl⟩
instance ifa283_5 : FaOk Q 283 5 20 := ⟨fun b o s => by kernel_rfl⟩
instance ist281 : StOk Q 281 1 := ⟨fun b o s v G => by kernel_rfl⟩
instance ild37 : LdOk Q 37 := ⟨fun b o s G => (show _ = loadOne b o G by kernel_rfl).trans (loadOne_eq b o G)⟩
instance ilda29 : LdAOk Q 29 10 := ⟨fun b o s G => by kernel_rfl⟩
instance ifa40_3 : FaOk Q 40 3 3 := ⟨fun b o s => by kernel_rfl⟩
instance ist38 : StOk Q 38 1 := ⟨fun b o s v G => by kernel_rfl⟩
instance ild38 : LdOk Q 38 := ⟨fun b o s G => (show _ = loadOne b o G by kernel_rfl).trans (loadOne_eq b o G)⟩
instance ifa53_0 : FaOk Q 53 0 0 := ⟨fun b o s => by kernel_rfl⟩
instance ifa53_3 : FaOk Q 53 3 14 := ⟨fun b o s => by kernel_rfl⟩
instance ifa53_4 : FaOk Q 53 4 15 := ⟨fun b o s => by kernel_rfl⟩
instance ifa53_5 : FaOk Q 53 5 16 := ⟨fun b o s => by kernel_rfl⟩
noncomputable abbrev z46 : List Value := [(.int .i64 0), (.int .i64 0), (.int .i64 0), (.int .i64 0), (.int .i64 0), (.int .i64 0), (.int .i64 0), (.int .i64 0), (.int .i64 0), (.int .i64 0), (.int .i64 0), (.int .i64 0), (.int .i64 0), (.int .i64 0), (.bool false), (.pointer none), (.pointer none), (.int .i64 0), (.int .u64 0), (.int .i64 0), (.int .u64 0), (.int .u64 0), (.int .i64 0), (.int .u64 0), (.bool false), (.int .i64 0)]
instance ial46 : AlOk Q 46 z46 := ⟨fun G => by kernel_rfl⟩
instance ibd46_8_2_9 : BdOk Q 46 z46 [(8, 24, 1), (2, 17, 1), (9, 25, 1)] := bd_ok Q (by kernel_rfl) (by kernel_rfl) (by kernel_rfl)
instance ist46 : StOk Q 46 26 := ⟨fun b o s v G => by kernel_rfl⟩
instance ibd46_0_8_2 : BdOk Q 46 z46 [(0, 0, 13), (8, 24, 1), (2, 17, 1)] := bd_ok Q (by kernel_rfl) (by kernel_rfl) (by kernel_rfl)
instance ilda46 : LdAOk Q 46 26 := ⟨fun b o s G => by kernel_rfl⟩
noncomputable abbrev z53 : List Value := [(.int .i64 0), (.int .i64 0), (.int .i64 0), (.int .i64 0), (.int .i64 0), (.int .i64 0), (.int .i64 0), (.int .i64 0), (.int .i64 0), (.int .i64 0), (.int .i64 0), (.int .i64 0), (.int .i64 0), (.int .i64 0), (.int .u64 0), (.int .i64 0), (.int .u64 0), (.int .u64 0), (.int .i64 0), (.int .u64 0), (.bool false), (.int .i64 0)]
instance ial53 : AlOk Q 53 z53 := ⟨fun G => by kernel_rfl⟩
instance ibd53_8_2_9 : BdOk Q 53 z53 [(8, 20, 1), (2, 13, 1), (9, 21, 1)] := bd_ok Q (by kernel_rfl) (by kernel_rfl) (by kernel_rfl)
instance ist53 : StOk Q 53 22 := ⟨fun b o s v G => by kernel_rfl⟩
instance ibd53_0_8_2 : BdOk Q 53 z53 [(0, 0, 13), (8, 20, 1), (2, 13, 1)] := bd_ok Q (by kernel_rfl) (by kernel_rfl) (by kernel_rfl)
instance ilda53 : LdAOk Q 53 22 := ⟨fun b o s G => by kernel_rfl⟩
instance ibs111_18_0_1_2_3_4_5_6_7_8_9_10_11_12_13_14_15_16_17 : BsOk Q 111 18 (rep z41 18) 1 [(0, 0, 1), (1, 1, 1), (2, 2, 1), (3, 3, 1), (4, 4, 1), (5, 5, 1), (6, 6, 1), (7, 7, 1), (8, 8, 1), (9, 9, 1), (10, 10, 1), (11, 11, 1), (12, 12, 1), (13, 13, 1), (14, 14, 1), (15, 15, 1), (16, 16, 1), (17, 17, 1)] := bs_ok Q (z0 := z41) (by kernel_rfl) rfl (by decide) (by kernel_rfl)
instance iln111 : LnOk Q 111 := ⟨fun a n c => by kernel_rfl⟩
instance ieb4 : EbOk Q 4 := ⟨fun neg x y a b => by cases neg <;> cases a <;> cases b <;> kernel_rfl⟩
instance iln78 : LnOk Q 78 := ⟨fun a n c => by kernel_rfl⟩
instance iias78 : IasOk Q 78 1 := ⟨fun b o s n c k j => by kernel_rfl⟩
instance ilda23 : LdAOk Q 23 3 := ⟨fun b o s G => by kernel_rfl⟩
noncomputable abbrev z23 : List Value := [(.int .i64 0), (.int .i64 0), (.int .i64 0)]
instance ial23 : AlOk Q 23 z23 := ⟨fun G => by kernel_rfl⟩
instance ist23 : StOk Q 23 3 := ⟨fun b o s v G => by kernel_rfl⟩
instance ifa29_2 : FaOk Q 29 2 9 := ⟨fun b o s => by kernel_rfl⟩
instance ifa23_0 : FaOk Q 23 0 0 := ⟨fun b o s => by kernel_rfl⟩
noncomputable abbrev z31 : List Value := [(.int .i64 0), (.int .i64 0), (.int .i64 0), (.int .i64 0), (.int .i64 0), (.int .i64 0), (.int .i64 0), (.int .i64 0), (.int .i64 0), (.int .i64 0), (.int .i64 0), (.int .i64 0), (.int .i64 0)]
instance ial31 : AlOk Q 31 z31 := ⟨fun G => by kernel_rfl⟩
instance ibd23_0_1_2 : BdOk Q 23 z23 [(0, 0, 1), (1, 1, 1), (2, 2, 1)] := bd_ok Q (by kernel_rfl) (by kernel_rfl) (by kernel_rfl)
noncomputable abbrev z25 : List Value := [(.int .i64 0), (.int .i64 0), (.int .i64 0), (.int .i64 0), (.int .i64 0), (.int .i64 0)]
instance ibd25_0_1_2_3 : BdOk Q 25 z25 [(0, 0, 3), (1, 3, 1), (2, 4, 1), (3, 5, 1)] := bd_ok Q (by kernel_rfl) (by kernel_rfl) (by kernel_rfl)
instance ial25 : AlOk Q 25 z25 := ⟨fun G => by kernel_rfl⟩
instance ist25 : StOk Q 25 6 := ⟨fun b o s v G => by kernel_rfl⟩
instance ilda25 : LdAOk Q 25 6 := ⟨fun b o s G => by kernel_rfl⟩
noncomputable abbrev z27 : List Value := [(.int .i64 0), (.int .i64 0), (.int .i64 0)]
instance ibd27_0_1_2 : BdOk Q 27 z27 [(0, 0, 1), (1, 1, 1), (2, 2, 1)] := bd_ok Q (by kernel_rfl) (by kernel_rfl) (by kernel_rfl)
noncomputable abbrev z29 : List Value := [(.int .i64 0), (.int .i64 0), (.int .i64 0), (.int .i64 0), (.int .i64 0), (.int .i64 0), (.int .i64 0), (.int .i64 0), (.int .i64 0), (.int .i64 0)]
instance ibd29_0_1_2 : BdOk Q 29 z29 [(0, 0, 6), (1, 6, 3), (2, 9, 1)] := bd_ok Q (by kernel_rfl) (by kernel_rfl) (by kernel_rfl)
instance ial29 : AlOk Q 29 z29 := ⟨fun G => by kernel_rfl⟩
instance ist29 : StOk Q 29 10 := ⟨fun b o s v G => by kernel_rfl⟩
instance ibd31_0_1_2_3 : BdOk Q 31 z31 [(0, 0, 1), (1, 1, 1), (2, 2, 1), (3, 3, 10)] := bd_ok Q (by kernel_rfl) (by kernel_rfl) (by kernel_rfl)
instance ist31 : StOk Q 31 13 := ⟨fun b o s v G => by kernel_rfl⟩
noncomputable abbrev z187 : List Value := [(.int .i64 0), (.int .i64 0), (.int .i64 0)]
instance ial187 : AlOk Q 187 z187 := ⟨fun G => by kernel_rfl⟩
instance ibd187_0_1_2 : BdOk Q 187 z187 [(0, 0, 1), (1, 1, 1), (2, 2, 1)] := bd_ok Q (by kernel_rfl) (by kernel_rfl) (by kernel_rfl)
instance ist187 : StOk Q 187 3 := ⟨fun b o s v G => by kernel_rfl⟩
instance ilda187 : LdAOk Q 187 3 := ⟨fun b o s G => by kernel_rfl⟩
noncomputable abbrev z192 : List Value := [(.int .i64 0), (.int .i64 0), (.int .i64 0)]
instance ial192 : AlOk Q 192 z192 := ⟨fun G => by kernel_rfl⟩
instance ibd192_0_1_2 : BdOk Q 192 z192 [(0, 0, 1), (1, 1, 1), (2, 2, 1)] := bd_ok Q (by kernel_rfl) (by kernel_rfl) (by kernel_rfl)
instance ist192 : StOk Q 192 3 := ⟨fun b o s v G => by kernel_rfl⟩
instance ilda192 : LdAOk Q 192 3 := ⟨fun b o s G => by kernel_rfl⟩
instance iiaa156 : IaaOk Q 156 4096 1 := ⟨fun b o s k j => by kernel_rfl⟩
instance ibd68_0_1 : BdOk Q 68 z68 [(0, 0, 1), (1, 1, 1)] := bd_ok Q (by kernel_rfl) (by kernel_rfl) (by kernel_rfl)
instance ifa68_2 : FaOk Q 68 2 2 := ⟨fun b o s => by kernel_rfl⟩
instance ifa68_3 : FaOk Q 68 3 3 := ⟨fun b o s => by kernel_rfl⟩
instance ifa68_4 : FaOk Q 68 4 4 := ⟨fun b o s => by kernel_rfl⟩
instance ist154 : StOk Q 154 1 := ⟨fun b o s v G => by kernel_rfl⟩
instance ifa246_1 : FaOk Q 246 1 1 := ⟨fun b o s => by kernel_rfl⟩
instance ifa25_2 : FaOk Q 25 2 4 := ⟨fun b o s => by kernel_rfl⟩
instance ifa25_1 : FaOk Q 25 1 3 := ⟨fun b o s => by kernel_rfl⟩
instance ibd246_0 : BdOk Q 246 z246 [(0, 0, 1)] := bd_ok Q (by kernel_rfl) (by kernel_rfl) (by kernel_rfl)
instance ifd68_3 : FdOk Q 68 3 3 := ⟨fun l => by kernel_rfl⟩
noncomputable abbrev z393 : List Value := [(.int .i64 0), (.int .i64 0), (.int .i64 0), (.int .i64 0)]
instance ial393 : AlOk Q 393 z393 := ⟨fun G => by kernel_rfl⟩
instance ist393 : StOk Q 393 4 := ⟨fun b o s v G => by kernel_rfl⟩
instance iiaa393 : IaaOk Q 393 2 2 := ⟨fun b o s k j => by kernel_rfl⟩
instance ilda392 : LdAOk Q 392 2 := ⟨fun b o s G => by kernel_rfl⟩
instance ibd274_0_1 : BdOk Q 274 z274 [(0, 0, 1), (1, 1, 1)] := bd_ok Q (by kernel_rfl) (by kernel_rfl) (by kernel_rfl)
instance ilda274 : LdAOk Q 274 2 := ⟨fun b o s G => by kernel_rfl⟩
instance ifa246_2 : FaOk Q 246 2 2 := ⟨fun b o s => by kernel_rfl⟩
instance ifa283_0 : FaOk Q 283 0 0 := ⟨fun b o s => by kernel_rfl⟩
instance iep37 : EpOk Q 37 := ⟨fun neg x y => by cases neg <;> kernel_rfl, fun neg x y a => by cases neg <;> kernel_rfl, fun neg x y a => by cases neg <;> kernel_rfl⟩
instance ifa283_7 : FaOk Q 283 7 22 := ⟨fun b o s => by kernel_rfl⟩
instance ifa283_3 : FaOk Q 283 3 15 := ⟨fun b o s => by kernel_rfl⟩
instance ifa280_1 : FaOk Q 280 1 1 := ⟨fun b o s => by kernel_rfl⟩
instance ifa280_0 : FaOk Q 280 0 0 := ⟨fun b o s => by kernel_rfl⟩
instance ifa280_3 : FaOk Q 280 3 3 := ⟨fun b o s => by kernel_rfl⟩
instance ifa280_2 : FaOk Q 280 2 2 := ⟨fun b o s => by kernel_rfl⟩
instance ifa283_6 : FaOk Q 283 6 21 := ⟨fun b o s => by kernel_rfl⟩
instance ifa283_4 : FaOk Q 283 4 19 := ⟨fun b o s => by kernel_rfl⟩
instance ifa283_1 : FaOk Q 283 1 13 := ⟨fun b o s => by kernel_rfl⟩
noncomputable abbrev z402 : List Value := [.nilFunc, (.bool false), (.int .i64 0)]
instance ibd402_1 : BdOk Q 402 z402 [(1, 1, 1)] := bd_ok Q (by kernel_rfl) (by kernel_rfl) (by kernel_rfl)
noncomputable abbrev z404 : List Value := [.nilFunc, (.bool false), (.int .i64 0), (.int .i64 0), (.int .i64 0), (.int .i64 0), (.int .i64 0), (.int .i64 0), (.int .i64 0), (.int .i64 0), (.int .i64 0), (.int .i64 0), (.int .i64 0), (.int .i64 0), (.pointer none)]
instance ibd404_0_1_2 : BdOk Q 404 z404 [(0, 0, 3), (1, 3, 10), (2, 13, 1)] := bd_ok Q (by kernel_rfl) (by kernel_rfl) (by kernel_rfl)
instance ifa404_0 : FaOk Q 404 0 0 := ⟨fun b o s => by kernel_rfl⟩
instance ifa402_2 : FaOk Q 402 2 2 := ⟨fun b o s => by kernel_rfl⟩
instance ifa402_0 : FaOk Q 402 0 0 := ⟨fun b o s => by kernel_rfl⟩
instance ist400 : StOk Q 400 1 := ⟨fun b o s v G => by kernel_rfl⟩
instance iep38 : EpOk Q 38 := ⟨fun neg x y => by cases neg <;> kernel_rfl, fun neg x y a => by cases neg <;> kernel_rfl, fun neg x y a => by cases neg <;> kernel_rfl⟩
noncomputable abbrev z78 : List Value := [(.slice none 0 0)]
instance ial78 : AlOk Q 78 z78 := ⟨fun G => by kernel_rfl⟩
instance ild78 : LdOk Q 78 := ⟨fun b o s G => (show _ = loadOne b o G by kernel_rfl).trans (loadOne_eq b o G)⟩
instance iap78_78 : ApOk Q 78 78 1 8 := ⟨fun s x G => by kernel_rfl⟩
instance ist78 : StOk Q 78 1 := ⟨fun b o s v G => by kernel_rfl⟩
instance ifa29_1 : FaOk Q 29 1 6 := ⟨fun b o s => by kernel_rfl⟩
instance ilda27 : LdAOk Q 27 3 := ⟨fun b o s G => by kernel_rfl⟩
instance ifd23_0 : FdOk Q 23 0 0 := ⟨fun l => by kernel_rfl⟩
instance iep243 : EpOk Q 243 := ⟨fun neg x y => by cases neg <;> kernel_rfl, fun neg x y a => by cases neg <;> kernel_rfl, fun neg x y a => by cases neg <;> kernel_rfl⟩
instance ifa23_1 : FaOk Q 23 1 1 := ⟨fun b o s => by kernel_rfl⟩
noncomputable abbrev z486 : List Value := [(.int .i64 0), (.int .i64 0), (.int .i64 0), (.int .u64 0), (.int .i64 0), (.int .i64 0), (.bool false), (.bool false), (.int .i64 0)]
instance ibd486_0_2_4 : BdOk Q 486 z486 [(0, 0, 3), (2, 4, 1), (4, 6, 1)] := bd_ok Q (by kernel_rfl) (by kernel_rfl) (by kernel_rfl)
noncomputable abbrev z498 : List Value := [(.int .i64 0), (.int .i64 0), (.int .i64 0), (.int .u64 0), (.int .i64 0), (.int .i64 0), (.bool false), (.bool false), (.int .i64 0), .nilFunc]
instance ibd498_0_1 : BdOk Q 498 z498 [(0, 0, 9), (1, 9, 1)] := bd_ok Q (by kernel_rfl) (by kernel_rfl) (by kernel_rfl)
instance ifa498_0 : FaOk Q 498 0 0 := ⟨fun b o s => by kernel_rfl⟩
noncomputable abbrev z392 : List Value := [(.int .i64 0), (.int .i64 0)]
instance ibd392_0_1 : BdOk Q 392 z392 [(0, 0, 1), (1, 1, 1)] := bd_ok Q (by kernel_rfl) (by kernel_rfl) (by kernel_rfl)
instance ibd393_0_1 : BdOk Q 393 z393 [(0, 0, 2), (1, 2, 2)] := bd_ok Q (by kernel_rfl) (by kernel_rfl) (by kernel_rfl)
instance ilda393 : LdAOk Q 393 4 := ⟨fun b o s G => by kernel_rfl⟩
instance ifa392_0 : FaOk Q 392 0 0 := ⟨fun b o s => by kernel_rfl⟩
instance ifa392_1 : FaOk Q 392 1 1 := ⟨fun b o s => by kernel_rfl⟩
instance ifa187_1 : FaOk Q 187 1 1 := ⟨fun b o s => by kernel_rfl⟩
instance ifa187_2 : FaOk Q 187 2 2 := ⟨fun b o s => by kernel_rfl⟩
instance ild185 : LdOk Q 185 := ⟨fun b o s G => (show _ = loadOne b o G by kernel_rfl).trans (loadOne_eq b o G)⟩
instance iifc185 : IfcOk Q 185 := ⟨fun v => by kernel_rfl⟩
instance ifa187_0 : FaOk Q 187 0 0 := ⟨fun b o s => by kernel_rfl⟩
instance ifa192_1 : FaOk Q 192 1 1 := ⟨fun b o s => by kernel_rfl⟩
instance ifa192_2 : FaOk Q 192 2 2 := ⟨fun b o s => by kernel_rfl⟩
instance ild190 : LdOk Q 190 := ⟨fun b o s G => (show _ = loadOne b o G by kernel_rfl).trans (loadOne_eq b o G)⟩
instance iifc190 : IfcOk Q 190 := ⟨fun v => by kernel_rfl⟩
instance ifa192_0 : FaOk Q 192 0 0 := ⟨fun b o s => by kernel_rfl⟩
instance ild281 : LdOk Q 281 := ⟨fun b o s G => (show _ = loadOne b o G by kernel_rfl).trans (loadOne_eq b o G)⟩
instance ial280 : AlOk Q 280 z280 := ⟨fun G => by kernel_rfl⟩
instance ist280 : StOk Q 280 4 := ⟨fun b o s v G => by kernel_rfl⟩
instance ilda280 : LdAOk Q 280 4 := ⟨fun b o s G => by kernel_rfl⟩
instance iias281 : IasOk Q 281 4 := ⟨fun b o s n c k j => by kernel_rfl⟩
instance ifa404_1 : FaOk Q 404 1 3 := ⟨fun b o s => by kernel_rfl⟩
instance ifa27_0 : FaOk Q 27 0 0 := ⟨fun b o s => by kernel_rfl⟩
instance icv41_478 : CvOk Q 41 478 .u64 .i64 := ⟨fun n => by kernel_rfl⟩
instance ifa404_2 : FaOk Q 404 2 13 := ⟨fun b o s => by kernel_rfl⟩
instance ifa404_3 : FaOk Q 404 3 14 := ⟨fun b o s => by kernel_rfl⟩
instance ist381 : StOk Q 381 1 := ⟨fun b o s v G => by kernel_rfl⟩
instance ild400 : LdOk Q 400 := ⟨fun b o s G => (show _ = loadOne b o G by kernel_rfl).trans (loadOne_eq b o G)⟩
instance ief400 : EfOk Q 400 := ⟨fun neg x y => by cases neg <;> kernel_rfl, fun neg x y f a b => by cases neg <;> kernel_rfl⟩
noncomputable abbrev z180 : List Value := [.nilFunc]
instance ial180 : AlOk Q 180 z180 := ⟨fun G => by kernel_rfl⟩
instance ist180 : StOk Q 180 1 := ⟨fun b o s v G => by kernel_rfl⟩
instance ifa27_2 : FaOk Q 27 2 2 := ⟨fun b o s => by kernel_rfl⟩
instance ild32 : LdOk Q 32 := ⟨fun b o s G => (show _ = loadOne b o G by kernel_rfl).trans (loadOne_eq b o G)⟩
instance ibd274_0 : BdOk Q 274 z274 [(0, 0, 1)] := bd_ok Q (by kernel_rfl) (by kernel_rfl) (by kernel_rfl)
instance ifa486_3 : FaOk Q 486 3 5 := ⟨fun b o s => by kernel_rfl⟩
instance ifa498_1 : FaOk Q 498 1 9 := ⟨fun b o s => by kernel_rfl⟩
instance ist496 : StOk Q 496 1 := ⟨fun b o s v G => by kernel_rfl⟩
instance ifa486_5 : FaOk Q 486 5 7 := ⟨fun b o s => by kernel_rfl⟩
instance ifa486_6 : FaOk Q 486 6 8 := ⟨fun b o s => by kernel_rfl⟩
instance ild381 : LdOk Q 381 := ⟨fun b o s G => (show _ = loadOne b o G by kernel_rfl).trans (loadOne_eq b o G)⟩
instance ild407 : LdOk Q 407 := ⟨fun b o s G => (show _ = loadOne b o G by kernel_rfl).trans (loadOne_eq b o G)⟩
instance iln407 : LnOk Q 407 := ⟨fun a n c => by kernel_rfl⟩
instance iias407 : IasOk Q 407 1 := ⟨fun b o s n c k j => by kernel_rfl⟩
instance ild111 : LdOk Q 111 := ⟨fun b o s G => (show _ = loadOne b o G by kernel_rfl).trans (loadOne_eq b o G)⟩
instance ild180 : LdOk Q 180 := ⟨fun b o s G => (show _ = loadOne b o G by kernel_rfl).trans (loadOne_eq b o G)⟩
instance iln538 : LnOk Q 538 := ⟨fun a n c => by kernel_rfl⟩
instance iias538 : IasOk Q 538 3 := ⟨fun b o s n c k j => by kernel_rfl⟩
instance ilda505 : LdAOk Q 505 3 := ⟨fun b o s G => by kernel_rfl⟩
noncomputable abbrev z505 : List Value := [(.int .i64 0), (.int .i64 0), (.int .i64 0)]
instance ial505 : AlOk Q 505 z505 := ⟨fun G => by kernel_rfl⟩
instance ist505 : StOk Q 505 3 := ⟨fun b o s v G => by kernel_rfl⟩
instance ifa505_0 : FaOk Q 505 0 0 := ⟨fun b o s => by kernel_rfl⟩
instance ifa505_1 : FaOk Q 505 1 1 := ⟨fun b o s => by kernel_rfl⟩
instance ifa505_2 : FaOk Q 505 2 2 := ⟨fun b o s => by kernel_rfl⟩
instance iln507 : LnOk Q 507 := ⟨fun a n c => by kernel_rfl⟩
instance iias507 : IasOk Q 507 2 := ⟨fun b o s n c k j => by kernel_rfl⟩
instance ial392 : AlOk Q 392 z392 := ⟨fun G => by kernel_rfl⟩
instance ist392 : StOk Q 392 2 := ⟨fun b o s v G => by kernel_rfl⟩
instance ifa27_1 : FaOk Q 27 1 1 := ⟨fun b o s => by kernel_rfl⟩
instance ibd505_0_1_2 : BdOk Q 505 z505 [(0, 0, 1), (1, 1, 1), (2, 2, 1)] := bd_ok Q (by kernel_rfl) (by kernel_rfl) (by kernel_rfl)
instance ifa274_1 : FaOk Q 274 1 1 := ⟨fun b o s => by kernel_rfl⟩
instance ibs538_2_0_1 : BsOk Q 538 2 (rep z505 2) 3 [(0, 0, 3), (1, 3, 3)] := bs_ok Q (z0 := z505) (by kernel_rfl) rfl (by decide) (by kernel_rfl)
instance isla393 : SlAOk Q 393 2 2 := ⟨fun a lo hi mx G => by kernel_rfl⟩
instance ifa486_0 : FaOk Q 486 0 0 := ⟨fun b o s => by kernel_rfl⟩
instance ifa486_1 : FaOk Q 486 1 3 := ⟨fun b o s => by kernel_rfl⟩
instance iep536 : EpOk Q 536 := ⟨fun neg x y => by cases neg <;> kernel_rfl, fun neg x y a => by cases neg <;> kernel_rfl, fun neg x y a => by cases neg <;> kernel_rfl⟩
instance ifa486_4 : FaOk Q 486 4 6 := ⟨fun b o s => by kernel_rfl⟩
instance ifa486_2 : FaOk Q 486 2 4 := ⟨fun b o s => by kernel_rfl⟩
instance ibd280_1 : BdOk Q 280 z280 [(1, 1, 1)] := bd_ok Q (by kernel_rfl) (by kernel_rfl) (by kernel_rfl)
instance iep381 : EpOk Q 381 := ⟨fun neg x y => by cases neg <;> kernel_rfl, fun neg x y a => by cases neg <;> kernel_rfl, fun neg x y a => by cases neg <;> kernel_rfl⟩
instance ild496 : LdOk Q 496 := ⟨fun b o s G => (show _ = loadOne b o G by kernel_rfl).trans (loadOne_eq b o G)⟩
noncomputable def b3_0 (q : Bool) (e : Ex) (lp : Env → GS → Option (Exit × Env × GS)) (τ : Env) (G : GS) : Option (Exit × Env × GS) :=
  bV q (τ 3) fun a3_ =>
  bV q (τ 5) fun a5_ =>
  bV q (τ 6) fun a6_ =>
  bV q (τ 7) fun a7_ =>
  bP (bn Q q .lss 3 (.tmp 36) (.const (.int .i64 2)) a7_ (.int .i64 2)) fun x0 =>
  ifV x0 (
  bP (ias Q q 49 1 a5_ a7_) fun x1 =>
  bP (ld Q q 36 x1 G) fun x2 =>
  bS (e.ev.cl 10 [x2] G) fun x3 G4 =>
  bP (pExtract x3 0) fun x5 =>
  bP (pExtract x3 1) fun x6 =>
  bS (al Q q 44 z44 G4) fun x7 G8 =>
  bP (st Q q 44 2 x7 x5 G8) fun G9 =>
  bP (ias Q q 56 1 a6_ a7_) fun x10 =>
  bP (ld Q q 50 x10 G9) fun x11 =>
  bS (e.ev.cl 11 [x11] G9) fun x12 G13 =>
  bP (pExtract x12 0) fun x14 =>
  bP (pExtract x12 1) fun x15 =>
  bS (al Q q 44 z44 G13) fun x16 G17 =>
  bP (st Q q 44 2 x16 x14 G17) fun G18 =>
  bP (ias Q q 49 1 a5_ a7_) fun x19 =>
  bP (ld Q q 36 x19 G18) fun x20 =>
  bS (e.ev.cl 12 [x20, a3_] G18) fun x21 G22 =>
  bP (un Q q .not x21) fun x23 =>
  bS (gd x23 false (some (a6_, G22)) G22) fun x24 G25 =>
  bS (gd x23 false (some (a7_, G25)) G25) fun x26 G27 =>
  bS (gd x23 false (bP (ias Q q 56 1 x24 x26) fun y => some (y, G27)) G27) fun x28 G29 =>
  bS (gd x23 false (bP (ld Q q 50 x28 G29) fun y => some (y, G29)) G29) fun x30 G31 =>
  bS (gd x23 false (some (a3_, G31)) G31) fun x32 G33 =>
  bS (gd x23 false (bS (e.ev.cl 13 [x30, x32] G33) fun y G => some (y, G)) G33) fun x34 G35 =>
  bS (gd x23 false (bP (un Q q .not x34) fun y => some (y, G35)) G35) fun x36 G37 =>
  bP (pickV x23 (.bool true) x36) fun x38 =>
  bS (gd x38 false (bP (lda Q q 44 2 x7 G37) fun y => some (y, G37)) G37) fun x39 G40 =>
  bS (gd x38 false (some (x6, G40)) G40) fun x41 G42 =>
  bS (gd x38 false (bS (e.ev.cl 14 [x39, x41, (.int .i64 1)] G42) fun y G => some (y, G)) G42) fun x43 G44 =>
  bS (gd x38 false (bP (un Q q .not x43) fun y => some (y, G44)) G44) fun x45 G46 =>
  bP (pickV x38 (.bool true) x45) fun x47 =>
  bS (gd x47 false (bP (lda Q q 44 2 x16 G46) fun y => some (y, G46)) G46) fun x48 G49 =>
  bS (gd x47 false (some (x15, G49)) G49) fun x50 G51 =>
  bS (gd x47 false (bS (e.ev.cl 14 [x48, x50, (.int .i64 1)] G51) fun y G => some (y, G)) G51) fun x52 G53 =>
  bS (gd x47 false (bP (un Q q .not x52) fun y => some (y, G53)) G53) fun x54 G55 =>
  bP (pickV x47 (.bool true) x54) fun x56 =>
  bS (gd x56 false (some (a5_, G55)) G55) fun x57 G58 =>
  bS (gd x56 false (some (a7_, G58)) G58) fun x59 G60 =>
  bS (gd x56 false (bP (ias Q q 49 1 x57 x59) fun y => some (y, G60)) G60) fun x61 G62 =>
  bS (gd x56 false (bP (ld Q q 36 x61 G62) fun y => some (y, G62)) G62) fun x63 G64 =>
  bS (gd x56 false (bS (e.ev.cl 15 [x63] G64) fun y G => some (y, G)) G64) fun x65 G66 =>
  bP (pickV x56 (.bool true) x65) fun x67 =>
  bS (gd x67 false (some (a5_, G66)) G66) fun x68 G69 =>
  bS (gd x67 false (some (a7_, G69)) G69) fun x70 G71 =>
  bS (gd x67 false (bP (ias Q q 49 1 x68 x70) fun y => some (y, G71)) G71) fun x72 G73 =>
  bS (gd x67 false (bP (ld Q q 36 x72 G73) fun y => some (y, G73)) G73) fun x74 G75 =>
  bS (gd x67 false (bS (e.ev.cl 16 [x74] G75) fun y G => some (y, G)) G75) fun x76 G77 =>
  bS (gd x67 false (bP (bn Q q .neq 41 (.tmp 96) (.const (.int .u64 0)) x76 (.int .u64 0)) fun y => some (y, G77)) G77) fun x78 G79 =>
  bP (pickV x67 (.bool true) x78) fun x80 =>
  bS (gd x80 false (some (a6_, G79)) G79) fun x81 G82 =>
  bS (gd x80 false (some (a7_, G82)) G82) fun x83 G84 =>
  bS (gd x80 false (bP (ias Q q 56 1 x81 x83) fun y => some (y, G84)) G84) fun x85 G86 =>
  bS (gd x80 false (bP (ld Q q 50 x85 G86) fun y => some (y, G86)) G86) fun x87 G88 =>
  bS (gd x80 false (bS (e.ev.cl 17 [x87] G88) fun y G => some (y, G)) G88) fun x89 G90 =>
  bS (gd x80 false (bP (bn Q q .neq 41 (.tmp 104) (.const (.int .u64 0)) x89 (.int .u64 0)) fun y => some (y, G90)) G90) fun x91 G92 =>
  bP (pickV x80 (.bool true) x91) fun x93 =>
  ifV x93 (
  some (.ret, xq q 157 τ [(2, (.bool false)), (106, x93), (105, x91), (104, x89), (103, x87), (102, x85), (101, x83), (100, x81), (99, x80), (98, x80), (97, x78), (96, x76), (95, x74), (94, x72), (93, x70), (92, x68), (91, x67), (90, x67), (89, x65), (88, x63), (87, x61), (86, x59), (85, x57), (84, x56), (83, x56), (82, x54), (81, x52), (80, x50), (79, x48), (78, x47), (77, x47), (76, x45), (75, x43), (74, x41), (73, x39), (72, x38), (71, x38), (70, x36), (69, x34), (68, x32), (67, x30), (66, x28), (65, x26), (64, x24), (63, x23), (62, x23), (61, x21), (60, a3_), (59, x20), (58, x19), (57, a7_), (56, a5_), (11, x15), (10, x16), (55, x15), (54, x14), (48, x12), (53, x12), (52, x11), (51, x10), (50, a7_), (49, a6_), (9, x6), (8, x7), (47, x6), (46, x5), (40, x3), (45, x3), (44, x2), (43, x1), (42, a7_), (41, a5_), (37, x0), (36, a7_)] [(3, a3_), (5, a5_), (6, a6_), (7, a7_)], G92)) (
  bP (bn Q q .add 3 (.tmp 38) (.const (.int .i64 1)) a7_ (.int .i64 1)) fun x94 =>
  lp (xq q 157 τ [(7, x94), (39, x94), (38, a7_), (106, x93), (105, x91), (104, x89), (103, x87), (102, x85), (101, x83), (100, x81), (99, x80), (98, x80), (97, x78), (96, x76), (95, x74), (94, x72), (93, x70), (92, x68), (91, x67), (90, x67), (89, x65), (88, x63), (87, x61), (86, x59), (85, x57), (84, x56), (83, x56), (82, x54), (81, x52), (80, x50), (79, x48), (78, x47), (77, x47), (76, x45), (75, x43), (74, x41), (73, x39), (72, x38), (71, x38), (70, x36), (69, x34), (68, x32), (67, x30), (66, x28), (65, x26), (64, x24), (63, x23), (62, x23), (61, x21), (60, a3_), (59, x20), (58, x19), (57, a7_), (56, a5_), (11, x15), (10, x16), (55, x15), (54, x14), (48, x12), (53, x12), (52, x11), (51, x10), (50, a7_), (49, a6_), (9, x6), (8, x7), (47, x6), (46, x5), (40, x3), (45, x3), (44, x2), (43, x1), (42, a7_), (41, a5_), (37, x0), (36, a7_)] [(3, a3_), (5, a5_), (6, a6_)]) G92)) (
  some ((.exit 0), xq q 157 τ [(37, x0), (36, a7_)] [(3, a3_), (5, a5_), (6, a6_), (7, a7_)], G))
theorem mb3_0 {e : Ex} {E : Ev} (h : ExLe Q e E) {lp lp' : Env → GS → Option (Exit × Env × GS)} (hlp : LpLe lp lp') (τ : Env) (G : GS) : Ref (b3_0 true e lp τ G) (b3_0 false (Ex.of E) lp' τ G) := by
  unfold b3_0
  exact Ref.gq
set_option maxHeartbeats 8000000 in
theorem l3_0 {orc : FuncId → Bool} {e : Ex} (h : ExLe Q e (E orc)) (lp : Env → GS → Option (Exit × Env × GS)) (hlp : ∀ τ G, Ref (lp τ G) (mapE ((E orc).lp (subAt [1, 1, 1, 1, 0, 1, 0, 0] (bodyOf Tryz.f3)) (lst 157 τ) G))) (T : List Value) (G : GS) (hT : T.length = 157) : Ref (b3_0 true e lp (nth undef T) G) (mapE ((E orc).lp (subAt [1, 1, 1, 1, 0, 1, 0, 0] (bodyOf Tryz.f3)) T G)) :=
  fun r hr => lp_sxN Q orc G hT (by kernel_rfl) (mb3_0 h ⟨hlp⟩ _ _ r hr)
noncomputable def jb3_0 (q : Bool) (e : Ex) (τ : Env) (G : GS) : Option (Value × GS) :=
  bV q (τ 1) fun a1_ =>
  bV q (τ 3) fun a3_ =>
  bV q (τ 12) fun a12_ =>
  bV q (τ 13) fun a13_ =>
  bP (lda Q q 31 13 a1_ (G.room 6)) fun x25 =>
  bS (e.ev.cl 19 [x25] (G.room 6)) fun x27 G26 =>
  bP (lda Q q 31 13 a1_ G26) fun x28 =>
  chk ((sameO (lda Q q 31 13 a1_ (G.room 6)) x28 && true)) <|
  bS (e.ev.cl 20 [x28] G26) fun x30 G29 =>
  bS (e.ev.cl 12 [x27, a13_] G29) fun x31 G32 =>
  bP (un Q q .not x31) fun x33 =>
  bS (gd x33 false (some (x30, G32)) G32) fun x34 G35 =>
  bS (gd x33 false (some (a13_, G35)) G35) fun x36 G37 =>
  bS (gd x33 false (bS (e.ev.cl 13 [x34, x36] G37) fun y G => some (y, G)) G37) fun x38 G39 =>
  bS (gd x33 false (bP (un Q q .not x38) fun y => some (y, G39)) G39) fun x40 G41 =>
  bP (pickV x33 (.bool true) x40) fun x42 =>
  ifV x42 (
  some ((.bool false), G41)) (
  bS (e.ev.cl 10 [x27] G41) fun x43 G44 =>
  bP (pExtract x43 0) fun x45 =>
  bP (pExtract x43 1) fun x46 =>
  bS (al Q q 44 z44 G44) fun x47 G48 =>
  bP (st Q q 44 2 x47 x45 G48) fun G49 =>
  bS (e.ev.cl 11 [x30] G49) fun x50 G51 =>
  bP (pExtract x50 0) fun x52 =>
  bP (pExtract x50 1) fun x53 =>
  bS (al Q q 44 z44 G51) fun x54 G55 =>
  bP (st Q q 44 2 x54 x52 G55) fun G56 =>
  bP (lda Q q 44 2 x47 G56) fun x57 =>
  bS (e.ev.cl 14 [x57, x46, a12_] G56) fun x58 G59 =>
  bS (gd x58 true (bP (lda Q q 44 2 x54 G59) fun y => some (y, G59)) G59) fun x60 G61 =>
  bS (gd x58 true (some (x53, G61)) G61) fun x62 G63 =>
  bS (gd x58 true (some (a12_, G63)) G63) fun x64 G65 =>
  bS (gd x58 true (bS (e.ev.cl 14 [x60, x62, x64] G65) fun y G => some (y, G)) G65) fun x66 G67 =>
  bP (pickV x58 x66 (.bool false)) fun x68 =>
  bS (gd x68 true (some (x27, G67)) G67) fun x69 G70 =>
  bS (gd x68 true (bS (e.ev.cl 15 [x69] G70) fun y G => some (y, G)) G70) fun x71 G72 =>
  bS (gd x68 true (bP (un Q q .not x71) fun y => some (y, G72)) G72) fun x73 G74 =>
  bP (pickV x68 x73 (.bool false)) fun x75 =>
  bS (gd x75 true (some (a3_, G74)) G74) fun x76 G77 =>
  bS (gd x75 true (bS (e.ev.cl 21 [x76] G77) fun y G => some (y, G)) G77) fun x78 G79 =>
  bS (gd x75 true (bP (bn Q q .eql 3 (.tmp 151) (.const (.int .i64 0)) x78 (.int .i64 0)) fun y => some (y, G79)) G79) fun x80 G81 =>
  bP (pickV x75 x80 (.bool false)) fun x82 =>
  bS (gd x82 true (bS (e.ev.cl 22 [] G81) fun y G => some (y, G)) G81) fun x83 G84 =>
  bP (pickV x82 x83 (.bool false)) fun x85 =>
  some (x85, G84))
noncomputable def j3_0 (q : Bool) (e : Ex) (τ : Env) (G : GS) : Option (Value × GS) := jb3_0 q e τ G
theorem mj3_0 {e : Ex} {E : Ev} (h : ExLe Q e E) (τ : Env) (G : GS) : Ref (j3_0 true e τ G) (j3_0 false (Ex.of E) τ G) := by
  unfold j3_0 jb3_0
  exact Ref.gq
theorem mkj3_0 {e : Ex} {E : Ev} (h : ExLe Q e E) {τ : Env} {l U : List (Nat × Value)} {G : GS} (hU : UOk τ U) : Ref (j3_0 true e (xq true 157 τ l U) G) (j3_0 false (Ex.of E) (xq false 157 τ l U) G) := by
  rw [xq_eq hU]
  exact mj3_0 h _ _
noncomputable def sb3 (q : Bool) (e : Ex) (J0 : Env → GS → Option (Value × GS)) (v0 : Value) (G : GS) : Option (Value × GS) :=
  bS (bx q v0 G) fun x0 G1 =>
  bS (e.ev.cl 9 [(.int .i64 34)] G1) fun x2 G3 =>
  bP (pExtract x2 0) fun x4 =>
  bP (pExtract x2 1) fun x5 =>
  bP (bn Q q .neq 33 (.tmp 24) (.const (.int .i64 0)) x5 (.int .i64 0)) fun x6 =>
  bS (gd x6 false (some (x4, G3)) G3) fun x7 G8 =>
  bS (gd x6 false (bP (ep Q q false 32 (.tmp 27) (.const (.pointer none)) x7 (.pointer none)) fun y => some (y, G8)) G8) fun x9 G10 =>
  bP (pickV x6 (.bool true) x9) fun x11 =>
  ifV x11 (
  some ((.bool false), G10)) (
  bP (bd Q q 48 z48 [] []) fun x12 =>
  bS (bx q x12 G10) fun x13 G14 =>
  bS (bs Q q 49 2 (rep z36 2) 1 [(0, 0, 1), (1, 1, 1)] [(.pointer none), x13] G14) fun x15 G16 =>
  bP (bd Q q 55 z55 [] []) fun x17 =>
  bS (bx q x17 G16) fun x18 G19 =>
  bS (bs Q q 56 2 (rep z50 2) 1 [(0, 0, 1), (1, 1, 1)] [(.pointer none), x18] G19) fun x20 G21 =>
  bLq q e 3 0 (subAt [1, 1, 1, 1, 0, 1, 0, 0] (bodyOf Tryz.f3)) 157 (nth undef [v0]) [(7, (.int .i64 0)), (6, x20), (5, x15), (35, x20), (34, x18), (33, x17), (32, x15), (31, x13), (30, x12), (29, x11), (28, x9), (27, x7), (26, x6), (25, x6), (24, x5), (4, x5), (3, x4), (23, x5), (22, x4), (20, x2), (21, x2), (2, (.bool false)), (1, x0)] [] G21 fun e22 t23 G24 =>
  bV q (t23 1) fun t23x1_ =>
  bV q (t23 2) fun t23x2_ =>
  bV q (t23 3) fun t23x3_ =>
  ifE e22 (.exit 0) (
  bP (lda Q q 31 13 t23x1_ G24) fun x86 =>
  bS (e.ev.cl 18 [x86] G24) fun x87 G88 =>
  ifV x87 (
  J0 (xq q 157 t23 [(12, (.int .i64 15)), (108, x87), (107, x86), (13, (.pointer none)), (12, (.int .i64 2))] []) G88) (
  J0 (xq q 157 t23 [(13, t23x3_), (109, t23x3_), (108, x87), (107, x86), (13, (.pointer none)), (12, (.int .i64 2))] []) G88)) (ifE e22 .ret (
  some (t23x2_, G24)) (none)))
/-- coxswain/coxswainlaw18.ClaimNone -/
noncomputable def s3 (q : Bool) (e : Ex) (v0 : Value) (G : GS) : Option (Value × GS) := sb3 q e (j3_0 q e) v0 G
theorem m3 {e : Ex} {E : Ev} (h : ExLe Q e E) (v0 : Value) (G : GS) : Ref (s3 true e v0 G) (s3 false (Ex.of E) v0 G) := by
  unfold s3 sb3
  repeat' (with_reducible first | exact Ref.rfl' _ | exact ROp.r | refine Ref.bP ?_ fun _ => ?_ | refine Ref.bS ?_ fun _ _ => ?_ | exact Ref.cl (by assumption) | refine Ref.ifV ?_ ?_ | refine LpLe.rx (by assumption) ?_ | refine Ref.xitq ?_ | exact UOk.z | refine UOk.c (by assumption) ?_ | exact Ref.nil _ | refine Ref.bVe fun _ _ => ?_ | refine Ref.bLq (by assumption) ?_ fun _ _ _ => ?_ | refine Ref.ifE ?_ ?_ | refine Ref.chk ?_ ?_ | refine Imp.and ?_ ?_ | refine Imp.or ?_ | exact Imp.rfl' _ | refine Imp.sameO ?_ | refine Ref.gd ?_ | exact Ref.cValue (by assumption) | refine Ref.bX ?_ fun _ _ _ => ?_ | exact Ref.scQ (by assumption) | exact Ref.xRangeQ (by assumption) | exact Ref.cInvoke (by assumption) | refine mkj3_0 (by assumption) ?_)
noncomputable def jt3 (J0 : Env → GS → Option (Value × GS)) : JT (Value × GS) :=
  (.n none .e (.n none .e (.n none .e (.n none .e (.n none .e (.n none .e (.n none .e (.n (some (fun T G => J0 (nth undef T) G)) .e .e))))))))
set_option maxHeartbeats 8000000 in
theorem jr3_0 (orc : FuncId → Bool) (J0 : Env → GS → Option (Value × GS)) (T : List Value) (G : GS) : runC Q (evL Q orc) Tryz.f3.ntmps (jt3 J0) (bodyOf Tryz.f3) (retE Q Tryz.f3.results.toList) [true, true, true, true, true, true, true] (nth undef T) G = jb3_0 false (Ex.of (E orc))  (nth undef T) G := by kernel_rfl
set_option maxHeartbeats 8000000 in
theorem jo3 (orc : FuncId → Bool) : JOk Q orc Tryz.f3.ntmps (jt3 (j3_0 false (Ex.of (E orc))) ) (bodyOf Tryz.f3) (retE Q Tryz.f3.results.toList) :=
  jOk Q orc (l := [([true, true, true, true, true, true, true], (fun T G => j3_0 false (Ex.of (E orc)) (nth undef T) G))]) (by kernel_rfl) (AllE.c (fun T G => jr3_0 orc (j3_0 false (Ex.of (E orc))) T G) (AllE.z))
set_option maxHeartbeats 8000000 in
theorem je3 (orc : FuncId → Bool) (J0 : Env → GS → Option (Value × GS)) (v0 : Value) (G : GS) : sxC Q (evL Q orc) Tryz.f3.ntmps (jt3 J0) (bodyOf Tryz.f3) (nth undef [v0]) G (retE Q Tryz.f3.results.toList) = sb3 false (Ex.of (E orc)) J0 v0 G := by kernel_rfl
set_option maxHeartbeats 8000000 in
theorem f3 {orc : FuncId → Bool} {e : Ex} (h : ExLe Q e (E orc)) (v0 : Value) (G : GS) : Ref (s3 true e v0 G) ((E orc).cl 3 [v0] G) :=
  fun r hr => cl_sxC Q orc (vs := [v0]) G (jt3 (j3_0 false (Ex.of (E orc))) ) Tryz.func3 (by kernel_rfl) (by kernel_rfl) (by kernel_rfl) (by kernel_rfl) (by kernel_rfl) (jo3 orc) (je3 orc (j3_0 false (Ex.of (E orc))) v0 G) (m3 h v0 G r hr)
/-- coxswain/cells.New -/
noncomputable def s9 (q : Bool) (e : Ex) (v0 : Value) (G : GS) : Option (Value × GS) :=
  bP (bn Q q .lss 3 (.tmp 4) (.const (.int .i64 1)) v0 (.int .i64 1)) fun x0 =>
  bS (gd x0 false (some (v0, G)) G) fun x1 G2 =>
  bS (gd x0 false (bP (bn Q q .gtr 3 (.tmp 7) (.const (.int .i64 4096)) x1 (.int .i64 4096)) fun y => some (y, G2)) G2) fun x3 G4 =>
  bP (pickV x0 (.bool true) x3) fun x5 =>
  ifV x5 (
  some (.tuple #[(.pointer none), (.int .i64 3)], G4)) (
  bS (al Q q 156 z156 G4) fun x6 G7 =>
  bP (bd Q q 158 z158 [(0, 0, 1), (1, 1, 1)] [x6, v0]) fun x8 =>
  bS (bx q x8 G7) fun x9 G10 =>
  some (.tuple #[x9, (.int .i64 0)], G10))
theorem m9 {e : Ex} {E : Ev} (h : ExLe Q e E) (v0 : Value) (G : GS) : Ref (s9 true e v0 G) (s9 false (Ex.of E) v0 G) := by
  unfold s9
  exact Ref.gq
theorem f9 {orc : FuncId → Bool} {e : Ex} (h : ExLe Q e (E orc)) (v0 : Value) (G : GS) : Ref (s9 true e v0 G) ((E orc).cl 9 [v0] G) :=
  fun r hr => cl_sxE_some Q orc (vs := [v0]) G Tryz.func9 (by kernel_rfl) (by kernel_rfl) (by kernel_rfl) (by kernel_rfl) (by kernel_rfl) (by kernel_rfl) (m9 h v0 G r hr)
/-- (*coxswain/claim.Claim).Item -/
noncomputable def s10 (q : Bool) (e : Ex) (v0 : Value) (G : GS) : Option (Value × GS) :=
  bS (al Q q 44 z44 G) fun x0 G1 =>
  bP (ep Q q false 36 (.tmp 4) (.const (.pointer none)) v0 (.pointer none)) fun x2 =>
  ifV x2 (
  bP (bd Q q 44 z44 [] []) fun x3 =>
  bP (st Q q 44 2 x0 x3 G1) fun G4 =>
  bP (lda Q q 44 2 x0 G4) fun x5 =>
  some (.tuple #[x5, (.int .i64 1)], G4)) (
  bP (pNil v0) fun x6 =>
  bP (fa Q q 48 0 0 x6) fun x7 =>
  bS (e.ev.cl 61 [x7] G1) fun x8 G9 =>
  bP (pExtract x8 0) fun x10 =>
  bP (pExtract x8 1) fun x11 =>
  bP (st Q q 44 2 x0 x10 G9) fun G12 =>
  bP (lda Q q 44 2 x0 G12) fun x13 =>
  some (.tuple #[x13, x11], G12))
theorem m10 {e : Ex} {E : Ev} (h : ExLe Q e E) (v0 : Value) (G : GS) : Ref (s10 true e v0 G) (s10 false (Ex.of E) v0 G) := by
  unfold s10
  exact Ref.gq
theorem f10 {orc : FuncId → Bool} {e : Ex} (h : ExLe Q e (E orc)) (v0 : Value) (G : GS) : Ref (s10 true e v0 G) ((E orc).cl 10 [v0] G) :=
  fun r hr => cl_sxE_some Q orc (vs := [v0]) G Tryz.func10 (by kernel_rfl) (by kernel_rfl) (by kernel_rfl) (by kernel_rfl) (by kernel_rfl) (by kernel_rfl) (m10 h v0 G r hr)
/-- (*coxswain/claim.Peek).Item -/
noncomputable def s11 (q : Bool) (e : Ex) (v0 : Value) (G : GS) : Option (Value × GS) :=
  bS (al Q q 44 z44 G) fun x0 G1 =>
  bP (ep Q q false 50 (.tmp 4) (.const (.pointer none)) v0 (.pointer none)) fun x2 =>
  ifV x2 (
  bP (bd Q q 44 z44 [] []) fun x3 =>
  bP (st Q q 44 2 x0 x3 G1) fun G4 =>
  bP (lda Q q 44 2 x0 G4) fun x5 =>
  some (.tuple #[x5, (.int .i64 1)], G4)) (
  bP (pNil v0) fun x6 =>
  bP (fa Q q 55 0 0 x6) fun x7 =>
  bS (e.ev.cl 62 [x7] G1) fun x8 G9 =>
  bP (pExtract x8 0) fun x10 =>
  bP (pExtract x8 1) fun x11 =>
  bP (st Q q 44 2 x0 x10 G9) fun G12 =>
  bP (lda Q q 44 2 x0 G12) fun x13 =>
  some (.tuple #[x13, x11], G12))
theorem m11 {e : Ex} {E : Ev} (h : ExLe Q e E) (v0 : Value) (G : GS) : Ref (s11 true e v0 G) (s11 false (Ex.of E) v0 G) := by
  unfold s11
  exact Ref.gq
theorem f11 {orc : FuncId → Bool} {e : Ex} (h : ExLe Q e (E orc)) (v0 : Value) (G : GS) : Ref (s11 true e v0 G) ((E orc).cl 11 [v0] G) :=
  fun r hr => cl_sxE_some Q orc (vs := [v0]) G Tryz.func11 (by kernel_rfl) (by kernel_rfl) (by kernel_rfl) (by kernel_rfl) (by kernel_rfl) (by kernel_rfl) (m11 h v0 G r hr)
noncomputable def jbl12_0_0 (q : Bool) (e : Ex) (lp : Env → GS → Option (Exit × Env × GS)) (τ : Env) (G : GS) : Option (Exit × Env × GS) :=
  bV q (τ 0) fun a0_ =>
  bV q (τ 1) fun a1_ =>
  bV q (τ 17) fun a17_ =>
  bS (e.ev.cl 65 [a0_, a1_] G) fun x4 G5 =>
  some ((.exit 0), xq q 162 τ [(43, x4), (42, a1_), (41, a0_)] [(0, a0_), (1, a1_), (17, a17_)], G5)
noncomputable def jl12_0_0 (q : Bool) (e : Ex) (lp : Env → GS → Option (Exit × Env × GS)) (τ : Env) (G : GS) : Option (Exit × Env × GS) := jbl12_0_0 q e lp τ G
theorem mjl12_0_0 {e : Ex} {E : Ev} (h : ExLe Q e E) {lp lp' : Env → GS → Option (Exit × Env × GS)} (hlp : LpLe lp lp') (τ : Env) (G : GS) : Ref (jl12_0_0 true e lp τ G) (jl12_0_0 false (Ex.of E) lp' τ G) := by
  unfold jl12_0_0 jbl12_0_0
  exact Ref.gq
theorem mkjl12_0_0 {e : Ex} {E : Ev} (h : ExLe Q e E) {lp lp' : Env → GS → Option (Exit × Env × GS)} (hlp : LpLe lp lp') {τ : Env} {l U : List (Nat × Value)} {G : GS} (hU : UOk τ U) : Ref (jl12_0_0 true e lp (xq true 162 τ l U) G) (jl12_0_0 false (Ex.of E) lp' (xq false 162 τ l U) G) := by
  rw [xq_eq hU]
  exact mjl12_0_0 h hlp _ _
noncomputable def jbl12_0_1 (q : Bool) (e : Ex) (lp : Env → GS → Option (Exit × Env × GS)) (J0 : Env → GS → Option (Exit × Env × GS)) (τ : Env) (G : GS) : Option (Exit × Env × GS) :=
  bV q (τ 0) fun a0_ =>
  bV q (τ 1) fun a1_ =>
  bV q (τ 17) fun a17_ =>
  bP (pNil a0_) fun x6 =>
  bP (fa Q q 48 0 0 x6) fun x7 =>
  bS (e.ev.cl 64 [x7, a1_] G) fun x8 G9 =>
  some ((.exit 0), xq q 162 τ [(40, x8), (39, a1_), (38, x7), (37, x6), (36, a0_)] [(0, a0_), (1, a1_), (17, a17_)], G9)
noncomputable def jl12_0_1 (q : Bool) (e : Ex) (lp : Env → GS → Option (Exit × Env × GS)) (τ : Env) (G : GS) : Option (Exit × Env × GS) := jbl12_0_1 q e lp (jl12_0_0 q e lp) τ G
theorem mjl12_0_1 {e : Ex} {E : Ev} (h : ExLe Q e E) {lp lp' : Env → GS → Option (Exit × Env × GS)} (hlp : LpLe lp lp') (τ : Env) (G : GS) : Ref (jl12_0_1 true e lp τ G) (jl12_0_1 false (Ex.of E) lp' τ G) := by
  unfold jl12_0_1 jbl12_0_1
  repeat' (with_reducible first | exact Ref.rfl' _ | exact ROp.r | refine Ref.bP ?_ fun _ => ?_ | refine Ref.bS ?_ fun _ _ => ?_ | exact Ref.cl (by assumption) | refine Ref.ifV ?_ ?_ | refine LpLe.rx (by assumption) ?_ | refine Ref.xitq ?_ | exact UOk.z | refine UOk.c (by assumption) ?_ | exact Ref.nil _ | refine Ref.bVe fun _ _ => ?_ | refine Ref.bLq (by assumption) ?_ fun _ _ _ => ?_ | refine Ref.ifE ?_ ?_ | refine Ref.chk ?_ ?_ | refine Imp.and ?_ ?_ | refine Imp.or ?_ | exact Imp.rfl' _ | refine Imp.sameO ?_ | refine Ref.gd ?_ | exact Ref.cValue (by assumption) | refine Ref.bX ?_ fun _ _ _ => ?_ | exact Ref.scQ (by assumption) | exact Ref.xRangeQ (by assumption) | exact Ref.cInvoke (by assumption) | refine mkjl12_0_0 (by assumption) (by assumption) ?_)
theorem mkjl12_0_1 {e : Ex} {E : Ev} (h : ExLe Q e E) {lp lp' : Env → GS → Option (Exit × Env × GS)} (hlp : LpLe lp lp') {τ : Env} {l U : List (Nat × Value)} {G : GS} (hU : UOk τ U) : Ref (jl12_0_1 true e lp (xq true 162 τ l U) G) (jl12_0_1 false (Ex.of E) lp' (xq false 162 τ l U) G) := by
  rw [xq_eq hU]
  exact mjl12_0_1 h hlp _ _
noncomputable def jbl12_0_2 (q : Bool) (e : Ex) (lp : Env → GS → Option (Exit × Env × GS)) (J0 J1 : Env → GS → Option (Exit × Env × GS)) (τ : Env) (G : GS) : Option (Exit × Env × GS) :=
  bV q (τ 0) fun a0_ =>
  bV q (τ 1) fun a1_ =>
  bV q (τ 17) fun a17_ =>
  bP (bn Q q .eql 3 (.tmp 17) (.const (.int .i64 7)) a17_ (.int .i64 7)) fun x13 =>
  ifV x13 (
  bP (pNil a0_) fun x14 =>
  bP (fa Q q 48 0 0 x14) fun x15 =>
  bS (e.ev.cl 66 [x15, a1_, (.int .i64 4)] G) fun x16 G17 =>
  bP (pNil a0_) fun x18 =>
  bP (fa Q q 48 0 0 x18) fun x19 =>
  bP (fa Q q 46 5 20 x19) fun x20 =>
  bP (st Q q 42 1 x20 x16 G17) fun G21 =>
  bP (pNil a0_) fun x22 =>
  bP (fa Q q 48 0 0 x22) fun x23 =>
  bP (fa Q q 46 2 17 x23) fun x24 =>
  bP (st Q q 3 1 x24 (.int .i64 8) G21) fun G25 =>
  bP (pNil a0_) fun x26 =>
  bP (fa Q q 48 0 0 x26) fun x27 =>
  bP (fa Q q 46 5 20 x27) fun x28 =>
  bP (ld Q q 42 x28 G25) fun x29 =>
  bS (e.ev.cl 67 [x29] G25) fun x30 G31 =>
  ifV x30 (
  bP (pNil a0_) fun x32 =>
  bP (fa Q q 48 0 0 x32) fun x33 =>
  bP (fa Q q 46 2 17 x33) fun x34 =>
  bP (st Q q 3 1 x34 (.int .i64 3) G31) fun G35 =>
  some ((.exit 0), xq q 162 τ [(66, x34), (65, x33), (64, x32), (63, a0_), (62, x30), (61, x29), (60, x28), (59, x27), (58, x26), (57, a0_), (56, x24), (55, x23), (54, x22), (53, a0_), (52, x20), (51, x19), (50, x18), (49, x16), (48, a1_), (47, x15), (46, x14), (45, a0_), (44, a0_), (28, x13), (29, x13)] [(0, a0_), (1, a1_), (17, a17_)], G35)) (
  some ((.exit 0), xq q 162 τ [(62, x30), (61, x29), (60, x28), (59, x27), (58, x26), (57, a0_), (56, x24), (55, x23), (54, x22), (53, a0_), (52, x20), (51, x19), (50, x18), (49, x16), (48, a1_), (47, x15), (46, x14), (45, a0_), (44, a0_), (28, x13), (29, x13)] [(0, a0_), (1, a1_), (17, a17_)], G31))) (
  bP (bn Q q .eql 3 (.tmp 17) (.const (.int .i64 8)) a17_ (.int .i64 8)) fun x36 =>
  ifV x36 (
  bP (pNil a0_) fun x37 =>
  bP (fa Q q 48 0 0 x37) fun x38 =>
  bP (fa Q q 46 3 18 x38) fun x39 =>
  bP (ld Q q 41 x39 G) fun x40 =>
  bP (pNil a0_) fun x41 =>
  bP (fa Q q 48 0 0 x41) fun x42 =>
  bP (fa Q q 46 7 23 x42) fun x43 =>
  bP (st Q q 41 1 x43 x40 G) fun G44 =>
  bP (pNil a0_) fun x45 =>
  bP (fa Q q 48 0 0 x45) fun x46 =>
  bP (fa Q q 46 2 17 x46) fun x47 =>
  bP (st Q q 3 1 x47 (.int .i64 7) G44) fun G48 =>
  bP (pNil a0_) fun x49 =>
  bP (fa Q q 48 0 0 x49) fun x50 =>
  bP (fa Q q 46 0 0 x50) fun x51 =>
  bP (lda Q q 31 13 x51 (G48.room 24)) fun x52 =>
  bP (pNil a0_) fun x53 =>
  bP (fa Q q 48 0 0 x53) fun x54 =>
  bP (fa Q q 46 4 19 x54) fun x55 =>
  bP (ld Q q 3 x55 (G48.room 24)) fun x56 =>
  bS (e.ev.cl 69 [x52, x56, (.int .i64 0)] (G48.room 24)) fun x58 G57 =>
  bP (pNil a0_) fun x59 =>
  bP (fa Q q 48 0 0 x59) fun x60 =>
  bP (fa Q q 46 5 20 x60) fun x61 =>
  bP (ld Q q 42 x61 G57) fun x62 =>
  chk ((sameO (ld Q q 42 x61 (G48.room 24)) x62 && true)) <|
  bP (pNil a0_) fun x63 =>
  bP (fa Q q 48 0 0 x63) fun x64 =>
  bP (fa Q q 46 5 20 x64) fun x65 =>
  bP (ld Q q 42 x65 G57) fun x66 =>
  chk ((sameO (ld Q q 42 x65 (G48.room 24)) x66 && true)) <|
  bS (e.ev.cl 70 [x66, (.bool true)] G57) fun x68 G67 =>
  chk ((sameO (ld Q q 42 x61 G67) x62 && true)) <|
  bS (e.ev.cl 68 [a1_, x58, x62, x68] G67) fun x70 G69 =>
  ifV x70 (
  bP (pNil a0_) fun x71 =>
  bP (fa Q q 48 0 0 x71) fun x72 =>
  bP (fa Q q 46 1 13 x72) fun x73 =>
  bP (fa Q q 40 1 1 x73) fun x74 =>
  bP (st Q q 4 1 x74 (.bool true) G69) fun G75 =>
  bP (pNil a0_) fun x76 =>
  bP (fa Q q 48 0 0 x76) fun x77 =>
  bP (fa Q q 46 2 17 x77) fun x78 =>
  bP (st Q q 3 1 x78 (.int .i64 9) G75) fun G79 =>
  some ((.exit 0), xq q 162 τ [(112, x78), (111, x77), (110, x76), (109, x74), (108, x73), (107, x72), (106, x71), (105, a0_), (104, a0_), (103, x70), (102, x68), (101, x66), (100, x65), (99, x64), (98, x63), (97, a0_), (96, x62), (95, x61), (94, x60), (93, x59), (92, a0_), (91, x58), (90, x56), (89, x55), (88, x54), (87, x53), (86, a0_), (85, x52), (84, x51), (83, x50), (82, x49), (81, a0_), (80, a1_), (79, x47), (78, x46), (77, x45), (76, x43), (75, x42), (74, x41), (73, x40), (72, x39), (71, x38), (70, x37), (69, a0_), (68, a0_), (67, a0_), (30, x36), (31, x36), (28, x13), (29, x13)] [(0, a0_), (1, a1_), (17, a17_)], G79)) (
  some ((.exit 0), xq q 162 τ [(103, x70), (102, x68), (101, x66), (100, x65), (99, x64), (98, x63), (97, a0_), (96, x62), (95, x61), (94, x60), (93, x59), (92, a0_), (91, x58), (90, x56), (89, x55), (88, x54), (87, x53), (86, a0_), (85, x52), (84, x51), (83, x50), (82, x49), (81, a0_), (80, a1_), (79, x47), (78, x46), (77, x45), (76, x43), (75, x42), (74, x41), (73, x40), (72, x39), (71, x38), (70, x37), (69, a0_), (68, a0_), (67, a0_), (30, x36), (31, x36), (28, x13), (29, x13)] [(0, a0_), (1, a1_), (17, a17_)], G69))) (
  bP (bn Q q .eql 3 (.tmp 17) (.const (.int .i64 9)) a17_ (.int .i64 9)) fun x80 =>
  ifV x80 (
  bP (pNil a0_) fun x81 =>
  bP (fa Q q 48 0 0 x81) fun x82 =>
  bS (e.ev.cl 66 [x82, a1_, (.int .i64 0)] G) fun x83 G84 =>
  bP (pNil a0_) fun x85 =>
  bP (fa Q q 48 0 0 x85) fun x86 =>
  bP (fa Q q 46 6 21 x86) fun x87 =>
  bP (fa Q q 44 0 0 x87) fun x88 =>
  bP (st Q q 41 1 x88 x83 G84) fun G89 =>
  bP (pNil a0_) fun x90 =>
  bP (fa Q q 48 0 0 x90) fun x91 =>
  bP (fa Q q 46 2 17 x91) fun x92 =>
  bP (st Q q 3 1 x92 (.int .i64 91) G89) fun G93 =>
  some ((.exit 0), xq q 162 τ [(126, x92), (125, x91), (124, x90), (123, x88), (122, x87), (121, x86), (120, x85), (119, x83), (118, a1_), (117, x82), (116, x81), (115, a0_), (114, a0_), (113, a0_), (32, x80), (33, x80), (30, x36), (31, x36), (28, x13), (29, x13)] [(0, a0_), (1, a1_), (17, a17_)], G93)) (
  bP (bn Q q .eql 3 (.tmp 17) (.const (.int .i64 91)) a17_ (.int .i64 91)) fun x94 =>
  ifV x94 (
  bP (pNil a0_) fun x95 =>
  bP (fa Q q 48 0 0 x95) fun x96 =>
  bS (e.ev.cl 71 [x96, a1_] G) fun x97 G98 =>
  bP (pNil a0_) fun x99 =>
  bP (fa Q q 48 0 0 x99) fun x100 =>
  bP (fa Q q 46 0 0 x100) fun x101 =>
  bP (lda Q q 31 13 x101 (G98.room 23)) fun x102 =>
  bP (pNil a0_) fun x103 =>
  bP (fa Q q 48 0 0 x103) fun x104 =>
  bP (fa Q q 46 6 21 x104) fun x105 =>
  bP (fa Q q 44 0 0 x105) fun x106 =>
  bP (ld Q q 41 x106 (G98.room 23)) fun x107 =>
  bS (e.ev.cl 72 [x102, x107] (G98.room 23)) fun x109 G108 =>
  bP (pNil a0_) fun x110 =>
  bP (fa Q q 48 0 0 x110) fun x111 =>
  bP (fa Q q 46 1 13 x111) fun x112 =>
  bP (fa Q q 40 2 2 x112) fun x113 =>
  bP (st Q q 37 1 x113 x109 G108) fun G114 =>
  bP (pNil a0_) fun x115 =>
  bP (fa Q q 48 0 0 x115) fun x116 =>
  bP (fa Q q 46 2 17 x116) fun x117 =>
  bP (st Q q 3 1 x117 (.int .i64 10) G114) fun G118 =>
  some ((.exit 0), xq q 162 τ [(152, x117), (151, x116), (150, x115), (149, x113), (148, x112), (147, x111), (146, x110), (145, x109), (144, x107), (143, x106), (142, x105), (141, x104), (140, x103), (139, a0_), (138, x102), (137, x101), (136, x100), (135, x99), (134, a0_), (133, a0_), (132, a0_), (131, x97), (130, a1_), (129, x96), (128, x95), (127, a0_), (34, x94), (35, x94), (32, x80), (33, x80), (30, x36), (31, x36), (28, x13), (29, x13)] [(0, a0_), (1, a1_), (17, a17_)], G118)) (
  bS (e.ev.cl 73 [a0_, a1_] G) fun x119 G120 =>
  some ((.exit 0), xq q 162 τ [(155, x119), (154, a1_), (153, a0_), (34, x94), (35, x94), (32, x80), (33, x80), (30, x36), (31, x36), (28, x13), (29, x13)] [(0, a0_), (1, a1_), (17, a17_)], G120)))))
noncomputable def jl12_0_2 (q : Bool) (e : Ex) (lp : Env → GS → Option (Exit × Env × GS)) (τ : Env) (G : GS) : Option (Exit × Env × GS) := jbl12_0_2 q e lp (jl12_0_0 q e lp) (jl12_0_1 q e lp) τ G
theorem mjl12_0_2 {e : Ex} {E : Ev} (h : ExLe Q e E) {lp lp' : Env → GS → Option (Exit × Env × GS)} (hlp : LpLe lp lp') (τ : Env) (G : GS) : Ref (jl12_0_2 true e lp τ G) (jl12_0_2 false (Ex.of E) lp' τ G) := by
  unfold jl12_0_2 jbl12_0_2
  repeat' (with_reducible first | exact Ref.rfl' _ | exact ROp.r | refine Ref.bP ?_ fun _ => ?_ | refine Ref.bS ?_ fun _ _ => ?_ | exact Ref.cl (by assumption) | refine Ref.ifV ?_ ?_ | refine LpLe.rx (by assumption) ?_ | refine Ref.xitq ?_ | exact UOk.z | refine UOk.c (by assumption) ?_ | exact Ref.nil _ | refine Ref.bVe fun _ _ => ?_ | refine Ref.bLq (by assumption) ?_ fun _ _ _ => ?_ | refine Ref.ifE ?_ ?_ | refine Ref.chk ?_ ?_ | refine Imp.and ?_ ?_ | refine Imp.or ?_ | exact Imp.rfl' _ | refine Imp.sameO ?_ | refine Ref.gd ?_ | exact Ref.cValue (by assumption) | refine Ref.bX ?_ fun _ _ _ => ?_ | exact Ref.scQ (by assumption) | exact Ref.xRangeQ (by assumption) | exact Ref.cInvoke (by assumption) | refine mkjl12_0_0 (by assumption) (by assumption) ?_ | refine mkjl12_0_1 (by assumption) (by assumption) ?_)
theorem mkjl12_0_2 {e : Ex} {E : Ev} (h : ExLe Q e E) {lp lp' : Env → GS → Option (Exit × Env × GS)} (hlp : LpLe lp lp') {τ : Env} {l U : List (Nat × Value)} {G : GS} (hU : UOk τ U) : Ref (jl12_0_2 true e lp (xq true 162 τ l U) G) (jl12_0_2 false (Ex.of E) lp' (xq false 162 τ l U) G) := by
  rw [xq_eq hU]
  exact mjl12_0_2 h hlp _ _
noncomputable def bb12_0 (q : Bool) (e : Ex) (lp : Env → GS → Option (Exit × Env × GS)) (J0 J1 J2 : Env → GS → Option (Exit × Env × GS)) (τ : Env) (G : GS) : Option (Exit × Env × GS) :=
  bV q (τ 0) fun a0_ =>
  bV q (τ 1) fun a1_ =>
  bP (pNil a0_) fun x0 =>
  bP (fa Q q 48 0 0 x0) fun x1 =>
  bP (fa Q q 46 2 17 x1) fun x2 =>
  bP (ld Q q 3 x2 G) fun x3 =>
  bP (bn Q q .eql 3 (.tmp 17) (.const (.int .i64 1)) x3 (.int .i64 1)) fun x10 =>
  ifV x10 (
  J1 (xq q 162 τ [(18, x10), (19, x10), (17, x3), (16, x2), (15, x1), (14, x0), (13, a0_)] [(0, a0_), (1, a1_)]) G) (
  bP (bn Q q .eql 3 (.tmp 17) (.const (.int .i64 2)) x3 (.int .i64 2)) fun x11 =>
  ifV x11 (
  J1 (xq q 162 τ [(20, x11), (21, x11), (18, x10), (19, x10), (17, x3), (16, x2), (15, x1), (14, x0), (13, a0_)] [(0, a0_), (1, a1_)]) G) (
  bP (bn Q q .eql 3 (.tmp 17) (.const (.int .i64 3)) x3 (.int .i64 3)) fun x12 =>
  ifV x12 (
  J1 (xq q 162 τ [(22, x12), (23, x12), (20, x11), (21, x11), (18, x10), (19, x10), (17, x3), (16, x2), (15, x1), (14, x0), (13, a0_)] [(0, a0_), (1, a1_)]) G) (
  bP (bn Q q .eql 3 (.tmp 17) (.const (.int .i64 4)) x3 (.int .i64 4)) fun x121 =>
  ifV x121 (
  ifV x121 (
  J0 (xq q 162 τ [(24, x121), (25, x121), (22, x12), (23, x12), (20, x11), (21, x11), (18, x10), (19, x10), (17, x3), (16, x2), (15, x1), (14, x0), (13, a0_)] [(0, a0_), (1, a1_)]) G) (
  J2 (xq q 162 τ [(24, x121), (25, x121), (22, x12), (23, x12), (20, x11), (21, x11), (18, x10), (19, x10), (17, x3), (16, x2), (15, x1), (14, x0), (13, a0_)] [(0, a0_), (1, a1_)]) G)) (
  bP (bn Q q .eql 3 (.tmp 17) (.const (.int .i64 5)) x3 (.int .i64 5)) fun x122 =>
  ifV x122 (
  ifV x122 (
  J0 (xq q 162 τ [(24, x122), (26, x122), (24, x121), (25, x121), (22, x12), (23, x12), (20, x11), (21, x11), (18, x10), (19, x10), (17, x3), (16, x2), (15, x1), (14, x0), (13, a0_)] [(0, a0_), (1, a1_)]) G) (
  J2 (xq q 162 τ [(24, x122), (26, x122), (24, x121), (25, x121), (22, x12), (23, x12), (20, x11), (21, x11), (18, x10), (19, x10), (17, x3), (16, x2), (15, x1), (14, x0), (13, a0_)] [(0, a0_), (1, a1_)]) G)) (
  bP (bn Q q .eql 3 (.tmp 17) (.const (.int .i64 6)) x3 (.int .i64 6)) fun x123 =>
  ifV x123 (
  J0 (xq q 162 τ [(24, x123), (27, x123), (24, x122), (26, x122), (24, x121), (25, x121), (22, x12), (23, x12), (20, x11), (21, x11), (18, x10), (19, x10), (17, x3), (16, x2), (15, x1), (14, x0), (13, a0_)] [(0, a0_), (1, a1_)]) G) (
  J2 (xq q 162 τ [(24, x123), (27, x123), (24, x122), (26, x122), (24, x121), (25, x121), (22, x12), (23, x12), (20, x11), (21, x11), (18, x10), (19, x10), (17, x3), (16, x2), (15, x1), (14, x0), (13, a0_)] [(0, a0_), (1, a1_)]) G))))))
noncomputable def b12_0 (q : Bool) (e : Ex) (lp : Env → GS → Option (Exit × Env × GS)) (τ : Env) (G : GS) : Option (Exit × Env × GS) := bb12_0 q e lp (jl12_0_0 q e lp) (jl12_0_1 q e lp) (jl12_0_2 q e lp) τ G
theorem mb12_0 {e : Ex} {E : Ev} (h : ExLe Q e E) {lp lp' : Env → GS → Option (Exit × Env × GS)} (hlp : LpLe lp lp') (τ : Env) (G : GS) : Ref (b12_0 true e lp τ G) (b12_0 false (Ex.of E) lp' τ G) := by
  unfold b12_0 bb12_0
  repeat' (with_reducible first | exact Ref.rfl' _ | exact ROp.r | refine Ref.bP ?_ fun _ => ?_ | refine Ref.bS ?_ fun _ _ => ?_ | exact Ref.cl (by assumption) | refine Ref.ifV ?_ ?_ | refine LpLe.rx (by assumption) ?_ | refine Ref.xitq ?_ | exact UOk.z | refine UOk.c (by assumption) ?_ | exact Ref.nil _ | refine Ref.bVe fun _ _ => ?_ | refine Ref.bLq (by assumption) ?_ fun _ _ _ => ?_ | refine Ref.ifE ?_ ?_ | refine Ref.chk ?_ ?_ | refine Imp.and ?_ ?_ | refine Imp.or ?_ | exact Imp.rfl' _ | refine Imp.sameO ?_ | refine Ref.gd ?_ | exact Ref.cValue (by assumption) | refine Ref.bX ?_ fun _ _ _ => ?_ | exact Ref.scQ (by assumption) | exact Ref.xRangeQ (by assumption) | exact Ref.cInvoke (by assumption) | refine mkjl12_0_0 (by assumption) (by assumption) ?_ | refine mkjl12_0_1 (by assumption) (by assumption) ?_ | refine mkjl12_0_2 (by assumption) (by assumption) ?_)
noncomputable def jtl12_0 (J0 J1 J2 : Env → GS → Option (Exit × Env × GS)) : JT (Exit × Env × GS) :=
  (.n none (.n none .e (.n none (.n none (.n none (.n none (.n none (.n none (.n none (.n none (.n none (.n none (.n none (.n (some (fun T G => J0 (nth undef T) G)) (.n none (.n (some (fun T G => J1 (nth undef T) G)) (.n none (.n none (.n none (.n none (.n none .e (.n none .e (.n none .e (.n (some (fun T G => J2 (nth undef T) G)) .e .e)))) .e) .e) .e) .e) .e) .e) .e) .e) .e) .e) .e) .e) .e) .e) .e) .e) .e) .e)) .e)
set_option maxHeartbeats 8000000 in
theorem jrl12_0_0 (orc : FuncId → Bool) (J0 J1 J2 : Env → GS → Option (Exit × Env × GS)) (T : List Value) (G : GS) : runC Q (evL Q orc) 162 (jtl12_0 J0 J1 J2) (subAt [1, 0, 1, 1, 0, 0, 0] (bodyOf Tryz.f12)) (seqXE (fun τ G' => mapE ((E orc).lp (subAt [1, 0, 1, 1, 0, 0, 0] (bodyOf Tryz.f12)) (lst 162 (nth undef (lst 162 τ))) G')) fun e τ G' => some (e, nth undef (lst 162 τ), G')) [false, true, false, false, false, false, false, false, false, false, false, false, false] (nth undef T) G = jbl12_0_0 false (Ex.of (E orc)) (fun τ G => mapE ((E orc).lp (subAt [1, 0, 1, 1, 0, 0, 0] (bodyOf Tryz.f12)) (lst 162 τ) G))  (nth undef T) G := by kernel_rfl
set_option maxHeartbeats 8000000 in
theorem jrl12_0_1 (orc : FuncId → Bool) (J0 J1 J2 : Env → GS → Option (Exit × Env × GS)) (T : List Value) (G : GS) : runC Q (evL Q orc) 162 (jtl12_0 J0 J1 J2) (subAt [1, 0, 1, 1, 0, 0, 0] (bodyOf Tryz.f12)) (seqXE (fun τ G' => mapE ((E orc).lp (subAt [1, 0, 1, 1, 0, 0, 0] (bodyOf Tryz.f12)) (lst 162 (nth undef (lst 162 τ))) G')) fun e τ G' => some (e, nth undef (lst 162 τ), G')) [false, true, false, false, false, false, false, false, false, false, false, false, false, false, false] (nth undef T) G = jbl12_0_1 false (Ex.of (E orc)) (fun τ G => mapE ((E orc).lp (subAt [1, 0, 1, 1, 0, 0, 0] (bodyOf Tryz.f12)) (lst 162 τ) G)) J0 (nth undef T) G := by kernel_rfl
set_option maxHeartbeats 8000000 in
theorem jrl12_0_2 (orc : FuncId → Bool) (J0 J1 J2 : Env → GS → Option (Exit × Env × GS)) (T : List Value) (G : GS) : runC Q (evL Q orc) 162 (jtl12_0 J0 J1 J2) (subAt [1, 0, 1, 1, 0, 0, 0] (bodyOf Tryz.f12)) (seqXE (fun τ G' => mapE ((E orc).lp (subAt [1, 0, 1, 1, 0, 0, 0] (bodyOf Tryz.f12)) (lst 162 (nth undef (lst 162 τ))) G')) fun e τ G' => some (e, nth undef (lst 162 τ), G')) [false, true, false, false, false, false, false, false, false, false, false, false, false, false, false, false, false, false, false, false, true, true, true] (nth undef T) G = jbl12_0_2 false (Ex.of (E orc)) (fun τ G => mapE ((E orc).lp (subAt [1, 0, 1, 1, 0, 0, 0] (bodyOf Tryz.f12)) (lst 162 τ) G)) J0 J1 (nth undef T) G := by kernel_rfl
set_option maxHeartbeats 8000000 in
theorem jol12_0 (orc : FuncId → Bool) : JOk Q orc 162 (jtl12_0 (jl12_0_0 false (Ex.of (E orc)) (fun τ G => mapE ((E orc).lp (subAt [1, 0, 1, 1, 0, 0, 0] (bodyOf Tryz.f12)) (lst 162 τ) G))) (jl12_0_1 false (Ex.of (E orc)) (fun τ G => mapE ((E orc).lp (subAt [1, 0, 1, 1, 0, 0, 0] (bodyOf Tryz.f12)) (lst 162 τ) G))) (jl12_0_2 false (Ex.of (E orc)) (fun τ G => mapE ((E orc).lp (subAt [1, 0, 1, 1, 0, 0, 0] (bodyOf Tryz.f12)) (lst 162 τ) G))) ) (subAt [1, 0, 1, 1, 0, 0, 0] (bodyOf Tryz.f12)) (seqXE (fun τ G' => mapE ((E orc).lp (subAt [1, 0, 1, 1, 0, 0, 0] (bodyOf Tryz.f12)) (lst 162 (nth undef (lst 162 τ))) G')) fun e τ G' => some (e, nth undef (lst 162 τ), G')) :=
  jOk Q orc (l := [([false, true, false, false, false, false, false, false, false, false, false, false, false], (fun T G => jl12_0_0 false (Ex.of (E orc)) (fun τ G => mapE ((E orc).lp (subAt [1, 0, 1, 1, 0, 0, 0] (bodyOf Tryz.f12)) (lst 162 τ) G)) (nth undef T) G)), ([false, true, false, false, false, false, false, false, false, false, false, false, false, false, false], (fun T G => jl12_0_1 false (Ex.of (E orc)) (fun τ G => mapE ((E orc).lp (subAt [1, 0, 1, 1, 0, 0, 0] (bodyOf Tryz.f12)) (lst 162 τ) G)) (nth undef T) G)), ([false, true, false, false, false, false, false, false, false, false, false, false, false, false, false, false, false, false, false, false, true, true, true], (fun T G => jl12_0_2 false (Ex.of (E orc)) (fun τ G => mapE ((E orc).lp (subAt [1, 0, 1, 1, 0, 0, 0] (bodyOf Tryz.f12)) (lst 162 τ) G)) (nth undef T) G))]) (by kernel_rfl) (AllE.c (fun T G => jrl12_0_0 orc (jl12_0_0 false (Ex.of (E orc)) (fun τ G => mapE ((E orc).lp (subAt [1, 0, 1, 1, 0, 0, 0] (bodyOf Tryz.f12)) (lst 162 τ) G))) (jl12_0_1 false (Ex.of (E orc)) (fun τ G => mapE ((E orc).lp (subAt [1, 0, 1, 1, 0, 0, 0] (bodyOf Tryz.f12)) (lst 162 τ) G))) (jl12_0_2 false (Ex.of (E orc)) (fun τ G => mapE ((E orc).lp (subAt [1, 0, 1, 1, 0, 0, 0] (bodyOf Tryz.f12)) (lst 162 τ) G))) T G) (AllE.c (fun T G => jrl12_0_1 orc (jl12_0_0 false (Ex.of (E orc)) (fun τ G => mapE ((E orc).lp (subAt [1, 0, 1, 1, 0, 0, 0] (bodyOf Tryz.f12)) (lst 162 τ) G))) (jl12_0_1 false (Ex.of (E orc)) (fun τ G => mapE ((E orc).lp (subAt [1, 0, 1, 1, 0, 0, 0] (bodyOf Tryz.f12)) (lst 162 τ) G))) (jl12_0_2 false (Ex.of (E orc)) (fun τ G => mapE ((E orc).lp (subAt [1, 0, 1, 1, 0, 0, 0] (bodyOf Tryz.f12)) (lst 162 τ) G))) T G) (AllE.c (fun T G => jrl12_0_2 orc (jl12_0_0 false (Ex.of (E orc)) (fun τ G => mapE ((E orc).lp (subAt [1, 0, 1, 1, 0, 0, 0] (bodyOf Tryz.f12)) (lst 162 τ) G))) (jl12_0_1 false (Ex.of (E orc)) (fun τ G => mapE ((E orc).lp (subAt [1, 0, 1, 1, 0, 0, 0] (bodyOf Tryz.f12)) (lst 162 τ) G))) (jl12_0_2 false (Ex.of (E orc)) (fun τ G => mapE ((E orc).lp (subAt [1, 0, 1, 1, 0, 0, 0] (bodyOf Tryz.f12)) (lst 162 τ) G))) T G) (AllE.z))))
set_option maxHeartbeats 8000000 in
theorem jel12_0 (orc : FuncId → Bool) (J0 J1 J2 : Env → GS → Option (Exit × Env × GS)) (T : List Value) (G : GS) : sxC Q (evL Q orc) 162 (jtl12_0 J0 J1 J2) (subAt [1, 0, 1, 1, 0, 0, 0] (bodyOf Tryz.f12)) (nth undef T) G (seqXE (fun τ G' => mapE ((E orc).lp (subAt [1, 0, 1, 1, 0, 0, 0] (bodyOf Tryz.f12)) (lst 162 (nth undef (lst 162 τ))) G')) fun e τ G' => some (e, nth undef (lst 162 τ), G')) = bb12_0 false (Ex.of (E orc)) (fun τ G => mapE ((E orc).lp (subAt [1, 0, 1, 1, 0, 0, 0] (bodyOf Tryz.f12)) (lst 162 τ) G)) J0 J1 J2 (nth undef T) G := by kernel_rfl
set_option maxHeartbeats 8000000 in
theorem l12_0 {orc : FuncId → Bool} {e : Ex} (h : ExLe Q e (E orc)) (lp : Env → GS → Option (Exit × Env × GS)) (hlp : ∀ τ G, Ref (lp τ G) (mapE ((E orc).lp (subAt [1, 0, 1, 1, 0, 0, 0] (bodyOf Tryz.f12)) (lst 162 τ) G))) (T : List Value) (G : GS) (hT : T.length = 162) : Ref (b12_0 true e lp (nth undef T) G) (mapE ((E orc).lp (subAt [1, 0, 1, 1, 0, 0, 0] (bodyOf Tryz.f12)) T G)) :=
  fun r hr => lp_sxC Q orc G (jtl12_0 (jl12_0_0 false (Ex.of (E orc)) (fun τ G => mapE ((E orc).lp (subAt [1, 0, 1, 1, 0, 0, 0] (bodyOf Tryz.f12)) (lst 162 τ) G))) (jl12_0_1 false (Ex.of (E orc)) (fun τ G => mapE ((E orc).lp (subAt [1, 0, 1, 1, 0, 0, 0] (bodyOf Tryz.f12)) (lst 162 τ) G))) (jl12_0_2 false (Ex.of (E orc)) (fun τ G => mapE ((E orc).lp (subAt [1, 0, 1, 1, 0, 0, 0] (bodyOf Tryz.f12)) (lst 162 τ) G))) ) hT (jol12_0 orc) (jel12_0 orc (jl12_0_0 false (Ex.of (E orc)) (fun τ G => mapE ((E orc).lp (subAt [1, 0, 1, 1, 0, 0, 0] (bodyOf Tryz.f12)) (lst 162 τ) G))) (jl12_0_1 false (Ex.of (E orc)) (fun τ G => mapE ((E orc).lp (subAt [1, 0, 1, 1, 0, 0, 0] (bodyOf Tryz.f12)) (lst 162 τ) G))) (jl12_0_2 false (Ex.of (E orc)) (fun τ G => mapE ((E orc).lp (subAt [1, 0, 1, 1, 0, 0, 0] (bodyOf Tryz.f12)) (lst 162 τ) G))) T G) (mb12_0 h ⟨hlp⟩ _ _ r hr)
/-- (*coxswain/claim.Claim).Step -/
noncomputable def s12 (q : Bool) (e : Ex) (v0 v1 : Value) (G : GS) : Option (Value × GS) :=
  bP (ep Q q false 36 (.tmp 5) (.const (.pointer none)) v0 (.pointer none)) fun x0 =>
  bS (gd x0 false (some (v0, G)) G) fun x1 G2 =>
  bS (gd x0 false (bP (pNil x1) fun y => some (y, G2)) G2) fun x3 G4 =>
  bS (gd x0 false (bP (fa Q q 48 0 0 x3) fun y => some (y, G4)) G4) fun x5 G6 =>
  bS (gd x0 false (bS (e.ev.cl 63 [x5] G6) fun y G => some (y, G)) G6) fun x7 G8 =>
  bP (pickV x0 (.bool true) x7) fun x9 =>
  ifV x9 (
  some ((.bool true), G8)) (
  bLq q e 12 0 (subAt [1, 0, 1, 1, 0, 0, 0] (bodyOf Tryz.f12)) 162 (nth undef [v0, v1]) [(12, x9), (11, x7), (10, x5), (9, x3), (8, x1), (7, x0), (6, x0), (5, v0), (4, (.bool false))] [] G8 fun e10 t11 G12 =>
  bV q (t11 0) fun t11x0_ =>
  ifE e10 (.exit 0) (
  bP (pNil t11x0_) fun x13 =>
  bP (fa Q q 48 0 0 x13) fun x14 =>
  bP (fa Q q 46 2 17 x14) fun x15 =>
  bP (ld Q q 3 x15 G12) fun x16 =>
  bP (bn Q q .eql 3 (.tmp 160) (.const (.int .i64 99)) x16 (.int .i64 99)) fun x17 =>
  some (x17, G12)) (none))
theorem m12 {e : Ex} {E : Ev} (h : ExLe Q e E) (v0 v1 : Value) (G : GS) : Ref (s12 true e v0 v1 G) (s12 false (Ex.of E) v0 v1 G) := by
  unfold s12
  exact Ref.gq
set_option maxHeartbeats 8000000 in
theorem f12 {orc : FuncId → Bool} {e : Ex} (h : ExLe Q e (E orc)) (v0 v1 : Value) (G : GS) : Ref (s12 true e v0 v1 G) ((E orc).cl 12 [v0, v1] G) :=
  fun r hr => cl_sxE_some Q orc (vs := [v0, v1]) G Tryz.func12 (by kernel_rfl) (by kernel_rfl) (by kernel_rfl) (by kernel_rfl) (by kernel_rfl) (by kernel_rfl) (m12 h v0 v1 G r hr)
noncomputable def jb13_0 (q : Bool) (e : Ex) (τ : Env) (G : GS) : Option (Value × GS) :=
  bV q (τ 0) fun a0_ =>
  bP (pNil a0_) fun x10 =>
  bP (fa Q q 55 0 0 x10) fun x11 =>
  bP (fa Q q 53 2 13 x11) fun x12 =>
  bP (ld Q q 3 x12 G) fun x13 =>
  bP (bn Q q .eql 3 (.tmp 54) (.const (.int .i64 99)) x13 (.int .i64 99)) fun x14 =>
  some (x14, G)
noncomputable def j13_0 (q : Bool) (e : Ex) (τ : Env) (G : GS) : Option (Value × GS) := jb13_0 q e τ G
theorem mj13_0 {e : Ex} {E : Ev} (h : ExLe Q e E) (τ : Env) (G : GS) : Ref (j13_0 true e τ G) (j13_0 false (Ex.of E) τ G) := by
  unfold j13_0 jb13_0
  exact Ref.gq
theorem mkj13_0 {e : Ex} {E : Ev} (h : ExLe Q e E) {τ : Env} {l U : List (Nat × Value)} {G : GS} (hU : UOk τ U) : Ref (j13_0 true e (xq true 56 τ l U) G) (j13_0 false (Ex.of E) (xq false 56 τ l U) G) := by
  rw [xq_eq hU]
  exact mj13_0 h _ _
noncomputable def sb13 (q : Bool) (e : Ex) (J0 : Env → GS → Option (Value × GS)) (v0 v1 : Value) (G : GS) : Option (Value × GS) :=
  bP (ep Q q false 50 (.tmp 5) (.const (.pointer none)) v0 (.pointer none)) fun x0 =>
  bS (gd x0 false (some (v0, G)) G) fun x1 G2 =>
  bS (gd x0 false (bP (pNil x1) fun y => some (y, G2)) G2) fun x3 G4 =>
  bS (gd x0 false (bP (fa Q q 55 0 0 x3) fun y => some (y, G4)) G4) fun x5 G6 =>
  bS (gd x0 false (bS (e.ev.cl 74 [x5] G6) fun y G => some (y, G)) G6) fun x7 G8 =>
  bP (pickV x0 (.bool true) x7) fun x9 =>
  ifV x9 (
  some ((.bool true), G8)) (
  bP (pNil v0) fun x15 =>
  bP (fa Q q 55 0 0 x15) fun x16 =>
  bP (fa Q q 53 2 13 x16) fun x17 =>
  bP (ld Q q 3 x17 G8) fun x18 =>
  bP (bn Q q .eql 3 (.tmp 17) (.const (.int .i64 4)) x18 (.int .i64 4)) fun x19 =>
  ifV x19 (
  bP (pNil v0) fun x20 =>
  bP (fa Q q 55 0 0 x20) fun x21 =>
  bS (e.ev.cl 76 [x21, v1, (.int .i64 0)] G8) fun x22 G23 =>
  bP (pNil v0) fun x24 =>
  bP (fa Q q 55 0 0 x24) fun x25 =>
  bP (fa Q q 53 6 17 x25) fun x26 =>
  bP (fa Q q 44 0 0 x26) fun x27 =>
  bP (st Q q 41 1 x27 x22 G23) fun G28 =>
  bP (pNil v0) fun x29 =>
  bP (fa Q q 55 0 0 x29) fun x30 =>
  bP (fa Q q 53 2 13 x30) fun x31 =>
  bP (st Q q 3 1 x31 (.int .i64 5) G28) fun G32 =>
  J0 (xq q 56 (nth undef [v0, v1]) [(38, x31), (37, x30), (36, x29), (35, x27), (34, x26), (33, x25), (32, x24), (31, x22), (30, v1), (29, x21), (28, x20), (27, v0), (26, v0), (25, v0), (23, x19), (24, x19), (17, x18), (16, x17), (15, x16), (14, x15), (13, v0), (12, x9), (11, x7), (10, x5), (9, x3), (8, x1), (7, x0), (6, x0), (5, v0), (4, (.bool false))] []) G32) (
  bP (bn Q q .eql 3 (.tmp 17) (.const (.int .i64 5)) x18 (.int .i64 5)) fun x33 =>
  ifV x33 (
  bP (pNil v0) fun x34 =>
  bP (fa Q q 55 0 0 x34) fun x35 =>
  bS (e.ev.cl 77 [x35, v1] G8) fun x36 G37 =>
  bP (pNil v0) fun x38 =>
  bP (fa Q q 55 0 0 x38) fun x39 =>
  bP (fa Q q 53 2 13 x39) fun x40 =>
  bP (st Q q 3 1 x40 (.int .i64 99) G37) fun G41 =>
  J0 (xq q 56 (nth undef [v0, v1]) [(49, x40), (48, x39), (47, x38), (46, v0), (45, x36), (44, v1), (43, x35), (42, x34), (41, v0), (39, x33), (40, x33), (23, x19), (24, x19), (17, x18), (16, x17), (15, x16), (14, x15), (13, v0), (12, x9), (11, x7), (10, x5), (9, x3), (8, x1), (7, x0), (6, x0), (5, v0), (4, (.bool false))] []) G41) (
  bP (pNil v0) fun x42 =>
  bP (fa Q q 55 0 0 x42) fun x43 =>
  bS (e.ev.cl 75 [x43, v1] G8) fun x44 G45 =>
  J0 (xq q 56 (nth undef [v0, v1]) [(22, x44), (21, v1), (20, x43), (19, x42), (18, v0), (39, x33), (40, x33), (23, x19), (24, x19), (17, x18), (16, x17), (15, x16), (14, x15), (13, v0), (12, x9), (11, x7), (10, x5), (9, x3), (8, x1), (7, x0), (6, x0), (5, v0), (4, (.bool false))] []) G45)))
/-- (*coxswain/claim.Peek).Step -/
noncomputable def s13 (q : Bool) (e : Ex) (v0 v1 : Value) (G : GS) : Option (Value × GS) := sb13 q e (j13_0 q e) v0 v1 G
theorem m13 {e : Ex} {E : Ev} (h : ExLe Q e E) (v0 v1 : Value) (G : GS) : Ref (s13 true e v0 v1 G) (s13 false (Ex.of E) v0 v1 G) := by
  unfold s13 sb13
  repeat' (with_reducible first | exact Ref.rfl' _ | exact ROp.r | refine Ref.bP ?_ fun _ => ?_ | refine Ref.bS ?_ fun _ _ => ?_ | exact Ref.cl (by assumption) | refine Ref.ifV ?_ ?_ | refine LpLe.rx (by assumption) ?_ | refine Ref.xitq ?_ | exact UOk.z | refine UOk.c (by assumption) ?_ | exact Ref.nil _ | refine Ref.bVe fun _ _ => ?_ | refine Ref.bLq (by assumption) ?_ fun _ _ _ => ?_ | refine Ref.ifE ?_ ?_ | refine Ref.chk ?_ ?_ | refine Imp.and ?_ ?_ | refine Imp.or ?_ | exact Imp.rfl' _ | refine Imp.sameO ?_ | refine Ref.gd ?_ | exact Ref.cValue (by assumption) | refine Ref.bX ?_ fun _ _ _ => ?_ | exact Ref.scQ (by assumption) | exact Ref.xRangeQ (by assumption) | exact Ref.cInvoke (by assumption) | refine mkj13_0 (by assumption) ?_)
noncomputable def jt13 (J0 : Env → GS → Option (Value × GS)) : JT (Value × GS) :=
  (.n none .e (.n none .e (.n (some (fun T G => J0 (nth undef T) G)) .e .e)))
theorem jr13_0 (orc : FuncId → Bool) (J0 : Env → GS → Option (Value × GS)) (T : List Value) (G : GS) : runC Q (evL Q orc) Tryz.f13.ntmps (jt13 J0) (bodyOf Tryz.f13) (retE Q Tryz.f13.results.toList) [true, true] (nth undef T) G = jb13_0 false (Ex.of (E orc))  (nth undef T) G := by kernel_rfl
theorem jo13 (orc : FuncId → Bool) : JOk Q orc Tryz.f13.ntmps (jt13 (j13_0 false (Ex.of (E orc))) ) (bodyOf Tryz.f13) (retE Q Tryz.f13.results.toList) :=
  jOk Q orc (l := [([true, true], (fun T G => j13_0 false (Ex.of (E orc)) (nth undef T) G))]) (by kernel_rfl) (AllE.c (fun T G => jr13_0 orc (j13_0 false (Ex.of (E orc))) T G) (AllE.z))
theorem je13 (orc : FuncId → Bool) (J0 : Env → GS → Option (Value × GS)) (v0 v1 : Value) (G : GS) : sxC Q (evL Q orc) Tryz.f13.ntmps (jt13 J0) (bodyOf Tryz.f13) (nth undef [v0, v1]) G (retE Q Tryz.f13.results.toList) = sb13 false (Ex.of (E orc)) J0 v0 v1 G := by kernel_rfl
theorem f13 {orc : FuncId → Bool} {e : Ex} (h : ExLe Q e (E orc)) (v0 v1 : Value) (G : GS) : Ref (s13 true e v0 v1 G) ((E orc).cl 13 [v0, v1] G) :=
  fun r hr => cl_sxC Q orc (vs := [v0, v1]) G (jt13 (j13_0 false (Ex.of (E orc))) ) Tryz.func13 (by kernel_rfl) (by kernel_rfl) (by kernel_rfl) (by kernel_rfl) (by kernel_rfl) (jo13 orc) (je13 orc (j13_0 false (Ex.of (E orc))) v0 v1 G) (m13 h v0 v1 G r hr)
/-- coxswain/coxswainlaw18.nothing -/
noncomputable def s14 (q : Bool) (e : Ex) (v0 v1 v2 : Value) (G : GS) : Option (Value × GS) :=
  bS (bx q v0 G) fun x0 G1 =>
  bP (lda Q q 44 2 x0 G1) fun x2 =>
  bP (bd Q q 44 z44 [] []) fun x3 =>
  bP (bn Q q .eql 44 (.tmp 7) (.tmp 8) x2 x3) fun x4 =>
  bS (gd x4 true (some (v1, G1)) G1) fun x5 G6 =>
  bS (gd x4 true (some (v2, G6)) G6) fun x7 G8 =>
  bS (gd x4 true (bP (bn Q q .eql 33 (.tmp 11) (.tmp 12) x5 x7) fun y => some (y, G8)) G8) fun x9 G10 =>
  bP (pickV x4 x9 (.bool false)) fun x11 =>
  some (x11, G10)
theorem m14 {e : Ex} {E : Ev} (h : ExLe Q e E) (v0 v1 v2 : Value) (G : GS) : Ref (s14 true e v0 v1 v2 G) (s14 false (Ex.of E) v0 v1 v2 G) := by
  unfold s14
  exact Ref.gq
theorem f14 {orc : FuncId → Bool} {e : Ex} (h : ExLe Q e (E orc)) (v0 v1 v2 : Value) (G : GS) : Ref (s14 true e v0 v1 v2 G) ((E orc).cl 14 [v0, v1, v2] G) :=
  fun r hr => cl_sxE_some Q orc (vs := [v0, v1, v2]) G Tryz.func14 (by kernel_rfl) (by kernel_rfl) (by kernel_rfl) (by kernel_rfl) (by kernel_rfl) (by kernel_rfl) (m14 h v0 v1 v2 G r hr)
/-- (*coxswain/claim.Claim).Claimed -/
noncomputable def s15 (q : Bool) (e : Ex) (v0 : Value) (G : GS) : Option (Value × GS) :=
  bP (ep Q q true 36 (.tmp 3) (.const (.pointer none)) v0 (.pointer none)) fun x0 =>
  bS (gd x0 true (some (v0, G)) G) fun x1 G2 =>
  bS (gd x0 true (bP (pNil x1) fun y => some (y, G2)) G2) fun x3 G4 =>
  bS (gd x0 true (bP (fa Q q 48 0 0 x3) fun y => some (y, G4)) G4) fun x5 G6 =>
  bS (gd x0 true (bP (fa Q q 46 1 13 x5) fun y => some (y, G6)) G6) fun x7 G8 =>
  bS (gd x0 true (bP (fa Q q 40 1 1 x7) fun y => some (y, G8)) G8) fun x9 G10 =>
  bS (gd x0 true (bP (ld Q q 4 x9 G10) fun y => some (y, G10)) G10) fun x11 G12 =>
  bP (pickV x0 x11 (.bool false)) fun x13 =>
  some (x13, G12)
theorem m15 {e : Ex} {E : Ev} (h : ExLe Q e E) (v0 : Value) (G : GS) : Ref (s15 true e v0 G) (s15 false (Ex.of E) v0 G) := by
  unfold s15
  exact Ref.gq
theorem f15 {orc : FuncId → Bool} {e : Ex} (h : ExLe Q e (E orc)) (v0 : Value) (G : GS) : Ref (s15 true e v0 G) ((E orc).cl 15 [v0] G) :=
  fun r hr => cl_sxE_some Q orc (vs := [v0]) G Tryz.func15 (by kernel_rfl) (by kernel_rfl) (by kernel_rfl) (by kernel_rfl) (by kernel_rfl) (by kernel_rfl) (m15 h v0 G r hr)
/-- (*coxswain/claim.Claim).By -/
noncomputable def s16 (q : Bool) (e : Ex) (v0 : Value) (G : GS) : Option (Value × GS) :=
  bP (ep Q q false 36 (.tmp 3) (.const (.pointer none)) v0 (.pointer none)) fun x0 =>
  ifV x0 (
  some ((.int .u64 0), G)) (
  bP (pNil v0) fun x1 =>
  bP (fa Q q 48 0 0 x1) fun x2 =>
  bP (fa Q q 46 7 23 x2) fun x3 =>
  bP (ld Q q 41 x3 G) fun x4 =>
  some (x4, G))
theorem m16 {e : Ex} {E : Ev} (h : ExLe Q e E) (v0 : Value) (G : GS) : Ref (s16 true e v0 G) (s16 false (Ex.of E) v0 G) := by
  unfold s16
  exact Ref.gq
theorem f16 {orc : FuncId → Bool} {e : Ex} (h : ExLe Q e (E orc)) (v0 : Value) (G : GS) : Ref (s16 true e v0 G) ((E orc).cl 16 [v0] G) :=
  fun r hr => cl_sxE_some Q orc (vs := [v0]) G Tryz.func16 (by kernel_rfl) (by kernel_rfl) (by kernel_rfl) (by kernel_rfl) (by kernel_rfl) (by kernel_rfl) (m16 h v0 G r hr)
/-- (*coxswain/claim.Peek).By -/
noncomputable def s17 (q : Bool) (e : Ex) (v0 : Value) (G : GS) : Option (Value × GS) :=
  bP (ep Q q false 50 (.tmp 3) (.const (.pointer none)) v0 (.pointer none)) fun x0 =>
  ifV x0 (
  some ((.int .u64 0), G)) (
  bP (pNil v0) fun x1 =>
  bP (fa Q q 55 0 0 x1) fun x2 =>
  bP (fa Q q 53 7 19 x2) fun x3 =>
  bP (ld Q q 41 x3 G) fun x4 =>
  some (x4, G))
theorem m17 {e : Ex} {E : Ev} (h : ExLe Q e E) (v0 : Value) (G : GS) : Ref (s17 true e v0 G) (s17 false (Ex.of E) v0 G) := by
  unfold s17
  exact Ref.gq
theorem f17 {orc : FuncId → Bool} {e : Ex} (h : ExLe Q e (E orc)) (v0 : Value) (G : GS) : Ref (s17 true e v0 G) ((E orc).cl 17 [v0] G) :=
  fun r hr => cl_sxE_some Q orc (vs := [v0]) G Tryz.func17 (by kernel_rfl) (by kernel_rfl) (by kernel_rfl) (by kernel_rfl) (by kernel_rfl) (by kernel_rfl) (m17 h v0 G r hr)
/-- coxswain/coxswainref15.Sound -/
noncomputable def s18 (q : Bool) (e : Ex) (v0 : Value) (G : GS) : Option (Value × GS) :=
  bS (bx q v0 G) fun x0 G1 =>
  bP (fa Q q 31 3 3 x0) fun x2 =>
  bP (fa Q q 29 0 0 x2) fun x3 =>
  bP (fa Q q 25 0 0 x3) fun x4 =>
  bP (fa Q q 23 2 2 x4) fun x5 =>
  bP (ld Q q 3 x5 G1) fun x6 =>
  bP (fa Q q 31 2 2 x0) fun x7 =>
  bP (ld Q q 3 x7 G1) fun x8 =>
  bP (bn Q q .geq 3 (.tmp 10) (.const (.int .i64 1)) x8 (.int .i64 1)) fun x9 =>
  bS (gd x9 true (bP (fa Q q 31 2 2 x0) fun y => some (y, G1)) G1) fun x10 G11 =>
  bS (gd x9 true (bP (ld Q q 3 x10 G11) fun y => some (y, G11)) G11) fun x12 G13 =>
  bS (gd x9 true (bP (bn Q q .leq 3 (.tmp 14) (.const (.int .i64 4)) x12 (.int .i64 4)) fun y => some (y, G13)) G13) fun x14 G15 =>
  bP (pickV x9 x14 (.bool false)) fun x16 =>
  bS (gd x16 true (some (x6, G15)) G15) fun x17 G18 =>
  bS (gd x16 true (bP (bn Q q .geq 3 (.tmp 18) (.const (.int .i64 1)) x17 (.int .i64 1)) fun y => some (y, G18)) G18) fun x19 G20 =>
  bP (pickV x16 x19 (.bool false)) fun x21 =>
  bS (gd x21 true (some (x6, G20)) G20) fun x22 G23 =>
  bS (gd x21 true (bP (bn Q q .leq 3 (.tmp 22) (.const (.int .i64 128)) x22 (.int .i64 128)) fun y => some (y, G23)) G23) fun x24 G25 =>
  bP (pickV x21 x24 (.bool false)) fun x26 =>
  bS (gd x26 true (bP (fa Q q 31 0 0 x0) fun y => some (y, G25)) G25) fun x27 G28 =>
  bS (gd x26 true (bP (ld Q q 3 x27 G28) fun y => some (y, G28)) G28) fun x29 G30 =>
  bS (gd x26 true (bP (bn Q q .geq 3 (.tmp 27) (.const (.int .i64 0)) x29 (.int .i64 0)) fun y => some (y, G30)) G30) fun x31 G32 =>
  bP (pickV x26 x31 (.bool false)) fun x33 =>
  bS (gd x33 true (bP (fa Q q 31 0 0 x0) fun y => some (y, G32)) G32) fun x34 G35 =>
  bS (gd x33 true (bP (ld Q q 3 x34 G35) fun y => some (y, G35)) G35) fun x36 G37 =>
  bS (gd x33 true (bP (bn Q q .lss 3 (.tmp 32) (.const (.int .i64 4096)) x36 (.int .i64 4096)) fun y => some (y, G37)) G37) fun x38 G39 =>
  bP (pickV x33 x38 (.bool false)) fun x40 =>
  bS (gd x40 true (bP (fa Q q 31 1 1 x0) fun y => some (y, G39)) G39) fun x41 G42 =>
  bS (gd x40 true (bP (ld Q q 3 x41 G42) fun y => some (y, G42)) G42) fun x43 G44 =>
  bS (gd x40 true (bP (bn Q q .geq 3 (.tmp 37) (.const (.int .i64 0)) x43 (.int .i64 0)) fun y => some (y, G44)) G44) fun x45 G46 =>
  bP (pickV x40 x45 (.bool false)) fun x47 =>
  bS (gd x47 true (bP (fa Q q 31 1 1 x0) fun y => some (y, G46)) G46) fun x48 G49 =>
  bS (gd x47 true (bP (ld Q q 3 x48 G49) fun y => some (y, G49)) G49) fun x50 G51 =>
  bS (gd x47 true (bP (bn Q q .lss 3 (.tmp 42) (.const (.int .i64 4096)) x50 (.int .i64 4096)) fun y => some (y, G51)) G51) fun x52 G53 =>
  bP (pickV x47 x52 (.bool false)) fun x54 =>
  some (x54, G53)
theorem m18 {e : Ex} {E : Ev} (h : ExLe Q e E) (v0 : Value) (G : GS) : Ref (s18 true e v0 G) (s18 false (Ex.of E) v0 G) := by
  unfold s18
  exact Ref.gq
theorem f18 {orc : FuncId → Bool} {e : Ex} (h : ExLe Q e (E orc)) (v0 : Value) (G : GS) : Ref (s18 true e v0 G) ((E orc).cl 18 [v0] G) :=
  fun r hr => cl_sxE_some Q orc (vs := [v0]) G Tryz.func18 (by kernel_rfl) (by kernel_rfl) (by kernel_rfl) (by kernel_rfl) (by kernel_rfl) (by kernel_rfl) (m18 h v0 G r hr)
/-- coxswain/claim.NewClaim -/
noncomputable def s19 (q : Bool) (e : Ex) (v0 : Value) (G : GS) : Option (Value × GS) :=
  bS (bx q v0 G) fun x0 G1 =>
  bP (lda Q q 31 13 x0 G1) fun x2 =>
  bS (e.ev.cl 78 [x2] G1) fun x3 G4 =>
  bP (bd Q q 48 z48 [(0, 0, 26)] [x3]) fun x5 =>
  bS (bx q x5 G4) fun x6 G7 =>
  some (x6, G7)
theorem m19 {e : Ex} {E : Ev} (h : ExLe Q e E) (v0 : Value) (G : GS) : Ref (s19 true e v0 G) (s19 false (Ex.of E) v0 G) := by
  unfold s19
  exact Ref.gq
theorem f19 {orc : FuncId → Bool} {e : Ex} (h : ExLe Q e (E orc)) (v0 : Value) (G : GS) : Ref (s19 true e v0 G) ((E orc).cl 19 [v0] G) :=
  fun r hr => cl_sxE_some Q orc (vs := [v0]) G Tryz.func19 (by kernel_rfl) (by kernel_rfl) (by kernel_rfl) (by kernel_rfl) (by kernel_rfl) (by kernel_rfl) (m19 h v0 G r hr)
/-- coxswain/claim.NewPeek -/
noncomputable def s20 (q : Bool) (e : Ex) (v0 : Value) (G : GS) : Option (Value × GS) :=
  bS (bx q v0 G) fun x0 G1 =>
  bP (lda Q q 31 13 x0 G1) fun x2 =>
  bS (e.ev.cl 79 [x2] G1) fun x3 G4 =>
  bP (bd Q q 55 z55 [(0, 0, 22)] [x3]) fun x5 =>
  bS (bx q x5 G4) fun x6 G7 =>
  some (x6, G7)
theorem m20 {e : Ex} {E : Ev} (h : ExLe Q e E) (v0 : Value) (G : GS) : Ref (s20 true e v0 G) (s20 false (Ex.of E) v0 G) := by
  unfold s20
  exact Ref.gq
theorem f20 {orc : FuncId → Bool} {e : Ex} (h : ExLe Q e (E orc)) (v0 : Value) (G : GS) : Ref (s20 true e v0 G) ((E orc).cl 20 [v0] G) :=
  fun r hr => cl_sxE_some Q orc (vs := [v0]) G Tryz.func20 (by kernel_rfl) (by kernel_rfl) (by kernel_rfl) (by kernel_rfl) (by kernel_rfl) (by kernel_rfl) (m20 h v0 G r hr)
/-- (*coxswain/cells.Mem).Count -/
noncomputable def s21 (q : Bool) (e : Ex) (v0 : Value) (G : GS) : Option (Value × GS) :=
  bP (ep Q q false 32 (.tmp 3) (.const (.pointer none)) v0 (.pointer none)) fun x0 =>
  ifV x0 (
  some ((.int .i64 0), G)) (
  bP (pNil v0) fun x1 =>
  bP (fa Q q 158 3 7 x1) fun x2 =>
  bP (ld Q q 3 x2 G) fun x3 =>
  some (x3, G))
theorem m21 {e : Ex} {E : Ev} (h : ExLe Q e E) (v0 : Value) (G : GS) : Ref (s21 true e v0 G) (s21 false (Ex.of E) v0 G) := by
  unfold s21
  exact Ref.gq
theorem f21 {orc : FuncId → Bool} {e : Ex} (h : ExLe Q e (E orc)) (v0 : Value) (G : GS) : Ref (s21 true e v0 G) ((E orc).cl 21 [v0] G) :=
  fun r hr => cl_sxE_some Q orc (vs := [v0]) G Tryz.func21 (by kernel_rfl) (by kernel_rfl) (by kernel_rfl) (by kernel_rfl) (by kernel_rfl) (by kernel_rfl) (m21 h v0 G r hr)
/-- coxswain/coxswainlaw18.awake -/
noncomputable def s22 (q : Bool) (e : Ex) (G : GS) : Option (Value × GS) :=
  bS (e.ev.cl 80 [] G) fun x0 G1 =>
  bP (ep Q q true 32 (.tmp 3) (.const (.pointer none)) x0 (.pointer none)) fun x2 =>
  bS (gd x2 true (some (x0, G1)) G1) fun x3 G4 =>
  bS (gd x2 true (bP (bd Q q 44 z44 [(0, 0, 1), (1, 1, 1)] [(.int .u64 4), (.int .i64 7)]) fun y => some (y, G4)) G4) fun x5 G6 =>
  bS (gd x2 true (bS (e.ev.cl 81 [x3, (.int .i64 4), x5, (.int .i64 0)] G6) fun y G => some (y, G)) G6) fun x7 G8 =>
  bP (pickV x2 x7 (.bool false)) fun x9 =>
  bS (gd x9 true (some (x0, G8)) G8) fun x10 G11 =>
  bS (gd x9 true (bP (bd Q q 44 z44 [(0, 0, 1), (1, 1, 1)] [(.int .u64 4), (.int .i64 7)]) fun y => some (y, G11)) G11) fun x12 G13 =>
  bS (gd x9 true (bS (e.ev.cl 82 [x10, (.int .i64 20), x12, (.int .i64 0)] G13) fun y G => some (y, G)) G13) fun x14 G15 =>
  bP (pickV x9 x14 (.bool false)) fun x16 =>
  bS (gd x16 true (some (x0, G15)) G15) fun x17 G18 =>
  bS (gd x16 true (bS (bs Q q 78 2 (rep z3 2) 1 [(0, 0, 1), (1, 1, 1)] [(.int .i64 0), (.int .i64 2)] G18) fun y G => some (y, G)) G18) fun x19 G20 =>
  bS (gd x16 true (bS (e.ev.cl 83 [x17, (.int .i64 0), x19] G20) fun y G => some (y, G)) G20) fun x21 G22 =>
  bP (pickV x16 x21 (.bool false)) fun x23 =>
  bS (gd x23 true (bS (e.ev.cl 86 [] G22) fun y G => some (y, G)) G22) fun x24 G25 =>
  bS (gd x23 true (some (x0, G25)) G25) fun x26 G27 =>
  bS (gd x23 true (bS (e.ev.cl 85 [x24, x26] G27) fun y G => some (y, G)) G27) fun x28 G29 =>
  bS (gd x23 true (bS (bs Q q 78 1 (rep z3 1) 1 [(0, 0, 1)] [(.int .i64 1)] G29) fun y G => some (y, G)) G29) fun x30 G31 =>
  bS (gd x23 true (bS (e.ev.cl 84 [x28, x30] G31) fun y G => some (y, G)) G31) fun x32 G33 =>
  bP (pickV x23 x32 (.bool false)) fun x34 =>
  some (x34, G33)
theorem m22 {e : Ex} {E : Ev} (h : ExLe Q e E) (G : GS) : Ref (s22 true e  G) (s22 false (Ex.of E)  G) := by
  unfold s22
  exact Ref.gq
theorem f22 {orc : FuncId → Bool} {e : Ex} (h : ExLe Q e (E orc)) (ho : orc 22 = false) (G : GS) : Ref (s22 true e  G) ((E orc).cl 22 [] G) :=
  fun r hr => cl_sxE_some Q orc (vs := []) G Tryz.func22 (by kernel_rfl) (by kernel_rfl) ho (by kernel_rfl) (by kernel_rfl) (by kernel_rfl) (m22 h  G r hr)
/-- (*coxswain/cells.Mem).Store -/
noncomputable def s45 (q : Bool) (e : Ex) (v0 v1 v2 : Value) (G : GS) : Option (Value × GS) :=
  bS (e.ev.cl 158 [v0, v1] G) fun x0 G1 =>
  bP (bd Q q 246 z246 [(0, 0, 1), (1, 1, 1)] [x0, v2]) fun x2 =>
  bS (al Q q 246 z246 G1) fun x3 G4 =>
  bP (st Q q 246 3 x3 x2 G4) fun G5 =>
  bP (fa Q q 246 0 0 x3) fun x6 =>
  bP (ld Q q 243 x6 G5) fun x7 =>
  bP (lda Q q 246 3 x3 G5) fun x8 =>
  bS (e.ev.cl 159 [v0, (.int .i64 2), v1, x7, (.func (.func 160) #[x8] #[])] G5) fun x9 G10 =>
  some (.tuple #[], G10)
theorem m45 {e : Ex} {E : Ev} (h : ExLe Q e E) (v0 v1 v2 : Value) (G : GS) : Ref (s45 true e v0 v1 v2 G) (s45 false (Ex.of E) v0 v1 v2 G) := by
  unfold s45
  exact Ref.gq
theorem f45 {orc : FuncId → Bool} {e : Ex} (h : ExLe Q e (E orc)) (v0 v1 v2 : Value) (G : GS) : Ref (s45 true e v0 v1 v2 G) ((E orc).cl 45 [v0, v1, v2] G) :=
  fun r hr => cl_sxE_some Q orc (vs := [v0, v1, v2]) G Tryz.func45 (by kernel_rfl) (by kernel_rfl) (by kernel_rfl) (by kernel_rfl) (by kernel_rfl) (by kernel_rfl) (m45 h v0 v1 v2 G r hr)
/-- (*coxswain/cells.Mem).Last -/
noncomputable def s49 (q : Bool) (e : Ex) (v0 : Value) (G : GS) : Option (Value × GS) :=
  bS (al Q q 68 z68 G) fun x0 G1 =>
  bP (ep Q q false 32 (.tmp 3) (.const (.pointer none)) v0 (.pointer none)) fun x2 =>
  ifV x2 (
  bP (bd Q q 68 z68 [] []) fun x3 =>
  bP (st Q q 68 5 x0 x3 G1) fun G4 =>
  bP (lda Q q 68 5 x0 G4) fun x5 =>
  some (x5, G4)) (
  bP (pNil v0) fun x6 =>
  bP (fa Q q 158 2 2 x6) fun x7 =>
  bP (lda Q q 68 5 x7 G1) fun x8 =>
  bP (st Q q 68 5 x0 x8 G1) fun G9 =>
  bP (lda Q q 68 5 x0 G9) fun x10 =>
  some (x10, G9))
theorem m49 {e : Ex} {E : Ev} (h : ExLe Q e E) (v0 : Value) (G : GS) : Ref (s49 true e v0 G) (s49 false (Ex.of E) v0 G) := by
  unfold s49
  exact Ref.gq
theorem f49 {orc : FuncId → Bool} {e : Ex} (h : ExLe Q e (E orc)) (v0 : Value) (G : GS) : Ref (s49 true e v0 G) ((E orc).cl 49 [v0] G) :=
  fun r hr => cl_sxE_some Q orc (vs := [v0]) G Tryz.func49 (by kernel_rfl) (by kernel_rfl) (by kernel_rfl) (by kernel_rfl) (by kernel_rfl) (by kernel_rfl) (m49 h v0 G r hr)
noncomputable def b53_0 (q : Bool) (e : Ex) (lp : Env → GS → Option (Exit × Env × GS)) (τ : Env) (G : GS) : Option (Exit × Env × GS) :=
  bV q (τ 3) fun a3_ =>
  bV q (τ 29) fun a29_ =>
  bV q (τ 30) fun a30_ =>
  bV q (τ 31) fun a31_ =>
  bP (bn Q q .lss 3 (.tmp 31) (.tmp 30) a31_ a30_) fun x0 =>
  ifV x0 (
  bP (ias Q q 253 1 a29_ a31_) fun x1 =>
  bP (ld Q q 154 x1 G) fun x2 =>
  bP (ias Q q 111 1 a3_ a31_) fun x3 =>
  bP (st Q q 41 1 x3 x2 G) fun G4 =>
  bP (bn Q q .add 3 (.tmp 31) (.const (.int .i64 1)) a31_ (.int .i64 1)) fun x5 =>
  lp (xq q 42 τ [(31, x5), (40, x5), (39, x3), (38, x2), (37, a31_), (36, a3_), (5, x2), (4, a31_), (35, x2), (34, x1), (33, a31_), (32, x0)] [(3, a3_), (29, a29_), (30, a30_)]) G4) (
  some ((.exit 0), xq q 42 τ [(32, x0)] [(3, a3_), (29, a29_), (30, a30_), (31, a31_)], G))
theorem mb53_0 {e : Ex} {E : Ev} (h : ExLe Q e E) {lp lp' : Env → GS → Option (Exit × Env × GS)} (hlp : LpLe lp lp') (τ : Env) (G : GS) : Ref (b53_0 true e lp τ G) (b53_0 false (Ex.of E) lp' τ G) := by
  unfold b53_0
  exact Ref.gq
theorem l53_0 {orc : FuncId → Bool} {e : Ex} (h : ExLe Q e (E orc)) (lp : Env → GS → Option (Exit × Env × GS)) (hlp : ∀ τ G, Ref (lp τ G) (mapE ((E orc).lp (subAt [1, 1, 1, 0, 1, 0, 0] (bodyOf Tryz.f53)) (lst 42 τ) G))) (T : List Value) (G : GS) (hT : T.length = 42) : Ref (b53_0 true e lp (nth undef T) G) (mapE ((E orc).lp (subAt [1, 1, 1, 0, 1, 0, 0] (bodyOf Tryz.f53)) T G)) :=
  fun r hr => lp_sxN Q orc G hT (by kernel_rfl) (mb53_0 h ⟨hlp⟩ _ _ r hr)
/-- (*coxswain/cells.Mem).Words -/
noncomputable def s53 (q : Bool) (e : Ex) (v0 : Value) (G : GS) : Option (Value × GS) :=
  bP (ep Q q false 32 (.tmp 6) (.const (.pointer none)) v0 (.pointer none)) fun x0 =>
  bS (gd x0 false (some (v0, G)) G) fun x1 G2 =>
  bS (gd x0 false (bP (pNil x1) fun y => some (y, G2)) G2) fun x3 G4 =>
  bS (gd x0 false (bP (fa Q q 158 0 0 x3) fun y => some (y, G4)) G4) fun x5 G6 =>
  bS (gd x0 false (bP (ld Q q 153 x5 G6) fun y => some (y, G6)) G6) fun x7 G8 =>
  bS (gd x0 false (bP (ep Q q false 153 (.tmp 12) (.const (.pointer none)) x7 (.pointer none)) fun y => some (y, G8)) G8) fun x9 G10 =>
  bP (pickV x0 (.bool true) x9) fun x11 =>
  ifV x11 (
  some ((.slice none 0 0), G10)) (
  bP (pNil v0) fun x12 =>
  bP (fa Q q 158 1 1 x12) fun x13 =>
  bP (ld Q q 3 x13 G10) fun x14 =>
  bS (mk Q q 111 1 8 z41 x14 x14 G10) fun x15 G16 =>
  bP (pNil v0) fun x17 =>
  bP (fa Q q 158 0 0 x17) fun x18 =>
  bP (ld Q q 153 x18 (G16.room 12)) fun x19 =>
  bP (pNil x19) fun x20 =>
  bP (pNil v0) fun x21 =>
  bP (fa Q q 158 1 1 x21) fun x22 =>
  bP (ld Q q 3 x22 (G16.room 12)) fun x23 =>
  bP (sla Q q 156 4096 1 x20 none (some x23) none (G16.room 12)) fun x24 =>
  bP (ln Q q 253 x24) fun x25 =>
  bLq q e 53 0 (subAt [1, 1, 1, 0, 1, 0, 0] (bodyOf Tryz.f53)) 42 (nth undef [v0]) [(31, (.int .i64 0)), (30, x25), (29, x24), (28, x23), (27, x22), (26, x21), (25, v0), (24, x20), (23, x19), (22, x18), (21, x17), (20, v0), (3, x15), (19, x15), (18, x14), (17, x13), (16, x12), (15, v0), (14, x11), (13, x9), (12, x7), (11, x5), (10, x3), (9, x1), (8, x0), (7, x0), (6, v0), (2, (.slice none 0 0))] [] (G16.room 12) fun e26 t27 G28 =>
  bV q (t27 3) fun t27x3_ =>
  ifE e26 (.exit 0) (
  some (t27x3_, G28)) (none))
theorem m53 {e : Ex} {E : Ev} (h : ExLe Q e E) (v0 : Value) (G : GS) : Ref (s53 true e v0 G) (s53 false (Ex.of E) v0 G) := by
  unfold s53
  exact Ref.gq
theorem f53 {orc : FuncId → Bool} {e : Ex} (h : ExLe Q e (E orc)) (v0 : Value) (G : GS) : Ref (s53 true e v0 G) ((E orc).cl 53 [v0] G) :=
  fun r hr => cl_sxE_some Q orc (vs := [v0]) G Tryz.func53 (by kernel_rfl) (by kernel_rfl) (by kernel_rfl) (by kernel_rfl) (by kernel_rfl) (by kernel_rfl) (m53 h v0 G r hr)
/-- (*coxswain/claim.seeker[coxswain/claim.taking]).item -/
noncomputable def s61 (q : Bool) (e : Ex) (v0 : Value) (G : GS) : Option (Value × GS) :=
  bS (al Q q 44 z44 G) fun x0 G1 =>
  bP (pNil v0) fun x2 =>
  bP (fa Q q 46 8 24 x2) fun x3 =>
  bP (ld Q q 4 x3 G1) fun x4 =>
  bP (un Q q .not x4) fun x5 =>
  ifV x5 (
  bP (bd Q q 44 z44 [] []) fun x6 =>
  bP (st Q q 44 2 x0 x6 G1) fun G7 =>
  bP (lda Q q 44 2 x0 G7) fun x8 =>
  some (.tuple #[x8, (.int .i64 1)], G7)) (
  bP (pNil v0) fun x9 =>
  bP (fa Q q 46 2 17 x9) fun x10 =>
  bP (ld Q q 3 x10 G1) fun x11 =>
  bP (bn Q q .neq 3 (.tmp 15) (.const (.int .i64 99)) x11 (.int .i64 99)) fun x12 =>
  ifV x12 (
  bP (bd Q q 44 z44 [] []) fun x13 =>
  bP (st Q q 44 2 x0 x13 G1) fun G14 =>
  bP (lda Q q 44 2 x0 G14) fun x15 =>
  some (.tuple #[x15, (.int .i64 14)], G14)) (
  bP (pNil v0) fun x16 =>
  bP (fa Q q 46 9 25 x16) fun x17 =>
  bP (ld Q q 33 x17 G1) fun x18 =>
  bP (bn Q q .neq 33 (.tmp 22) (.const (.int .i64 0)) x18 (.int .i64 0)) fun x19 =>
  ifV x19 (
  bP (bd Q q 44 z44 [] []) fun x20 =>
  bP (pNil v0) fun x21 =>
  bP (fa Q q 46 9 25 x21) fun x22 =>
  bP (ld Q q 33 x22 (G1.room 7)) fun x23 =>
  bP (st Q q 44 2 x0 x20 (G1.room 7)) fun G24 =>
  chk ((sameO (ld Q q 33 x22 G24) x23 && true)) <|
  bP (lda Q q 44 2 x0 G24) fun x25 =>
  some (.tuple #[x25, x23], G24)) (
  bP (pNil v0) fun x26 =>
  bP (fa Q q 46 6 21 x26) fun x27 =>
  bP (lda Q q 44 2 x27 G1) fun x28 =>
  bP (st Q q 44 2 x0 x28 G1) fun G29 =>
  bP (lda Q q 44 2 x0 G29) fun x30 =>
  some (.tuple #[x30, (.int .i64 0)], G29))))
theorem m61 {e : Ex} {E : Ev} (h : ExLe Q e E) (v0 : Value) (G : GS) : Ref (s61 true e v0 G) (s61 false (Ex.of E) v0 G) := by
  unfold s61
  exact Ref.gq
theorem f61 {orc : FuncId → Bool} {e : Ex} (h : ExLe Q e (E orc)) (v0 : Value) (G : GS) : Ref (s61 true e v0 G) ((E orc).cl 61 [v0] G) :=
  fun r hr => cl_sxE_some Q orc (vs := [v0]) G Tryz.func61 (by kernel_rfl) (by kernel_rfl) (by kernel_rfl) (by kernel_rfl) (by kernel_rfl) (by kernel_rfl) (m61 h v0 G r hr)
/-- (*coxswain/claim.seeker[struct{}]).item -/
noncomputable def s62 (q : Bool) (e : Ex) (v0 : Value) (G : GS) : Option (Value × GS) :=
  bS (al Q q 44 z44 G) fun x0 G1 =>
  bP (pNil v0) fun x2 =>
  bP (fa Q q 53 8 20 x2) fun x3 =>
  bP (ld Q q 4 x3 G1) fun x4 =>
  bP (un Q q .not x4) fun x5 =>
  ifV x5 (
  bP (bd Q q 44 z44 [] []) fun x6 =>
  bP (st Q q 44 2 x0 x6 G1) fun G7 =>
  bP (lda Q q 44 2 x0 G7) fun x8 =>
  some (.tuple #[x8, (.int .i64 1)], G7)) (
  bP (pNil v0) fun x9 =>
  bP (fa Q q 53 2 13 x9) fun x10 =>
  bP (ld Q q 3 x10 G1) fun x11 =>
  bP (bn Q q .neq 3 (.tmp 15) (.const (.int .i64 99)) x11 (.int .i64 99)) fun x12 =>
  ifV x12 (
  bP (bd Q q 44 z44 [] []) fun x13 =>
  bP (st Q q 44 2 x0 x13 G1) fun G14 =>
  bP (lda Q q 44 2 x0 G14) fun x15 =>
  some (.tuple #[x15, (.int .i64 14)], G14)) (
  bP (pNil v0) fun x16 =>
  bP (fa Q q 53 9 21 x16) fun x17 =>
  bP (ld Q q 33 x17 G1) fun x18 =>
  bP (bn Q q .neq 33 (.tmp 22) (.const (.int .i64 0)) x18 (.int .i64 0)) fun x19 =>
  ifV x19 (
  bP (bd Q q 44 z44 [] []) fun x20 =>
  bP (pNil v0) fun x21 =>
  bP (fa Q q 53 9 21 x21) fun x22 =>
  bP (ld Q q 33 x22 (G1.room 7)) fun x23 =>
  bP (st Q q 44 2 x0 x20 (G1.room 7)) fun G24 =>
  chk ((sameO (ld Q q 33 x22 G24) x23 && true)) <|
  bP (lda Q q 44 2 x0 G24) fun x25 =>
  some (.tuple #[x25, x23], G24)) (
  bP (pNil v0) fun x26 =>
  bP (fa Q q 53 6 17 x26) fun x27 =>
  bP (lda Q q 44 2 x27 G1) fun x28 =>
  bP (st Q q 44 2 x0 x28 G1) fun G29 =>
  bP (lda Q q 44 2 x0 G29) fun x30 =>
  some (.tuple #[x30, (.int .i64 0)], G29))))
theorem m62 {e : Ex} {E : Ev} (h : ExLe Q e E) (v0 : Value) (G : GS) : Ref (s62 true e v0 G) (s62 false (Ex.of E) v0 G) := by
  unfold s62
  exact Ref.gq
theorem f62 {orc : FuncId → Bool} {e : Ex} (h : ExLe Q e (E orc)) (v0 : Value) (G : GS) : Ref (s62 true e v0 G) ((E orc).cl 62 [v0] G) :=
  fun r hr => cl_sxE_some Q orc (vs := [v0]) G Tryz.func62 (by kernel_rfl) (by kernel_rfl) (by kernel_rfl) (by kernel_rfl) (by kernel_rfl) (by kernel_rfl) (m62 h v0 G r hr)
/-- (*coxswain/claim.seeker[coxswain/claim.taking]).done -/
noncomputable def s63 (q : Bool) (e : Ex) (v0 : Value) (G : GS) : Option (Value × GS) :=
  bP (pNil v0) fun x0 =>
  bP (fa Q q 46 8 24 x0) fun x1 =>
  bP (ld Q q 4 x1 G) fun x2 =>
  bP (un Q q .not x2) fun x3 =>
  bS (gd x3 false (some (v0, G)) G) fun x4 G5 =>
  bS (gd x3 false (bP (pNil x4) fun y => some (y, G5)) G5) fun x6 G7 =>
  bS (gd x3 false (bP (fa Q q 46 2 17 x6) fun y => some (y, G7)) G7) fun x8 G9 =>
  bS (gd x3 false (bP (ld Q q 3 x8 G9) fun y => some (y, G9)) G9) fun x10 G11 =>
  bS (gd x3 false (bP (bn Q q .eql 3 (.tmp 12) (.const (.int .i64 99)) x10 (.int .i64 99)) fun y => some (y, G11)) G11) fun x12 G13 =>
  bP (pickV x3 (.bool true) x12) fun x14 =>
  some (x14, G13)
theorem m63 {e : Ex} {E : Ev} (h : ExLe Q e E) (v0 : Value) (G : GS) : Ref (s63 true e v0 G) (s63 false (Ex.of E) v0 G) := by
  unfold s63
  exact Ref.gq
theorem f63 {orc : FuncId → Bool} {e : Ex} (h : ExLe Q e (E orc)) (v0 : Value) (G : GS) : Ref (s63 true e v0 G) ((E orc).cl 63 [v0] G) :=
  fun r hr => cl_sxE_some Q orc (vs := [v0]) G Tryz.func63 (by kernel_rfl) (by kernel_rfl) (by kernel_rfl) (by kernel_rfl) (by kernel_rfl) (by kernel_rfl) (m63 h v0 G r hr)
/-- (*coxswain/claim.seeker[coxswain/claim.taking]).first -/
noncomputable def s64 (q : Bool) (e : Ex) (v0 v1 : Value) (G : GS) : Option (Value × GS) :=
  bP (pNil v0) fun x0 =>
  bP (fa Q q 46 2 17 x0) fun x1 =>
  bP (ld Q q 3 x1 G) fun x2 =>
  bP (bn Q q .eql 3 (.tmp 9) (.const (.int .i64 1)) x2 (.int .i64 1)) fun x3 =>
  ifV x3 (
  bP (pNil v0) fun x4 =>
  bP (fa Q q 46 7 23 x4) fun x5 =>
  bP (st Q q 41 1 x5 (.int .u64 0) G) fun G6 =>
  bP (pNil v0) fun x7 =>
  bP (fa Q q 46 0 0 x7) fun x8 =>
  bP (lda Q q 31 13 x8 G6) fun x9 =>
  bS (e.ev.cl 69 [x9, (.int .i64 (-1)), (.int .i64 0)] G6) fun x10 G11 =>
  bS (e.ev.cl 177 [v1, x10] G11) fun x12 G13 =>
  bP (pNil v0) fun x14 =>
  bP (fa Q q 46 3 18 x14) fun x15 =>
  bP (st Q q 41 1 x15 x12 G13) fun G16 =>
  bP (pNil v0) fun x17 =>
  bP (fa Q q 46 3 18 x17) fun x18 =>
  bP (ld Q q 41 x18 G16) fun x19 =>
  bS (e.ev.cl 189 [x19] G16) fun x20 G21 =>
  bP (pExtract x20 0) fun x22 =>
  bP (pExtract x20 1) fun x23 =>
  bS (al Q q 274 z274 G21) fun x24 G25 =>
  bP (st Q q 274 2 x24 x22 G25) fun G26 =>
  bP (fa Q q 274 0 0 x24) fun x27 =>
  bP (ld Q q 3 x27 G26) fun x28 =>
  bP (pNil v0) fun x29 =>
  bP (fa Q q 46 4 19 x29) fun x30 =>
  bP (st Q q 3 1 x30 x28 G26) fun G31 =>
  bP (pNil v0) fun x32 =>
  bP (fa Q q 46 2 17 x32) fun x33 =>
  bP (st Q q 3 1 x33 (.int .i64 2) G31) fun G34 =>
  bP (pNil v0) fun x35 =>
  bP (fa Q q 46 4 19 x35) fun x36 =>
  bP (ld Q q 3 x36 (G34.room 20)) fun x37 =>
  bP (bn Q q .lss 3 (.tmp 44) (.const (.int .i64 0)) x37 (.int .i64 0)) fun x38 =>
  bS (gd x38 false (some (v0, (G34.room 20))) (G34.room 20)) fun x39 _ =>
  bS (gd x38 false (bP (pNil x39) fun y => some (y, (G34.room 20))) (G34.room 20)) fun x40 _ =>
  bS (gd x38 false (bP (fa Q q 46 4 19 x40) fun y => some (y, (G34.room 20))) (G34.room 20)) fun x41 _ =>
  bS (gd x38 false (bP (ld Q q 3 x41 (G34.room 20)) fun y => some (y, (G34.room 20))) (G34.room 20)) fun x42 _ =>
  bS (gd x38 false (some (v0, (G34.room 20))) (G34.room 20)) fun x43 _ =>
  bS (gd x38 false (bP (pNil x43) fun y => some (y, (G34.room 20))) (G34.room 20)) fun x44 _ =>
  bS (gd x38 false (bP (fa Q q 46 0 0 x44) fun y => some (y, (G34.room 20))) (G34.room 20)) fun x45 _ =>
  bS (gd x38 false (bP (fa Q q 31 3 3 x45) fun y => some (y, (G34.room 20))) (G34.room 20)) fun x46 _ =>
  bS (gd x38 false (bP (fa Q q 29 0 0 x46) fun y => some (y, (G34.room 20))) (G34.room 20)) fun x47 _ =>
  bS (gd x38 false (bP (fa Q q 25 0 0 x47) fun y => some (y, (G34.room 20))) (G34.room 20)) fun x48 _ =>
  bS (gd x38 false (bP (fa Q q 23 2 2 x48) fun y => some (y, (G34.room 20))) (G34.room 20)) fun x49 _ =>
  bS (gd x38 false (bP (ld Q q 3 x49 (G34.room 20)) fun y => some (y, (G34.room 20))) (G34.room 20)) fun x50 _ =>
  bS (gd x38 false (bP (bn Q q .geq 3 (.tmp 50) (.tmp 58) x42 x50) fun y => some (y, (G34.room 20))) (G34.room 20)) fun x51 _ =>
  bP (pickV x38 (.bool true) x51) fun x52 =>
  ifV x52 (
  bP (pNil v0) fun x53 =>
  bP (fa Q q 46 2 17 x53) fun x54 =>
  bP (st Q q 3 1 x54 (.int .i64 99) (G34.room 20)) fun G55 =>
  bP (pNil v0) fun x56 =>
  bP (fa Q q 46 9 25 x56) fun x57 =>
  bP (st Q q 33 1 x57 (.int .i64 15) G55) fun G58 =>
  some (.tuple #[], G58)) (
  some (.tuple #[], (G34.room 20)))) (
  bP (bn Q q .eql 3 (.tmp 9) (.const (.int .i64 2)) x2 (.int .i64 2)) fun x59 =>
  ifV x59 (
  bS (e.ev.cl 66 [v0, v1, (.int .i64 4)] G) fun x60 G61 =>
  bP (pNil v0) fun x62 =>
  bP (fa Q q 46 5 20 x62) fun x63 =>
  bP (st Q q 42 1 x63 x60 G61) fun G64 =>
  bP (pNil v0) fun x65 =>
  bP (fa Q q 46 2 17 x65) fun x66 =>
  bP (st Q q 3 1 x66 (.int .i64 4) G64) fun G67 =>
  bP (pNil v0) fun x68 =>
  bP (fa Q q 46 5 20 x68) fun x69 =>
  bP (ld Q q 42 x69 G67) fun x70 =>
  bS (e.ev.cl 67 [x70] G67) fun x71 G72 =>
  ifV x71 (
  bP (pNil v0) fun x73 =>
  bP (fa Q q 46 2 17 x73) fun x74 =>
  bP (st Q q 3 1 x74 (.int .i64 3) G72) fun G75 =>
  some (.tuple #[], G75)) (
  some (.tuple #[], G72))) (
  bP (bn Q q .eql 3 (.tmp 9) (.const (.int .i64 3)) x2 (.int .i64 3)) fun x76 =>
  ifV x76 (
  bP (pNil v0) fun x77 =>
  bP (fa Q q 46 7 23 x77) fun x78 =>
  bP (st Q q 41 1 x78 (.int .u64 0) G) fun G79 =>
  bP (pNil v0) fun x80 =>
  bP (fa Q q 46 0 0 x80) fun x81 =>
  bP (lda Q q 31 13 x81 (G79.room 16)) fun x82 =>
  bS (e.ev.cl 69 [x82, (.int .i64 (-1)), (.int .i64 0)] (G79.room 16)) fun x84 G83 =>
  bP (pNil v0) fun x85 =>
  bP (fa Q q 46 3 18 x85) fun x86 =>
  bP (ld Q q 41 x86 G83) fun x87 =>
  chk ((sameO (ld Q q 41 x86 (G79.room 16)) x87 && true)) <|
  bP (pNil v0) fun x88 =>
  bP (fa Q q 46 5 20 x88) fun x89 =>
  bP (ld Q q 42 x89 G83) fun x90 =>
  chk ((sameO (ld Q q 42 x89 (G79.room 16)) x90 && true)) <|
  bS (e.ev.cl 70 [x90, (.bool false)] G83) fun x92 G91 =>
  chk ((sameO (ld Q q 41 x86 G91) x87 && true)) <|
  bS (e.ev.cl 68 [v1, x84, x87, x92] G91) fun x94 G93 =>
  bP (pNil v0) fun x95 =>
  bP (fa Q q 46 2 17 x95) fun x96 =>
  bP (st Q q 3 1 x96 (.int .i64 1) G93) fun G97 =>
  some (.tuple #[], G97)) (
  some (.tuple #[], G))))
theorem m64 {e : Ex} {E : Ev} (h : ExLe Q e E) (v0 v1 : Value) (G : GS) : Ref (s64 true e v0 v1 G) (s64 false (Ex.of E) v0 v1 G) := by
  unfold s64
  exact Ref.gq
set_option maxHeartbeats 8000000 in
theorem f64 {orc : FuncId → Bool} {e : Ex} (h : ExLe Q e (E orc)) (v0 v1 : Value) (G : GS) : Ref (s64 true e v0 v1 G) ((E orc).cl 64 [v0, v1] G) :=
  fun r hr => cl_sxE_some Q orc (vs := [v0, v1]) G Tryz.func64 (by kernel_rfl) (by kernel_rfl) (by kernel_rfl) (by kernel_rfl) (by kernel_rfl) (by kernel_rfl) (m64 h v0 v1 G r hr)
/-- (*coxswain/claim.Claim).mark -/
noncomputable def s65 (q : Bool) (e : Ex) (v0 v1 : Value) (G : GS) : Option (Value × GS) :=
  bP (pNil v0) fun x0 =>
  bP (fa Q q 48 0 0 x0) fun x1 =>
  bP (fa Q q 46 2 17 x1) fun x2 =>
  bP (ld Q q 3 x2 G) fun x3 =>
  bP (bn Q q .eql 3 (.tmp 9) (.const (.int .i64 4)) x3 (.int .i64 4)) fun x4 =>
  ifV x4 (
  bP (pNil v0) fun x5 =>
  bP (fa Q q 48 0 0 x5) fun x6 =>
  bP (fa Q q 46 0 0 x6) fun x7 =>
  bP (fa Q q 31 2 2 x7) fun x8 =>
  bP (ld Q q 3 x8 G) fun x9 =>
  bP (pNil v0) fun x10 =>
  bP (fa Q q 48 0 0 x10) fun x11 =>
  bP (fa Q q 46 1 13 x11) fun x12 =>
  bP (fa Q q 40 0 0 x12) fun x13 =>
  bP (st Q q 3 1 x13 x9 G) fun G14 =>
  bP (pNil v0) fun x15 =>
  bP (fa Q q 48 0 0 x15) fun x16 =>
  bS (e.ev.cl 66 [x16, v1, (.int .i64 2)] G14) fun x17 G18 =>
  bP (pNil v0) fun x19 =>
  bP (fa Q q 48 0 0 x19) fun x20 =>
  bP (fa Q q 46 0 0 x20) fun x21 =>
  bP (fa Q q 31 2 2 x21) fun x22 =>
  bP (ld Q q 3 x22 G18) fun x23 =>
  bP (cv Q q 3 41 .i64 .u64 x23) fun x24 =>
  bP (bn Q q .lss 41 (.tmp 28) (.tmp 35) x17 x24) fun x25 =>
  ifV x25 (
  bP (cv Q q 41 3 .u64 .i64 x17) fun x26 =>
  bP (pNil v0) fun x27 =>
  bP (fa Q q 48 0 0 x27) fun x28 =>
  bP (fa Q q 46 1 13 x28) fun x29 =>
  bP (fa Q q 40 0 0 x29) fun x30 =>
  bP (st Q q 3 1 x30 x26 G18) fun G31 =>
  bS (e.ev.cl 190 [v0] G31) fun x32 G33 =>
  some (.tuple #[], G33)) (
  bS (e.ev.cl 190 [v0] G18) fun x34 G35 =>
  some (.tuple #[], G35))) (
  bP (bn Q q .eql 3 (.tmp 9) (.const (.int .i64 5)) x3 (.int .i64 5)) fun x36 =>
  ifV x36 (
  bP (pNil v0) fun x37 =>
  bP (fa Q q 48 0 0 x37) fun x38 =>
  bP (pNil v0) fun x39 =>
  bP (fa Q q 48 0 0 x39) fun x40 =>
  bP (fa Q q 46 1 13 x40) fun x41 =>
  bP (fa Q q 40 0 0 x41) fun x42 =>
  bP (ld Q q 3 x42 (G.room 17)) fun x43 =>
  bP (bn Q q .add 3 (.const (.int .i64 4)) (.tmp 58) (.int .i64 4) x43) fun x44 =>
  bS (e.ev.cl 66 [x38, v1, x44] (G.room 17)) fun x46 G45 =>
  bP (pNil v0) fun x47 =>
  bP (fa Q q 48 0 0 x47) fun x48 =>
  bP (fa Q q 46 5 20 x48) fun x49 =>
  bP (st Q q 42 1 x49 x46 G45) fun G50 =>
  bP (pNil v0) fun x51 =>
  bP (fa Q q 48 0 0 x51) fun x52 =>
  bP (fa Q q 46 2 17 x52) fun x53 =>
  bP (st Q q 3 1 x53 (.int .i64 6) G50) fun G54 =>
  bP (pNil v0) fun x55 =>
  bP (fa Q q 48 0 0 x55) fun x56 =>
  bP (fa Q q 46 5 20 x56) fun x57 =>
  bP (ld Q q 42 x57 G54) fun x58 =>
  bS (e.ev.cl 67 [x58] G54) fun x59 G60 =>
  ifV x59 (
  bS (e.ev.cl 190 [v0] G60) fun x61 G62 =>
  some (.tuple #[], G62)) (
  some (.tuple #[], G60))) (
  bP (bn Q q .eql 3 (.tmp 9) (.const (.int .i64 6)) x3 (.int .i64 6)) fun x63 =>
  ifV x63 (
  bP (pNil v0) fun x64 =>
  bP (fa Q q 48 0 0 x64) fun x65 =>
  bP (fa Q q 46 3 18 x65) fun x66 =>
  bP (ld Q q 41 x66 G) fun x67 =>
  bP (pNil v0) fun x68 =>
  bP (fa Q q 48 0 0 x68) fun x69 =>
  bP (fa Q q 46 7 23 x69) fun x70 =>
  bP (st Q q 41 1 x70 x67 G) fun G71 =>
  bP (pNil v0) fun x72 =>
  bP (fa Q q 48 0 0 x72) fun x73 =>
  bP (fa Q q 46 2 17 x73) fun x74 =>
  bP (st Q q 3 1 x74 (.int .i64 5) G71) fun G75 =>
  bP (pNil v0) fun x76 =>
  bP (fa Q q 48 0 0 x76) fun x77 =>
  bP (fa Q q 46 0 0 x77) fun x78 =>
  bP (lda Q q 31 13 x78 (G75.room 30)) fun x79 =>
  bP (pNil v0) fun x80 =>
  bP (fa Q q 48 0 0 x80) fun x81 =>
  bP (fa Q q 46 4 19 x81) fun x82 =>
  bP (ld Q q 3 x82 (G75.room 30)) fun x83 =>
  bP (pNil v0) fun x84 =>
  bP (fa Q q 48 0 0 x84) fun x85 =>
  bP (fa Q q 46 1 13 x85) fun x86 =>
  bP (fa Q q 40 0 0 x86) fun x87 =>
  bP (ld Q q 3 x87 (G75.room 30)) fun x88 =>
  bS (e.ev.cl 69 [x79, x83, x88] (G75.room 30)) fun x90 G89 =>
  bP (pNil v0) fun x91 =>
  bP (fa Q q 48 0 0 x91) fun x92 =>
  bP (fa Q q 46 5 20 x92) fun x93 =>
  bP (ld Q q 42 x93 G89) fun x94 =>
  chk ((sameO (ld Q q 42 x93 (G75.room 30)) x94 && true)) <|
  bP (pNil v0) fun x95 =>
  bP (fa Q q 48 0 0 x95) fun x96 =>
  bP (fa Q q 46 5 20 x96) fun x97 =>
  bP (ld Q q 42 x97 G89) fun x98 =>
  chk ((sameO (ld Q q 42 x97 (G75.room 30)) x98 && true)) <|
  bS (e.ev.cl 70 [x98, (.bool true)] G89) fun x100 G99 =>
  chk ((sameO (ld Q q 42 x93 G99) x94 && true)) <|
  bS (e.ev.cl 68 [v1, x90, x94, x100] G99) fun x102 G101 =>
  ifV x102 (
  bS (e.ev.cl 190 [v0] G101) fun x103 G104 =>
  some (.tuple #[], G104)) (
  some (.tuple #[], G101))) (
  some (.tuple #[], G))))
theorem m65 {e : Ex} {E : Ev} (h : ExLe Q e E) (v0 v1 : Value) (G : GS) : Ref (s65 true e v0 v1 G) (s65 false (Ex.of E) v0 v1 G) := by
  unfold s65
  exact Ref.gq
set_option maxHeartbeats 8000000 in
theorem f65 {orc : FuncId → Bool} {e : Ex} (h : ExLe Q e (E orc)) (v0 v1 : Value) (G : GS) : Ref (s65 true e v0 v1 G) ((E orc).cl 65 [v0, v1] G) :=
  fun r hr => cl_sxE_some Q orc (vs := [v0, v1]) G Tryz.func65 (by kernel_rfl) (by kernel_rfl) (by kernel_rfl) (by kernel_rfl) (by kernel_rfl) (by kernel_rfl) (m65 h v0 v1 G r hr)
/-- (*coxswain/claim.seeker[coxswain/claim.taking]).load -/
noncomputable def s66 (q : Bool) (e : Ex) (v0 v1 v2 : Value) (G : GS) : Option (Value × GS) :=
  bP (pNil v0) fun x0 =>
  bP (fa Q q 46 3 18 x0) fun x1 =>
  bP (ld Q q 41 x1 G) fun x2 =>
  bP (pNil v0) fun x3 =>
  bP (fa Q q 46 7 23 x3) fun x4 =>
  bP (st Q q 41 1 x4 x2 G) fun G5 =>
  bP (pNil v0) fun x6 =>
  bP (fa Q q 46 0 0 x6) fun x7 =>
  bP (lda Q q 31 13 x7 (G5.room 13)) fun x8 =>
  bP (pNil v0) fun x9 =>
  bP (fa Q q 46 4 19 x9) fun x10 =>
  bP (ld Q q 3 x10 (G5.room 13)) fun x11 =>
  bS (e.ev.cl 191 [x8, x11, v2] (G5.room 13)) fun x13 G12 =>
  bS (e.ev.cl 177 [v1, x13] G12) fun x15 G14 =>
  some (x15, G14)
theorem m66 {e : Ex} {E : Ev} (h : ExLe Q e E) (v0 v1 v2 : Value) (G : GS) : Ref (s66 true e v0 v1 v2 G) (s66 false (Ex.of E) v0 v1 v2 G) := by
  unfold s66
  exact Ref.gq
theorem f66 {orc : FuncId → Bool} {e : Ex} (h : ExLe Q e (E orc)) (v0 v1 v2 : Value) (G : GS) : Ref (s66 true e v0 v1 v2 G) ((E orc).cl 66 [v0, v1, v2] G) :=
  fun r hr => cl_sxE_some Q orc (vs := [v0, v1, v2]) G Tryz.func66 (by kernel_rfl) (by kernel_rfl) (by kernel_rfl) (by kernel_rfl) (by kernel_rfl) (by kernel_rfl) (m66 h v0 v1 v2 G r hr)
/-- (coxswain/claim.link).marked -/
noncomputable def s67 (q : Bool) (e : Ex) (v0 : Value) (G : GS) : Option (Value × GS) :=
  bS (e.ev.cl 192 [v0] G) fun x0 G1 =>
  some (x0, G1)
theorem m67 {e : Ex} {E : Ev} (h : ExLe Q e E) (v0 : Value) (G : GS) : Ref (s67 true e v0 G) (s67 false (Ex.of E) v0 G) := by
  unfold s67
  exact Ref.gq
theorem f67 {orc : FuncId → Bool} {e : Ex} (h : ExLe Q e (E orc)) (v0 : Value) (G : GS) : Ref (s67 true e v0 G) ((E orc).cl 67 [v0] G) :=
  fun r hr => cl_sxE_some Q orc (vs := [v0]) G Tryz.func67 (by kernel_rfl) (by kernel_rfl) (by kernel_rfl) (by kernel_rfl) (by kernel_rfl) (by kernel_rfl) (m67 h v0 G r hr)
/-- (*coxswain/cells.Mem).CAS -/
noncomputable def s68 (q : Bool) (e : Ex) (v0 v1 v2 v3 : Value) (G : GS) : Option (Value × GS) :=
  bS (e.ev.cl 158 [v0, v1] G) fun x0 G1 =>
  bP (bd Q q 246 z246 [(0, 0, 1), (1, 1, 1), (2, 2, 1)] [x0, v2, v3]) fun x2 =>
  bS (al Q q 246 z246 G1) fun x3 G4 =>
  bP (st Q q 246 3 x3 x2 G4) fun G5 =>
  bP (fa Q q 246 0 0 x3) fun x6 =>
  bP (ld Q q 243 x6 G5) fun x7 =>
  bP (lda Q q 246 3 x3 G5) fun x8 =>
  bS (e.ev.cl 159 [v0, (.int .i64 3), v1, x7, (.func (.func 193) #[x8] #[])] G5) fun x9 G10 =>
  bP (fd Q q 68 4 4 x9) fun x11 =>
  some (x11, G10)
theorem m68 {e : Ex} {E : Ev} (h : ExLe Q e E) (v0 v1 v2 v3 : Value) (G : GS) : Ref (s68 true e v0 v1 v2 v3 G) (s68 false (Ex.of E) v0 v1 v2 v3 G) := by
  unfold s68
  exact Ref.gq
theorem f68 {orc : FuncId → Bool} {e : Ex} (h : ExLe Q e (E orc)) (v0 v1 v2 v3 : Value) (G : GS) : Ref (s68 true e v0 v1 v2 v3 G) ((E orc).cl 68 [v0, v1, v2, v3] G) :=
  fun r hr => cl_sxE_some Q orc (vs := [v0, v1, v2, v3]) G Tryz.func68 (by kernel_rfl) (by kernel_rfl) (by kernel_rfl) (by kernel_rfl) (by kernel_rfl) (by kernel_rfl) (m68 h v0 v1 v2 v3 G r hr)
/-- coxswain/tower.Next -/
noncomputable def s69 (q : Bool) (e : Ex) (v0 v1 v2 : Value) (G : GS) : Option (Value × GS) :=
  bS (bx q v0 G) fun x0 G1 =>
  bP (bn Q q .lss 3 (.tmp 7) (.const (.int .i64 0)) v2 (.int .i64 0)) fun x2 =>
  bS (gd x2 false (some (v2, G1)) G1) fun x3 G4 =>
  bS (gd x2 false (bP (bn Q q .geq 3 (.tmp 10) (.const (.int .i64 4)) x3 (.int .i64 4)) fun y => some (y, G4)) G4) fun x5 G6 =>
  bP (pickV x2 (.bool true) x5) fun x7 =>
  ifV x7 (
  some ((.int .i64 (-1)), G6)) (
  bP (lda Q q 31 13 x0 G6) fun x8 =>
  bP (bn Q q .add 3 (.const (.int .i64 4)) (.tmp 15) (.int .i64 4) v2) fun x9 =>
  bS (e.ev.cl 191 [x8, v1, x9] G6) fun x10 G11 =>
  some (x10, G11))
theorem m69 {e : Ex} {E : Ev} (h : ExLe Q e E) (v0 v1 v2 : Value) (G : GS) : Ref (s69 true e v0 v1 v2 G) (s69 false (Ex.of E) v0 v1 v2 G) := by
  unfold s69
  exact Ref.gq
theorem f69 {orc : FuncId → Bool} {e : Ex} (h : ExLe Q e (E orc)) (v0 v1 v2 : Value) (G : GS) : Ref (s69 true e v0 v1 v2 G) ((E orc).cl 69 [v0, v1, v2] G) :=
  fun r hr => cl_sxE_some Q orc (vs := [v0, v1, v2]) G Tryz.func69 (by kernel_rfl) (by kernel_rfl) (by kernel_rfl) (by kernel_rfl) (by kernel_rfl) (by kernel_rfl) (m69 h v0 v1 v2 G r hr)
/-- (coxswain/claim.link).marks -/
noncomputable def s70 (q : Bool) (e : Ex) (v0 v1 : Value) (G : GS) : Option (Value × GS) :=
  bS (e.ev.cl 194 [v0, v1] G) fun x0 G1 =>
  some (x0, G1)
theorem m70 {e : Ex} {E : Ev} (h : ExLe Q e E) (v0 v1 : Value) (G : GS) : Ref (s70 true e v0 v1 G) (s70 false (Ex.of E) v0 v1 G) := by
  unfold s70
  exact Ref.gq
theorem f70 {orc : FuncId → Bool} {e : Ex} (h : ExLe Q e (E orc)) (v0 v1 : Value) (G : GS) : Ref (s70 true e v0 v1 G) ((E orc).cl 70 [v0, v1] G) :=
  fun r hr => cl_sxE_some Q orc (vs := [v0, v1]) G Tryz.func70 (by kernel_rfl) (by kernel_rfl) (by kernel_rfl) (by kernel_rfl) (by kernel_rfl) (by kernel_rfl) (m70 h v0 v1 G r hr)
/-- (*coxswain/claim.seeker[coxswain/claim.taking]).job -/
noncomputable def s71 (q : Bool) (e : Ex) (v0 v1 : Value) (G : GS) : Option (Value × GS) :=
  bS (e.ev.cl 66 [v0, v1, (.int .i64 1)] G) fun x0 G1 =>
  bP (bn Q q .and 41 (.tmp 7) (.const (.int .u64 65535)) x0 (.int .u64 65535)) fun x2 =>
  bP (cv Q q 41 3 .u64 .i64 x2) fun x3 =>
  bP (pNil v0) fun x4 =>
  bP (fa Q q 46 6 21 x4) fun x5 =>
  bP (fa Q q 44 1 1 x5) fun x6 =>
  bP (st Q q 3 1 x6 x3 G1) fun G7 =>
  some (.tuple #[], G7)
theorem m71 {e : Ex} {E : Ev} (h : ExLe Q e E) (v0 v1 : Value) (G : GS) : Ref (s71 true e v0 v1 G) (s71 false (Ex.of E) v0 v1 G) := by
  unfold s71
  exact Ref.gq
theorem f71 {orc : FuncId → Bool} {e : Ex} (h : ExLe Q e (E orc)) (v0 v1 : Value) (G : GS) : Ref (s71 true e v0 v1 G) ((E orc).cl 71 [v0, v1] G) :=
  fun r hr => cl_sxE_some Q orc (vs := [v0, v1]) G Tryz.func71 (by kernel_rfl) (by kernel_rfl) (by kernel_rfl) (by kernel_rfl) (by kernel_rfl) (by kernel_rfl) (m71 h v0 v1 G r hr)
/-- coxswain/find.NewFind -/
noncomputable def s72 (q : Bool) (e : Ex) (v0 v1 : Value) (G : GS) : Option (Value × GS) :=
  bS (bx q v0 G) fun x0 G1 =>
  bP (lda Q q 31 13 x0 G1) fun x2 =>
  bP (bd Q q 283 z283 [(0, 0, 13), (1, 13, 1), (7, 22, 1)] [x2, v1, (.bool true)]) fun x3 =>
  bS (bx q x3 G1) fun x4 G5 =>
  bP (lda Q q 31 13 x0 G5) fun x6 =>
  bS (e.ev.cl 69 [x6, (.int .i64 (-1)), (.int .i64 0)] G5) fun x7 G8 =>
  bP (bn Q q .lss 3 (.tmp 11) (.const (.int .i64 0)) x7 (.int .i64 0)) fun x9 =>
  ifV x9 (
  bP (pNil x4) fun x10 =>
  bP (fa Q q 283 2 14 x10) fun x11 =>
  bP (st Q q 3 1 x11 (.int .i64 9) G8) fun G12 =>
  bP (pNil x4) fun x13 =>
  bP (fa Q q 283 8 23 x13) fun x14 =>
  bP (st Q q 33 1 x14 (.int .i64 2) G12) fun G15 =>
  some (x4, G15)) (
  bP (fa Q q 31 2 2 x0) fun x16 =>
  bP (ld Q q 3 x16 G8) fun x17 =>
  bS (mk Q q 281 4 32 z280 x17 x17 G8) fun x18 G19 =>
  bP (pNil x4) fun x20 =>
  bP (fa Q q 283 5 20 x20) fun x21 =>
  bP (st Q q 281 1 x21 x18 G19) fun G22 =>
  bS (e.ev.cl 195 [x4] G22) fun x23 G24 =>
  some (x4, G24))
theorem m72 {e : Ex} {E : Ev} (h : ExLe Q e E) (v0 v1 : Value) (G : GS) : Ref (s72 true e v0 v1 G) (s72 false (Ex.of E) v0 v1 G) := by
  unfold s72
  exact Ref.gq
theorem f72 {orc : FuncId → Bool} {e : Ex} (h : ExLe Q e (E orc)) (v0 v1 : Value) (G : GS) : Ref (s72 true e v0 v1 G) ((E orc).cl 72 [v0, v1] G) :=
  fun r hr => cl_sxE_some Q orc (vs := [v0, v1]) G Tryz.func72 (by kernel_rfl) (by kernel_rfl) (by kernel_rfl) (by kernel_rfl) (by kernel_rfl) (by kernel_rfl) (m72 h v0 v1 G r hr)
noncomputable def jb73_0 (q : Bool) (e : Ex) (τ : Env) (G : GS) : Option (Value × GS) :=
  bV q (τ 0) fun a0_ =>
  bP (pNil a0_) fun x5 =>
  bP (fa Q q 48 0 0 x5) fun x6 =>
  bP (fa Q q 46 1 13 x6) fun x7 =>
  bP (fa Q q 40 2 2 x7) fun x8 =>
  bP (ld Q q 37 x8 G) fun x9 =>
  bS (e.ev.cl 197 [x9] G) fun x10 G11 =>
  bP (pNil a0_) fun x12 =>
  bP (fa Q q 48 0 0 x12) fun x13 =>
  bP (fa Q q 46 7 23 x13) fun x14 =>
  bP (st Q q 41 1 x14 x10 G11) fun G15 =>
  some (.tuple #[], G15)
noncomputable def j73_0 (q : Bool) (e : Ex) (τ : Env) (G : GS) : Option (Value × GS) := jb73_0 q e τ G
theorem mj73_0 {e : Ex} {E : Ev} (h : ExLe Q e E) (τ : Env) (G : GS) : Ref (j73_0 true e τ G) (j73_0 false (Ex.of E) τ G) := by
  unfold j73_0 jb73_0
  exact Ref.gq
theorem mkj73_0 {e : Ex} {E : Ev} (h : ExLe Q e E) {τ : Env} {l U : List (Nat × Value)} {G : GS} (hU : UOk τ U) : Ref (j73_0 true e (xq true 102 τ l U) G) (j73_0 false (Ex.of E) (xq false 102 τ l U) G) := by
  rw [xq_eq hU]
  exact mj73_0 h _ _
noncomputable def sb73 (q : Bool) (e : Ex) (J0 : Env → GS → Option (Value × GS)) (v0 v1 : Value) (G : GS) : Option (Value × GS) :=
  bP (pNil v0) fun x0 =>
  bP (fa Q q 48 0 0 x0) fun x1 =>
  bP (fa Q q 46 2 17 x1) fun x2 =>
  bP (ld Q q 3 x2 G) fun x3 =>
  bP (bn Q q .eql 3 (.tmp 8) (.const (.int .i64 10)) x3 (.int .i64 10)) fun x4 =>
  ifV x4 (
  bP (pNil v0) fun x16 =>
  bP (fa Q q 48 0 0 x16) fun x17 =>
  bP (fa Q q 46 1 13 x17) fun x18 =>
  bP (fa Q q 40 2 2 x18) fun x19 =>
  bP (ld Q q 37 x19 G) fun x20 =>
  bS (e.ev.cl 196 [x20, v1] G) fun x21 G22 =>
  ifV x21 (
  bP (pNil v0) fun x23 =>
  bP (fa Q q 48 0 0 x23) fun x24 =>
  bP (fa Q q 46 2 17 x24) fun x25 =>
  bP (st Q q 3 1 x25 (.int .i64 11) G22) fun G26 =>
  J0 (xq q 102 (nth undef [v0, v1]) [(22, x25), (21, x24), (20, x23), (19, v0), (18, x21), (17, v1), (16, x20), (15, x19), (14, x18), (13, x17), (12, x16), (11, v0), (9, x4), (10, x4), (8, x3), (7, x2), (6, x1), (5, x0), (4, v0)] []) G26) (
  J0 (xq q 102 (nth undef [v0, v1]) [(18, x21), (17, v1), (16, x20), (15, x19), (14, x18), (13, x17), (12, x16), (11, v0), (9, x4), (10, x4), (8, x3), (7, x2), (6, x1), (5, x0), (4, v0)] []) G22)) (
  bP (bn Q q .eql 3 (.tmp 8) (.const (.int .i64 11)) x3 (.int .i64 11)) fun x27 =>
  ifV x27 (
  bP (pNil v0) fun x28 =>
  bP (fa Q q 48 0 0 x28) fun x29 =>
  bP (fa Q q 46 3 18 x29) fun x30 =>
  bP (ld Q q 41 x30 G) fun x31 =>
  bP (pNil v0) fun x32 =>
  bP (fa Q q 48 0 0 x32) fun x33 =>
  bP (fa Q q 46 7 23 x33) fun x34 =>
  bP (st Q q 41 1 x34 x31 G) fun G35 =>
  bP (pNil v0) fun x36 =>
  bP (fa Q q 48 0 0 x36) fun x37 =>
  bP (fa Q q 46 2 17 x37) fun x38 =>
  bP (st Q q 3 1 x38 (.int .i64 99) G35) fun G39 =>
  bP (pNil v0) fun x40 =>
  bP (fa Q q 48 0 0 x40) fun x41 =>
  bP (fa Q q 46 0 0 x41) fun x42 =>
  bP (lda Q q 31 13 x42 (G39.room 14)) fun x43 =>
  bP (pNil v0) fun x44 =>
  bP (fa Q q 48 0 0 x44) fun x45 =>
  bP (fa Q q 46 4 19 x45) fun x46 =>
  bP (ld Q q 3 x46 (G39.room 14)) fun x47 =>
  bS (e.ev.cl 191 [x43, x47, (.int .i64 3)] (G39.room 14)) fun x49 G48 =>
  bS (e.ev.cl 198 [v1, x49, (.int .u64 18446744073709551615)] G48) fun x51 G50 =>
  bP (bn Q q .eql 41 (.tmp 61) (.const (.int .u64 0)) x51 (.int .u64 0)) fun x52 =>
  ifV x52 (
  bP (pNil v0) fun x53 =>
  bP (fa Q q 48 0 0 x53) fun x54 =>
  bP (fa Q q 46 0 0 x54) fun x55 =>
  bP (fa Q q 31 3 3 x55) fun x56 =>
  bP (lda Q q 29 10 x56 (G50.room 23)) fun x57 =>
  bP (pNil v0) fun x58 =>
  bP (fa Q q 48 0 0 x58) fun x59 =>
  bP (fa Q q 46 4 19 x59) fun x60 =>
  bP (ld Q q 3 x60 (G50.room 23)) fun x61 =>
  bS (e.ev.cl 199 [x57, x61] (G50.room 23)) fun x63 G62 =>
  bP (pNil v0) fun x64 =>
  bP (fa Q q 48 0 0 x64) fun x65 =>
  bP (fa Q q 46 1 13 x65) fun x66 =>
  bP (fa Q q 40 3 3 x66) fun x67 =>
  bP (st Q q 38 1 x67 x63 G62) fun G68 =>
  bP (pNil v0) fun x69 =>
  bP (fa Q q 48 0 0 x69) fun x70 =>
  bP (fa Q q 46 2 17 x70) fun x71 =>
  bP (st Q q 3 1 x71 (.int .i64 12) G68) fun G72 =>
  some (.tuple #[], G72)) (
  some (.tuple #[], G50))) (
  bP (bn Q q .eql 3 (.tmp 8) (.const (.int .i64 12)) x3 (.int .i64 12)) fun x73 =>
  ifV x73 (
  bP (pNil v0) fun x74 =>
  bP (fa Q q 48 0 0 x74) fun x75 =>
  bP (fa Q q 46 7 23 x75) fun x76 =>
  bP (st Q q 41 1 x76 (.int .u64 0) G) fun G77 =>
  bP (pNil v0) fun x78 =>
  bP (fa Q q 48 0 0 x78) fun x79 =>
  bP (fa Q q 46 1 13 x79) fun x80 =>
  bP (fa Q q 40 3 3 x80) fun x81 =>
  bP (ld Q q 38 x81 G77) fun x82 =>
  bS (e.ev.cl 200 [x82, v1] G77) fun x83 G84 =>
  ifV x83 (
  bP (pNil v0) fun x85 =>
  bP (fa Q q 48 0 0 x85) fun x86 =>
  bP (fa Q q 46 2 17 x86) fun x87 =>
  bP (st Q q 3 1 x87 (.int .i64 99) G84) fun G88 =>
  some (.tuple #[], G88)) (
  some (.tuple #[], G84))) (
  some (.tuple #[], G))))
/-- (*coxswain/claim.Claim).leave -/
noncomputable def s73 (q : Bool) (e : Ex) (v0 v1 : Value) (G : GS) : Option (Value × GS) := sb73 q e (j73_0 q e) v0 v1 G
theorem m73 {e : Ex} {E : Ev} (h : ExLe Q e E) (v0 v1 : Value) (G : GS) : Ref (s73 true e v0 v1 G) (s73 false (Ex.of E) v0 v1 G) := by
  unfold s73 sb73
  repeat' (with_reducible first | exact Ref.rfl' _ | exact ROp.r | refine Ref.bP ?_ fun _ => ?_ | refine Ref.bS ?_ fun _ _ => ?_ | exact Ref.cl (by assumption) | refine Ref.ifV ?_ ?_ | refine LpLe.rx (by assumption) ?_ | refine Ref.xitq ?_ | exact UOk.z | refine UOk.c (by assumption) ?_ | exact Ref.nil _ | refine Ref.bVe fun _ _ => ?_ | refine Ref.bLq (by assumption) ?_ fun _ _ _ => ?_ | refine Ref.ifE ?_ ?_ | refine Ref.chk ?_ ?_ | refine Imp.and ?_ ?_ | refine Imp.or ?_ | exact Imp.rfl' _ | refine Imp.sameO ?_ | refine Ref.gd ?_ | exact Ref.cValue (by assumption) | refine Ref.bX ?_ fun _ _ _ => ?_ | exact Ref.scQ (by assumption) | exact Ref.xRangeQ (by assumption) | exact Ref.cInvoke (by assumption) | refine mkj73_0 (by assumption) ?_)
noncomputable def jt73 (J0 : Env → GS → Option (Value × GS)) : JT (Value × GS) :=
  (.n none .e (.n none (.n none .e (.n none (.n (some (fun T G => J0 (nth undef T) G)) .e .e) .e)) .e))
set_option maxHeartbeats 8000000 in
theorem jr73_0 (orc : FuncId → Bool) (J0 : Env → GS → Option (Value × GS)) (T : List Value) (G : GS) : runC Q (evL Q orc) Tryz.f73.ntmps (jt73 J0) (bodyOf Tryz.f73) (retE Q Tryz.f73.results.toList) [true, false, true, false] (nth undef T) G = jb73_0 false (Ex.of (E orc))  (nth undef T) G := by kernel_rfl
set_option maxHeartbeats 8000000 in
theorem jo73 (orc : FuncId → Bool) : JOk Q orc Tryz.f73.ntmps (jt73 (j73_0 false (Ex.of (E orc))) ) (bodyOf Tryz.f73) (retE Q Tryz.f73.results.toList) :=
  jOk Q orc (l := [([true, false, true, false], (fun T G => j73_0 false (Ex.of (E orc)) (nth undef T) G))]) (by kernel_rfl) (AllE.c (fun T G => jr73_0 orc (j73_0 false (Ex.of (E orc))) T G) (AllE.z))
set_option maxHeartbeats 8000000 in
theorem je73 (orc : FuncId → Bool) (J0 : Env → GS → Option (Value × GS)) (v0 v1 : Value) (G : GS) : sxC Q (evL Q orc) Tryz.f73.ntmps (jt73 J0) (bodyOf Tryz.f73) (nth undef [v0, v1]) G (retE Q Tryz.f73.results.toList) = sb73 false (Ex.of (E orc)) J0 v0 v1 G := by kernel_rfl
set_option maxHeartbeats 8000000 in
theorem f73 {orc : FuncId → Bool} {e : Ex} (h : ExLe Q e (E orc)) (v0 v1 : Value) (G : GS) : Ref (s73 true e v0 v1 G) ((E orc).cl 73 [v0, v1] G) :=
  fun r hr => cl_sxC Q orc (vs := [v0, v1]) G (jt73 (j73_0 false (Ex.of (E orc))) ) Tryz.func73 (by kernel_rfl) (by kernel_rfl) (by kernel_rfl) (by kernel_rfl) (by kernel_rfl) (jo73 orc) (je73 orc (j73_0 false (Ex.of (E orc))) v0 v1 G) (m73 h v0 v1 G r hr)
/-- (*coxswain/claim.seeker[struct{}]).done -/
noncomputable def s74 (q : Bool) (e : Ex) (v0 : Value) (G : GS) : Option (Value × GS) :=
  bP (pNil v0) fun x0 =>
  bP (fa Q q 53 8 20 x0) fun x1 =>
  bP (ld Q q 4 x1 G) fun x2 =>
  bP (un Q q .not x2) fun x3 =>
  bS (gd x3 false (some (v0, G)) G) fun x4 G5 =>
  bS (gd x3 false (bP (pNil x4) fun y => some (y, G5)) G5) fun x6 G7 =>
  bS (gd x3 false (bP (fa Q q 53 2 13 x6) fun y => some (y, G7)) G7) fun x8 G9 =>
  bS (gd x3 false (bP (ld Q q 3 x8 G9) fun y => some (y, G9)) G9) fun x10 G11 =>
  bS (gd x3 false (bP (bn Q q .eql 3 (.tmp 12) (.const (.int .i64 99)) x10 (.int .i64 99)) fun y => some (y, G11)) G11) fun x12 G13 =>
  bP (pickV x3 (.bool true) x12) fun x14 =>
  some (x14, G13)
theorem m74 {e : Ex} {E : Ev} (h : ExLe Q e E) (v0 : Value) (G : GS) : Ref (s74 true e v0 G) (s74 false (Ex.of E) v0 G) := by
  unfold s74
  exact Ref.gq
theorem f74 {orc : FuncId → Bool} {e : Ex} (h : ExLe Q e (E orc)) (v0 : Value) (G : GS) : Ref (s74 true e v0 G) ((E orc).cl 74 [v0] G) :=
  fun r hr => cl_sxE_some Q orc (vs := [v0]) G Tryz.func74 (by kernel_rfl) (by kernel_rfl) (by kernel_rfl) (by kernel_rfl) (by kernel_rfl) (by kernel_rfl) (m74 h v0 G r hr)
/-- (*coxswain/claim.seeker[struct{}]).first -/
noncomputable def s75 (q : Bool) (e : Ex) (v0 v1 : Value) (G : GS) : Option (Value × GS) :=
  bP (pNil v0) fun x0 =>
  bP (fa Q q 53 2 13 x0) fun x1 =>
  bP (ld Q q 3 x1 G) fun x2 =>
  bP (bn Q q .eql 3 (.tmp 9) (.const (.int .i64 1)) x2 (.int .i64 1)) fun x3 =>
  ifV x3 (
  bP (pNil v0) fun x4 =>
  bP (fa Q q 53 7 19 x4) fun x5 =>
  bP (st Q q 41 1 x5 (.int .u64 0) G) fun G6 =>
  bP (pNil v0) fun x7 =>
  bP (fa Q q 53 0 0 x7) fun x8 =>
  bP (lda Q q 31 13 x8 G6) fun x9 =>
  bS (e.ev.cl 69 [x9, (.int .i64 (-1)), (.int .i64 0)] G6) fun x10 G11 =>
  bS (e.ev.cl 177 [v1, x10] G11) fun x12 G13 =>
  bP (pNil v0) fun x14 =>
  bP (fa Q q 53 3 14 x14) fun x15 =>
  bP (st Q q 41 1 x15 x12 G13) fun G16 =>
  bP (pNil v0) fun x17 =>
  bP (fa Q q 53 3 14 x17) fun x18 =>
  bP (ld Q q 41 x18 G16) fun x19 =>
  bS (e.ev.cl 189 [x19] G16) fun x20 G21 =>
  bP (pExtract x20 0) fun x22 =>
  bP (pExtract x20 1) fun x23 =>
  bS (al Q q 274 z274 G21) fun x24 G25 =>
  bP (st Q q 274 2 x24 x22 G25) fun G26 =>
  bP (fa Q q 274 0 0 x24) fun x27 =>
  bP (ld Q q 3 x27 G26) fun x28 =>
  bP (pNil v0) fun x29 =>
  bP (fa Q q 53 4 15 x29) fun x30 =>
  bP (st Q q 3 1 x30 x28 G26) fun G31 =>
  bP (pNil v0) fun x32 =>
  bP (fa Q q 53 2 13 x32) fun x33 =>
  bP (st Q q 3 1 x33 (.int .i64 2) G31) fun G34 =>
  bP (pNil v0) fun x35 =>
  bP (fa Q q 53 4 15 x35) fun x36 =>
  bP (ld Q q 3 x36 (G34.room 20)) fun x37 =>
  bP (bn Q q .lss 3 (.tmp 44) (.const (.int .i64 0)) x37 (.int .i64 0)) fun x38 =>
  bS (gd x38 false (some (v0, (G34.room 20))) (G34.room 20)) fun x39 _ =>
  bS (gd x38 false (bP (pNil x39) fun y => some (y, (G34.room 20))) (G34.room 20)) fun x40 _ =>
  bS (gd x38 false (bP (fa Q q 53 4 15 x40) fun y => some (y, (G34.room 20))) (G34.room 20)) fun x41 _ =>
  bS (gd x38 false (bP (ld Q q 3 x41 (G34.room 20)) fun y => some (y, (G34.room 20))) (G34.room 20)) fun x42 _ =>
  bS (gd x38 false (some (v0, (G34.room 20))) (G34.room 20)) fun x43 _ =>
  bS (gd x38 false (bP (pNil x43) fun y => some (y, (G34.room 20))) (G34.room 20)) fun x44 _ =>
  bS (gd x38 false (bP (fa Q q 53 0 0 x44) fun y => some (y, (G34.room 20))) (G34.room 20)) fun x45 _ =>
  bS (gd x38 false (bP (fa Q q 31 3 3 x45) fun y => some (y, (G34.room 20))) (G34.room 20)) fun x46 _ =>
  bS (gd x38 false (bP (fa Q q 29 0 0 x46) fun y => some (y, (G34.room 20))) (G34.room 20)) fun x47 _ =>
  bS (gd x38 false (bP (fa Q q 25 0 0 x47) fun y => some (y, (G34.room 20))) (G34.room 20)) fun x48 _ =>
  bS (gd x38 false (bP (fa Q q 23 2 2 x48) fun y => some (y, (G34.room 20))) (G34.room 20)) fun x49 _ =>
  bS (gd x38 false (bP (ld Q q 3 x49 (G34.room 20)) fun y => some (y, (G34.room 20))) (G34.room 20)) fun x50 _ =>
  bS (gd x38 false (bP (bn Q q .geq 3 (.tmp 50) (.tmp 58) x42 x50) fun y => some (y, (G34.room 20))) (G34.room 20)) fun x51 _ =>
  bP (pickV x38 (.bool true) x51) fun x52 =>
  ifV x52 (
  bP (pNil v0) fun x53 =>
  bP (fa Q q 53 2 13 x53) fun x54 =>
  bP (st Q q 3 1 x54 (.int .i64 99) (G34.room 20)) fun G55 =>
  bP (pNil v0) fun x56 =>
  bP (fa Q q 53 9 21 x56) fun x57 =>
  bP (st Q q 33 1 x57 (.int .i64 15) G55) fun G58 =>
  some (.tuple #[], G58)) (
  some (.tuple #[], (G34.room 20)))) (
  bP (bn Q q .eql 3 (.tmp 9) (.const (.int .i64 2)) x2 (.int .i64 2)) fun x59 =>
  ifV x59 (
  bS (e.ev.cl 76 [v0, v1, (.int .i64 4)] G) fun x60 G61 =>
  bP (pNil v0) fun x62 =>
  bP (fa Q q 53 5 16 x62) fun x63 =>
  bP (st Q q 42 1 x63 x60 G61) fun G64 =>
  bP (pNil v0) fun x65 =>
  bP (fa Q q 53 2 13 x65) fun x66 =>
  bP (st Q q 3 1 x66 (.int .i64 4) G64) fun G67 =>
  bP (pNil v0) fun x68 =>
  bP (fa Q q 53 5 16 x68) fun x69 =>
  bP (ld Q q 42 x69 G67) fun x70 =>
  bS (e.ev.cl 67 [x70] G67) fun x71 G72 =>
  ifV x71 (
  bP (pNil v0) fun x73 =>
  bP (fa Q q 53 2 13 x73) fun x74 =>
  bP (st Q q 3 1 x74 (.int .i64 3) G72) fun G75 =>
  some (.tuple #[], G75)) (
  some (.tuple #[], G72))) (
  bP (bn Q q .eql 3 (.tmp 9) (.const (.int .i64 3)) x2 (.int .i64 3)) fun x76 =>
  ifV x76 (
  bP (pNil v0) fun x77 =>
  bP (fa Q q 53 7 19 x77) fun x78 =>
  bP (st Q q 41 1 x78 (.int .u64 0) G) fun G79 =>
  bP (pNil v0) fun x80 =>
  bP (fa Q q 53 0 0 x80) fun x81 =>
  bP (lda Q q 31 13 x81 (G79.room 16)) fun x82 =>
  bS (e.ev.cl 69 [x82, (.int .i64 (-1)), (.int .i64 0)] (G79.room 16)) fun x84 G83 =>
  bP (pNil v0) fun x85 =>
  bP (fa Q q 53 3 14 x85) fun x86 =>
  bP (ld Q q 41 x86 G83) fun x87 =>
  chk ((sameO (ld Q q 41 x86 (G79.room 16)) x87 && true)) <|
  bP (pNil v0) fun x88 =>
  bP (fa Q q 53 5 16 x88) fun x89 =>
  bP (ld Q q 42 x89 G83) fun x90 =>
  chk ((sameO (ld Q q 42 x89 (G79.room 16)) x90 && true)) <|
  bS (e.ev.cl 70 [x90, (.bool false)] G83) fun x92 G91 =>
  chk ((sameO (ld Q q 41 x86 G91) x87 && true)) <|
  bS (e.ev.cl 68 [v1, x84, x87, x92] G91) fun x94 G93 =>
  bP (pNil v0) fun x95 =>
  bP (fa Q q 53 2 13 x95) fun x96 =>
  bP (st Q q 3 1 x96 (.int .i64 1) G93) fun G97 =>
  some (.tuple #[], G97)) (
  some (.tuple #[], G))))
theorem m75 {e : Ex} {E : Ev} (h : ExLe Q e E) (v0 v1 : Value) (G : GS) : Ref (s75 true e v0 v1 G) (s75 false (Ex.of E) v0 v1 G) := by
  unfold s75
  exact Ref.gq
set_option maxHeartbeats 8000000 in
theorem f75 {orc : FuncId → Bool} {e : Ex} (h : ExLe Q e (E orc)) (v0 v1 : Value) (G : GS) : Ref (s75 true e v0 v1 G) ((E orc).cl 75 [v0, v1] G) :=
  fun r hr => cl_sxE_some Q orc (vs := [v0, v1]) G Tryz.func75 (by kernel_rfl) (by kernel_rfl) (by kernel_rfl) (by kernel_rfl) (by kernel_rfl) (by kernel_rfl) (m75 h v0 v1 G r hr)
/-- (*coxswain/claim.seeker[struct{}]).load -/
noncomputable def s76 (q : Bool) (e : Ex) (v0 v1 v2 : Value) (G : GS) : Option (Value × GS) :=
  bP (pNil v0) fun x0 =>
  bP (fa Q q 53 3 14 x0) fun x1 =>
  bP (ld Q q 41 x1 G) fun x2 =>
  bP (pNil v0) fun x3 =>
  bP (fa Q q 53 7 19 x3) fun x4 =>
  bP (st Q q 41 1 x4 x2 G) fun G5 =>
  bP (pNil v0) fun x6 =>
  bP (fa Q q 53 0 0 x6) fun x7 =>
  bP (lda Q q 31 13 x7 (G5.room 13)) fun x8 =>
  bP (pNil v0) fun x9 =>
  bP (fa Q q 53 4 15 x9) fun x10 =>
  bP (ld Q q 3 x10 (G5.room 13)) fun x11 =>
  bS (e.ev.cl 191 [x8, x11, v2] (G5.room 13)) fun x13 G12 =>
  bS (e.ev.cl 177 [v1, x13] G12) fun x15 G14 =>
  some (x15, G14)
theorem m76 {e : Ex} {E : Ev} (h : ExLe Q e E) (v0 v1 v2 : Value) (G : GS) : Ref (s76 true e v0 v1 v2 G) (s76 false (Ex.of E) v0 v1 v2 G) := by
  unfold s76
  exact Ref.gq
theorem f76 {orc : FuncId → Bool} {e : Ex} (h : ExLe Q e (E orc)) (v0 v1 v2 : Value) (G : GS) : Ref (s76 true e v0 v1 v2 G) ((E orc).cl 76 [v0, v1, v2] G) :=
  fun r hr => cl_sxE_some Q orc (vs := [v0, v1, v2]) G Tryz.func76 (by kernel_rfl) (by kernel_rfl) (by kernel_rfl) (by kernel_rfl) (by kernel_rfl) (by kernel_rfl) (m76 h v0 v1 v2 G r hr)
/-- (*coxswain/claim.seeker[struct{}]).job -/
noncomputable def s77 (q : Bool) (e : Ex) (v0 v1 : Value) (G : GS) : Option (Value × GS) :=
  bS (e.ev.cl 76 [v0, v1, (.int .i64 1)] G) fun x0 G1 =>
  bP (bn Q q .and 41 (.tmp 7) (.const (.int .u64 65535)) x0 (.int .u64 65535)) fun x2 =>
  bP (cv Q q 41 3 .u64 .i64 x2) fun x3 =>
  bP (pNil v0) fun x4 =>
  bP (fa Q q 53 6 17 x4) fun x5 =>
  bP (fa Q q 44 1 1 x5) fun x6 =>
  bP (st Q q 3 1 x6 x3 G1) fun G7 =>
  some (.tuple #[], G7)
theorem m77 {e : Ex} {E : Ev} (h : ExLe Q e E) (v0 v1 : Value) (G : GS) : Ref (s77 true e v0 v1 G) (s77 false (Ex.of E) v0 v1 G) := by
  unfold s77
  exact Ref.gq
theorem f77 {orc : FuncId → Bool} {e : Ex} (h : ExLe Q e (E orc)) (v0 v1 : Value) (G : GS) : Ref (s77 true e v0 v1 G) ((E orc).cl 77 [v0, v1] G) :=
  fun r hr => cl_sxE_some Q orc (vs := [v0, v1]) G Tryz.func77 (by kernel_rfl) (by kernel_rfl) (by kernel_rfl) (by kernel_rfl) (by kernel_rfl) (by kernel_rfl) (m77 h v0 v1 G r hr)
/-- coxswain/claim.seek[coxswain/claim.taking] -/
noncomputable def s78 (q : Bool) (e : Ex) (v0 : Value) (G : GS) : Option (Value × GS) :=
  bS (bx q v0 G) fun x0 G1 =>
  bS (al Q q 46 z46 G1) fun x2 G3 =>
  bP (lda Q q 31 13 x0 G3) fun x4 =>
  bS (e.ev.cl 69 [x4, (.int .i64 (-1)), (.int .i64 0)] G3) fun x5 G6 =>
  bP (bn Q q .lss 3 (.tmp 4) (.const (.int .i64 0)) x5 (.int .i64 0)) fun x7 =>
  ifV x7 (
  bP (bd Q q 46 z46 [(8, 24, 1), (2, 17, 1), (9, 25, 1)] [(.bool true), (.int .i64 99), (.int .i64 2)]) fun x8 =>
  bP (st Q q 46 26 x2 x8 G6) fun G9 =>
  bP (lda Q q 46 26 x2 G9) fun x10 =>
  some (x10, G9)) (
  bP (lda Q q 31 13 x0 G6) fun x11 =>
  bP (bd Q q 46 z46 [(0, 0, 13), (8, 24, 1), (2, 17, 1)] [x11, (.bool true), (.int .i64 1)]) fun x12 =>
  bP (st Q q 46 26 x2 x12 G6) fun G13 =>
  bP (lda Q q 46 26 x2 G13) fun x14 =>
  some (x14, G13))
theorem m78 {e : Ex} {E : Ev} (h : ExLe Q e E) (v0 : Value) (G : GS) : Ref (s78 true e v0 G) (s78 false (Ex.of E) v0 G) := by
  unfold s78
  exact Ref.gq
theorem f78 {orc : FuncId → Bool} {e : Ex} (h : ExLe Q e (E orc)) (v0 : Value) (G : GS) : Ref (s78 true e v0 G) ((E orc).cl 78 [v0] G) :=
  fun r hr => cl_sxE_some Q orc (vs := [v0]) G Tryz.func78 (by kernel_rfl) (by kernel_rfl) (by kernel_rfl) (by kernel_rfl) (by kernel_rfl) (by kernel_rfl) (m78 h v0 G r hr)
/-- coxswain/claim.seek[struct{}] -/
noncomputable def s79 (q : Bool) (e : Ex) (v0 : Value) (G : GS) : Option (Value × GS) :=
  bS (bx q v0 G) fun x0 G1 =>
  bS (al Q q 53 z53 G1) fun x2 G3 =>
  bP (lda Q q 31 13 x0 G3) fun x4 =>
  bS (e.ev.cl 69 [x4, (.int .i64 (-1)), (.int .i64 0)] G3) fun x5 G6 =>
  bP (bn Q q .lss 3 (.tmp 4) (.const (.int .i64 0)) x5 (.int .i64 0)) fun x7 =>
  ifV x7 (
  bP (bd Q q 53 z53 [(8, 20, 1), (2, 13, 1), (9, 21, 1)] [(.bool true), (.int .i64 99), (.int .i64 2)]) fun x8 =>
  bP (st Q q 53 22 x2 x8 G6) fun G9 =>
  bP (lda Q q 53 22 x2 G9) fun x10 =>
  some (x10, G9)) (
  bP (lda Q q 31 13 x0 G6) fun x11 =>
  bP (bd Q q 53 z53 [(0, 0, 13), (8, 20, 1), (2, 13, 1)] [x11, (.bool true), (.int .i64 1)]) fun x12 =>
  bP (st Q q 53 22 x2 x12 G6) fun G13 =>
  bP (lda Q q 53 22 x2 G13) fun x14 =>
  some (x14, G13))
theorem m79 {e : Ex} {E : Ev} (h : ExLe Q e E) (v0 : Value) (G : GS) : Ref (s79 true e v0 G) (s79 false (Ex.of E) v0 G) := by
  unfold s79
  exact Ref.gq
theorem f79 {orc : FuncId → Bool} {e : Ex} (h : ExLe Q e (E orc)) (v0 : Value) (G : GS) : Ref (s79 true e v0 G) ((E orc).cl 79 [v0] G) :=
  fun r hr => cl_sxE_some Q orc (vs := [v0]) G Tryz.func79 (by kernel_rfl) (by kernel_rfl) (by kernel_rfl) (by kernel_rfl) (by kernel_rfl) (by kernel_rfl) (m79 h v0 G r hr)
noncomputable def b80_0 (q : Bool) (e : Ex) (lp : Env → GS → Option (Exit × Env × GS)) (τ : Env) (G : GS) : Option (Exit × Env × GS) :=
  bV q (τ 1) fun a1_ =>
  bV q (τ 3) fun a3_ =>
  bV q (τ 4) fun a4_ =>
  bP (ln Q q 111 a3_) fun x0 =>
  bP (bn Q q .lss 3 (.tmp 19) (.tmp 21) a4_ x0) fun x1 =>
  ifV x1 (
  bP (bn Q q .add 3 (.const (.int .i64 16)) (.tmp 26) (.int .i64 16) a4_) fun x2 =>
  bP (ias Q q 111 1 a3_ a4_) fun x3 =>
  bP (ld Q q 41 x3 G) fun x4 =>
  bS (e.ev.cl 45 [a1_, x2, x4] G) fun x5 G6 =>
  bP (bn Q q .add 3 (.tmp 23) (.const (.int .i64 1)) a4_ (.int .i64 1)) fun x7 =>
  lp (xq q 38 τ [(4, x7), (24, x7), (23, a4_), (32, x5), (31, x4), (30, x3), (29, a4_), (28, a3_), (27, x2), (26, a4_), (25, a1_), (22, x1), (21, x0), (20, a3_), (19, a4_)] [(1, a1_), (3, a3_)]) G6) (
  some ((.exit 0), xq q 38 τ [(22, x1), (21, x0), (20, a3_), (19, a4_)] [(1, a1_), (3, a3_), (4, a4_)], G))
theorem mb80_0 {e : Ex} {E : Ev} (h : ExLe Q e E) {lp lp' : Env → GS → Option (Exit × Env × GS)} (hlp : LpLe lp lp') (τ : Env) (G : GS) : Ref (b80_0 true e lp τ G) (b80_0 false (Ex.of E) lp' τ G) := by
  unfold b80_0
  exact Ref.gq
theorem l80_0 {orc : FuncId → Bool} {e : Ex} (h : ExLe Q e (E orc)) (lp : Env → GS → Option (Exit × Env × GS)) (hlp : ∀ τ G, Ref (lp τ G) (mapE ((E orc).lp (subAt [1, 1, 1, 1, 1, 0, 1, 0, 0] (bodyOf Tryz.f80)) (lst 38 τ) G))) (T : List Value) (G : GS) (hT : T.length = 38) : Ref (b80_0 true e lp (nth undef T) G) (mapE ((E orc).lp (subAt [1, 1, 1, 1, 1, 0, 1, 0, 0] (bodyOf Tryz.f80)) T G)) :=
  fun r hr => lp_sxN Q orc G hT (by kernel_rfl) (mb80_0 h ⟨hlp⟩ _ _ r hr)
/-- coxswain/coxswainlaw18.written -/
noncomputable def s80 (q : Bool) (e : Ex) (G : GS) : Option (Value × GS) :=
  bS (e.ev.cl 9 [(.int .i64 34)] G) fun x0 G1 =>
  bP (pExtract x0 0) fun x2 =>
  bP (pExtract x0 1) fun x3 =>
  bP (bn Q q .neq 33 (.tmp 9) (.const (.int .i64 0)) x3 (.int .i64 0)) fun x4 =>
  bS (gd x4 false (some (x2, G1)) G1) fun x5 G6 =>
  bS (gd x4 false (bP (ep Q q false 32 (.tmp 12) (.const (.pointer none)) x5 (.pointer none)) fun y => some (y, G6)) G6) fun x7 G8 =>
  bP (pickV x4 (.bool true) x7) fun x9 =>
  ifV x9 (
  some ((.pointer none), G8)) (
  bS (e.ev.cl 86 [] G8) fun x10 G11 =>
  bS (e.ev.cl 156 [x10, x2] G11) fun x12 G13 =>
  bS (bs Q q 111 18 (rep z41 18) 1 [(0, 0, 1), (1, 1, 1), (2, 2, 1), (3, 3, 1), (4, 4, 1), (5, 5, 1), (6, 6, 1), (7, 7, 1), (8, 8, 1), (9, 9, 1), (10, 10, 1), (11, 11, 1), (12, 12, 1), (13, 13, 1), (14, 14, 1), (15, 15, 1), (16, 16, 1), (17, 17, 1)] [(.int .u64 9), (.int .u64 5), (.int .u64 2), (.int .u64 1), (.int .u64 65539), (.int .u64 0), (.int .u64 4), (.int .u64 7), (.int .u64 1), (.int .u64 1), (.int .u64 65537), (.int .u64 0), (.int .u64 12), (.int .u64 6), (.int .u64 1), (.int .u64 1), (.int .u64 0), (.int .u64 0)] G13) fun x14 G15 =>
  bLq q e 80 0 (subAt [1, 1, 1, 1, 1, 0, 1, 0, 0] (bodyOf Tryz.f80)) 38 (nth undef []) [(4, (.int .i64 0)), (3, x14), (18, x14), (17, x12), (16, x2), (15, x10), (14, x9), (13, x7), (12, x5), (11, x4), (10, x4), (9, x3), (2, x3), (1, x2), (8, x3), (7, x2), (5, x0), (6, x0), (0, (.pointer none))] [] G15 fun e16 t17 G18 =>
  bV q (t17 1) fun t17x1_ =>
  ifE e16 (.exit 0) (
  bS (e.ev.cl 45 [t17x1_, (.int .i64 14), (.int .u64 65538)] G18) fun x19 G20 =>
  bS (e.ev.cl 45 [t17x1_, (.int .i64 15), (.int .u64 65537)] G20) fun x21 G22 =>
  some (t17x1_, G22)) (none))
theorem m80 {e : Ex} {E : Ev} (h : ExLe Q e E) (G : GS) : Ref (s80 true e  G) (s80 false (Ex.of E)  G) := by
  unfold s80
  exact Ref.gq
theorem f80 {orc : FuncId → Bool} {e : Ex} (h : ExLe Q e (E orc)) (ho : orc 80 = false) (G : GS) : Ref (s80 true e  G) ((E orc).cl 80 [] G) :=
  fun r hr => cl_sxE_some Q orc (vs := []) G Tryz.func80 (by kernel_rfl) (by kernel_rfl) ho (by kernel_rfl) (by kernel_rfl) (by kernel_rfl) (m80 h  G r hr)
noncomputable def b81_0 (q : Bool) (e : Ex) (lp : Env → GS → Option (Exit × Env × GS)) (τ : Env) (G : GS) : Option (Exit × Env × GS) :=
  bV q (τ 0) fun a0_ =>
  bV q (τ 1) fun a1_ =>
  bV q (τ 9) fun a9_ =>
  bV q (τ 10) fun a10_ =>
  bP (bn Q q .lss 3 (.tmp 18) (.tmp 19) a10_ a1_) fun x0 =>
  ifV x0 (
  bS (e.ev.cl 13 [a9_, a0_] G) fun x1 G2 =>
  ifV x1 (
  some (.ret, xq q 54 τ [(8, (.bool false)), (25, x1), (24, a0_), (23, a9_), (20, x0), (19, a1_), (18, a10_)] [(0, a0_), (1, a1_), (9, a9_), (10, a10_)], G2)) (
  bP (bn Q q .add 3 (.tmp 21) (.const (.int .i64 1)) a10_ (.int .i64 1)) fun x3 =>
  lp (xq q 54 τ [(10, x3), (22, x3), (21, a10_), (25, x1), (24, a0_), (23, a9_), (20, x0), (19, a1_), (18, a10_)] [(0, a0_), (1, a1_), (9, a9_)]) G2)) (
  some ((.exit 0), xq q 54 τ [(20, x0), (19, a1_), (18, a10_)] [(0, a0_), (1, a1_), (9, a9_), (10, a10_)], G))
theorem mb81_0 {e : Ex} {E : Ev} (h : ExLe Q e E) {lp lp' : Env → GS → Option (Exit × Env × GS)} (hlp : LpLe lp lp') (τ : Env) (G : GS) : Ref (b81_0 true e lp τ G) (b81_0 false (Ex.of E) lp' τ G) := by
  unfold b81_0
  exact Ref.gq
theorem l81_0 {orc : FuncId → Bool} {e : Ex} (h : ExLe Q e (E orc)) (lp : Env → GS → Option (Exit × Env × GS)) (hlp : ∀ τ G, Ref (lp τ G) (mapE ((E orc).lp (subAt [1, 1, 0, 1, 0, 0] (bodyOf Tryz.f81)) (lst 54 τ) G))) (T : List Value) (G : GS) (hT : T.length = 54) : Ref (b81_0 true e lp (nth undef T) G) (mapE ((E orc).lp (subAt [1, 1, 0, 1, 0, 0] (bodyOf Tryz.f81)) T G)) :=
  fun r hr => lp_sxN Q orc G hT (by kernel_rfl) (mb81_0 h ⟨hlp⟩ _ _ r hr)
/-- coxswain/coxswainlaw18.peeks -/
noncomputable def s81 (q : Bool) (e : Ex) (v0 v1 v2 v3 : Value) (G : GS) : Option (Value × GS) :=
  bS (bx q v2 G) fun x0 G1 =>
  bS (e.ev.cl 86 [] G1) fun x2 G3 =>
  bS (e.ev.cl 20 [x2] G3) fun x4 G5 =>
  bLq q e 81 0 (subAt [1, 1, 0, 1, 0, 0] (bodyOf Tryz.f81)) 54 (nth undef [v0, v1, v2, v3]) [(10, (.int .i64 1)), (9, x4), (17, x4), (16, x2), (8, (.bool false)), (6, x0)] [] G5 fun e6 t7 G8 =>
  bV q (t7 0) fun t7x0_ =>
  bV q (t7 3) fun t7x3_ =>
  bV q (t7 6) fun t7x6_ =>
  bV q (t7 8) fun t7x8_ =>
  bV q (t7 9) fun t7x9_ =>
  ifE e6 (.exit 0) (
  bS (e.ev.cl 11 [t7x9_] G8) fun x9 G10 =>
  bP (pExtract x9 0) fun x11 =>
  bP (pExtract x9 1) fun x12 =>
  bS (al Q q 44 z44 G10) fun x13 G14 =>
  bP (st Q q 44 2 x13 x11 G14) fun G15 =>
  bS (e.ev.cl 13 [t7x9_, t7x0_] G15) fun x16 G17 =>
  bS (e.ev.cl 11 [t7x9_] G17) fun x18 G19 =>
  bP (pExtract x18 0) fun x20 =>
  bP (pExtract x18 1) fun x21 =>
  bS (al Q q 44 z44 G19) fun x22 G23 =>
  bP (st Q q 44 2 x22 x20 G23) fun G24 =>
  bP (bn Q q .eql 33 (.tmp 39) (.const (.int .i64 14)) x12 (.int .i64 14)) fun x25 =>
  bS (gd x25 true (some (x16, G24)) G24) fun x26 G27 =>
  bP (pickV x25 x26 (.bool false)) fun x28 =>
  bS (gd x28 true (bP (lda Q q 44 2 x22 G27) fun y => some (y, G27)) G27) fun x29 G30 =>
  bS (gd x28 true (bP (lda Q q 44 2 t7x6_ G30) fun y => some (y, G30)) G30) fun x31 G32 =>
  bS (gd x28 true (bP (bn Q q .eql 44 (.tmp 45) (.tmp 46) x29 x31) fun y => some (y, G32)) G32) fun x33 G34 =>
  bP (pickV x28 x33 (.bool false)) fun x35 =>
  bS (gd x35 true (some (x21, G34)) G34) fun x36 G37 =>
  bS (gd x35 true (some (t7x3_, G37)) G37) fun x38 G39 =>
  bS (gd x35 true (bP (bn Q q .eql 33 (.tmp 50) (.tmp 51) x36 x38) fun y => some (y, G39)) G39) fun x40 G41 =>
  bP (pickV x35 x40 (.bool false)) fun x42 =>
  some (x42, G41)) (ifE e6 .ret (
  some (t7x8_, G8)) (none))
theorem m81 {e : Ex} {E : Ev} (h : ExLe Q e E) (v0 v1 v2 v3 : Value) (G : GS) : Ref (s81 true e v0 v1 v2 v3 G) (s81 false (Ex.of E) v0 v1 v2 v3 G) := by
  unfold s81
  exact Ref.gq
theorem f81 {orc : FuncId → Bool} {e : Ex} (h : ExLe Q e (E orc)) (v0 v1 v2 v3 : Value) (G : GS) : Ref (s81 true e v0 v1 v2 v3 G) ((E orc).cl 81 [v0, v1, v2, v3] G) :=
  fun r hr => cl_sxE_some Q orc (vs := [v0, v1, v2, v3]) G Tryz.func81 (by kernel_rfl) (by kernel_rfl) (by kernel_rfl) (by kernel_rfl) (by kernel_rfl) (by kernel_rfl) (m81 h v0 v1 v2 v3 G r hr)
noncomputable def b82_0 (q : Bool) (e : Ex) (lp : Env → GS → Option (Exit × Env × GS)) (τ : Env) (G : GS) : Option (Exit × Env × GS) :=
  bV q (τ 0) fun a0_ =>
  bV q (τ 1) fun a1_ =>
  bV q (τ 9) fun a9_ =>
  bV q (τ 10) fun a10_ =>
  bP (bn Q q .lss 3 (.tmp 18) (.tmp 19) a10_ a1_) fun x0 =>
  ifV x0 (
  bS (e.ev.cl 12 [a9_, a0_] G) fun x1 G2 =>
  ifV x1 (
  some (.ret, xq q 61 τ [(8, (.bool false)), (25, x1), (24, a0_), (23, a9_), (20, x0), (19, a1_), (18, a10_)] [(0, a0_), (1, a1_), (9, a9_), (10, a10_)], G2)) (
  bP (bn Q q .add 3 (.tmp 21) (.const (.int .i64 1)) a10_ (.int .i64 1)) fun x3 =>
  lp (xq q 61 τ [(10, x3), (22, x3), (21, a10_), (25, x1), (24, a0_), (23, a9_), (20, x0), (19, a1_), (18, a10_)] [(0, a0_), (1, a1_), (9, a9_)]) G2)) (
  some ((.exit 0), xq q 61 τ [(20, x0), (19, a1_), (18, a10_)] [(0, a0_), (1, a1_), (9, a9_), (10, a10_)], G))
theorem mb82_0 {e : Ex} {E : Ev} (h : ExLe Q e E) {lp lp' : Env → GS → Option (Exit × Env × GS)} (hlp : LpLe lp lp') (τ : Env) (G : GS) : Ref (b82_0 true e lp τ G) (b82_0 false (Ex.of E) lp' τ G) := by
  unfold b82_0
  exact Ref.gq
theorem l82_0 {orc : FuncId → Bool} {e : Ex} (h : ExLe Q e (E orc)) (lp : Env → GS → Option (Exit × Env × GS)) (hlp : ∀ τ G, Ref (lp τ G) (mapE ((E orc).lp (subAt [1, 1, 0, 1, 0, 0] (bodyOf Tryz.f82)) (lst 61 τ) G))) (T : List Value) (G : GS) (hT : T.length = 61) : Ref (b82_0 true e lp (nth undef T) G) (mapE ((E orc).lp (subAt [1, 1, 0, 1, 0, 0] (bodyOf Tryz.f82)) T G)) :=
  fun r hr => lp_sxN Q orc G hT (by kernel_rfl) (mb82_0 h ⟨hlp⟩ _ _ r hr)
/-- coxswain/coxswainlaw18.claims -/
noncomputable def s82 (q : Bool) (e : Ex) (v0 v1 v2 v3 : Value) (G : GS) : Option (Value × GS) :=
  bS (bx q v2 G) fun x0 G1 =>
  bS (e.ev.cl 86 [] G1) fun x2 G3 =>
  bS (e.ev.cl 19 [x2] G3) fun x4 G5 =>
  bLq q e 82 0 (subAt [1, 1, 0, 1, 0, 0] (bodyOf Tryz.f82)) 61 (nth undef [v0, v1, v2, v3]) [(10, (.int .i64 1)), (9, x4), (17, x4), (16, x2), (8, (.bool false)), (6, x0)] [] G5 fun e6 t7 G8 =>
  bV q (t7 0) fun t7x0_ =>
  bV q (t7 3) fun t7x3_ =>
  bV q (t7 6) fun t7x6_ =>
  bV q (t7 8) fun t7x8_ =>
  bV q (t7 9) fun t7x9_ =>
  ifE e6 (.exit 0) (
  bS (e.ev.cl 10 [t7x9_] G8) fun x9 G10 =>
  bP (pExtract x9 0) fun x11 =>
  bP (pExtract x9 1) fun x12 =>
  bS (al Q q 44 z44 G10) fun x13 G14 =>
  bP (st Q q 44 2 x13 x11 G14) fun G15 =>
  bS (e.ev.cl 12 [t7x9_, t7x0_] G15) fun x16 G17 =>
  bS (e.ev.cl 10 [t7x9_] G17) fun x18 G19 =>
  bP (pExtract x18 0) fun x20 =>
  bP (pExtract x18 1) fun x21 =>
  bS (al Q q 44 z44 G19) fun x22 G23 =>
  bP (st Q q 44 2 x22 x20 G23) fun G24 =>
  bP (bn Q q .eql 33 (.tmp 39) (.const (.int .i64 14)) x12 (.int .i64 14)) fun x25 =>
  bS (gd x25 true (some (x16, G24)) G24) fun x26 G27 =>
  bP (pickV x25 x26 (.bool false)) fun x28 =>
  bS (gd x28 true (bP (lda Q q 44 2 x22 G27) fun y => some (y, G27)) G27) fun x29 G30 =>
  bS (gd x28 true (bP (lda Q q 44 2 t7x6_ G30) fun y => some (y, G30)) G30) fun x31 G32 =>
  bS (gd x28 true (bP (bn Q q .eql 44 (.tmp 45) (.tmp 46) x29 x31) fun y => some (y, G32)) G32) fun x33 G34 =>
  bP (pickV x28 x33 (.bool false)) fun x35 =>
  bS (gd x35 true (some (x21, G34)) G34) fun x36 G37 =>
  bS (gd x35 true (some (t7x3_, G37)) G37) fun x38 G39 =>
  bS (gd x35 true (bP (bn Q q .eql 33 (.tmp 50) (.tmp 51) x36 x38) fun y => some (y, G39)) G39) fun x40 G41 =>
  bP (pickV x35 x40 (.bool false)) fun x42 =>
  bS (gd x42 true (some (t7x9_, G41)) G41) fun x43 G44 =>
  bS (gd x42 true (bS (e.ev.cl 15 [x43] G44) fun y G => some (y, G)) G44) fun x45 G46 =>
  bS (gd x42 true (some (t7x3_, G46)) G46) fun x47 G48 =>
  bS (gd x42 true (bP (bn Q q .eql 33 (.tmp 57) (.const (.int .i64 0)) x47 (.int .i64 0)) fun y => some (y, G48)) G48) fun x49 G50 =>
  bS (gd x42 true (bP (eb Q q false 4 (.tmp 56) (.tmp 58) x45 x49) fun y => some (y, G50)) G50) fun x51 G52 =>
  bP (pickV x42 x51 (.bool false)) fun x53 =>
  some (x53, G52)) (ifE e6 .ret (
  some (t7x8_, G8)) (none))
theorem m82 {e : Ex} {E : Ev} (h : ExLe Q e E) (v0 v1 v2 v3 : Value) (G : GS) : Ref (s82 true e v0 v1 v2 v3 G) (s82 false (Ex.of E) v0 v1 v2 v3 G) := by
  unfold s82
  exact Ref.gq
theorem f82 {orc : FuncId → Bool} {e : Ex} (h : ExLe Q e (E orc)) (v0 v1 v2 v3 : Value) (G : GS) : Ref (s82 true e v0 v1 v2 v3 G) ((E orc).cl 82 [v0, v1, v2, v3] G) :=
  fun r hr => cl_sxE_some Q orc (vs := [v0, v1, v2, v3]) G Tryz.func82 (by kernel_rfl) (by kernel_rfl) (by kernel_rfl) (by kernel_rfl) (by kernel_rfl) (by kernel_rfl) (m82 h v0 v1 v2 v3 G r hr)
/-- coxswain/coxswainlaw18.level -/
noncomputable def s83 (q : Bool) (e : Ex) (v0 v1 v2 : Value) (G : GS) : Option (Value × GS) :=
  bS (e.ev.cl 86 [] G) fun x0 G1 =>
  bS (e.ev.cl 201 [x0, v1, v0] G1) fun x2 G3 =>
  bS (e.ev.cl 84 [x2, v2] G3) fun x4 G5 =>
  some (x4, G5)
theorem m83 {e : Ex} {E : Ev} (h : ExLe Q e E) (v0 v1 v2 : Value) (G : GS) : Ref (s83 true e v0 v1 v2 G) (s83 false (Ex.of E) v0 v1 v2 G) := by
  unfold s83
  exact Ref.gq
theorem f83 {orc : FuncId → Bool} {e : Ex} (h : ExLe Q e (E orc)) (v0 v1 v2 : Value) (G : GS) : Ref (s83 true e v0 v1 v2 G) ((E orc).cl 83 [v0, v1, v2] G) :=
  fun r hr => cl_sxE_some Q orc (vs := [v0, v1, v2]) G Tryz.func83 (by kernel_rfl) (by kernel_rfl) (by kernel_rfl) (by kernel_rfl) (by kernel_rfl) (by kernel_rfl) (m83 h v0 v1 v2 G r hr)
noncomputable def b84_0 (q : Bool) (e : Ex) (lp : Env → GS → Option (Exit × Env × GS)) (τ : Env) (G : GS) : Option (Exit × Env × GS) :=
  bV q (τ 0) fun a0_ =>
  bV q (τ 1) fun a1_ =>
  bV q (τ 5) fun a5_ =>
  bV q (τ 6) fun a6_ =>
  bS (gd a5_ true (some (a6_, G)) G) fun x0 G1 =>
  bS (gd a5_ true (some (a0_, G1)) G1) fun x2 G3 =>
  bS (gd a5_ true (bP (ln Q q 78 x2) fun y => some (y, G3)) G3) fun x4 G5 =>
  bS (gd a5_ true (bP (bn Q q .lss 3 (.tmp 14) (.tmp 16) x0 x4) fun y => some (y, G5)) G5) fun x6 G7 =>
  bP (pickV a5_ x6 (.bool false)) fun x8 =>
  ifV x8 (
  bP (ias Q q 78 1 a0_ a6_) fun x9 =>
  bP (ld Q q 3 x9 (G7.room 10)) fun x10 =>
  bP (ias Q q 78 1 a1_ a6_) fun x11 =>
  bP (ld Q q 3 x11 (G7.room 10)) fun x12 =>
  bP (bn Q q .eql 3 (.tmp 24) (.tmp 28) x10 x12) fun x13 =>
  bP (bn Q q .add 3 (.tmp 19) (.const (.int .i64 1)) a6_ (.int .i64 1)) fun x14 =>
  lp (xq q 31 τ [(6, x14), (20, x14), (19, a6_), (5, x13), (29, x13), (28, x12), (27, x11), (26, a6_), (25, a1_), (24, x10), (23, x9), (22, a6_), (21, a0_), (18, x8), (17, x6), (16, x4), (15, x2), (14, x0), (13, a5_), (12, a5_)] [(0, a0_), (1, a1_)]) (G7.room 10)) (
  some ((.exit 0), xq q 31 τ [(18, x8), (17, x6), (16, x4), (15, x2), (14, x0), (13, a5_), (12, a5_)] [(0, a0_), (1, a1_), (5, a5_), (6, a6_)], G7))
theorem mb84_0 {e : Ex} {E : Ev} (h : ExLe Q e E) {lp lp' : Env → GS → Option (Exit × Env × GS)} (hlp : LpLe lp lp') (τ : Env) (G : GS) : Ref (b84_0 true e lp τ G) (b84_0 false (Ex.of E) lp' τ G) := by
  unfold b84_0
  exact Ref.gq
theorem l84_0 {orc : FuncId → Bool} {e : Ex} (h : ExLe Q e (E orc)) (lp : Env → GS → Option (Exit × Env × GS)) (hlp : ∀ τ G, Ref (lp τ G) (mapE ((E orc).lp (subAt [1, 1, 0, 1, 0, 0] (bodyOf Tryz.f84)) (lst 31 τ) G))) (T : List Value) (G : GS) (hT : T.length = 31) : Ref (b84_0 true e lp (nth undef T) G) (mapE ((E orc).lp (subAt [1, 1, 0, 1, 0, 0] (bodyOf Tryz.f84)) T G)) :=
  fun r hr => lp_sxN Q orc G hT (by kernel_rfl) (mb84_0 h ⟨hlp⟩ _ _ r hr)
/-- coxswain/coxswainkit.SameInts -/
noncomputable def s84 (q : Bool) (e : Ex) (v0 v1 : Value) (G : GS) : Option (Value × GS) :=
  bP (ln Q q 78 v0) fun x0 =>
  bP (ln Q q 78 v1) fun x1 =>
  bP (bn Q q .eql 3 (.tmp 8) (.tmp 10) x0 x1) fun x2 =>
  bLq q e 84 0 (subAt [1, 1, 0, 1, 0, 0] (bodyOf Tryz.f84)) 31 (nth undef [v0, v1]) [(6, (.int .i64 0)), (5, x2), (11, x2), (10, x1), (9, v1), (8, x0), (7, v0), (4, (.bool false))] [] G fun e3 t4 G5 =>
  bV q (t4 5) fun t4x5_ =>
  ifE e3 (.exit 0) (
  some (t4x5_, G5)) (none)
theorem m84 {e : Ex} {E : Ev} (h : ExLe Q e E) (v0 v1 : Value) (G : GS) : Ref (s84 true e v0 v1 G) (s84 false (Ex.of E) v0 v1 G) := by
  unfold s84
  exact Ref.gq
theorem f84 {orc : FuncId → Bool} {e : Ex} (h : ExLe Q e (E orc)) (v0 v1 : Value) (G : GS) : Ref (s84 true e v0 v1 G) ((E orc).cl 84 [v0, v1] G) :=
  fun r hr => cl_sxE_some Q orc (vs := [v0, v1]) G Tryz.func84 (by kernel_rfl) (by kernel_rfl) (by kernel_rfl) (by kernel_rfl) (by kernel_rfl) (by kernel_rfl) (m84 h v0 v1 G r hr)
/-- coxswain/coxswainlaw18.waits -/
noncomputable def s85 (q : Bool) (e : Ex) (v0 v1 : Value) (G : GS) : Option (Value × GS) :=
  bS (bx q v0 G) fun x0 G1 =>
  bP (fa Q q 31 3 3 x0) fun x2 =>
  bP (fa Q q 29 0 0 x2) fun x3 =>
  bP (fa Q q 25 0 0 x3) fun x4 =>
  bP (lda Q q 23 3 x4 G1) fun x5 =>
  bS (al Q q 23 z23 G1) fun x6 G7 =>
  bP (st Q q 23 3 x6 x5 G7) fun G8 =>
  bP (fa Q q 31 3 3 x0) fun x9 =>
  bP (fa Q q 29 2 9 x9) fun x10 =>
  bP (ld Q q 3 x10 G8) fun x11 =>
  bP (fa Q q 23 0 0 x6) fun x12 =>
  bP (st Q q 3 1 x12 x11 G8) fun G13 =>
  bP (lda Q q 23 3 x6 G13) fun x14 =>
  bS (e.ev.cl 202 [x14, v1] G13) fun x15 G16 =>
  some (x15, G16)
theorem m85 {e : Ex} {E : Ev} (h : ExLe Q e E) (v0 v1 : Value) (G : GS) : Ref (s85 true e v0 v1 G) (s85 false (Ex.of E) v0 v1 G) := by
  unfold s85
  exact Ref.gq
theorem f85 {orc : FuncId → Bool} {e : Ex} (h : ExLe Q e (E orc)) (v0 v1 : Value) (G : GS) : Ref (s85 true e v0 v1 G) ((E orc).cl 85 [v0, v1] G) :=
  fun r hr => cl_sxE_some Q orc (vs := [v0, v1]) G Tryz.func85 (by kernel_rfl) (by kernel_rfl) (by kernel_rfl) (by kernel_rfl) (by kernel_rfl) (by kernel_rfl) (m85 h v0 v1 G r hr)
/-- coxswain/coxswainlaw18.chapter -/
noncomputable def s86 (q : Bool) (e : Ex) (G : GS) : Option (Value × GS) :=
  bS (al Q q 31 z31 G) fun x0 G1 =>
  bP (bd Q q 23 z23 [(0, 0, 1), (1, 1, 1), (2, 2, 1)] [(.int .i64 0), (.int .i64 1), (.int .i64 3)]) fun x2 =>
  bP (bd Q q 25 z25 [(0, 0, 3), (1, 3, 1), (2, 4, 1), (3, 5, 1)] [x2, (.int .i64 4), (.int .i64 7), (.int .i64 9)]) fun x3 =>
  bS (al Q q 25 z25 G1) fun x4 G5 =>
  bP (st Q q 25 6 x4 x3 G5) fun G6 =>
  bP (lda Q q 25 6 x4 G6) fun x7 =>
  bP (bd Q q 27 z27 [(0, 0, 1), (1, 1, 1), (2, 2, 1)] [(.int .i64 8), (.int .i64 9), (.int .i64 2)]) fun x8 =>
  bP (bd Q q 29 z29 [(0, 0, 6), (1, 6, 3), (2, 9, 1)] [x7, x8, (.int .i64 11)]) fun x9 =>
  bS (al Q q 29 z29 G6) fun x10 G11 =>
  bP (st Q q 29 10 x10 x9 G11) fun G12 =>
  bP (lda Q q 29 10 x10 G12) fun x13 =>
  bP (bd Q q 31 z31 [(0, 0, 1), (1, 1, 1), (2, 2, 1), (3, 3, 10)] [(.int .i64 16), (.int .i64 14), (.int .i64 2), x13]) fun x14 =>
  bP (st Q q 31 13 x0 x14 G12) fun G15 =>
  bP (lda Q q 31 13 x0 G15) fun x16 =>
  some (x16, G15)
theorem m86 {e : Ex} {E : Ev} (h : ExLe Q e E) (G : GS) : Ref (s86 true e  G) (s86 false (Ex.of E)  G) := by
  unfold s86
  exact Ref.gq
theorem f86 {orc : FuncId → Bool} {e : Ex} (h : ExLe Q e (E orc)) (ho : orc 86 = false) (G : GS) : Ref (s86 true e  G) ((E orc).cl 86 [] G) :=
  fun r hr => cl_sxE_some Q orc (vs := []) G Tryz.func86 (by kernel_rfl) (by kernel_rfl) ho (by kernel_rfl) (by kernel_rfl) (by kernel_rfl) (m86 h  G r hr)
/-- coxswain/tower.sound -/
noncomputable def s102 (q : Bool) (e : Ex) (v0 : Value) (G : GS) : Option (Value × GS) :=
  bS (bx q v0 G) fun x0 G1 =>
  bP (fa Q q 31 3 3 x0) fun x2 =>
  bP (fa Q q 29 0 0 x2) fun x3 =>
  bP (fa Q q 25 0 0 x3) fun x4 =>
  bP (fa Q q 23 2 2 x4) fun x5 =>
  bP (ld Q q 3 x5 G1) fun x6 =>
  bP (fa Q q 31 2 2 x0) fun x7 =>
  bP (ld Q q 3 x7 G1) fun x8 =>
  bP (bn Q q .geq 3 (.tmp 10) (.const (.int .i64 1)) x8 (.int .i64 1)) fun x9 =>
  bS (gd x9 true (bP (fa Q q 31 2 2 x0) fun y => some (y, G1)) G1) fun x10 G11 =>
  bS (gd x9 true (bP (ld Q q 3 x10 G11) fun y => some (y, G11)) G11) fun x12 G13 =>
  bS (gd x9 true (bP (bn Q q .leq 3 (.tmp 14) (.const (.int .i64 4)) x12 (.int .i64 4)) fun y => some (y, G13)) G13) fun x14 G15 =>
  bP (pickV x9 x14 (.bool false)) fun x16 =>
  bS (gd x16 true (some (x6, G15)) G15) fun x17 G18 =>
  bS (gd x16 true (bP (bn Q q .geq 3 (.tmp 18) (.const (.int .i64 1)) x17 (.int .i64 1)) fun y => some (y, G18)) G18) fun x19 G20 =>
  bP (pickV x16 x19 (.bool false)) fun x21 =>
  bS (gd x21 true (some (x6, G20)) G20) fun x22 G23 =>
  bS (gd x21 true (bP (bn Q q .leq 3 (.tmp 22) (.const (.int .i64 128)) x22 (.int .i64 128)) fun y => some (y, G23)) G23) fun x24 G25 =>
  bP (pickV x21 x24 (.bool false)) fun x26 =>
  bS (gd x26 true (bP (fa Q q 31 0 0 x0) fun y => some (y, G25)) G25) fun x27 G28 =>
  bS (gd x26 true (bP (ld Q q 3 x27 G28) fun y => some (y, G28)) G28) fun x29 G30 =>
  bS (gd x26 true (bP (bn Q q .geq 3 (.tmp 27) (.const (.int .i64 0)) x29 (.int .i64 0)) fun y => some (y, G30)) G30) fun x31 G32 =>
  bP (pickV x26 x31 (.bool false)) fun x33 =>
  bS (gd x33 true (bP (fa Q q 31 0 0 x0) fun y => some (y, G32)) G32) fun x34 G35 =>
  bS (gd x33 true (bP (ld Q q 3 x34 G35) fun y => some (y, G35)) G35) fun x36 G37 =>
  bS (gd x33 true (bP (bn Q q .lss 3 (.tmp 32) (.const (.int .i64 4096)) x36 (.int .i64 4096)) fun y => some (y, G37)) G37) fun x38 G39 =>
  bP (pickV x33 x38 (.bool false)) fun x40 =>
  bS (gd x40 true (bP (fa Q q 31 1 1 x0) fun y => some (y, G39)) G39) fun x41 G42 =>
  bS (gd x40 true (bP (ld Q q 3 x41 G42) fun y => some (y, G42)) G42) fun x43 G44 =>
  bS (gd x40 true (bP (bn Q q .geq 3 (.tmp 37) (.const (.int .i64 0)) x43 (.int .i64 0)) fun y => some (y, G44)) G44) fun x45 G46 =>
  bP (pickV x40 x45 (.bool false)) fun x47 =>
  bS (gd x47 true (bP (fa Q q 31 1 1 x0) fun y => some (y, G46)) G46) fun x48 G49 =>
  bS (gd x47 true (bP (ld Q q 3 x48 G49) fun y => some (y, G49)) G49) fun x50 G51 =>
  bS (gd x47 true (bP (bn Q q .lss 3 (.tmp 42) (.const (.int .i64 4096)) x50 (.int .i64 4096)) fun y => some (y, G51)) G51) fun x52 G53 =>
  bP (pickV x47 x52 (.bool false)) fun x54 =>
  some (x54, G53)
theorem m102 {e : Ex} {E : Ev} (h : ExLe Q e E) (v0 : Value) (G : GS) : Ref (s102 true e v0 G) (s102 false (Ex.of E) v0 G) := by
  unfold s102
  exact Ref.gq
theorem f102 {orc : FuncId → Bool} {e : Ex} (h : ExLe Q e (E orc)) (v0 : Value) (G : GS) : Ref (s102 true e v0 G) ((E orc).cl 102 [v0] G) :=
  fun r hr => cl_sxE_some Q orc (vs := [v0]) G Tryz.func102 (by kernel_rfl) (by kernel_rfl) (by kernel_rfl) (by kernel_rfl) (by kernel_rfl) (by kernel_rfl) (m102 h v0 G r hr)
/-- coxswain/tower.nodes -/
noncomputable def s103 (q : Bool) (e : Ex) (v0 : Value) (G : GS) : Option (Value × GS) :=
  bS (bx q v0 G) fun x0 G1 =>
  bS (al Q q 187 z187 G1) fun x2 G3 =>
  bP (fa Q q 31 0 0 x0) fun x4 =>
  bP (ld Q q 3 x4 G3) fun x5 =>
  bP (fa Q q 31 3 3 x0) fun x6 =>
  bP (fa Q q 29 0 0 x6) fun x7 =>
  bP (fa Q q 25 0 0 x7) fun x8 =>
  bP (fa Q q 23 2 2 x8) fun x9 =>
  bP (ld Q q 3 x9 G3) fun x10 =>
  bP (fa Q q 31 2 2 x0) fun x11 =>
  bP (ld Q q 3 x11 G3) fun x12 =>
  bP (bd Q q 187 z187 [(0, 0, 1), (1, 1, 1), (2, 2, 1)] [x5, x10, x12]) fun x13 =>
  bP (st Q q 187 3 x2 x13 G3) fun G14 =>
  bP (lda Q q 187 3 x2 G14) fun x15 =>
  some (x15, G14)
theorem m103 {e : Ex} {E : Ev} (h : ExLe Q e E) (v0 : Value) (G : GS) : Ref (s103 true e v0 G) (s103 false (Ex.of E) v0 G) := by
  unfold s103
  exact Ref.gq
theorem f103 {orc : FuncId → Bool} {e : Ex} (h : ExLe Q e (E orc)) (v0 : Value) (G : GS) : Ref (s103 true e v0 G) ((E orc).cl 103 [v0] G) :=
  fun r hr => cl_sxE_some Q orc (vs := [v0]) G Tryz.func103 (by kernel_rfl) (by kernel_rfl) (by kernel_rfl) (by kernel_rfl) (by kernel_rfl) (by kernel_rfl) (m103 h v0 G r hr)
/-- coxswain/tower.heads -/
noncomputable def s105 (q : Bool) (e : Ex) (v0 : Value) (G : GS) : Option (Value × GS) :=
  bS (bx q v0 G) fun x0 G1 =>
  bS (al Q q 192 z192 G1) fun x2 G3 =>
  bP (fa Q q 31 1 1 x0) fun x4 =>
  bP (ld Q q 3 x4 G3) fun x5 =>
  bP (fa Q q 31 2 2 x0) fun x6 =>
  bP (ld Q q 3 x6 G3) fun x7 =>
  bP (bd Q q 192 z192 [(0, 0, 1), (1, 1, 1), (2, 2, 1)] [x5, (.int .i64 1), x7]) fun x8 =>
  bP (st Q q 192 3 x2 x8 G3) fun G9 =>
  bP (lda Q q 192 3 x2 G9) fun x10 =>
  some (x10, G9)
theorem m105 {e : Ex} {E : Ev} (h : ExLe Q e E) (v0 : Value) (G : GS) : Ref (s105 true e v0 G) (s105 false (Ex.of E) v0 G) := by
  unfold s105
  exact Ref.gq
theorem f105 {orc : FuncId → Bool} {e : Ex} (h : ExLe Q e (E orc)) (v0 : Value) (G : GS) : Ref (s105 true e v0 G) ((E orc).cl 105 [v0] G) :=
  fun r hr => cl_sxE_some Q orc (vs := [v0]) G Tryz.func105 (by kernel_rfl) (by kernel_rfl) (by kernel_rfl) (by kernel_rfl) (by kernel_rfl) (by kernel_rfl) (m105 h v0 G r hr)
noncomputable def b156_0 (q : Bool) (e : Ex) (lp : Env → GS → Option (Exit × Env × GS)) (τ : Env) (G : GS) : Option (Exit × Env × GS) :=
  bV q (τ 1) fun a1_ =>
  bV q (τ 2) fun a2_ =>
  bV q (τ 13) fun a13_ =>
  bV q (τ 14) fun a14_ =>
  bP (bn Q q .lss 3 (.tmp 14) (.tmp 13) a14_ a13_) fun x0 =>
  ifV x0 (
  bP (fa Q q 31 1 1 a2_) fun x1 =>
  bP (ld Q q 3 x1 G) fun x2 =>
  bP (bn Q q .add 3 (.tmp 19) (.tmp 20) x2 a14_) fun x3 =>
  bS (e.ev.cl 45 [a1_, x3, (.int .u64 0)] G) fun x4 G5 =>
  bP (bn Q q .add 3 (.tmp 14) (.const (.int .i64 1)) a14_ (.int .i64 1)) fun x6 =>
  lp (xq q 24 τ [(14, x6), (23, x6), (22, x4), (21, x3), (20, a14_), (19, x2), (18, x1), (17, a1_), (4, a14_), (16, a14_), (15, x0)] [(1, a1_), (2, a2_), (13, a13_)]) G5) (
  some ((.exit 0), xq q 24 τ [(15, x0)] [(1, a1_), (2, a2_), (13, a13_), (14, a14_)], G))
theorem mb156_0 {e : Ex} {E : Ev} (h : ExLe Q e E) {lp lp' : Env → GS → Option (Exit × Env × GS)} (hlp : LpLe lp lp') (τ : Env) (G : GS) : Ref (b156_0 true e lp τ G) (b156_0 false (Ex.of E) lp' τ G) := by
  unfold b156_0
  exact Ref.gq
theorem l156_0 {orc : FuncId → Bool} {e : Ex} (h : ExLe Q e (E orc)) (lp : Env → GS → Option (Exit × Env × GS)) (hlp : ∀ τ G, Ref (lp τ G) (mapE ((E orc).lp (subAt [1, 1, 1, 1, 0, 0] (bodyOf Tryz.f156)) (lst 24 τ) G))) (T : List Value) (G : GS) (hT : T.length = 24) : Ref (b156_0 true e lp (nth undef T) G) (mapE ((E orc).lp (subAt [1, 1, 1, 1, 0, 0] (bodyOf Tryz.f156)) T G)) :=
  fun r hr => lp_sxN Q orc G hT (by kernel_rfl) (mb156_0 h ⟨hlp⟩ _ _ r hr)
/-- coxswain/tower.Fill -/
noncomputable def s156 (q : Bool) (e : Ex) (v0 v1 : Value) (G : GS) : Option (Value × GS) :=
  bS (bx q v0 G) fun x0 G1 =>
  bP (lda Q q 31 13 x0 G1) fun x2 =>
  bS (e.ev.cl 102 [x2] G1) fun x3 G4 =>
  bP (un Q q .not x3) fun x5 =>
  ifV x5 (
  some (.tuple #[], G4)) (
  bP (fa Q q 31 3 3 x0) fun x6 =>
  bP (lda Q q 29 10 x6 G4) fun x7 =>
  bS (e.ev.cl 246 [x7, v1] G4) fun x8 G9 =>
  bP (fa Q q 31 2 2 x0) fun x10 =>
  bP (ld Q q 3 x10 G9) fun x11 =>
  bLq q e 156 0 (subAt [1, 1, 1, 1, 0, 0] (bodyOf Tryz.f156)) 24 (nth undef [v0, v1]) [(14, (.int .i64 0)), (13, x11), (12, x10), (11, x8), (10, v1), (9, x7), (8, x6), (7, x5), (6, x3), (5, x2), (2, x0)] [] G9 fun e12 t13 G14 =>
  ifE e12 (.exit 0) (
  some (.tuple #[], G14)) (none))
theorem m156 {e : Ex} {E : Ev} (h : ExLe Q e E) (v0 v1 : Value) (G : GS) : Ref (s156 true e v0 v1 G) (s156 false (Ex.of E) v0 v1 G) := by
  unfold s156
  exact Ref.gq
theorem f156 {orc : FuncId → Bool} {e : Ex} (h : ExLe Q e (E orc)) (v0 v1 : Value) (G : GS) : Ref (s156 true e v0 v1 G) ((E orc).cl 156 [v0, v1] G) :=
  fun r hr => cl_sxE_some Q orc (vs := [v0, v1]) G Tryz.func156 (by kernel_rfl) (by kernel_rfl) (by kernel_rfl) (by kernel_rfl) (by kernel_rfl) (by kernel_rfl) (m156 h v0 v1 G r hr)
/-- (*coxswain/cells.Mem).cell -/
noncomputable def s158 (q : Bool) (e : Ex) (v0 v1 : Value) (G : GS) : Option (Value × GS) :=
  bP (ep Q q false 32 (.tmp 5) (.const (.pointer none)) v0 (.pointer none)) fun x0 =>
  bS (gd x0 false (some (v0, G)) G) fun x1 G2 =>
  bS (gd x0 false (bP (pNil x1) fun y => some (y, G2)) G2) fun x3 G4 =>
  bS (gd x0 false (bP (fa Q q 158 0 0 x3) fun y => some (y, G4)) G4) fun x5 G6 =>
  bS (gd x0 false (bP (ld Q q 153 x5 G6) fun y => some (y, G6)) G6) fun x7 G8 =>
  bS (gd x0 false (bP (ep Q q false 153 (.tmp 11) (.const (.pointer none)) x7 (.pointer none)) fun y => some (y, G8)) G8) fun x9 G10 =>
  bP (pickV x0 (.bool true) x9) fun x11 =>
  bS (gd x11 false (some (v1, G10)) G10) fun x12 G13 =>
  bS (gd x11 false (bP (bn Q q .lss 3 (.tmp 15) (.const (.int .i64 0)) x12 (.int .i64 0)) fun y => some (y, G13)) G13) fun x14 G15 =>
  bP (pickV x11 (.bool true) x14) fun x16 =>
  bS (gd x16 false (some (v1, G15)) G15) fun x17 G18 =>
  bS (gd x16 false (some (v0, G18)) G18) fun x19 G20 =>
  bS (gd x16 false (bP (pNil x19) fun y => some (y, G20)) G20) fun x21 G22 =>
  bS (gd x16 false (bP (fa Q q 158 1 1 x21) fun y => some (y, G22)) G22) fun x23 G24 =>
  bS (gd x16 false (bP (ld Q q 3 x23 G24) fun y => some (y, G24)) G24) fun x25 G26 =>
  bS (gd x16 false (bP (bn Q q .geq 3 (.tmp 19) (.tmp 23) x17 x25) fun y => some (y, G26)) G26) fun x27 G28 =>
  bP (pickV x16 (.bool true) x27) fun x29 =>
  ifV x29 (
  some ((.pointer none), G28)) (
  bP (pNil v0) fun x30 =>
  bP (fa Q q 158 0 0 x30) fun x31 =>
  bP (ld Q q 153 x31 G28) fun x32 =>
  bP (pNil x32) fun x33 =>
  bP (iaa Q q 156 4096 1 x33 v1) fun x34 =>
  some (x34, G28))
theorem m158 {e : Ex} {E : Ev} (h : ExLe Q e E) (v0 v1 : Value) (G : GS) : Ref (s158 true e v0 v1 G) (s158 false (Ex.of E) v0 v1 G) := by
  unfold s158
  exact Ref.gq
theorem f158 {orc : FuncId → Bool} {e : Ex} (h : ExLe Q e (E orc)) (v0 v1 : Value) (G : GS) : Ref (s158 true e v0 v1 G) ((E orc).cl 158 [v0, v1] G) :=
  fun r hr => cl_sxE_some Q orc (vs := [v0, v1]) G Tryz.func158 (by kernel_rfl) (by kernel_rfl) (by kernel_rfl) (by kernel_rfl) (by kernel_rfl) (by kernel_rfl) (m158 h v0 v1 G r hr)
noncomputable def jb159_0 (q : Bool) (e : Ex) (τ : Env) (G : GS) : Option (Value × GS) :=
  bV q (τ 0) fun a0_ =>
  bV q (τ 10) fun a10_ =>
  bP (pNil a0_) fun x28 =>
  bP (fa Q q 158 2 2 x28) fun x29 =>
  bP (lda Q q 68 5 x29 G) fun x30 =>
  bP (st Q q 68 5 a10_ x30 G) fun G31 =>
  bP (lda Q q 68 5 a10_ G31) fun x32 =>
  some (x32, G31)
noncomputable def j159_0 (q : Bool) (e : Ex) (τ : Env) (G : GS) : Option (Value × GS) := jb159_0 q e τ G
theorem mj159_0 {e : Ex} {E : Ev} (h : ExLe Q e E) (τ : Env) (G : GS) : Ref (j159_0 true e τ G) (j159_0 false (Ex.of E) τ G) := by
  unfold j159_0 jb159_0
  exact Ref.gq
theorem mkj159_0 {e : Ex} {E : Ev} (h : ExLe Q e E) {τ : Env} {l U : List (Nat × Value)} {G : GS} (hU : UOk τ U) : Ref (j159_0 true e (xq true 67 τ l U) G) (j159_0 false (Ex.of E) (xq false 67 τ l U) G) := by
  rw [xq_eq hU]
  exact mj159_0 h _ _
noncomputable def sb159 (q : Bool) (e : Ex) (J0 : Env → GS → Option (Value × GS)) (v0 v1 v2 v3 v4 : Value) (G : GS) : Option (Value × GS) :=
  bS (al Q q 68 z68 G) fun x0 G1 =>
  bP (ep Q q false 32 (.tmp 13) (.const (.pointer none)) v0 (.pointer none)) fun x2 =>
  bS (gd x2 false (some (v0, G1)) G1) fun x3 G4 =>
  bS (gd x2 false (bP (pNil x3) fun y => some (y, G4)) G4) fun x5 G6 =>
  bS (gd x2 false (bP (fa Q q 158 0 0 x5) fun y => some (y, G6)) G6) fun x7 G8 =>
  bS (gd x2 false (bP (ld Q q 153 x7 G8) fun y => some (y, G8)) G8) fun x9 G10 =>
  bS (gd x2 false (bP (ep Q q false 153 (.tmp 19) (.const (.pointer none)) x9 (.pointer none)) fun y => some (y, G10)) G10) fun x11 G12 =>
  bP (pickV x2 (.bool true) x11) fun x13 =>
  ifV x13 (
  bP (bd Q q 68 z68 [] []) fun x14 =>
  bP (st Q q 68 5 x0 x14 G12) fun G15 =>
  bP (lda Q q 68 5 x0 G15) fun x16 =>
  some (x16, G15)) (
  bP (pNil v0) fun x17 =>
  bP (fa Q q 158 3 7 x17) fun x18 =>
  bP (ld Q q 3 x18 G12) fun x19 =>
  bP (bn Q q .add 3 (.tmp 26) (.const (.int .i64 1)) x19 (.int .i64 1)) fun x20 =>
  bP (pNil v0) fun x21 =>
  bP (fa Q q 158 3 7 x21) fun x22 =>
  bP (st Q q 3 1 x22 x20 G12) fun G23 =>
  bP (bd Q q 68 z68 [(0, 0, 1), (1, 1, 1)] [v1, v2]) fun x24 =>
  bP (pNil v0) fun x25 =>
  bP (fa Q q 158 2 2 x25) fun x26 =>
  bP (st Q q 68 5 x26 x24 G23) fun G27 =>
  bS (e.ev.cl 248 [v3] G27) fun x33 G34 =>
  ifV x33 (
  bS (cValue e.ev v4 [] G34) fun x35 G36 =>
  bP (pExtract x35 0) fun x37 =>
  bP (pExtract x35 1) fun x38 =>
  bP (pNil v3) fun x39 =>
  bP (ld Q q 154 x39 G36) fun x40 =>
  bP (pNil v0) fun x41 =>
  bP (fa Q q 158 2 2 x41) fun x42 =>
  bP (fa Q q 68 2 2 x42) fun x43 =>
  bP (st Q q 41 1 x43 x40 G36) fun G44 =>
  bP (pNil v0) fun x45 =>
  bP (fa Q q 158 2 2 x45) fun x46 =>
  bP (fa Q q 68 3 3 x46) fun x47 =>
  bP (st Q q 41 1 x47 x37 G44) fun G48 =>
  bP (pNil v0) fun x49 =>
  bP (fa Q q 158 2 2 x49) fun x50 =>
  bP (fa Q q 68 4 4 x50) fun x51 =>
  bP (st Q q 4 1 x51 x38 G48) fun G52 =>
  bP (pNil v3) fun x53 =>
  bP (st Q q 154 1 x53 x37 G52) fun G54 =>
  J0 (xq q 67 (nth undef [v0, v1, v2, v3, v4]) [(62, x53), (61, x37), (60, v3), (59, x51), (58, x50), (57, x49), (56, x47), (55, x46), (54, x45), (53, x43), (52, x42), (51, x41), (50, x38), (49, x37), (48, x40), (47, x39), (46, v3), (45, v0), (44, v0), (43, v0), (12, x38), (11, x37), (42, x38), (41, x37), (38, x35), (40, x35), (39, v4), (37, x33), (36, v3), (35, x26), (34, x25), (33, x24), (32, v2), (31, v1), (30, v0), (29, x22), (28, x21), (27, x20), (26, x19), (25, x18), (24, x17), (23, v0), (21, x13), (20, x11), (19, x9), (18, x7), (17, x5), (16, x3), (15, x2), (14, x2), (13, v0), (10, x0)] []) G54) (
  J0 (xq q 67 (nth undef [v0, v1, v2, v3, v4]) [(37, x33), (36, v3), (35, x26), (34, x25), (33, x24), (32, v2), (31, v1), (30, v0), (29, x22), (28, x21), (27, x20), (26, x19), (25, x18), (24, x17), (23, v0), (21, x13), (20, x11), (19, x9), (18, x7), (17, x5), (16, x3), (15, x2), (14, x2), (13, v0), (10, x0)] []) G34))
/-- (*coxswain/cells.Mem).do -/
noncomputable def s159 (q : Bool) (e : Ex) (v0 v1 v2 v3 v4 : Value) (G : GS) : Option (Value × GS) := sb159 q e (j159_0 q e) v0 v1 v2 v3 v4 G
theorem m159 {e : Ex} {E : Ev} (h : ExLe Q e E) (v0 v1 v2 v3 v4 : Value) (G : GS) : Ref (s159 true e v0 v1 v2 v3 v4 G) (s159 false (Ex.of E) v0 v1 v2 v3 v4 G) := by
  unfold s159 sb159
  repeat' (with_reducible first | exact Ref.rfl' _ | exact ROp.r | refine Ref.bP ?_ fun _ => ?_ | refine Ref.bS ?_ fun _ _ => ?_ | exact Ref.cl (by assumption) | refine Ref.ifV ?_ ?_ | refine LpLe.rx (by assumption) ?_ | refine Ref.xitq ?_ | exact UOk.z | refine UOk.c (by assumption) ?_ | exact Ref.nil _ | refine Ref.bVe fun _ _ => ?_ | refine Ref.bLq (by assumption) ?_ fun _ _ _ => ?_ | refine Ref.ifE ?_ ?_ | refine Ref.chk ?_ ?_ | refine Imp.and ?_ ?_ | refine Imp.or ?_ | exact Imp.rfl' _ | refine Imp.sameO ?_ | refine Ref.gd ?_ | exact Ref.cValue (by assumption) | refine Ref.bX ?_ fun _ _ _ => ?_ | exact Ref.scQ (by assumption) | exact Ref.xRangeQ (by assumption) | exact Ref.cInvoke (by assumption) | refine mkj159_0 (by assumption) ?_)
noncomputable def jt159 (J0 : Env → GS → Option (Value × GS)) : JT (Value × GS) :=
  (.n none .e (.n none .e (.n none .e (.n none .e (.n (some (fun T G => J0 (nth undef T) G)) .e .e)))))
theorem jr159_0 (orc : FuncId → Bool) (J0 : Env → GS → Option (Value × GS)) (T : List Value) (G : GS) : runC Q (evL Q orc) Tryz.f159.ntmps (jt159 J0) (bodyOf Tryz.f159) (retE Q Tryz.f159.results.toList) [true, true, true, true] (nth undef T) G = jb159_0 false (Ex.of (E orc))  (nth undef T) G := by kernel_rfl
theorem jo159 (orc : FuncId → Bool) : JOk Q orc Tryz.f159.ntmps (jt159 (j159_0 false (Ex.of (E orc))) ) (bodyOf Tryz.f159) (retE Q Tryz.f159.results.toList) :=
  jOk Q orc (l := [([true, true, true, true], (fun T G => j159_0 false (Ex.of (E orc)) (nth undef T) G))]) (by kernel_rfl) (AllE.c (fun T G => jr159_0 orc (j159_0 false (Ex.of (E orc))) T G) (AllE.z))
theorem je159 (orc : FuncId → Bool) (J0 : Env → GS → Option (Value × GS)) (v0 v1 v2 v3 v4 : Value) (G : GS) : sxC Q (evL Q orc) Tryz.f159.ntmps (jt159 J0) (bodyOf Tryz.f159) (nth undef [v0, v1, v2, v3, v4]) G (retE Q Tryz.f159.results.toList) = sb159 false (Ex.of (E orc)) J0 v0 v1 v2 v3 v4 G := by kernel_rfl
theorem f159 {orc : FuncId → Bool} {e : Ex} (h : ExLe Q e (E orc)) (v0 v1 v2 v3 v4 : Value) (G : GS) : Ref (s159 true e v0 v1 v2 v3 v4 G) ((E orc).cl 159 [v0, v1, v2, v3, v4] G) :=
  fun r hr => cl_sxC Q orc (vs := [v0, v1, v2, v3, v4]) G (jt159 (j159_0 false (Ex.of (E orc))) ) Tryz.func159 (by kernel_rfl) (by kernel_rfl) (by kernel_rfl) (by kernel_rfl) (by kernel_rfl) (jo159 orc) (je159 orc (j159_0 false (Ex.of (E orc))) v0 v1 v2 v3 v4 G) (m159 h v0 v1 v2 v3 v4 G r hr)
/-- (coxswain/cells.deed).store -/
noncomputable def s160 (q : Bool) (e : Ex) (v0 : Value) (G : GS) : Option (Value × GS) :=
  bS (bx q v0 G) fun x0 G1 =>
  bP (fa Q q 246 1 1 x0) fun x2 =>
  bP (ld Q q 41 x2 G1) fun x3 =>
  some (.tuple #[x3, (.bool true)], G1)
theorem m160 {e : Ex} {E : Ev} (h : ExLe Q e E) (v0 : Value) (G : GS) : Ref (s160 true e v0 G) (s160 false (Ex.of E) v0 G) := by
  unfold s160
  exact Ref.gq
theorem f160 {orc : FuncId → Bool} {e : Ex} (h : ExLe Q e (E orc)) (v0 : Value) (G : GS) : Ref (s160 true e v0 G) ((E orc).cl 160 [v0] G) :=
  fun r hr => cl_sxE_some Q orc (vs := [v0]) G Tryz.func160 (by kernel_rfl) (by kernel_rfl) (by kernel_rfl) (by kernel_rfl) (by kernel_rfl) (by kernel_rfl) (m160 h v0 G r hr)
noncomputable def b171_0 (q : Bool) (e : Ex) (lp : Env → GS → Option (Exit × Env × GS)) (τ : Env) (G : GS) : Option (Exit × Env × GS) :=
  bV q (τ 1) fun a1_ =>
  bV q (τ 2) fun a2_ =>
  bV q (τ 18) fun a18_ =>
  bV q (τ 19) fun a19_ =>
  bP (bn Q q .lss 3 (.tmp 19) (.tmp 18) a19_ a18_) fun x0 =>
  ifV x0 (
  bP (fa Q q 25 1 3 a2_) fun x1 =>
  bP (ld Q q 3 x1 G) fun x2 =>
  bP (bn Q q .add 3 (.tmp 24) (.tmp 25) x2 a19_) fun x3 =>
  bS (e.ev.cl 45 [a1_, x3, (.int .u64 1)] G) fun x4 G5 =>
  bP (bn Q q .add 3 (.tmp 19) (.const (.int .i64 1)) a19_ (.int .i64 1)) fun x6 =>
  lp (xq q 29 τ [(19, x6), (28, x6), (27, x4), (26, x3), (25, a19_), (24, x2), (23, x1), (22, a1_), (4, a19_), (21, a19_), (20, x0)] [(1, a1_), (2, a2_), (18, a18_)]) G5) (
  some ((.exit 0), xq q 29 τ [(20, x0)] [(1, a1_), (2, a2_), (18, a18_), (19, a19_)], G))
theorem mb171_0 {e : Ex} {E : Ev} (h : ExLe Q e E) {lp lp' : Env → GS → Option (Exit × Env × GS)} (hlp : LpLe lp lp') (τ : Env) (G : GS) : Ref (b171_0 true e lp τ G) (b171_0 false (Ex.of E) lp' τ G) := by
  unfold b171_0
  exact Ref.gq
theorem l171_0 {orc : FuncId → Bool} {e : Ex} (h : ExLe Q e (E orc)) (lp : Env → GS → Option (Exit × Env × GS)) (hlp : ∀ τ G, Ref (lp τ G) (mapE ((E orc).lp (subAt [1, 1, 1, 1, 1, 0, 0] (bodyOf Tryz.f171)) (lst 29 τ) G))) (T : List Value) (G : GS) (hT : T.length = 29) : Ref (b171_0 true e lp (nth undef T) G) (mapE ((E orc).lp (subAt [1, 1, 1, 1, 1, 0, 0] (bodyOf Tryz.f171)) T G)) :=
  fun r hr => lp_sxN Q orc G hT (by kernel_rfl) (mb171_0 h ⟨hlp⟩ _ _ r hr)
/-- coxswain/arena.Fill -/
noncomputable def s171 (q : Bool) (e : Ex) (v0 v1 : Value) (G : GS) : Option (Value × GS) :=
  bS (bx q v0 G) fun x0 G1 =>
  bP (lda Q q 25 6 x0 G1) fun x2 =>
  bS (e.ev.cl 256 [x2] G1) fun x3 G4 =>
  bP (un Q q .not x3) fun x5 =>
  ifV x5 (
  some (.tuple #[], G4)) (
  bP (fa Q q 25 0 0 x0) fun x6 =>
  bP (lda Q q 23 3 x6 G4) fun x7 =>
  bS (e.ev.cl 257 [x7, v1] G4) fun x8 G9 =>
  bP (fa Q q 25 2 4 x0) fun x10 =>
  bP (ld Q q 3 x10 G9) fun x11 =>
  bS (e.ev.cl 45 [v1, x11, (.int .u64 0)] G9) fun x12 G13 =>
  bP (fa Q q 25 0 0 x0) fun x14 =>
  bP (fa Q q 23 2 2 x14) fun x15 =>
  bP (ld Q q 3 x15 G13) fun x16 =>
  bLq q e 171 0 (subAt [1, 1, 1, 1, 1, 0, 0] (bodyOf Tryz.f171)) 29 (nth undef [v0, v1]) [(19, (.int .i64 0)), (18, x16), (17, x15), (16, x14), (15, x12), (14, x11), (13, x10), (12, v1), (11, x8), (10, v1), (9, x7), (8, x6), (7, x5), (6, x3), (5, x2), (2, x0)] [] G13 fun e17 t18 G19 =>
  ifE e17 (.exit 0) (
  some (.tuple #[], G19)) (none))
theorem m171 {e : Ex} {E : Ev} (h : ExLe Q e E) (v0 v1 : Value) (G : GS) : Ref (s171 true e v0 v1 G) (s171 false (Ex.of E) v0 v1 G) := by
  unfold s171
  exact Ref.gq
theorem f171 {orc : FuncId → Bool} {e : Ex} (h : ExLe Q e (E orc)) (v0 v1 : Value) (G : GS) : Ref (s171 true e v0 v1 G) ((E orc).cl 171 [v0, v1] G) :=
  fun r hr => cl_sxE_some Q orc (vs := [v0, v1]) G Tryz.func171 (by kernel_rfl) (by kernel_rfl) (by kernel_rfl) (by kernel_rfl) (by kernel_rfl) (by kernel_rfl) (m171 h v0 v1 G r hr)
/-- (*coxswain/cells.Mem).Load -/
noncomputable def s177 (q : Bool) (e : Ex) (v0 v1 : Value) (G : GS) : Option (Value × GS) :=
  bS (e.ev.cl 158 [v0, v1] G) fun x0 G1 =>
  bP (bd Q q 246 z246 [(0, 0, 1)] [x0]) fun x2 =>
  bS (al Q q 246 z246 G1) fun x3 G4 =>
  bP (st Q q 246 3 x3 x2 G4) fun G5 =>
  bP (fa Q q 246 0 0 x3) fun x6 =>
  bP (ld Q q 243 x6 G5) fun x7 =>
  bP (lda Q q 246 3 x3 G5) fun x8 =>
  bS (e.ev.cl 159 [v0, (.int .i64 1), v1, x7, (.func (.func 260) #[x8] #[])] G5) fun x9 G10 =>
  bP (fd Q q 68 3 3 x9) fun x11 =>
  some (x11, G10)
theorem m177 {e : Ex} {E : Ev} (h : ExLe Q e E) (v0 v1 : Value) (G : GS) : Ref (s177 true e v0 v1 G) (s177 false (Ex.of E) v0 v1 G) := by
  unfold s177
  exact Ref.gq
theorem f177 {orc : FuncId → Bool} {e : Ex} (h : ExLe Q e (E orc)) (v0 v1 : Value) (G : GS) : Ref (s177 true e v0 v1 G) ((E orc).cl 177 [v0, v1] G) :=
  fun r hr => cl_sxE_some Q orc (vs := [v0, v1]) G Tryz.func177 (by kernel_rfl) (by kernel_rfl) (by kernel_rfl) (by kernel_rfl) (by kernel_rfl) (by kernel_rfl) (m177 h v0 v1 G r hr)
/-- coxswain/word.GetTop -/
noncomputable def s189 (q : Bool) (e : Ex) (v0 : Value) (G : GS) : Option (Value × GS) :=
  bS (al Q q 274 z274 G) fun x0 G1 =>
  bS (e.ev.cl 271 [] G1) fun x2 G3 =>
  bS (al Q q 393 z393 G3) fun x4 G5 =>
  bP (st Q q 393 4 x4 x2 G5) fun G6 =>
  bP (iaa Q q 393 2 2 x4 (.int .i64 0)) fun x7 =>
  bP (lda Q q 392 2 x7 (G6.room 12)) fun x8 =>
  bS (e.ev.cl 272 [v0, x8] (G6.room 12)) fun x10 G9 =>
  bP (bn Q q .sub 3 (.tmp 9) (.const (.int .i64 1)) x10 (.int .i64 1)) fun x11 =>
  bP (iaa Q q 393 2 2 x4 (.int .i64 1)) fun x12 =>
  bP (lda Q q 392 2 x12 G9) fun x13 =>
  chk ((sameO (lda Q q 392 2 x12 (G6.room 12)) x13 && true)) <|
  bS (e.ev.cl 272 [v0, x13] G9) fun x15 G14 =>
  bP (bd Q q 274 z274 [(0, 0, 1), (1, 1, 1)] [x11, x15]) fun x16 =>
  bP (st Q q 274 2 x0 x16 G14) fun G17 =>
  bP (lda Q q 274 2 x0 G17) fun x18 =>
  some (.tuple #[x18, (.int .i64 0)], G17)
theorem m189 {e : Ex} {E : Ev} (h : ExLe Q e E) (v0 : Value) (G : GS) : Ref (s189 true e v0 G) (s189 false (Ex.of E) v0 G) := by
  unfold s189
  exact Ref.gq
theorem f189 {orc : FuncId → Bool} {e : Ex} (h : ExLe Q e (E orc)) (v0 : Value) (G : GS) : Ref (s189 true e v0 G) ((E orc).cl 189 [v0] G) :=
  fun r hr => cl_sxE_some Q orc (vs := [v0]) G Tryz.func189 (by kernel_rfl) (by kernel_rfl) (by kernel_rfl) (by kernel_rfl) (by kernel_rfl) (by kernel_rfl) (m189 h v0 G r hr)
/-- (*coxswain/claim.Claim).below -/
noncomputable def s190 (q : Bool) (e : Ex) (v0 : Value) (G : GS) : Option (Value × GS) :=
  bP (pNil v0) fun x0 =>
  bP (fa Q q 48 0 0 x0) fun x1 =>
  bP (fa Q q 46 1 13 x1) fun x2 =>
  bP (fa Q q 40 0 0 x2) fun x3 =>
  bP (ld Q q 3 x3 G) fun x4 =>
  bP (bn Q q .sub 3 (.tmp 7) (.const (.int .i64 1)) x4 (.int .i64 1)) fun x5 =>
  bP (pNil v0) fun x6 =>
  bP (fa Q q 48 0 0 x6) fun x7 =>
  bP (fa Q q 46 1 13 x7) fun x8 =>
  bP (fa Q q 40 0 0 x8) fun x9 =>
  bP (st Q q 3 1 x9 x5 G) fun G10 =>
  bP (pNil v0) fun x11 =>
  bP (fa Q q 48 0 0 x11) fun x12 =>
  bP (fa Q q 46 2 17 x12) fun x13 =>
  bP (st Q q 3 1 x13 (.int .i64 5) G10) fun G14 =>
  bP (pNil v0) fun x15 =>
  bP (fa Q q 48 0 0 x15) fun x16 =>
  bP (fa Q q 46 1 13 x16) fun x17 =>
  bP (fa Q q 40 0 0 x17) fun x18 =>
  bP (ld Q q 3 x18 G14) fun x19 =>
  bP (bn Q q .lss 3 (.tmp 22) (.const (.int .i64 1)) x19 (.int .i64 1)) fun x20 =>
  ifV x20 (
  bP (pNil v0) fun x21 =>
  bP (fa Q q 48 0 0 x21) fun x22 =>
  bP (fa Q q 46 2 17 x22) fun x23 =>
  bP (st Q q 3 1 x23 (.int .i64 7) G14) fun G24 =>
  some (.tuple #[], G24)) (
  some (.tuple #[], G14))
theorem m190 {e : Ex} {E : Ev} (h : ExLe Q e E) (v0 : Value) (G : GS) : Ref (s190 true e v0 G) (s190 false (Ex.of E) v0 G) := by
  unfold s190
  exact Ref.gq
theorem f190 {orc : FuncId → Bool} {e : Ex} (h : ExLe Q e (E orc)) (v0 : Value) (G : GS) : Ref (s190 true e v0 G) ((E orc).cl 190 [v0] G) :=
  fun r hr => cl_sxE_some Q orc (vs := [v0]) G Tryz.func190 (by kernel_rfl) (by kernel_rfl) (by kernel_rfl) (by kernel_rfl) (by kernel_rfl) (by kernel_rfl) (m190 h v0 G r hr)
/-- coxswain/tower.At -/
noncomputable def s191 (q : Bool) (e : Ex) (v0 v1 v2 : Value) (G : GS) : Option (Value × GS) :=
  bS (bx q v0 G) fun x0 G1 =>
  bP (lda Q q 31 13 x0 G1) fun x2 =>
  bS (e.ev.cl 102 [x2] G1) fun x3 G4 =>
  bP (un Q q .not x3) fun x5 =>
  ifV x5 (
  some ((.int .i64 (-1)), G4)) (
  bP (bn Q q .neq 3 (.tmp 12) (.const (.int .i64 (-1))) v1 (.int .i64 (-1))) fun x6 =>
  ifV x6 (
  bP (lda Q q 31 13 x0 G4) fun x7 =>
  bS (e.ev.cl 103 [x7] G4) fun x8 G9 =>
  bS (e.ev.cl 273 [x8, v1, v2] G9) fun x10 G11 =>
  some (x10, G11)) (
  bP (bn Q q .lss 3 (.tmp 20) (.const (.int .i64 4)) v2 (.int .i64 4)) fun x12 =>
  bS (gd x12 false (some (v2, G4)) G4) fun x13 G14 =>
  bS (gd x12 false (bP (fa Q q 31 2 2 x0) fun y => some (y, G14)) G14) fun x15 G16 =>
  bS (gd x12 false (bP (ld Q q 3 x15 G16) fun y => some (y, G16)) G16) fun x17 G18 =>
  bS (gd x12 false (bP (bn Q q .add 3 (.const (.int .i64 4)) (.tmp 25) (.int .i64 4) x17) fun y => some (y, G18)) G18) fun x19 G20 =>
  bS (gd x12 false (bP (bn Q q .geq 3 (.tmp 23) (.tmp 26) x13 x19) fun y => some (y, G20)) G20) fun x21 G22 =>
  bP (pickV x12 (.bool true) x21) fun x23 =>
  ifV x23 (
  some ((.int .i64 (-1)), G22)) (
  bP (lda Q q 31 13 x0 G22) fun x24 =>
  bS (e.ev.cl 105 [x24] G22) fun x25 G26 =>
  bP (bn Q q .sub 3 (.tmp 31) (.const (.int .i64 4)) v2 (.int .i64 4)) fun x27 =>
  bS (e.ev.cl 274 [x25, (.int .i64 0), x27] G26) fun x28 G29 =>
  some (x28, G29))))
theorem m191 {e : Ex} {E : Ev} (h : ExLe Q e E) (v0 v1 v2 : Value) (G : GS) : Ref (s191 true e v0 v1 v2 G) (s191 false (Ex.of E) v0 v1 v2 G) := by
  unfold s191
  exact Ref.gq
theorem f191 {orc : FuncId → Bool} {e : Ex} (h : ExLe Q e (E orc)) (v0 v1 v2 : Value) (G : GS) : Ref (s191 true e v0 v1 v2 G) ((E orc).cl 191 [v0, v1, v2] G) :=
  fun r hr => cl_sxE_some Q orc (vs := [v0, v1, v2]) G Tryz.func191 (by kernel_rfl) (by kernel_rfl) (by kernel_rfl) (by kernel_rfl) (by kernel_rfl) (by kernel_rfl) (m191 h v0 v1 v2 G r hr)
/-- coxswain/word.Marked -/
noncomputable def s192 (q : Bool) (e : Ex) (v0 : Value) (G : GS) : Option (Value × GS) :=
  bP (bn Q q .shr 41 (.tmp 3) (.const (.int .u64 63)) v0 (.int .u64 63)) fun x0 =>
  bP (bn Q q .eql 41 (.tmp 4) (.const (.int .u64 1)) x0 (.int .u64 1)) fun x1 =>
  some (x1, G)
theorem m192 {e : Ex} {E : Ev} (h : ExLe Q e E) (v0 : Value) (G : GS) : Ref (s192 true e v0 G) (s192 false (Ex.of E) v0 G) := by
  unfold s192
  exact Ref.gq
theorem f192 {orc : FuncId → Bool} {e : Ex} (h : ExLe Q e (E orc)) (v0 : Value) (G : GS) : Ref (s192 true e v0 G) ((E orc).cl 192 [v0] G) :=
  fun r hr => cl_sxE_some Q orc (vs := [v0]) G Tryz.func192 (by kernel_rfl) (by kernel_rfl) (by kernel_rfl) (by kernel_rfl) (by kernel_rfl) (by kernel_rfl) (m192 h v0 G r hr)
/-- (coxswain/cells.deed).swap -/
noncomputable def s193 (q : Bool) (e : Ex) (v0 : Value) (G : GS) : Option (Value × GS) :=
  bS (bx q v0 G) fun x0 G1 =>
  bP (fa Q q 246 0 0 x0) fun x2 =>
  bP (ld Q q 243 x2 (G1.room 7)) fun x3 =>
  bP (pNil x3) fun x4 =>
  bP (ld Q q 154 x4 (G1.room 7)) fun x5 =>
  bP (fa Q q 246 1 1 x0) fun x6 =>
  bP (ld Q q 41 x6 (G1.room 7)) fun x7 =>
  bP (bn Q q .neq 41 (.tmp 7) (.tmp 9) x5 x7) fun x8 =>
  ifV x8 (
  bP (fa Q q 246 0 0 x0) fun x9 =>
  bP (ld Q q 243 x9 (G1.room 7)) fun x10 =>
  bP (pNil x10) fun x11 =>
  bP (ld Q q 154 x11 (G1.room 7)) fun x12 =>
  some (.tuple #[x12, (.bool false)], (G1.room 7))) (
  bP (fa Q q 246 2 2 x0) fun x13 =>
  bP (ld Q q 41 x13 (G1.room 7)) fun x14 =>
  some (.tuple #[x14, (.bool true)], (G1.room 7)))
theorem m193 {e : Ex} {E : Ev} (h : ExLe Q e E) (v0 : Value) (G : GS) : Ref (s193 true e v0 G) (s193 false (Ex.of E) v0 G) := by
  unfold s193
  exact Ref.gq
theorem f193 {orc : FuncId → Bool} {e : Ex} (h : ExLe Q e (E orc)) (v0 : Value) (G : GS) : Ref (s193 true e v0 G) ((E orc).cl 193 [v0] G) :=
  fun r hr => cl_sxE_some Q orc (vs := [v0]) G Tryz.func193 (by kernel_rfl) (by kernel_rfl) (by kernel_rfl) (by kernel_rfl) (by kernel_rfl) (by kernel_rfl) (m193 h v0 G r hr)
/-- coxswain/word.Marks -/
noncomputable def s194 (q : Bool) (e : Ex) (v0 v1 : Value) (G : GS) : Option (Value × GS) :=
  ifV v1 (
  bP (bn Q q .or 41 (.tmp 6) (.const (.int .u64 9223372036854775808)) v0 (.int .u64 9223372036854775808)) fun x0 =>
  some (x0, G)) (
  bP (bn Q q .andNot 41 (.tmp 8) (.const (.int .u64 9223372036854775808)) v0 (.int .u64 9223372036854775808)) fun x1 =>
  some (x1, G))
theorem m194 {e : Ex} {E : Ev} (h : ExLe Q e E) (v0 v1 : Value) (G : GS) : Ref (s194 true e v0 v1 G) (s194 false (Ex.of E) v0 v1 G) := by
  unfold s194
  exact Ref.gq
theorem f194 {orc : FuncId → Bool} {e : Ex} (h : ExLe Q e (E orc)) (v0 v1 : Value) (G : GS) : Ref (s194 true e v0 v1 G) ((E orc).cl 194 [v0, v1] G) :=
  fun r hr => cl_sxE_some Q orc (vs := [v0, v1]) G Tryz.func194 (by kernel_rfl) (by kernel_rfl) (by kernel_rfl) (by kernel_rfl) (by kernel_rfl) (by kernel_rfl) (m194 h v0 v1 G r hr)
/-- (*coxswain/find.Find).anew -/
noncomputable def s195 (q : Bool) (e : Ex) (v0 : Value) (G : GS) : Option (Value × GS) :=
  bP (pNil v0) fun x0 =>
  bP (fa Q q 283 0 0 x0) fun x1 =>
  bP (fa Q q 31 2 2 x1) fun x2 =>
  bP (ld Q q 3 x2 G) fun x3 =>
  bP (bn Q q .sub 3 (.tmp 7) (.const (.int .i64 1)) x3 (.int .i64 1)) fun x4 =>
  bS (e.ev.cl 275 [v0, x4] G) fun x5 G6 =>
  some (.tuple #[], G6)
theorem m195 {e : Ex} {E : Ev} (h : ExLe Q e E) (v0 : Value) (G : GS) : Ref (s195 true e v0 G) (s195 false (Ex.of E) v0 G) := by
  unfold s195
  exact Ref.gq
theorem f195 {orc : FuncId → Bool} {e : Ex} (h : ExLe Q e (E orc)) (v0 : Value) (G : GS) : Ref (s195 true e v0 G) ((E orc).cl 195 [v0] G) :=
  fun r hr => cl_sxE_some Q orc (vs := [v0]) G Tryz.func195 (by kernel_rfl) (by kernel_rfl) (by kernel_rfl) (by kernel_rfl) (by kernel_rfl) (by kernel_rfl) (m195 h v0 G r hr)
noncomputable def b196_0 (q : Bool) (e : Ex) (lp : Env → GS → Option (Exit × Env × GS)) (τ : Env) (G : GS) : Option (Exit × Env × GS) :=
  bV q (τ 0) fun a0_ =>
  bV q (τ 1) fun a1_ =>
  bV q (τ 5) fun a5_ =>
  bV q (τ 6) fun a6_ =>
  bP (pNil a0_) fun x0 =>
  bP (fa Q q 283 2 14 x0) fun x1 =>
  bP (ld Q q 3 x1 G) fun x2 =>
  bP (bn Q q .eql 3 (.tmp 56) (.const (.int .i64 1)) x2 (.int .i64 1)) fun x3 =>
  ifV x3 (
  bS (e.ev.cl 177 [a1_, a5_] G) fun x4 G5 =>
  bP (pNil a0_) fun x6 =>
  bP (fa Q q 283 3 15 x6) fun x7 =>
  bP (fa Q q 280 3 3 x7) fun x8 =>
  bP (st Q q 41 1 x8 x4 G5) fun G9 =>
  bP (pNil a0_) fun x10 =>
  bP (fa Q q 283 3 15 x10) fun x11 =>
  bP (fa Q q 280 3 3 x11) fun x12 =>
  bP (ld Q q 41 x12 G9) fun x13 =>
  bS (e.ev.cl 192 [x13] G9) fun x14 G15 =>
  ifV x14 (
  bS (e.ev.cl 195 [a0_] G15) fun x16 G17 =>
  some ((.exit 0), xq q 195 τ [(76, x16), (75, a0_), (74, x14), (73, x13), (72, x12), (71, x11), (70, x10), (69, a0_), (68, x8), (67, x7), (66, x6), (65, x4), (64, a5_), (63, a1_), (62, a0_), (60, x3), (61, x3), (56, x2), (55, x1), (54, x0), (53, a0_)] [(0, a0_), (1, a1_), (5, a5_), (6, a6_)], G17)) (
  bS (e.ev.cl 278 [a0_] G15) fun x18 G19 =>
  some ((.exit 0), xq q 195 τ [(189, x18), (188, a0_), (74, x14), (73, x13), (72, x12), (71, x11), (70, x10), (69, a0_), (68, x8), (67, x7), (66, x6), (65, x4), (64, a5_), (63, a1_), (62, a0_), (60, x3), (61, x3), (56, x2), (55, x1), (54, x0), (53, a0_)] [(0, a0_), (1, a1_), (5, a5_), (6, a6_)], G19))) (
  bP (bn Q q .eql 3 (.tmp 56) (.const (.int .i64 2)) x2 (.int .i64 2)) fun x20 =>
  ifV x20 (
  bP (pNil a0_) fun x21 =>
  bP (fa Q q 283 3 15 x21) fun x22 =>
  bP (fa Q q 280 3 3 x22) fun x23 =>
  bP (ld Q q 41 x23 G) fun x24 =>
  bP (pNil a0_) fun x25 =>
  bP (fa Q q 283 6 21 x25) fun x26 =>
  bP (st Q q 41 1 x26 x24 G) fun G27 =>
  bP (pNil a0_) fun x28 =>
  bP (fa Q q 283 0 0 x28) fun x29 =>
  bP (lda Q q 31 13 x29 (G27.room 17)) fun x30 =>
  bP (pNil a0_) fun x31 =>
  bP (fa Q q 283 3 15 x31) fun x32 =>
  bP (fa Q q 280 0 0 x32) fun x33 =>
  bP (ld Q q 3 x33 (G27.room 17)) fun x34 =>
  bS (e.ev.cl 69 [x30, a6_, x34] (G27.room 17)) fun x36 G35 =>
  bS (e.ev.cl 177 [a1_, x36] G35) fun x38 G37 =>
  bP (pNil a0_) fun x39 =>
  bP (fa Q q 283 4 19 x39) fun x40 =>
  bP (st Q q 41 1 x40 x38 G37) fun G41 =>
  bP (pNil a0_) fun x42 =>
  bP (fa Q q 283 2 14 x42) fun x43 =>
  bP (st Q q 3 1 x43 (.int .i64 4) G41) fun G44 =>
  bP (pNil a0_) fun x45 =>
  bP (fa Q q 283 4 19 x45) fun x46 =>
  bP (ld Q q 41 x46 G44) fun x47 =>
  bS (e.ev.cl 192 [x47] G44) fun x48 G49 =>
  ifV x48 (
  bP (pNil a0_) fun x50 =>
  bP (fa Q q 283 2 14 x50) fun x51 =>
  bP (st Q q 3 1 x51 (.int .i64 3) G49) fun G52 =>
  some ((.exit 0), xq q 195 τ [(113, x51), (112, x50), (111, a0_), (110, x48), (109, x47), (108, x46), (107, x45), (106, a0_), (105, x43), (104, x42), (103, a0_), (102, x40), (101, x39), (100, x38), (99, x36), (98, x34), (97, x33), (96, x32), (95, x31), (94, a0_), (93, a6_), (92, x30), (91, x29), (90, x28), (89, a0_), (88, a1_), (87, a0_), (86, x26), (85, x25), (84, x24), (83, x23), (82, x22), (81, x21), (80, a0_), (79, a0_), (77, x20), (78, x20), (60, x3), (61, x3), (56, x2), (55, x1), (54, x0), (53, a0_)] [(0, a0_), (1, a1_), (5, a5_), (6, a6_)], G52)) (
  some ((.exit 0), xq q 195 τ [(110, x48), (109, x47), (108, x46), (107, x45), (106, a0_), (105, x43), (104, x42), (103, a0_), (102, x40), (101, x39), (100, x38), (99, x36), (98, x34), (97, x33), (96, x32), (95, x31), (94, a0_), (93, a6_), (92, x30), (91, x29), (90, x28), (89, a0_), (88, a1_), (87, a0_), (86, x26), (85, x25), (84, x24), (83, x23), (82, x22), (81, x21), (80, a0_), (79, a0_), (77, x20), (78, x20), (60, x3), (61, x3), (56, x2), (55, x1), (54, x0), (53, a0_)] [(0, a0_), (1, a1_), (5, a5_), (6, a6_)], G49))) (
  bP (bn Q q .eql 3 (.tmp 56) (.const (.int .i64 3)) x2 (.int .i64 3)) fun x53 =>
  ifV x53 (
  bP (pNil a0_) fun x54 =>
  bP (fa Q q 283 3 15 x54) fun x55 =>
  bP (fa Q q 280 3 3 x55) fun x56 =>
  bP (ld Q q 41 x56 (G.room 14)) fun x57 =>
  bP (pNil a0_) fun x58 =>
  bP (fa Q q 283 4 19 x58) fun x59 =>
  bP (ld Q q 41 x59 (G.room 14)) fun x60 =>
  bS (e.ev.cl 194 [x60, (.bool false)] (G.room 14)) fun x62 G61 =>
  chk ((sameO (ld Q q 41 x56 G61) x57 && true)) <|
  bS (e.ev.cl 68 [a1_, a5_, x57, x62] G61) fun x64 G63 =>
  bP (un Q q .not x64) fun x65 =>
  ifV x65 (
  bS (e.ev.cl 195 [a0_] G63) fun x66 G67 =>
  some ((.exit 0), xq q 195 τ [(131, x66), (130, a0_), (129, x65), (128, x64), (127, x62), (126, x60), (125, x59), (124, x58), (123, a0_), (122, x57), (121, x56), (120, x55), (119, x54), (118, a0_), (117, a5_), (116, a1_), (114, x53), (115, x53), (77, x20), (78, x20), (60, x3), (61, x3), (56, x2), (55, x1), (54, x0), (53, a0_)] [(0, a0_), (1, a1_), (5, a5_), (6, a6_)], G67)) (
  bP (pNil a0_) fun x68 =>
  bP (fa Q q 283 4 19 x68) fun x69 =>
  bP (ld Q q 41 x69 G63) fun x70 =>
  bS (e.ev.cl 194 [x70, (.bool false)] G63) fun x71 G72 =>
  bP (pNil a0_) fun x73 =>
  bP (fa Q q 283 3 15 x73) fun x74 =>
  bP (fa Q q 280 3 3 x74) fun x75 =>
  bP (st Q q 41 1 x75 x71 G72) fun G76 =>
  bS (e.ev.cl 278 [a0_] G76) fun x77 G78 =>
  some ((.exit 0), xq q 195 τ [(189, x77), (188, a0_), (140, x75), (139, x74), (138, x73), (137, x71), (136, x70), (135, x69), (134, x68), (133, a0_), (132, a0_), (129, x65), (128, x64), (127, x62), (126, x60), (125, x59), (124, x58), (123, a0_), (122, x57), (121, x56), (120, x55), (119, x54), (118, a0_), (117, a5_), (116, a1_), (114, x53), (115, x53), (77, x20), (78, x20), (60, x3), (61, x3), (56, x2), (55, x1), (54, x0), (53, a0_)] [(0, a0_), (1, a1_), (5, a5_), (6, a6_)], G78))) (
  bP (bn Q q .eql 3 (.tmp 56) (.const (.int .i64 4)) x2 (.int .i64 4)) fun x79 =>
  ifV x79 (
  bP (pNil a0_) fun x80 =>
  bP (fa Q q 283 3 15 x80) fun x81 =>
  bP (fa Q q 280 3 3 x81) fun x82 =>
  bP (ld Q q 41 x82 G) fun x83 =>
  bP (pNil a0_) fun x84 =>
  bP (fa Q q 283 6 21 x84) fun x85 =>
  bP (st Q q 41 1 x85 x83 G) fun G86 =>
  bP (pNil a0_) fun x87 =>
  bP (fa Q q 283 0 0 x87) fun x88 =>
  bP (lda Q q 31 13 x88 (G86.room 13)) fun x89 =>
  bS (e.ev.cl 191 [x89, a6_, (.int .i64 0)] (G86.room 13)) fun x91 G90 =>
  bS (e.ev.cl 177 [a1_, x91] G90) fun x93 G92 =>
  bP (pNil a0_) fun x94 =>
  bP (fa Q q 283 1 13 x94) fun x95 =>
  bP (ld Q q 41 x95 G92) fun x96 =>
  chk ((sameO (ld Q q 41 x95 G90) x96 && (sameO (ld Q q 41 x95 (G86.room 13)) x96 && true))) <|
  bP (bn Q q .geq 41 (.tmp 158) (.tmp 162) x93 x96) fun x97 =>
  ifV x97 (
  bS (e.ev.cl 277 [a0_] G92) fun x98 G99 =>
  some ((.exit 0), xq q 195 τ [(165, x98), (164, a0_), (163, x97), (162, x96), (161, x95), (160, x94), (159, a0_), (158, x93), (157, x91), (156, a6_), (155, x89), (154, x88), (153, x87), (152, a0_), (151, a1_), (150, x85), (149, x84), (148, x83), (147, x82), (146, x81), (145, x80), (144, a0_), (143, a0_), (141, x79), (142, x79), (114, x53), (115, x53), (77, x20), (78, x20), (60, x3), (61, x3), (56, x2), (55, x1), (54, x0), (53, a0_)] [(0, a0_), (1, a1_), (5, a5_), (6, a6_)], G99)) (
  bP (pNil a0_) fun x100 =>
  bP (fa Q q 283 3 15 x100) fun x101 =>
  bP (fa Q q 280 3 3 x101) fun x102 =>
  bP (ld Q q 41 x102 (G92.room 25)) fun x103 =>
  bP (pNil a0_) fun x104 =>
  bP (fa Q q 283 4 19 x104) fun x105 =>
  bP (ld Q q 41 x105 (G92.room 25)) fun x106 =>
  bP (pNil a0_) fun x107 =>
  bP (fa Q q 283 3 15 x107) fun x108 =>
  bP (fa Q q 280 1 1 x108) fun x109 =>
  bP (st Q q 3 1 x109 a6_ (G92.room 25)) fun G110 =>
  bP (pNil a0_) fun x111 =>
  bP (fa Q q 283 3 15 x111) fun x112 =>
  bP (fa Q q 280 2 2 x112) fun x113 =>
  bP (st Q q 41 1 x113 x103 G110) fun G114 =>
  bP (pNil a0_) fun x115 =>
  bP (fa Q q 283 3 15 x115) fun x116 =>
  bP (fa Q q 280 3 3 x116) fun x117 =>
  bP (st Q q 41 1 x117 x106 G114) fun G118 =>
  bS (e.ev.cl 278 [a0_] G118) fun x119 G120 =>
  some ((.exit 0), xq q 195 τ [(189, x119), (188, a0_), (187, x117), (186, x116), (185, x115), (184, x113), (183, x112), (182, x111), (181, x109), (180, x108), (179, x107), (178, x106), (177, x105), (176, x104), (175, a0_), (174, x103), (173, x102), (172, x101), (171, x100), (170, a0_), (169, a6_), (168, a0_), (167, a0_), (166, a0_), (163, x97), (162, x96), (161, x95), (160, x94), (159, a0_), (158, x93), (157, x91), (156, a6_), (155, x89), (154, x88), (153, x87), (152, a0_), (151, a1_), (150, x85), (149, x84), (148, x83), (147, x82), (146, x81), (145, x80), (144, a0_), (143, a0_), (141, x79), (142, x79), (114, x53), (115, x53), (77, x20), (78, x20), (60, x3), (61, x3), (56, x2), (55, x1), (54, x0), (53, a0_)] [(0, a0_), (1, a1_), (5, a5_), (6, a6_)], G120))) (
  bP (pNil a0_) fun x121 =>
  bP (fa Q q 283 2 14 x121) fun x122 =>
  bP (st Q q 3 1 x122 (.int .i64 1) G) fun G123 =>
  lp (xq q 195 τ [(59, x122), (58, x121), (57, a0_), (141, x79), (142, x79), (114, x53), (115, x53), (77, x20), (78, x20), (60, x3), (61, x3), (56, x2), (55, x1), (54, x0), (53, a0_)] [(0, a0_), (1, a1_), (5, a5_), (6, a6_)]) G123))))
theorem mb196_0 {e : Ex} {E : Ev} (h : ExLe Q e E) {lp lp' : Env → GS → Option (Exit × Env × GS)} (hlp : LpLe lp lp') (τ : Env) (G : GS) : Ref (b196_0 true e lp τ G) (b196_0 false (Ex.of E) lp' τ G) := by
  unfold b196_0
  exact Ref.gq
set_option maxHeartbeats 8000000 in
theorem l196_0 {orc : FuncId → Bool} {e : Ex} (h : ExLe Q e (E orc)) (lp : Env → GS → Option (Exit × Env × GS)) (hlp : ∀ τ G, Ref (lp τ G) (mapE ((E orc).lp (subAt [1, 0, 1, 1, 1, 1, 1, 0, 0, 0] (bodyOf Tryz.f196)) (lst 195 τ) G))) (T : List Value) (G : GS) (hT : T.length = 195) : Ref (b196_0 true e lp (nth undef T) G) (mapE ((E orc).lp (subAt [1, 0, 1, 1, 1, 1, 1, 0, 0, 0] (bodyOf Tryz.f196)) T G)) :=
  fun r hr => lp_sxN Q orc G hT (by kernel_rfl) (mb196_0 h ⟨hlp⟩ _ _ r hr)
/-- (*coxswain/find.Find).Step -/
noncomputable def s196 (q : Bool) (e : Ex) (v0 v1 : Value) (G : GS) : Option (Value × GS) :=
  bP (ep Q q false 37 (.tmp 7) (.const (.pointer none)) v0 (.pointer none)) fun x0 =>
  bS (gd x0 false (some (v0, G)) G) fun x1 G2 =>
  bS (gd x0 false (bP (pNil x1) fun y => some (y, G2)) G2) fun x3 G4 =>
  bS (gd x0 false (bP (fa Q q 283 7 22 x3) fun y => some (y, G4)) G4) fun x5 G6 =>
  bS (gd x0 false (bP (ld Q q 4 x5 G6) fun y => some (y, G6)) G6) fun x7 G8 =>
  bS (gd x0 false (bP (un Q q .not x7) fun y => some (y, G8)) G8) fun x9 G10 =>
  bP (pickV x0 (.bool true) x9) fun x11 =>
  bS (gd x11 false (some (v0, G10)) G10) fun x12 G13 =>
  bS (gd x11 false (bP (pNil x12) fun y => some (y, G13)) G13) fun x14 G15 =>
  bS (gd x11 false (bP (fa Q q 283 2 14 x14) fun y => some (y, G15)) G15) fun x16 G17 =>
  bS (gd x11 false (bP (ld Q q 3 x16 G17) fun y => some (y, G17)) G17) fun x18 G19 =>
  bS (gd x11 false (bP (bn Q q .eql 3 (.tmp 20) (.const (.int .i64 9)) x18 (.int .i64 9)) fun y => some (y, G19)) G19) fun x20 G21 =>
  bP (pickV x11 (.bool true) x20) fun x22 =>
  ifV x22 (
  some ((.bool true), G21)) (
  bP (pNil v0) fun x23 =>
  bP (fa Q q 283 0 0 x23) fun x24 =>
  bP (lda Q q 31 13 x24 (G21.room 16)) fun x25 =>
  bP (pNil v0) fun x26 =>
  bP (fa Q q 283 3 15 x26) fun x27 =>
  bP (fa Q q 280 1 1 x27) fun x28 =>
  bP (ld Q q 3 x28 (G21.room 16)) fun x29 =>
  bP (pNil v0) fun x30 =>
  bP (fa Q q 283 3 15 x30) fun x31 =>
  bP (fa Q q 280 0 0 x31) fun x32 =>
  bP (ld Q q 3 x32 (G21.room 16)) fun x33 =>
  bS (e.ev.cl 69 [x25, x29, x33] (G21.room 16)) fun x35 G34 =>
  bP (pNil v0) fun x36 =>
  bP (fa Q q 283 3 15 x36) fun x37 =>
  bP (fa Q q 280 3 3 x37) fun x38 =>
  bP (ld Q q 41 x38 G34) fun x39 =>
  bS (e.ev.cl 276 [v0, x39] G34) fun x40 G41 =>
  bP (pNil v0) fun x42 =>
  bP (fa Q q 283 3 15 x42) fun x43 =>
  bP (fa Q q 280 2 2 x43) fun x44 =>
  bP (ld Q q 41 x44 G41) fun x45 =>
  bP (pNil v0) fun x46 =>
  bP (fa Q q 283 6 21 x46) fun x47 =>
  bP (st Q q 41 1 x47 x45 G41) fun G48 =>
  bLq q e 196 0 (subAt [1, 0, 1, 1, 1, 1, 1, 0, 0, 0] (bodyOf Tryz.f196)) 195 (nth undef [v0, v1]) [(52, x47), (51, x46), (50, x45), (49, x44), (48, x43), (47, x42), (46, v0), (45, v0), (6, x40), (44, x40), (43, x39), (42, x38), (41, x37), (40, x36), (39, v0), (38, v0), (5, x35), (37, x35), (36, x33), (35, x32), (34, x31), (33, x30), (32, v0), (31, x29), (30, x28), (29, x27), (28, x26), (27, v0), (26, x25), (25, x24), (24, x23), (23, v0), (22, x22), (21, x20), (20, x18), (19, x16), (18, x14), (17, x12), (16, x11), (15, x11), (14, x9), (13, x7), (12, x5), (11, x3), (10, x1), (9, x0), (8, x0), (7, v0), (4, (.bool false))] [] G48 fun e49 t50 G51 =>
  bV q (t50 0) fun t50x0_ =>
  ifE e49 (.exit 0) (
  bP (pNil t50x0_) fun x52 =>
  bP (fa Q q 283 2 14 x52) fun x53 =>
  bP (ld Q q 3 x53 G51) fun x54 =>
  bP (bn Q q .eql 3 (.tmp 193) (.const (.int .i64 9)) x54 (.int .i64 9)) fun x55 =>
  some (x55, G51)) (none))
theorem m196 {e : Ex} {E : Ev} (h : ExLe Q e E) (v0 v1 : Value) (G : GS) : Ref (s196 true e v0 v1 G) (s196 false (Ex.of E) v0 v1 G) := by
  unfold s196
  exact Ref.gq
set_option maxHeartbeats 8000000 in
theorem f196 {orc : FuncId → Bool} {e : Ex} (h : ExLe Q e (E orc)) (v0 v1 : Value) (G : GS) : Ref (s196 true e v0 v1 G) ((E orc).cl 196 [v0, v1] G) :=
  fun r hr => cl_sxE_some Q orc (vs := [v0, v1]) G Tryz.func196 (by kernel_rfl) (by kernel_rfl) (by kernel_rfl) (by kernel_rfl) (by kernel_rfl) (by kernel_rfl) (m196 h v0 v1 G r hr)
/-- (*coxswain/find.Find).By -/
noncomputable def s197 (q : Bool) (e : Ex) (v0 : Value) (G : GS) : Option (Value × GS) :=
  bP (ep Q q false 37 (.tmp 3) (.const (.pointer none)) v0 (.pointer none)) fun x0 =>
  ifV x0 (
  some ((.int .u64 0), G)) (
  bP (pNil v0) fun x1 =>
  bP (fa Q q 283 6 21 x1) fun x2 =>
  bP (ld Q q 41 x2 G) fun x3 =>
  some (x3, G))
theorem m197 {e : Ex} {E : Ev} (h : ExLe Q e E) (v0 : Value) (G : GS) : Ref (s197 true e v0 G) (s197 false (Ex.of E) v0 G) := by
  unfold s197
  exact Ref.gq
theorem f197 {orc : FuncId → Bool} {e : Ex} (h : ExLe Q e (E orc)) (v0 : Value) (G : GS) : Ref (s197 true e v0 G) ((E orc).cl 197 [v0] G) :=
  fun r hr => cl_sxE_some Q orc (vs := [v0]) G Tryz.func197 (by kernel_rfl) (by kernel_rfl) (by kernel_rfl) (by kernel_rfl) (by kernel_rfl) (by kernel_rfl) (m197 h v0 G r hr)
/-- (*coxswain/cells.Mem).Add -/
noncomputable def s198 (q : Bool) (e : Ex) (v0 v1 v2 : Value) (G : GS) : Option (Value × GS) :=
  bS (e.ev.cl 158 [v0, v1] G) fun x0 G1 =>
  bP (bd Q q 246 z246 [(0, 0, 1), (1, 1, 1)] [x0, v2]) fun x2 =>
  bS (al Q q 246 z246 G1) fun x3 G4 =>
  bP (st Q q 246 3 x3 x2 G4) fun G5 =>
  bP (fa Q q 246 0 0 x3) fun x6 =>
  bP (ld Q q 243 x6 G5) fun x7 =>
  bP (lda Q q 246 3 x3 G5) fun x8 =>
  bS (e.ev.cl 159 [v0, (.int .i64 4), v1, x7, (.func (.func 279) #[x8] #[])] G5) fun x9 G10 =>
  bP (fd Q q 68 3 3 x9) fun x11 =>
  some (x11, G10)
theorem m198 {e : Ex} {E : Ev} (h : ExLe Q e E) (v0 v1 v2 : Value) (G : GS) : Ref (s198 true e v0 v1 v2 G) (s198 false (Ex.of E) v0 v1 v2 G) := by
  unfold s198
  exact Ref.gq
theorem f198 {orc : FuncId → Bool} {e : Ex} (h : ExLe Q e (E orc)) (v0 v1 v2 : Value) (G : GS) : Ref (s198 true e v0 v1 v2 G) ((E orc).cl 198 [v0, v1, v2] G) :=
  fun r hr => cl_sxE_some Q orc (vs := [v0, v1, v2]) G Tryz.func198 (by kernel_rfl) (by kernel_rfl) (by kernel_rfl) (by kernel_rfl) (by kernel_rfl) (by kernel_rfl) (m198 h v0 v1 v2 G r hr)
/-- coxswain/limbo.NewRetire -/
noncomputable def s199 (q : Bool) (e : Ex) (v0 v1 : Value) (G : GS) : Option (Value × GS) :=
  bS (bx q v0 G) fun x0 G1 =>
  bP (bd Q q 402 z402 [(1, 1, 1)] [(.bool true)]) fun x2 =>
  bP (lda Q q 29 10 x0 G1) fun x3 =>
  bP (bd Q q 404 z404 [(0, 0, 3), (1, 3, 10), (2, 13, 1)] [x2, x3, v1]) fun x4 =>
  bS (bx q x4 G1) fun x5 G6 =>
  bP (bn Q q .lss 3 (.tmp 11) (.const (.int .i64 0)) v1 (.int .i64 0)) fun x7 =>
  bS (gd x7 false (some (v1, G6)) G6) fun x8 G9 =>
  bS (gd x7 false (bP (fa Q q 29 0 0 x0) fun y => some (y, G9)) G9) fun x10 G11 =>
  bS (gd x7 false (bP (fa Q q 25 0 0 x10) fun y => some (y, G11)) G11) fun x12 G13 =>
  bS (gd x7 false (bP (fa Q q 23 2 2 x12) fun y => some (y, G13)) G13) fun x14 G15 =>
  bS (gd x7 false (bP (ld Q q 3 x14 G15) fun y => some (y, G15)) G15) fun x16 G17 =>
  bS (gd x7 false (bP (bn Q q .geq 3 (.tmp 14) (.tmp 18) x8 x16) fun y => some (y, G17)) G17) fun x18 G19 =>
  bP (pickV x7 (.bool true) x18) fun x20 =>
  ifV x20 (
  bP (pNil x5) fun x21 =>
  bP (fa Q q 404 0 0 x21) fun x22 =>
  bP (fa Q q 402 2 2 x22) fun x23 =>
  bP (st Q q 33 1 x23 (.int .i64 3) G19) fun G24 =>
  some (x5, G24)) (
  bP (pNil x5) fun x25 =>
  bP (fa Q q 404 0 0 x25) fun x26 =>
  bP (fa Q q 402 0 0 x26) fun x27 =>
  bP (st Q q 400 1 x27 (.func (.func 280) #[x5] #[]) G19) fun G28 =>
  some (x5, G28))
theorem m199 {e : Ex} {E : Ev} (h : ExLe Q e E) (v0 v1 : Value) (G : GS) : Ref (s199 true e v0 v1 G) (s199 false (Ex.of E) v0 v1 G) := by
  unfold s199
  exact Ref.gq
theorem f199 {orc : FuncId → Bool} {e : Ex} (h : ExLe Q e (E orc)) (v0 v1 : Value) (G : GS) : Ref (s199 true e v0 v1 G) ((E orc).cl 199 [v0, v1] G) :=
  fun r hr => cl_sxE_some Q orc (vs := [v0, v1]) G Tryz.func199 (by kernel_rfl) (by kernel_rfl) (by kernel_rfl) (by kernel_rfl) (by kernel_rfl) (by kernel_rfl) (m199 h v0 v1 G r hr)
/-- (*coxswain/limbo.Retire).Step -/
noncomputable def s200 (q : Bool) (e : Ex) (v0 v1 : Value) (G : GS) : Option (Value × GS) :=
  bP (ep Q q false 38 (.tmp 5) (.const (.pointer none)) v0 (.pointer none)) fun x0 =>
  bS (gd x0 false (some (v0, G)) G) fun x1 G2 =>
  bS (gd x0 false (bP (pNil x1) fun y => some (y, G2)) G2) fun x3 G4 =>
  bS (gd x0 false (bP (fa Q q 404 0 0 x3) fun y => some (y, G4)) G4) fun x5 G6 =>
  bS (gd x0 false (some (v1, G6)) G6) fun x7 G8 =>
  bS (gd x0 false (bS (e.ev.cl 281 [x5, x7] G8) fun y G => some (y, G)) G8) fun x9 G10 =>
  bP (pickV x0 (.bool true) x9) fun x11 =>
  some (x11, G10)
theorem m200 {e : Ex} {E : Ev} (h : ExLe Q e E) (v0 v1 : Value) (G : GS) : Ref (s200 true e v0 v1 G) (s200 false (Ex.of E) v0 v1 G) := by
  unfold s200
  exact Ref.gq
theorem f200 {orc : FuncId → Bool} {e : Ex} (h : ExLe Q e (E orc)) (v0 v1 : Value) (G : GS) : Ref (s200 true e v0 v1 G) ((E orc).cl 200 [v0, v1] G) :=
  fun r hr => cl_sxE_some Q orc (vs := [v0, v1]) G Tryz.func200 (by kernel_rfl) (by kernel_rfl) (by kernel_rfl) (by kernel_rfl) (by kernel_rfl) (by kernel_rfl) (m200 h v0 v1 G r hr)
/-- coxswain/tower.Level -/
noncomputable def s201 (q : Bool) (e : Ex) (v0 v1 v2 : Value) (G : GS) : Option (Value × GS) :=
  bS (bx q v0 G) fun x0 G1 =>
  bS (al Q q 78 z78 G1) fun x2 G3 =>
  bP (lda Q q 31 13 x0 G3) fun x4 =>
  bS (e.ev.cl 69 [x4, (.int .i64 (-1)), v1] G3) fun x5 G6 =>
  bP (bn Q q .lss 3 (.tmp 11) (.const (.int .i64 0)) x5 (.int .i64 0)) fun x7 =>
  ifV x7 (
  bP (ld Q q 78 x2 G6) fun x8 =>
  some (x8, G6)) (
  bS (e.ev.cl 53 [v2] (G6.room 5)) fun x10 G9 =>
  bP (lda Q q 31 13 x0 G9) fun x11 =>
  chk ((sameO (lda Q q 31 13 x0 (G6.room 5)) x11 && true)) <|
  bS (e.ev.cl 282 [x10, x11, v1] G9) fun x13 G12 =>
  bX (xRange e.ev x13 #[19] (subAt [1, 1, 1, 0, 1, 0, 0] (bodyOf Tryz.f201)) (subAt [1, 1, 1, 0, 1, 0, 1] (bodyOf Tryz.f201)) (lsq q 25 (nth undef [v0, v1, v2]) [(18, x13), (17, v1), (16, x11), (15, x10), (14, v2), (12, x7), (11, x5), (10, v1), (9, x4), (7, x2), (6, (.slice none 0 0)), (3, x0)]) G12) fun e14 T15 G16 =>
  bV q (nth undef T15 7) fun T15x7_ =>
  ifE e14 .normal (
  bP (ld Q q 78 T15x7_ G16) fun x17 =>
  some (x17, G16)) (none))
theorem m201 {e : Ex} {E : Ev} (h : ExLe Q e E) (v0 v1 v2 : Value) (G : GS) : Ref (s201 true e v0 v1 v2 G) (s201 false (Ex.of E) v0 v1 v2 G) := by
  unfold s201
  exact Ref.gq
theorem f201 {orc : FuncId → Bool} {e : Ex} (h : ExLe Q e (E orc)) (v0 v1 v2 : Value) (G : GS) : Ref (s201 true e v0 v1 v2 G) ((E orc).cl 201 [v0, v1, v2] G) :=
  fun r hr => cl_sxE_some Q orc (vs := [v0, v1, v2]) G Tryz.func201 (by kernel_rfl) (by kernel_rfl) (by kernel_rfl) (by kernel_rfl) (by kernel_rfl) (by kernel_rfl) (m201 h v0 v1 v2 G r hr)
noncomputable def r201_0 (q : Bool) (e : Ex) (l : Nat) (τ : Env) (u0 : Value) (G : GS) : Option (Value × GS) :=
  bV q (τ 7) fun a7_ =>
  bP (G.loop l) fun r0 => if r0.st = .ready then
  bP (ld Q q 78 a7_ (G.putLoop l (Lp.setSt r0 .busy))) fun x1 =>
  bS (bs Q q 78 1 (rep z3 1) 1 [(0, 0, 1)] [u0] (G.putLoop l (Lp.setSt r0 .busy))) fun x2 G3 =>
  bS (ap Q q 78 78 1 8 x1 x2 G3) fun x4 G5 =>
  bP (st Q q 78 1 a7_ x4 G5) fun G6 =>
  roundEnd l .normal G6
  else none
theorem mr201_0 {e : Ex} {E : Ev} (h : ExLe Q e E) (l : Nat) (τ : Env) (u0 : Value) (G : GS) : Ref (r201_0 true e l τ u0 G) (r201_0 false (Ex.of E) l τ u0 G) := by
  unfold r201_0
  repeat' (with_reducible first | exact Ref.rfl' _ | exact ROp.r | refine Ref.bP ?_ fun _ => ?_ | refine Ref.bS ?_ fun _ _ => ?_ | exact Ref.cl (by assumption) | refine Ref.ifV ?_ ?_ | refine LpLe.rx (by assumption) ?_ | refine Ref.xitq ?_ | exact UOk.z | refine UOk.c (by assumption) ?_ | exact Ref.nil _ | refine Ref.bVe fun _ _ => ?_ | refine Ref.bLq (by assumption) ?_ fun _ _ _ => ?_ | refine Ref.ifE ?_ ?_ | refine Ref.chk ?_ ?_ | refine Imp.and ?_ ?_ | refine Imp.or ?_ | exact Imp.rfl' _ | refine Imp.sameO ?_ | refine Ref.gd ?_ | exact Ref.cValue (by assumption) | refine Ref.bX ?_ fun _ _ _ => ?_ | exact Ref.scQ (by assumption) | exact Ref.xRangeQ (by assumption) | exact Ref.cInvoke (by assumption) | refine Ref.rdy ?_)
theorem d201_0 {orc : FuncId → Bool} {e : Ex} (h : ExLe Q e (E orc)) (l : Nat) (T : List Value) (u0 : Value) (G : GS) {st : LoopState} {pend : Option Code} (hl : G.loop l = some ⟨st, pend, T, [19], (subAt [1, 1, 1, 0, 1, 0, 0] (bodyOf Tryz.f201)), (subAt [1, 1, 1, 0, 1, 0, 1] (bodyOf Tryz.f201))⟩) (hT : T.length = 25) : Ref (r201_0 true e l (nth undef T) u0 G) ((E orc).rd l [u0] G) :=
  fun r hr => rd_sxE Q orc hl (by kernel_rfl) hT (by kernel_rfl) (mr201_0 h l _ u0 G r hr)
/-- coxswain/stack.Chain -/
noncomputable def s202 (q : Bool) (e : Ex) (v0 v1 : Value) (G : GS) : Option (Value × GS) :=
  bS (bx q v0 G) fun x0 G1 =>
  bS (al Q q 78 z78 G1) fun x2 G3 =>
  bP (lda Q q 23 3 x0 (G3.room 4)) fun x4 =>
  bS (e.ev.cl 53 [v1] (G3.room 4)) fun x6 G5 =>
  chk ((sameO (lda Q q 23 3 x0 G5) x4 && true)) <|
  bS (e.ev.cl 283 [x4, x6] G5) fun x8 G7 =>
  bX (xRange e.ev x8 #[11] (subAt [1, 1, 0, 1, 0, 0] (bodyOf Tryz.f202)) (subAt [1, 1, 0, 1, 0, 1] (bodyOf Tryz.f202)) (lsq q 17 (nth undef [v0, v1]) [(10, x8), (9, x6), (8, v1), (7, x4), (5, x2), (4, (.slice none 0 0)), (2, x0)]) G7) fun e9 T10 G11 =>
  bV q (nth undef T10 5) fun T10x5_ =>
  ifE e9 .normal (
  bP (ld Q q 78 T10x5_ G11) fun x12 =>
  some (x12, G11)) (none)
theorem m202 {e : Ex} {E : Ev} (h : ExLe Q e E) (v0 v1 : Value) (G : GS) : Ref (s202 true e v0 v1 G) (s202 false (Ex.of E) v0 v1 G) := by
  unfold s202
  exact Ref.gq
theorem f202 {orc : FuncId → Bool} {e : Ex} (h : ExLe Q e (E orc)) (v0 v1 : Value) (G : GS) : Ref (s202 true e v0 v1 G) ((E orc).cl 202 [v0, v1] G) :=
  fun r hr => cl_sxE_some Q orc (vs := [v0, v1]) G Tryz.func202 (by kernel_rfl) (by kernel_rfl) (by kernel_rfl) (by kernel_rfl) (by kernel_rfl) (by kernel_rfl) (m202 h v0 v1 G r hr)
noncomputable def r202_0 (q : Bool) (e : Ex) (l : Nat) (τ : Env) (u0 : Value) (G : GS) : Option (Value × GS) :=
  bV q (τ 5) fun a5_ =>
  bP (G.loop l) fun r0 => if r0.st = .ready then
  bP (ld Q q 78 a5_ (G.putLoop l (Lp.setSt r0 .busy))) fun x1 =>
  bS (bs Q q 78 1 (rep z3 1) 1 [(0, 0, 1)] [u0] (G.putLoop l (Lp.setSt r0 .busy))) fun x2 G3 =>
  bS (ap Q q 78 78 1 8 x1 x2 G3) fun x4 G5 =>
  bP (st Q q 78 1 a5_ x4 G5) fun G6 =>
  roundEnd l .normal G6
  else none
theorem mr202_0 {e : Ex} {E : Ev} (h : ExLe Q e E) (l : Nat) (τ : Env) (u0 : Value) (G : GS) : Ref (r202_0 true e l τ u0 G) (r202_0 false (Ex.of E) l τ u0 G) := by
  unfold r202_0
  repeat' (with_reducible first | exact Ref.rfl' _ | exact ROp.r | refine Ref.bP ?_ fun _ => ?_ | refine Ref.bS ?_ fun _ _ => ?_ | exact Ref.cl (by assumption) | refine Ref.ifV ?_ ?_ | refine LpLe.rx (by assumption) ?_ | refine Ref.xitq ?_ | exact UOk.z | refine UOk.c (by assumption) ?_ | exact Ref.nil _ | refine Ref.bVe fun _ _ => ?_ | refine Ref.bLq (by assumption) ?_ fun _ _ _ => ?_ | refine Ref.ifE ?_ ?_ | refine Ref.chk ?_ ?_ | refine Imp.and ?_ ?_ | refine Imp.or ?_ | exact Imp.rfl' _ | refine Imp.sameO ?_ | refine Ref.gd ?_ | exact Ref.cValue (by assumption) | refine Ref.bX ?_ fun _ _ _ => ?_ | exact Ref.scQ (by assumption) | exact Ref.xRangeQ (by assumption) | exact Ref.cInvoke (by assumption) | refine Ref.rdy ?_)
theorem d202_0 {orc : FuncId → Bool} {e : Ex} (h : ExLe Q e (E orc)) (l : Nat) (T : List Value) (u0 : Value) (G : GS) {st : LoopState} {pend : Option Code} (hl : G.loop l = some ⟨st, pend, T, [11], (subAt [1, 1, 0, 1, 0, 0] (bodyOf Tryz.f202)), (subAt [1, 1, 0, 1, 0, 1] (bodyOf Tryz.f202))⟩) (hT : T.length = 17) : Ref (r202_0 true e l (nth undef T) u0 G) ((E orc).rd l [u0] G) :=
  fun r hr => rd_sxE Q orc hl (by kernel_rfl) hT (by kernel_rfl) (mr202_0 h l _ u0 G r hr)
noncomputable def b246_0 (q : Bool) (e : Ex) (lp : Env → GS → Option (Exit × Env × GS)) (τ : Env) (G : GS) : Option (Exit × Env × GS) :=
  bV q (τ 1) fun a1_ =>
  bV q (τ 2) fun a2_ =>
  bV q (τ 13) fun a13_ =>
  bP (bn Q q .lss 3 (.tmp 13) (.const (.int .i64 3)) a13_ (.int .i64 3)) fun x0 =>
  ifV x0 (
  bP (lda Q q 29 10 a2_ G) fun x1 =>
  bS (e.ev.cl 321 [a13_, x1] G) fun x2 G3 =>
  bP (fd Q q 23 0 0 x2) fun x4 =>
  bS (e.ev.cl 45 [a1_, x4, (.int .u64 0)] G3) fun x5 G6 =>
  bP (bn Q q .add 3 (.tmp 13) (.const (.int .i64 1)) a13_ (.int .i64 1)) fun x7 =>
  lp (xq q 23 τ [(13, x7), (22, x7), (21, x5), (20, x4), (19, x2), (18, x1), (17, a13_), (16, a1_), (4, a13_), (15, a13_), (14, x0)] [(1, a1_), (2, a2_)]) G6) (
  some ((.exit 0), xq q 23 τ [(14, x0)] [(1, a1_), (2, a2_), (13, a13_)], G))
theorem mb246_0 {e : Ex} {E : Ev} (h : ExLe Q e E) {lp lp' : Env → GS → Option (Exit × Env × GS)} (hlp : LpLe lp lp') (τ : Env) (G : GS) : Ref (b246_0 true e lp τ G) (b246_0 false (Ex.of E) lp' τ G) := by
  unfold b246_0
  exact Ref.gq
theorem l246_0 {orc : FuncId → Bool} {e : Ex} (h : ExLe Q e (E orc)) (lp : Env → GS → Option (Exit × Env × GS)) (hlp : ∀ τ G, Ref (lp τ G) (mapE ((E orc).lp (subAt [1, 1, 1, 1, 0, 0] (bodyOf Tryz.f246)) (lst 23 τ) G))) (T : List Value) (G : GS) (hT : T.length = 23) : Ref (b246_0 true e lp (nth undef T) G) (mapE ((E orc).lp (subAt [1, 1, 1, 1, 0, 0] (bodyOf Tryz.f246)) T G)) :=
  fun r hr => lp_sxN Q orc G hT (by kernel_rfl) (mb246_0 h ⟨hlp⟩ _ _ r hr)
/-- coxswain/limbo.Fill -/
noncomputable def s246 (q : Bool) (e : Ex) (v0 v1 : Value) (G : GS) : Option (Value × GS) :=
  bS (bx q v0 G) fun x0 G1 =>
  bP (fa Q q 29 0 0 x0) fun x2 =>
  bP (lda Q q 25 6 x2 G1) fun x3 =>
  bS (e.ev.cl 171 [x3, v1] G1) fun x4 G5 =>
  bP (fa Q q 29 1 6 x0) fun x6 =>
  bP (lda Q q 27 3 x6 G5) fun x7 =>
  bS (e.ev.cl 320 [x7, v1] G5) fun x8 G9 =>
  bLq q e 246 0 (subAt [1, 1, 1, 1, 0, 0] (bodyOf Tryz.f246)) 23 (nth undef [v0, v1]) [(13, (.int .i64 0)), (12, x8), (11, v1), (10, x7), (9, x6), (8, x4), (7, v1), (6, x3), (5, x2), (2, x0)] [] G9 fun e10 t11 G12 =>
  ifE e10 (.exit 0) (
  some (.tuple #[], G12)) (none)
theorem m246 {e : Ex} {E : Ev} (h : ExLe Q e E) (v0 v1 : Value) (G : GS) : Ref (s246 true e v0 v1 G) (s246 false (Ex.of E) v0 v1 G) := by
  unfold s246
  exact Ref.gq
theorem f246 {orc : FuncId → Bool} {e : Ex} (h : ExLe Q e (E orc)) (v0 v1 : Value) (G : GS) : Ref (s246 true e v0 v1 G) ((E orc).cl 246 [v0, v1] G) :=
  fun r hr => cl_sxE_some Q orc (vs := [v0, v1]) G Tryz.func246 (by kernel_rfl) (by kernel_rfl) (by kernel_rfl) (by kernel_rfl) (by kernel_rfl) (by kernel_rfl) (m246 h v0 v1 G r hr)
/-- (*coxswain/cells.place).is -/
noncomputable def s248 (q : Bool) (e : Ex) (v0 : Value) (G : GS) : Option (Value × GS) :=
  bP (ep Q q true 243 (.tmp 3) (.const (.pointer none)) v0 (.pointer none)) fun x0 =>
  some (x0, G)
theorem m248 {e : Ex} {E : Ev} (h : ExLe Q e E) (v0 : Value) (G : GS) : Ref (s248 true e v0 G) (s248 false (Ex.of E) v0 G) := by
  unfold s248
  exact Ref.gq
theorem f248 {orc : FuncId → Bool} {e : Ex} (h : ExLe Q e (E orc)) (v0 : Value) (G : GS) : Ref (s248 true e v0 G) ((E orc).cl 248 [v0] G) :=
  fun r hr => cl_sxE_some Q orc (vs := [v0]) G Tryz.func248 (by kernel_rfl) (by kernel_rfl) (by kernel_rfl) (by kernel_rfl) (by kernel_rfl) (by kernel_rfl) (m248 h v0 G r hr)
/-- coxswain/stack.sized -/
noncomputable def s254 (q : Bool) (e : Ex) (v0 : Value) (G : GS) : Option (Value × GS) :=
  bS (bx q v0 G) fun x0 G1 =>
  bP (fa Q q 23 2 2 x0) fun x2 =>
  bP (ld Q q 3 x2 G1) fun x3 =>
  bP (bn Q q .geq 3 (.tmp 4) (.const (.int .i64 1)) x3 (.int .i64 1)) fun x4 =>
  bS (gd x4 true (bP (fa Q q 23 2 2 x0) fun y => some (y, G1)) G1) fun x5 G6 =>
  bS (gd x4 true (bP (ld Q q 3 x5 G6) fun y => some (y, G6)) G6) fun x7 G8 =>
  bS (gd x4 true (bP (bn Q q .leq 3 (.tmp 8) (.const (.int .i64 4096)) x7 (.int .i64 4096)) fun y => some (y, G8)) G8) fun x9 G10 =>
  bP (pickV x4 x9 (.bool false)) fun x11 =>
  some (x11, G10)
theorem m254 {e : Ex} {E : Ev} (h : ExLe Q e E) (v0 : Value) (G : GS) : Ref (s254 true e v0 G) (s254 false (Ex.of E) v0 G) := by
  unfold s254
  exact Ref.gq
theorem f254 {orc : FuncId → Bool} {e : Ex} (h : ExLe Q e (E orc)) (v0 : Value) (G : GS) : Ref (s254 true e v0 G) ((E orc).cl 254 [v0] G) :=
  fun r hr => cl_sxE_some Q orc (vs := [v0]) G Tryz.func254 (by kernel_rfl) (by kernel_rfl) (by kernel_rfl) (by kernel_rfl) (by kernel_rfl) (by kernel_rfl) (m254 h v0 G r hr)
/-- coxswain/arena.sized -/
noncomputable def s256 (q : Bool) (e : Ex) (v0 : Value) (G : GS) : Option (Value × GS) :=
  bS (bx q v0 G) fun x0 G1 =>
  bP (fa Q q 25 0 0 x0) fun x2 =>
  bP (fa Q q 23 2 2 x2) fun x3 =>
  bP (ld Q q 3 x3 G1) fun x4 =>
  bP (bn Q q .geq 3 (.tmp 5) (.const (.int .i64 1)) x4 (.int .i64 1)) fun x5 =>
  bS (gd x5 true (bP (fa Q q 25 0 0 x0) fun y => some (y, G1)) G1) fun x6 G7 =>
  bS (gd x5 true (bP (fa Q q 23 2 2 x6) fun y => some (y, G7)) G7) fun x8 G9 =>
  bS (gd x5 true (bP (ld Q q 3 x8 G9) fun y => some (y, G9)) G9) fun x10 G11 =>
  bS (gd x5 true (bP (bn Q q .leq 3 (.tmp 10) (.const (.int .i64 4096)) x10 (.int .i64 4096)) fun y => some (y, G11)) G11) fun x12 G13 =>
  bP (pickV x5 x12 (.bool false)) fun x14 =>
  some (x14, G13)
theorem m256 {e : Ex} {E : Ev} (h : ExLe Q e E) (v0 : Value) (G : GS) : Ref (s256 true e v0 G) (s256 false (Ex.of E) v0 G) := by
  unfold s256
  exact Ref.gq
theorem f256 {orc : FuncId → Bool} {e : Ex} (h : ExLe Q e (E orc)) (v0 : Value) (G : GS) : Ref (s256 true e v0 G) ((E orc).cl 256 [v0] G) :=
  fun r hr => cl_sxE_some Q orc (vs := [v0]) G Tryz.func256 (by kernel_rfl) (by kernel_rfl) (by kernel_rfl) (by kernel_rfl) (by kernel_rfl) (by kernel_rfl) (m256 h v0 G r hr)
noncomputable def jbl257_0_0 (q : Bool) (e : Ex) (lp : Env → GS → Option (Exit × Env × GS)) (τ : Env) (G : GS) : Option (Exit × Env × GS) :=
  bV q (τ 1) fun a1_ =>
  bV q (τ 2) fun a2_ =>
  bV q (τ 4) fun a4_ =>
  bV q (τ 5) fun a5_ =>
  bV q (τ 15) fun a15_ =>
  bV q (τ 16) fun a16_ =>
  bP (fa Q q 23 1 1 a2_) fun x2 =>
  bP (ld Q q 3 x2 (G.room 8)) fun x3 =>
  bP (bn Q q .add 3 (.tmp 27) (.tmp 28) x3 a4_) fun x4 =>
  bS (e.ev.cl 334 [a5_] (G.room 8)) fun x6 G5 =>
  chk ((sameO (ld Q q 3 x2 G5) x3 && true)) <|
  bS (e.ev.cl 45 [a1_, x4, x6] G5) fun x8 G7 =>
  bP (bn Q q .add 3 (.tmp 16) (.const (.int .i64 1)) a16_ (.int .i64 1)) fun x9 =>
  lp (xq q 34 τ [(16, x9), (33, x9), (32, x8), (31, x6), (30, a5_), (29, x4), (28, a4_), (27, x3), (26, x2), (25, a1_)] [(1, a1_), (2, a2_), (4, a4_), (5, a5_), (15, a15_)]) G7
noncomputable def jl257_0_0 (q : Bool) (e : Ex) (lp : Env → GS → Option (Exit × Env × GS)) (τ : Env) (G : GS) : Option (Exit × Env × GS) := jbl257_0_0 q e lp τ G
theorem mjl257_0_0 {e : Ex} {E : Ev} (h : ExLe Q e E) {lp lp' : Env → GS → Option (Exit × Env × GS)} (hlp : LpLe lp lp') (τ : Env) (G : GS) : Ref (jl257_0_0 true e lp τ G) (jl257_0_0 false (Ex.of E) lp' τ G) := by
  unfold jl257_0_0 jbl257_0_0
  exact Ref.gq
theorem mkjl257_0_0 {e : Ex} {E : Ev} (h : ExLe Q e E) {lp lp' : Env → GS → Option (Exit × Env × GS)} (hlp : LpLe lp lp') {τ : Env} {l U : List (Nat × Value)} {G : GS} (hU : UOk τ U) : Ref (jl257_0_0 true e lp (xq true 34 τ l U) G) (jl257_0_0 false (Ex.of E) lp' (xq false 34 τ l U) G) := by
  rw [xq_eq hU]
  exact mjl257_0_0 h hlp _ _
noncomputable def bb257_0 (q : Bool) (e : Ex) (lp : Env → GS → Option (Exit × Env × GS)) (J0 : Env → GS → Option (Exit × Env × GS)) (τ : Env) (G : GS) : Option (Exit × Env × GS) :=
  bV q (τ 1) fun a1_ =>
  bV q (τ 2) fun a2_ =>
  bV q (τ 4) fun a4_ =>
  bV q (τ 5) fun a5_ =>
  bV q (τ 15) fun a15_ =>
  bV q (τ 16) fun a16_ =>
  bP (bn Q q .lss 3 (.tmp 16) (.tmp 15) a16_ a15_) fun x0 =>
  ifV x0 (
  bP (bn Q q .add 3 (.tmp 19) (.const (.int .i64 1)) a16_ (.int .i64 1)) fun x1 =>
  bP (fa Q q 23 2 2 a2_) fun x10 =>
  bP (ld Q q 3 x10 G) fun x11 =>
  bP (bn Q q .eql 3 (.tmp 21) (.tmp 23) x1 x11) fun x12 =>
  ifV x12 (
  J0 (xq q 34 τ [(5, (.int .i64 (-1))), (24, x12), (23, x11), (22, x10), (21, x1), (5, x1), (20, x1), (19, a16_), (4, a16_), (18, a16_), (17, x0)] [(1, a1_), (2, a2_), (15, a15_), (16, a16_)]) G) (
  J0 (xq q 34 τ [(24, x12), (23, x11), (22, x10), (21, x1), (5, x1), (20, x1), (19, a16_), (4, a16_), (18, a16_), (17, x0)] [(1, a1_), (2, a2_), (15, a15_), (16, a16_)]) G)) (
  some ((.exit 0), xq q 34 τ [(17, x0)] [(1, a1_), (2, a2_), (4, a4_), (5, a5_), (15, a15_), (16, a16_)], G))
noncomputable def b257_0 (q : Bool) (e : Ex) (lp : Env → GS → Option (Exit × Env × GS)) (τ : Env) (G : GS) : Option (Exit × Env × GS) := bb257_0 q e lp (jl257_0_0 q e lp) τ G
theorem mb257_0 {e : Ex} {E : Ev} (h : ExLe Q e E) {lp lp' : Env → GS → Option (Exit × Env × GS)} (hlp : LpLe lp lp') (τ : Env) (G : GS) : Ref (b257_0 true e lp τ G) (b257_0 false (Ex.of E) lp' τ G) := by
  unfold b257_0 bb257_0
  repeat' (with_reducible first | exact Ref.rfl' _ | exact ROp.r | refine Ref.bP ?_ fun _ => ?_ | refine Ref.bS ?_ fun _ _ => ?_ | exact Ref.cl (by assumption) | refine Ref.ifV ?_ ?_ | refine LpLe.rx (by assumption) ?_ | refine Ref.xitq ?_ | exact UOk.z | refine UOk.c (by assumption) ?_ | exact Ref.nil _ | refine Ref.bVe fun _ _ => ?_ | refine Ref.bLq (by assumption) ?_ fun _ _ _ => ?_ | refine Ref.ifE ?_ ?_ | refine Ref.chk ?_ ?_ | refine Imp.and ?_ ?_ | refine Imp.or ?_ | exact Imp.rfl' _ | refine Imp.sameO ?_ | refine Ref.gd ?_ | exact Ref.cValue (by assumption) | refine Ref.bX ?_ fun _ _ _ => ?_ | exact Ref.scQ (by assumption) | exact Ref.xRangeQ (by assumption) | exact Ref.cInvoke (by assumption) | refine mkjl257_0_0 (by assumption) (by assumption) ?_)
noncomputable def jtl257_0 (J0 : Env → GS → Option (Exit × Env × GS)) : JT (Exit × Env × GS) :=
  (.n none .e (.n none .e (.n none (.n none (.n none .e (.n none .e (.n (some (fun T G => J0 (nth undef T) G)) .e .e))) .e) .e)))
theorem jrl257_0_0 (orc : FuncId → Bool) (J0 : Env → GS → Option (Exit × Env × GS)) (T : List Value) (G : GS) : runC Q (evL Q orc) 34 (jtl257_0 J0) (subAt [1, 1, 1, 1, 0, 0] (bodyOf Tryz.f257)) (seqXE (fun τ G' => mapE ((E orc).lp (subAt [1, 1, 1, 1, 0, 0] (bodyOf Tryz.f257)) (lst 34 (nth undef (lst 34 τ))) G')) fun e τ G' => some (e, nth undef (lst 34 τ), G')) [true, true, false, false, true, true] (nth undef T) G = jbl257_0_0 false (Ex.of (E orc)) (fun τ G => mapE ((E orc).lp (subAt [1, 1, 1, 1, 0, 0] (bodyOf Tryz.f257)) (lst 34 τ) G))  (nth undef T) G := by kernel_rfl
theorem jol257_0 (orc : FuncId → Bool) : JOk Q orc 34 (jtl257_0 (jl257_0_0 false (Ex.of (E orc)) (fun τ G => mapE ((E orc).lp (subAt [1, 1, 1, 1, 0, 0] (bodyOf Tryz.f257)) (lst 34 τ) G))) ) (subAt [1, 1, 1, 1, 0, 0] (bodyOf Tryz.f257)) (seqXE (fun τ G' => mapE ((E orc).lp (subAt [1, 1, 1, 1, 0, 0] (bodyOf Tryz.f257)) (lst 34 (nth undef (lst 34 τ))) G')) fun e τ G' => some (e, nth undef (lst 34 τ), G')) :=
  jOk Q orc (l := [([true, true, false, false, true, true], (fun T G => jl257_0_0 false (Ex.of (E orc)) (fun τ G => mapE ((E orc).lp (subAt [1, 1, 1, 1, 0, 0] (bodyOf Tryz.f257)) (lst 34 τ) G)) (nth undef T) G))]) (by kernel_rfl) (AllE.c (fun T G => jrl257_0_0 orc (jl257_0_0 false (Ex.of (E orc)) (fun τ G => mapE ((E orc).lp (subAt [1, 1, 1, 1, 0, 0] (bodyOf Tryz.f257)) (lst 34 τ) G))) T G) (AllE.z))
theorem jel257_0 (orc : FuncId → Bool) (J0 : Env → GS → Option (Exit × Env × GS)) (T : List Value) (G : GS) : sxC Q (evL Q orc) 34 (jtl257_0 J0) (subAt [1, 1, 1, 1, 0, 0] (bodyOf Tryz.f257)) (nth undef T) G (seqXE (fun τ G' => mapE ((E orc).lp (subAt [1, 1, 1, 1, 0, 0] (bodyOf Tryz.f257)) (lst 34 (nth undef (lst 34 τ))) G')) fun e τ G' => some (e, nth undef (lst 34 τ), G')) = bb257_0 false (Ex.of (E orc)) (fun τ G => mapE ((E orc).lp (subAt [1, 1, 1, 1, 0, 0] (bodyOf Tryz.f257)) (lst 34 τ) G)) J0 (nth undef T) G := by kernel_rfl
theorem l257_0 {orc : FuncId → Bool} {e : Ex} (h : ExLe Q e (E orc)) (lp : Env → GS → Option (Exit × Env × GS)) (hlp : ∀ τ G, Ref (lp τ G) (mapE ((E orc).lp (subAt [1, 1, 1, 1, 0, 0] (bodyOf Tryz.f257)) (lst 34 τ) G))) (T : List Value) (G : GS) (hT : T.length = 34) : Ref (b257_0 true e lp (nth undef T) G) (mapE ((E orc).lp (subAt [1, 1, 1, 1, 0, 0] (bodyOf Tryz.f257)) T G)) :=
  fun r hr => lp_sxC Q orc G (jtl257_0 (jl257_0_0 false (Ex.of (E orc)) (fun τ G => mapE ((E orc).lp (subAt [1, 1, 1, 1, 0, 0] (bodyOf Tryz.f257)) (lst 34 τ) G))) ) hT (jol257_0 orc) (jel257_0 orc (jl257_0_0 false (Ex.of (E orc)) (fun τ G => mapE ((E orc).lp (subAt [1, 1, 1, 1, 0, 0] (bodyOf Tryz.f257)) (lst 34 τ) G))) T G) (mb257_0 h ⟨hlp⟩ _ _ r hr)
/-- coxswain/stack.Fill -/
noncomputable def s257 (q : Bool) (e : Ex) (v0 v1 : Value) (G : GS) : Option (Value × GS) :=
  bS (bx q v0 G) fun x0 G1 =>
  bP (lda Q q 23 3 x0 G1) fun x2 =>
  bS (e.ev.cl 254 [x2] G1) fun x3 G4 =>
  bP (un Q q .not x3) fun x5 =>
  ifV x5 (
  some (.tuple #[], G4)) (
  bP (fa Q q 23 0 0 x0) fun x6 =>
  bP (ld Q q 3 x6 (G4.room 5)) fun x7 =>
  bS (e.ev.cl 334 [(.int .i64 0)] (G4.room 5)) fun x9 G8 =>
  chk ((sameO (ld Q q 3 x6 G8) x7 && true)) <|
  bS (e.ev.cl 45 [v1, x7, x9] G8) fun x11 G10 =>
  bP (fa Q q 23 2 2 x0) fun x12 =>
  bP (ld Q q 3 x12 G10) fun x13 =>
  bLq q e 257 0 (subAt [1, 1, 1, 1, 0, 0] (bodyOf Tryz.f257)) 34 (nth undef [v0, v1]) [(16, (.int .i64 0)), (15, x13), (14, x12), (13, x11), (12, x9), (11, x7), (10, x6), (9, v1), (8, x5), (7, x3), (6, x2), (2, x0)] [] G10 fun e14 t15 G16 =>
  ifE e14 (.exit 0) (
  some (.tuple #[], G16)) (none))
theorem m257 {e : Ex} {E : Ev} (h : ExLe Q e E) (v0 v1 : Value) (G : GS) : Ref (s257 true e v0 v1 G) (s257 false (Ex.of E) v0 v1 G) := by
  unfold s257
  exact Ref.gq
theorem f257 {orc : FuncId → Bool} {e : Ex} (h : ExLe Q e (E orc)) (v0 v1 : Value) (G : GS) : Ref (s257 true e v0 v1 G) ((E orc).cl 257 [v0, v1] G) :=
  fun r hr => cl_sxE_some Q orc (vs := [v0, v1]) G Tryz.func257 (by kernel_rfl) (by kernel_rfl) (by kernel_rfl) (by kernel_rfl) (by kernel_rfl) (by kernel_rfl) (m257 h v0 v1 G r hr)
/-- (coxswain/cells.deed).load -/
noncomputable def s260 (q : Bool) (e : Ex) (v0 : Value) (G : GS) : Option (Value × GS) :=
  bS (bx q v0 G) fun x0 G1 =>
  bP (fa Q q 246 0 0 x0) fun x2 =>
  bP (ld Q q 243 x2 G1) fun x3 =>
  bP (pNil x3) fun x4 =>
  bP (ld Q q 154 x4 G1) fun x5 =>
  some (.tuple #[x5, (.bool false)], G1)
theorem m260 {e : Ex} {E : Ev} (h : ExLe Q e E) (v0 : Value) (G : GS) : Ref (s260 true e v0 G) (s260 false (Ex.of E) v0 G) := by
  unfold s260
  exact Ref.gq
theorem f260 {orc : FuncId → Bool} {e : Ex} (h : ExLe Q e (E orc)) (v0 : Value) (G : GS) : Ref (s260 true e v0 G) ((E orc).cl 260 [v0] G) :=
  fun r hr => cl_sxE_some Q orc (vs := [v0]) G Tryz.func260 (by kernel_rfl) (by kernel_rfl) (by kernel_rfl) (by kernel_rfl) (by kernel_rfl) (by kernel_rfl) (m260 h v0 G r hr)
/-- coxswain/stack.NewPush -/
noncomputable def s268 (q : Bool) (e : Ex) (v0 v1 : Value) (G : GS) : Option (Value × GS) :=
  bS (bx q v0 G) fun x0 G1 =>
  bP (lda Q q 23 3 x0 G1) fun x2 =>
  bP (bd Q q 486 z486 [(0, 0, 3), (2, 4, 1), (4, 6, 1)] [x2, v1, (.bool true)]) fun x3 =>
  bP (bd Q q 498 z498 [(0, 0, 9), (1, 9, 1)] [x3, (.func (.func 344) #[] #[])]) fun x4 =>
  bS (bx q x4 G1) fun x5 G6 =>
  bP (bn Q q .lss 3 (.tmp 11) (.const (.int .i64 0)) v1 (.int .i64 0)) fun x7 =>
  bS (gd x7 false (some (v1, G6)) G6) fun x8 G9 =>
  bS (gd x7 false (bP (fa Q q 23 2 2 x0) fun y => some (y, G9)) G9) fun x10 G11 =>
  bS (gd x7 false (bP (ld Q q 3 x10 G11) fun y => some (y, G11)) G11) fun x12 G13 =>
  bS (gd x7 false (bP (bn Q q .geq 3 (.tmp 14) (.tmp 16) x8 x12) fun y => some (y, G13)) G13) fun x14 G15 =>
  bP (pickV x7 (.bool true) x14) fun x16 =>
  ifV x16 (
  bP (pNil x5) fun x17 =>
  bP (fa Q q 498 0 0 x17) fun x18 =>
  bS (e.ev.cl 345 [x18, (.int .i64 3)] G15) fun x19 G20 =>
  some (x5, G20)) (
  some (x5, G15))
theorem m268 {e : Ex} {E : Ev} (h : ExLe Q e E) (v0 v1 : Value) (G : GS) : Ref (s268 true e v0 v1 G) (s268 false (Ex.of E) v0 v1 G) := by
  unfold s268
  exact Ref.gq
theorem f268 {orc : FuncId → Bool} {e : Ex} (h : ExLe Q e (E orc)) (v0 v1 : Value) (G : GS) : Ref (s268 true e v0 v1 G) ((E orc).cl 268 [v0, v1] G) :=
  fun r hr => cl_sxE_some Q orc (vs := [v0, v1]) G Tryz.func268 (by kernel_rfl) (by kernel_rfl) (by kernel_rfl) (by kernel_rfl) (by kernel_rfl) (by kernel_rfl) (m268 h v0 v1 G r hr)
/-- coxswain/word.tops -/
noncomputable def s271 (q : Bool) (e : Ex) (G : GS) : Option (Value × GS) :=
  bS (al Q q 393 z393 G) fun x0 G1 =>
  bP (bd Q q 392 z392 [(0, 0, 1), (1, 1, 1)] [(.int .i64 0), (.int .i64 16)]) fun x2 =>
  bP (bd Q q 392 z392 [(0, 0, 1), (1, 1, 1)] [(.int .i64 16), (.int .i64 48)]) fun x3 =>
  bP (bd Q q 393 z393 [(0, 0, 2), (1, 2, 2)] [x2, x3]) fun x4 =>
  bP (st Q q 393 4 x0 x4 G1) fun G5 =>
  bP (lda Q q 393 4 x0 G5) fun x6 =>
  some (x6, G5)
theorem m271 {e : Ex} {E : Ev} (h : ExLe Q e E) (G : GS) : Ref (s271 true e  G) (s271 false (Ex.of E)  G) := by
  unfold s271
  exact Ref.gq
theorem f271 {orc : FuncId → Bool} {e : Ex} (h : ExLe Q e (E orc)) (ho : orc 271 = false) (G : GS) : Ref (s271 true e  G) ((E orc).cl 271 [] G) :=
  fun r hr => cl_sxE_some Q orc (vs := []) G Tryz.func271 (by kernel_rfl) (by kernel_rfl) ho (by kernel_rfl) (by kernel_rfl) (by kernel_rfl) (m271 h  G r hr)
/-- (coxswain/word.raw).take -/
noncomputable def s272 (q : Bool) (e : Ex) (v0 v1 : Value) (G : GS) : Option (Value × GS) :=
  bS (bx q v1 G) fun x0 G1 =>
  bP (fa Q q 392 0 0 x0) fun x2 =>
  bP (ld Q q 3 x2 (G1.room 11)) fun x3 =>
  bP (bn Q q .shr 41 (.tmp 5) (.tmp 7) v0 x3) fun x4 =>
  bP (fa Q q 392 1 1 x0) fun x5 =>
  bP (ld Q q 3 x5 (G1.room 11)) fun x6 =>
  bP (bn Q q .shl 41 (.const (.int .u64 1)) (.tmp 10) (.int .u64 1) x6) fun x7 =>
  bP (bn Q q .sub 41 (.tmp 11) (.const (.int .u64 1)) x7 (.int .u64 1)) fun x8 =>
  bP (bn Q q .and 41 (.tmp 8) (.tmp 12) x4 x8) fun x9 =>
  bP (cv Q q 41 3 .u64 .i64 x9) fun x10 =>
  some (x10, (G1.room 11))
theorem m272 {e : Ex} {E : Ev} (h : ExLe Q e E) (v0 v1 : Value) (G : GS) : Ref (s272 true e v0 v1 G) (s272 false (Ex.of E) v0 v1 G) := by
  unfold s272
  exact Ref.gq
theorem f272 {orc : FuncId → Bool} {e : Ex} (h : ExLe Q e (E orc)) (v0 v1 : Value) (G : GS) : Ref (s272 true e v0 v1 G) ((E orc).cl 272 [v0, v1] G) :=
  fun r hr => cl_sxE_some Q orc (vs := [v0, v1]) G Tryz.func272 (by kernel_rfl) (by kernel_rfl) (by kernel_rfl) (by kernel_rfl) (by kernel_rfl) (by kernel_rfl) (m272 h v0 v1 G r hr)
/-- (coxswain/tower.rows[coxswain/tower.node]).at -/
noncomputable def s273 (q : Bool) (e : Ex) (v0 v1 v2 : Value) (G : GS) : Option (Value × GS) :=
  bS (bx q v0 G) fun x0 G1 =>
  bP (bn Q q .lss 3 (.tmp 7) (.const (.int .i64 0)) v1 (.int .i64 0)) fun x2 =>
  bS (gd x2 false (some (v1, G1)) G1) fun x3 G4 =>
  bS (gd x2 false (bP (fa Q q 187 1 1 x0) fun y => some (y, G4)) G4) fun x5 G6 =>
  bS (gd x2 false (bP (ld Q q 3 x5 G6) fun y => some (y, G6)) G6) fun x7 G8 =>
  bS (gd x2 false (bP (bn Q q .geq 3 (.tmp 10) (.tmp 12) x3 x7) fun y => some (y, G8)) G8) fun x9 G10 =>
  bP (pickV x2 (.bool true) x9) fun x11 =>
  bS (gd x11 false (some (v2, G10)) G10) fun x12 G13 =>
  bS (gd x11 false (bP (bn Q q .lss 3 (.tmp 16) (.const (.int .i64 0)) x12 (.int .i64 0)) fun y => some (y, G13)) G13) fun x14 G15 =>
  bP (pickV x11 (.bool true) x14) fun x16 =>
  bS (gd x16 false (some (v2, G15)) G15) fun x17 G18 =>
  bS (gd x16 false (bP (fa Q q 187 2 2 x0) fun y => some (y, G18)) G18) fun x19 G20 =>
  bS (gd x16 false (bP (ld Q q 185 x19 G20) fun y => some (y, G20)) G20) fun x21 G22 =>
  bS (gd x16 false (bP (ifc Q q 185 x21) fun y => some (y, G22)) G22) fun x23 G24 =>
  bS (gd x16 false (bS (cInvoke Q e.ev x23 "coxswain/tower.cells" [] G24) fun y G => some (y, G)) G24) fun x25 G26 =>
  bS (gd x16 false (bP (bn Q q .geq 3 (.tmp 20) (.tmp 24) x17 x25) fun y => some (y, G26)) G26) fun x27 G28 =>
  bP (pickV x16 (.bool true) x27) fun x29 =>
  ifV x29 (
  some ((.int .i64 (-1)), G28)) (
  bP (fa Q q 187 0 0 x0) fun x30 =>
  bP (ld Q q 3 x30 (G28.room 12)) fun x31 =>
  bP (fa Q q 187 2 2 x0) fun x32 =>
  bP (ld Q q 185 x32 (G28.room 12)) fun x33 =>
  bP (ifc Q q 185 x33) fun x34 =>
  bS (cInvoke Q e.ev x34 "coxswain/tower.cells" [] (G28.room 12)) fun x36 G35 =>
  chk ((sameO (ld Q q 3 x30 G35) x31 && true)) <|
  bP (bn Q q .mul 3 (.tmp 29) (.tmp 33) v1 x36) fun x37 =>
  bP (bn Q q .add 3 (.tmp 28) (.tmp 34) x31 x37) fun x38 =>
  bP (bn Q q .add 3 (.tmp 35) (.tmp 36) x38 v2) fun x39 =>
  some (x39, G35))
theorem m273 {e : Ex} {E : Ev} (h : ExLe Q e E) (v0 v1 v2 : Value) (G : GS) : Ref (s273 true e v0 v1 v2 G) (s273 false (Ex.of E) v0 v1 v2 G) := by
  unfold s273
  exact Ref.gq
theorem f273 {orc : FuncId → Bool} {e : Ex} (h : ExLe Q e (E orc)) (v0 v1 v2 : Value) (G : GS) : Ref (s273 true e v0 v1 v2 G) ((E orc).cl 273 [v0, v1, v2] G) :=
  fun r hr => cl_sxE_some Q orc (vs := [v0, v1, v2]) G Tryz.func273 (by kernel_rfl) (by kernel_rfl) (by kernel_rfl) (by kernel_rfl) (by kernel_rfl) (by kernel_rfl) (m273 h v0 v1 v2 G r hr)
/-- (coxswain/tower.rows[coxswain/tower.head]).at -/
noncomputable def s274 (q : Bool) (e : Ex) (v0 v1 v2 : Value) (G : GS) : Option (Value × GS) :=
  bS (bx q v0 G) fun x0 G1 =>
  bP (bn Q q .lss 3 (.tmp 7) (.const (.int .i64 0)) v1 (.int .i64 0)) fun x2 =>
  bS (gd x2 false (some (v1, G1)) G1) fun x3 G4 =>
  bS (gd x2 false (bP (fa Q q 192 1 1 x0) fun y => some (y, G4)) G4) fun x5 G6 =>
  bS (gd x2 false (bP (ld Q q 3 x5 G6) fun y => some (y, G6)) G6) fun x7 G8 =>
  bS (gd x2 false (bP (bn Q q .geq 3 (.tmp 10) (.tmp 12) x3 x7) fun y => some (y, G8)) G8) fun x9 G10 =>
  bP (pickV x2 (.bool true) x9) fun x11 =>
  bS (gd x11 false (some (v2, G10)) G10) fun x12 G13 =>
  bS (gd x11 false (bP (bn Q q .lss 3 (.tmp 16) (.const (.int .i64 0)) x12 (.int .i64 0)) fun y => some (y, G13)) G13) fun x14 G15 =>
  bP (pickV x11 (.bool true) x14) fun x16 =>
  bS (gd x16 false (some (v2, G15)) G15) fun x17 G18 =>
  bS (gd x16 false (bP (fa Q q 192 2 2 x0) fun y => some (y, G18)) G18) fun x19 G20 =>
  bS (gd x16 false (bP (ld Q q 190 x19 G20) fun y => some (y, G20)) G20) fun x21 G22 =>
  bS (gd x16 false (bP (ifc Q q 190 x21) fun y => some (y, G22)) G22) fun x23 G24 =>
  bS (gd x16 false (bS (cInvoke Q e.ev x23 "coxswain/tower.cells" [] G24) fun y G => some (y, G)) G24) fun x25 G26 =>
  bS (gd x16 false (bP (bn Q q .geq 3 (.tmp 20) (.tmp 24) x17 x25) fun y => some (y, G26)) G26) fun x27 G28 =>
  bP (pickV x16 (.bool true) x27) fun x29 =>
  ifV x29 (
  some ((.int .i64 (-1)), G28)) (
  bP (fa Q q 192 0 0 x0) fun x30 =>
  bP (ld Q q 3 x30 (G28.room 12)) fun x31 =>
  bP (fa Q q 192 2 2 x0) fun x32 =>
  bP (ld Q q 190 x32 (G28.room 12)) fun x33 =>
  bP (ifc Q q 190 x33) fun x34 =>
  bS (cInvoke Q e.ev x34 "coxswain/tower.cells" [] (G28.room 12)) fun x36 G35 =>
  chk ((sameO (ld Q q 3 x30 G35) x31 && true)) <|
  bP (bn Q q .mul 3 (.tmp 29) (.tmp 33) v1 x36) fun x37 =>
  bP (bn Q q .add 3 (.tmp 28) (.tmp 34) x31 x37) fun x38 =>
  bP (bn Q q .add 3 (.tmp 35) (.tmp 36) x38 v2) fun x39 =>
  some (x39, G35))
theorem m274 {e : Ex} {E : Ev} (h : ExLe Q e E) (v0 v1 v2 : Value) (G : GS) : Ref (s274 true e v0 v1 v2 G) (s274 false (Ex.of E) v0 v1 v2 G) := by
  unfold s274
  exact Ref.gq
theorem f274 {orc : FuncId → Bool} {e : Ex} (h : ExLe Q e (E orc)) (v0 v1 v2 : Value) (G : GS) : Ref (s274 true e v0 v1 v2 G) ((E orc).cl 274 [v0, v1, v2] G) :=
  fun r hr => cl_sxE_some Q orc (vs := [v0, v1, v2]) G Tryz.func274 (by kernel_rfl) (by kernel_rfl) (by kernel_rfl) (by kernel_rfl) (by kernel_rfl) (by kernel_rfl) (m274 h v0 v1 v2 G r hr)
/-- (*coxswain/find.Find).begin -/
noncomputable def s275 (q : Bool) (e : Ex) (v0 v1 : Value) (G : GS) : Option (Value × GS) :=
  bS (bx q v0 G) fun x0 G1 =>
  bS (bx q v1 G1) fun x2 G3 =>
  bP (ld Q q 37 x0 (G3.room 10)) fun x4 =>
  bP (pNil x4) fun x5 =>
  bP (fa Q q 283 0 0 x5) fun x6 =>
  bP (fa Q q 31 2 2 x6) fun x7 =>
  bP (ld Q q 3 x7 (G3.room 10)) fun x8 =>
  bP (ld Q q 37 x0 (G3.room 10)) fun x9 =>
  bP (pNil x9) fun x10 =>
  bP (fa Q q 283 5 20 x10) fun x11 =>
  bP (ld Q q 281 x11 (G3.room 10)) fun x12 =>
  bS (e.ev.cl 349 [x8, x12] (G3.room 10)) fun x14 G13 =>
  bX (xRange e.ev x14 #[16, 17] (subAt [1, 0, 1, 0, 0] (bodyOf Tryz.f275)) (subAt [1, 0, 1, 0, 1] (bodyOf Tryz.f275)) (lsq q 31 (nth undef [v0, v1]) [(15, x14), (14, x12), (13, x11), (12, x10), (11, x9), (10, x8), (9, x7), (8, x6), (7, x5), (6, x4), (3, x2), (2, x0)]) G13) fun e15 T16 G17 =>
  bV q (nth undef T16 2) fun T16x2_ =>
  ifE e15 .normal (
  bP (ld Q q 37 T16x2_ G17) fun x18 =>
  bP (pNil x18) fun x19 =>
  bP (fa Q q 283 2 14 x19) fun x20 =>
  bP (st Q q 3 1 x20 (.int .i64 9) G17) fun G21 =>
  some (.tuple #[], G21)) (ifE e15 .ret (
  some (.tuple #[], G17)) (none))
theorem m275 {e : Ex} {E : Ev} (h : ExLe Q e E) (v0 v1 : Value) (G : GS) : Ref (s275 true e v0 v1 G) (s275 false (Ex.of E) v0 v1 G) := by
  unfold s275
  exact Ref.gq
theorem f275 {orc : FuncId → Bool} {e : Ex} (h : ExLe Q e (E orc)) (v0 v1 : Value) (G : GS) : Ref (s275 true e v0 v1 G) ((E orc).cl 275 [v0, v1] G) :=
  fun r hr => cl_sxE_some Q orc (vs := [v0, v1]) G Tryz.func275 (by kernel_rfl) (by kernel_rfl) (by kernel_rfl) (by kernel_rfl) (by kernel_rfl) (by kernel_rfl) (m275 h v0 v1 G r hr)
noncomputable def r275_0 (q : Bool) (e : Ex) (l : Nat) (τ : Env) (u0 u1 : Value) (G : GS) : Option (Value × GS) :=
  bV q (τ 2) fun a2_ =>
  bV q (τ 3) fun a3_ =>
  bS (al Q q 280 z280 G) fun x0 G1 =>
  bP (st Q q 280 4 x0 u1 G1) fun G2 =>
  bP (G2.loop l) fun r3 => if r3.st = .ready then
  bP (ld Q q 3 a3_ (G2.putLoop l (Lp.setSt r3 .busy))) fun x4 =>
  bP (bn Q q .eql 3 (.tmp 18) (.tmp 19) u0 x4) fun x5 =>
  ifV x5 (
  bP (ld Q q 37 a2_ ((G2.putLoop l (Lp.setSt r3 .busy)).room 9)) fun x6 =>
  bP (ld Q q 37 a2_ ((G2.putLoop l (Lp.setSt r3 .busy)).room 9)) fun x7 =>
  bP (lda Q q 280 4 x0 ((G2.putLoop l (Lp.setSt r3 .busy)).room 9)) fun x8 =>
  bP (pNil x6) fun x9 =>
  bP (fa Q q 283 3 15 x9) fun x10 =>
  bP (st Q q 280 4 x10 x8 ((G2.putLoop l (Lp.setSt r3 .busy)).room 9)) fun G11 =>
  chk ((sameO (ld Q q 37 a2_ G11) x7 && true)) <|
  bP (pNil x7) fun x12 =>
  bP (fa Q q 283 2 14 x12) fun x13 =>
  bP (st Q q 3 1 x13 (.int .i64 1) G11) fun G14 =>
  roundEnd l .ret G14) (
  roundEnd l .normal (G2.putLoop l (Lp.setSt r3 .busy)))
  else none
theorem mr275_0 {e : Ex} {E : Ev} (h : ExLe Q e E) (l : Nat) (τ : Env) (u0 u1 : Value) (G : GS) : Ref (r275_0 true e l τ u0 u1 G) (r275_0 false (Ex.of E) l τ u0 u1 G) := by
  unfold r275_0
  repeat' (with_reducible first | exact Ref.rfl' _ | exact ROp.r | refine Ref.bP ?_ fun _ => ?_ | refine Ref.bS ?_ fun _ _ => ?_ | exact Ref.cl (by assumption) | refine Ref.ifV ?_ ?_ | refine LpLe.rx (by assumption) ?_ | refine Ref.xitq ?_ | exact UOk.z | refine UOk.c (by assumption) ?_ | exact Ref.nil _ | refine Ref.bVe fun _ _ => ?_ | refine Ref.bLq (by assumption) ?_ fun _ _ _ => ?_ | refine Ref.ifE ?_ ?_ | refine Ref.chk ?_ ?_ | refine Imp.and ?_ ?_ | refine Imp.or ?_ | exact Imp.rfl' _ | refine Imp.sameO ?_ | refine Ref.gd ?_ | exact Ref.cValue (by assumption) | refine Ref.bX ?_ fun _ _ _ => ?_ | exact Ref.scQ (by assumption) | exact Ref.xRangeQ (by assumption) | exact Ref.cInvoke (by assumption) | refine Ref.rdy ?_)
theorem d275_0 {orc : FuncId → Bool} {e : Ex} (h : ExLe Q e (E orc)) (l : Nat) (T : List Value) (u0 u1 : Value) (G : GS) {st : LoopState} {pend : Option Code} (hl : G.loop l = some ⟨st, pend, T, [16, 17], (subAt [1, 0, 1, 0, 0] (bodyOf Tryz.f275)), (subAt [1, 0, 1, 0, 1] (bodyOf Tryz.f275))⟩) (hT : T.length = 31) : Ref (r275_0 true e l (nth undef T) u0 u1 G) ((E orc).rd l [u0, u1] G) :=
  fun r hr => rd_sxE Q orc hl (by kernel_rfl) hT (by kernel_rfl) (mr275_0 h l _ u0 u1 G r hr)
/-- (*coxswain/find.Find).index -/
noncomputable def s276 (q : Bool) (e : Ex) (v0 v1 : Value) (G : GS) : Option (Value × GS) :=
  bS (e.ev.cl 189 [v1] G) fun x0 G1 =>
  bP (pExtract x0 0) fun x2 =>
  bP (pExtract x0 1) fun x3 =>
  bS (al Q q 274 z274 G1) fun x4 G5 =>
  bP (st Q q 274 2 x4 x2 G5) fun G6 =>
  bP (fa Q q 274 0 0 x4) fun x7 =>
  bP (ld Q q 3 x7 (G6.room 11)) fun x8 =>
  bP (pNil v0) fun x9 =>
  bP (fa Q q 283 0 0 x9) fun x10 =>
  bP (fa Q q 31 3 3 x10) fun x11 =>
  bP (fa Q q 29 0 0 x11) fun x12 =>
  bP (fa Q q 25 0 0 x12) fun x13 =>
  bP (fa Q q 23 2 2 x13) fun x14 =>
  bP (ld Q q 3 x14 (G6.room 11)) fun x15 =>
  bP (bn Q q .geq 3 (.tmp 13) (.tmp 21) x8 x15) fun x16 =>
  ifV x16 (
  some ((.int .i64 (-1)), (G6.room 11))) (
  bP (fa Q q 274 0 0 x4) fun x17 =>
  bP (ld Q q 3 x17 (G6.room 11)) fun x18 =>
  some (x18, (G6.room 11)))
theorem m276 {e : Ex} {E : Ev} (h : ExLe Q e E) (v0 v1 : Value) (G : GS) : Ref (s276 true e v0 v1 G) (s276 false (Ex.of E) v0 v1 G) := by
  unfold s276
  exact Ref.gq
theorem f276 {orc : FuncId → Bool} {e : Ex} (h : ExLe Q e (E orc)) (v0 v1 : Value) (G : GS) : Ref (s276 true e v0 v1 G) ((E orc).cl 276 [v0, v1] G) :=
  fun r hr => cl_sxE_some Q orc (vs := [v0, v1]) G Tryz.func276 (by kernel_rfl) (by kernel_rfl) (by kernel_rfl) (by kernel_rfl) (by kernel_rfl) (by kernel_rfl) (m276 h v0 v1 G r hr)
/-- (*coxswain/find.Find).done -/
noncomputable def s277 (q : Bool) (e : Ex) (v0 : Value) (G : GS) : Option (Value × GS) :=
  bP (pNil v0) fun x0 =>
  bP (fa Q q 283 5 20 x0) fun x1 =>
  bP (ld Q q 281 x1 (G.room 15)) fun x2 =>
  bP (pNil v0) fun x3 =>
  bP (fa Q q 283 3 15 x3) fun x4 =>
  bP (fa Q q 280 0 0 x4) fun x5 =>
  bP (ld Q q 3 x5 (G.room 15)) fun x6 =>
  bP (pNil v0) fun x7 =>
  bP (fa Q q 283 3 15 x7) fun x8 =>
  bP (lda Q q 280 4 x8 (G.room 15)) fun x9 =>
  bP (ias Q q 281 4 x2 x6) fun x10 =>
  bP (st Q q 280 4 x10 x9 (G.room 15)) fun G11 =>
  bP (pNil v0) fun x12 =>
  bP (fa Q q 283 3 15 x12) fun x13 =>
  bP (fa Q q 280 0 0 x13) fun x14 =>
  bP (ld Q q 3 x14 G11) fun x15 =>
  bP (bn Q q .sub 3 (.tmp 21) (.const (.int .i64 1)) x15 (.int .i64 1)) fun x16 =>
  bS (e.ev.cl 275 [v0, x16] G11) fun x17 G18 =>
  some (.tuple #[], G18)
theorem m277 {e : Ex} {E : Ev} (h : ExLe Q e E) (v0 : Value) (G : GS) : Ref (s277 true e v0 G) (s277 false (Ex.of E) v0 G) := by
  unfold s277
  exact Ref.gq
theorem f277 {orc : FuncId → Bool} {e : Ex} (h : ExLe Q e (E orc)) (v0 : Value) (G : GS) : Ref (s277 true e v0 G) ((E orc).cl 277 [v0] G) :=
  fun r hr => cl_sxE_some Q orc (vs := [v0]) G Tryz.func277 (by kernel_rfl) (by kernel_rfl) (by kernel_rfl) (by kernel_rfl) (by kernel_rfl) (by kernel_rfl) (m277 h v0 G r hr)
/-- (*coxswain/find.Find).looks -/
noncomputable def s278 (q : Bool) (e : Ex) (v0 : Value) (G : GS) : Option (Value × GS) :=
  bP (pNil v0) fun x0 =>
  bP (fa Q q 283 2 14 x0) fun x1 =>
  bP (st Q q 3 1 x1 (.int .i64 2) G) fun G2 =>
  bP (pNil v0) fun x3 =>
  bP (fa Q q 283 3 15 x3) fun x4 =>
  bP (fa Q q 280 3 3 x4) fun x5 =>
  bP (ld Q q 41 x5 G2) fun x6 =>
  bS (e.ev.cl 276 [v0, x6] G2) fun x7 G8 =>
  bP (bn Q q .lss 3 (.tmp 11) (.const (.int .i64 0)) x7 (.int .i64 0)) fun x9 =>
  ifV x9 (
  bS (e.ev.cl 277 [v0] G8) fun x10 G11 =>
  some (.tuple #[], G11)) (
  some (.tuple #[], G8))
theorem m278 {e : Ex} {E : Ev} (h : ExLe Q e E) (v0 : Value) (G : GS) : Ref (s278 true e v0 G) (s278 false (Ex.of E) v0 G) := by
  unfold s278
  exact Ref.gq
theorem f278 {orc : FuncId → Bool} {e : Ex} (h : ExLe Q e (E orc)) (v0 : Value) (G : GS) : Ref (s278 true e v0 G) ((E orc).cl 278 [v0] G) :=
  fun r hr => cl_sxE_some Q orc (vs := [v0]) G Tryz.func278 (by kernel_rfl) (by kernel_rfl) (by kernel_rfl) (by kernel_rfl) (by kernel_rfl) (by kernel_rfl) (m278 h v0 G r hr)
/-- (coxswain/cells.deed).add -/
noncomputable def s279 (q : Bool) (e : Ex) (v0 : Value) (G : GS) : Option (Value × GS) :=
  bS (bx q v0 G) fun x0 G1 =>
  bP (fa Q q 246 0 0 x0) fun x2 =>
  bP (ld Q q 243 x2 (G1.room 9)) fun x3 =>
  bP (pNil x3) fun x4 =>
  bP (ld Q q 154 x4 (G1.room 9)) fun x5 =>
  bP (fa Q q 246 1 1 x0) fun x6 =>
  bP (ld Q q 41 x6 (G1.room 9)) fun x7 =>
  bP (bn Q q .add 41 (.tmp 7) (.tmp 9) x5 x7) fun x8 =>
  some (.tuple #[x8, (.bool true)], (G1.room 9))
theorem m279 {e : Ex} {E : Ev} (h : ExLe Q e E) (v0 : Value) (G : GS) : Ref (s279 true e v0 G) (s279 false (Ex.of E) v0 G) := by
  unfold s279
  exact Ref.gq
theorem f279 {orc : FuncId → Bool} {e : Ex} (h : ExLe Q e (E orc)) (v0 : Value) (G : GS) : Ref (s279 true e v0 G) ((E orc).cl 279 [v0] G) :=
  fun r hr => cl_sxE_some Q orc (vs := [v0]) G Tryz.func279 (by kernel_rfl) (by kernel_rfl) (by kernel_rfl) (by kernel_rfl) (by kernel_rfl) (by kernel_rfl) (m279 h v0 G r hr)
/-- (*coxswain/limbo.Retire).looks -/
noncomputable def s280 (q : Bool) (e : Ex) (v0 v1 : Value) (G : GS) : Option (Value × GS) :=
  bP (pNil v0) fun x0 =>
  bP (fa Q q 404 1 3 x0) fun x1 =>
  bP (fa Q q 29 1 6 x1) fun x2 =>
  bP (fa Q q 27 0 0 x2) fun x3 =>
  bP (ld Q q 3 x3 G) fun x4 =>
  bS (e.ev.cl 177 [v1, x4] G) fun x5 G6 =>
  bP (bn Q q .and 41 (.tmp 13) (.const (.int .u64 4294967295)) x5 (.int .u64 4294967295)) fun x7 =>
  bP (bn Q q .rem 41 (.tmp 16) (.const (.int .u64 3)) x7 (.int .u64 3)) fun x8 =>
  bP (cv Q q 41 478 .u64 .i64 x8) fun x9 =>
  bP (pNil v0) fun x10 =>
  bP (fa Q q 404 1 3 x10) fun x11 =>
  bP (lda Q q 29 10 x11 (G6.room 17)) fun x12 =>
  bS (e.ev.cl 321 [x9, x12] (G6.room 17)) fun x14 G13 =>
  bP (pNil v0) fun x15 =>
  bP (fa Q q 404 2 13 x15) fun x16 =>
  bP (ld Q q 3 x16 G13) fun x17 =>
  chk ((sameO (ld Q q 3 x16 (G6.room 17)) x17 && true)) <|
  bS (e.ev.cl 268 [x14, x17] G13) fun x19 G18 =>
  bP (pNil v0) fun x20 =>
  bP (fa Q q 404 3 14 x20) fun x21 =>
  bP (st Q q 381 1 x21 x19 G18) fun G22 =>
  some ((.func (.func 350) #[v0] #[]), G22)
theorem m280 {e : Ex} {E : Ev} (h : ExLe Q e E) (v0 v1 : Value) (G : GS) : Ref (s280 true e v0 v1 G) (s280 false (Ex.of E) v0 v1 G) := by
  unfold s280
  exact Ref.gq
theorem f280 {orc : FuncId → Bool} {e : Ex} (h : ExLe Q e (E orc)) (v0 v1 : Value) (G : GS) : Ref (s280 true e v0 v1 G) ((E orc).cl 280 [v0, v1] G) :=
  fun r hr => cl_sxE_some Q orc (vs := [v0, v1]) G Tryz.func280 (by kernel_rfl) (by kernel_rfl) (by kernel_rfl) (by kernel_rfl) (by kernel_rfl) (by kernel_rfl) (m280 h v0 v1 G r hr)
noncomputable def jb281_0 (q : Bool) (e : Ex) (τ : Env) (G : GS) : Option (Value × GS) :=
  bV q (τ 0) fun a0_ =>
  bP (pNil a0_) fun x0 =>
  bP (fa Q q 402 0 0 x0) fun x1 =>
  bP (ld Q q 400 x1 G) fun x2 =>
  bP (ef Q q false 400 (.tmp 22) (.const .nilFunc) x2 .nilFunc) fun x3 =>
  some (x3, G)
noncomputable def j281_0 (q : Bool) (e : Ex) (τ : Env) (G : GS) : Option (Value × GS) := jb281_0 q e τ G
theorem mj281_0 {e : Ex} {E : Ev} (h : ExLe Q e E) (τ : Env) (G : GS) : Ref (j281_0 true e τ G) (j281_0 false (Ex.of E) τ G) := by
  unfold j281_0 jb281_0
  exact Ref.gq
theorem mkj281_0 {e : Ex} {E : Ev} (h : ExLe Q e E) {τ : Env} {l U : List (Nat × Value)} {G : GS} (hU : UOk τ U) : Ref (j281_0 true e (xq true 24 τ l U) G) (j281_0 false (Ex.of E) (xq false 24 τ l U) G) := by
  rw [xq_eq hU]
  exact mj281_0 h _ _
noncomputable def sb281 (q : Bool) (e : Ex) (J0 : Env → GS → Option (Value × GS)) (v0 v1 : Value) (G : GS) : Option (Value × GS) :=
  bP (pNil v0) fun x4 =>
  bP (fa Q q 402 0 0 x4) fun x5 =>
  bP (ld Q q 400 x5 G) fun x6 =>
  bP (ef Q q true 400 (.tmp 8) (.const .nilFunc) x6 .nilFunc) fun x7 =>
  ifV x7 (
  bP (pNil v0) fun x8 =>
  bP (fa Q q 402 0 0 x8) fun x9 =>
  bP (ld Q q 400 x9 G) fun x10 =>
  bS (cValue e.ev x10 [v1] G) fun x11 G12 =>
  bP (pNil v0) fun x13 =>
  bP (fa Q q 402 0 0 x13) fun x14 =>
  bP (st Q q 400 1 x14 x11 G12) fun G15 =>
  J0 (xq q 24 (nth undef [v0, v1]) [(18, x14), (17, x13), (16, x11), (15, v1), (14, x10), (13, x9), (12, x8), (11, v0), (10, v0), (9, x7), (8, x6), (7, x5), (6, x4), (5, v0), (4, (.bool false))] []) G15) (
  J0 (xq q 24 (nth undef [v0, v1]) [(9, x7), (8, x6), (7, x5), (6, x4), (5, v0), (4, (.bool false))] []) G)
/-- (*coxswain/limbo.machine).step -/
noncomputable def s281 (q : Bool) (e : Ex) (v0 v1 : Value) (G : GS) : Option (Value × GS) := sb281 q e (j281_0 q e) v0 v1 G
theorem m281 {e : Ex} {E : Ev} (h : ExLe Q e E) (v0 v1 : Value) (G : GS) : Ref (s281 true e v0 v1 G) (s281 false (Ex.of E) v0 v1 G) := by
  unfold s281 sb281
  repeat' (with_reducible first | exact Ref.rfl' _ | exact ROp.r | refine Ref.bP ?_ fun _ => ?_ | refine Ref.bS ?_ fun _ _ => ?_ | exact Ref.cl (by assumption) | refine Ref.ifV ?_ ?_ | refine LpLe.rx (by assumption) ?_ | refine Ref.xitq ?_ | exact UOk.z | refine UOk.c (by assumption) ?_ | exact Ref.nil _ | refine Ref.bVe fun _ _ => ?_ | refine Ref.bLq (by assumption) ?_ fun _ _ _ => ?_ | refine Ref.ifE ?_ ?_ | refine Ref.chk ?_ ?_ | refine Imp.and ?_ ?_ | refine Imp.or ?_ | exact Imp.rfl' _ | refine Imp.sameO ?_ | refine Ref.gd ?_ | exact Ref.cValue (by assumption) | refine Ref.bX ?_ fun _ _ _ => ?_ | exact Ref.scQ (by assumption) | exact Ref.xRangeQ (by assumption) | exact Ref.cInvoke (by assumption) | refine mkj281_0 (by assumption) ?_)
noncomputable def jt281 (J0 : Env → GS → Option (Value × GS)) : JT (Value × GS) :=
  (.n none .e (.n (some (fun T G => J0 (nth undef T) G)) .e .e))
theorem jr281_0 (orc : FuncId → Bool) (J0 : Env → GS → Option (Value × GS)) (T : List Value) (G : GS) : runC Q (evL Q orc) Tryz.f281.ntmps (jt281 J0) (bodyOf Tryz.f281) (retE Q Tryz.f281.results.toList) [true] (nth undef T) G = jb281_0 false (Ex.of (E orc))  (nth undef T) G := by kernel_rfl
theorem jo281 (orc : FuncId → Bool) : JOk Q orc Tryz.f281.ntmps (jt281 (j281_0 false (Ex.of (E orc))) ) (bodyOf Tryz.f281) (retE Q Tryz.f281.results.toList) :=
  jOk Q orc (l := [([true], (fun T G => j281_0 false (Ex.of (E orc)) (nth undef T) G))]) (by kernel_rfl) (AllE.c (fun T G => jr281_0 orc (j281_0 false (Ex.of (E orc))) T G) (AllE.z))
theorem je281 (orc : FuncId → Bool) (J0 : Env → GS → Option (Value × GS)) (v0 v1 : Value) (G : GS) : sxC Q (evL Q orc) Tryz.f281.ntmps (jt281 J0) (bodyOf Tryz.f281) (nth undef [v0, v1]) G (retE Q Tryz.f281.results.toList) = sb281 false (Ex.of (E orc)) J0 v0 v1 G := by kernel_rfl
theorem f281 {orc : FuncId → Bool} {e : Ex} (h : ExLe Q e (E orc)) (v0 v1 : Value) (G : GS) : Ref (s281 true e v0 v1 G) ((E orc).cl 281 [v0, v1] G) :=
  fun r hr => cl_sxC Q orc (vs := [v0, v1]) G (jt281 (j281_0 false (Ex.of (E orc))) ) Tryz.func281 (by kernel_rfl) (by kernel_rfl) (by kernel_rfl) (by kernel_rfl) (by kernel_rfl) (jo281 orc) (je281 orc (j281_0 false (Ex.of (E orc))) v0 v1 G) (m281 h v0 v1 G r hr)
/-- (coxswain/tower.memory).level -/
noncomputable def s282 (q : Bool) (e : Ex) (v0 v1 v2 : Value) (G : GS) : Option (Value × GS) :=
  bS (bx q v0 G) fun x0 G1 =>
  bS (bx q v1 G1) fun x2 G3 =>
  bS (bx q v2 G3) fun x4 G5 =>
  some ((.func (.func 351) #[] #[x2, x0, x4]), G5)
theorem m282 {e : Ex} {E : Ev} (h : ExLe Q e E) (v0 v1 v2 : Value) (G : GS) : Ref (s282 true e v0 v1 v2 G) (s282 false (Ex.of E) v0 v1 v2 G) := by
  unfold s282
  exact Ref.gq
theorem f282 {orc : FuncId → Bool} {e : Ex} (h : ExLe Q e (E orc)) (v0 v1 v2 : Value) (G : GS) : Ref (s282 true e v0 v1 v2 G) ((E orc).cl 282 [v0, v1, v2] G) :=
  fun r hr => cl_sxE_some Q orc (vs := [v0, v1, v2]) G Tryz.func282 (by kernel_rfl) (by kernel_rfl) (by kernel_rfl) (by kernel_rfl) (by kernel_rfl) (by kernel_rfl) (m282 h v0 v1 v2 G r hr)
/-- coxswain/stack.on -/
noncomputable def s283 (q : Bool) (e : Ex) (v0 v1 : Value) (G : GS) : Option (Value × GS) :=
  bS (bx q v0 G) fun x0 G1 =>
  bS (bx q v1 G1) fun x2 G3 =>
  bS (al Q q 180 z180 G3) fun x4 G5 =>
  bP (st Q q 180 1 x4 (.func (.func 354) #[] #[x2]) G5) fun G6 =>
  some ((.func (.func 355) #[] #[x0, x4]), G6)
theorem m283 {e : Ex} {E : Ev} (h : ExLe Q e E) (v0 v1 : Value) (G : GS) : Ref (s283 true e v0 v1 G) (s283 false (Ex.of E) v0 v1 G) := by
  unfold s283
  exact Ref.gq
theorem f283 {orc : FuncId → Bool} {e : Ex} (h : ExLe Q e (E orc)) (v0 v1 : Value) (G : GS) : Ref (s283 true e v0 v1 G) ((E orc).cl 283 [v0, v1] G) :=
  fun r hr => cl_sxE_some Q orc (vs := [v0, v1]) G Tryz.func283 (by kernel_rfl) (by kernel_rfl) (by kernel_rfl) (by kernel_rfl) (by kernel_rfl) (by kernel_rfl) (m283 h v0 v1 G r hr)
/-- coxswain/epoch.sized -/
noncomputable def s286 (q : Bool) (e : Ex) (v0 : Value) (G : GS) : Option (Value × GS) :=
  bS (bx q v0 G) fun x0 G1 =>
  bP (fa Q q 27 2 2 x0) fun x2 =>
  bP (ld Q q 3 x2 G1) fun x3 =>
  bP (bn Q q .geq 3 (.tmp 4) (.const (.int .i64 1)) x3 (.int .i64 1)) fun x4 =>
  bS (gd x4 true (bP (fa Q q 27 2 2 x0) fun y => some (y, G1)) G1) fun x5 G6 =>
  bS (gd x4 true (bP (ld Q q 3 x5 G6) fun y => some (y, G6)) G6) fun x7 G8 =>
  bS (gd x4 true (bP (bn Q q .leq 3 (.tmp 8) (.const (.int .i64 64)) x7 (.int .i64 64)) fun y => some (y, G8)) G8) fun x9 G10 =>
  bP (pickV x4 x9 (.bool false)) fun x11 =>
  some (x11, G10)
theorem m286 {e : Ex} {E : Ev} (h : ExLe Q e E) (v0 : Value) (G : GS) : Ref (s286 true e v0 G) (s286 false (Ex.of E) v0 G) := by
  unfold s286
  exact Ref.gq
theorem f286 {orc : FuncId → Bool} {e : Ex} (h : ExLe Q e (E orc)) (v0 : Value) (G : GS) : Ref (s286 true e v0 G) ((E orc).cl 286 [v0] G) :=
  fun r hr => cl_sxE_some Q orc (vs := [v0]) G Tryz.func286 (by kernel_rfl) (by kernel_rfl) (by kernel_rfl) (by kernel_rfl) (by kernel_rfl) (by kernel_rfl) (m286 h v0 G r hr)
/-- coxswain/epoch.pins -/
noncomputable def s287 (q : Bool) (e : Ex) (v0 : Value) (G : GS) : Option (Value × GS) :=
  bS (bx q v0 G) fun x0 G1 =>
  some ((.func (.func 359) #[] #[x0]), G1)
theorem m287 {e : Ex} {E : Ev} (h : ExLe Q e E) (v0 : Value) (G : GS) : Ref (s287 true e v0 G) (s287 false (Ex.of E) v0 G) := by
  unfold s287
  exact Ref.gq
theorem f287 {orc : FuncId → Bool} {e : Ex} (h : ExLe Q e (E orc)) (v0 : Value) (G : GS) : Ref (s287 true e v0 G) ((E orc).cl 287 [v0] G) :=
  fun r hr => cl_sxE_some Q orc (vs := [v0]) G Tryz.func287 (by kernel_rfl) (by kernel_rfl) (by kernel_rfl) (by kernel_rfl) (by kernel_rfl) (by kernel_rfl) (m287 h v0 G r hr)
/-- coxswain/epoch.Fill -/
noncomputable def s320 (q : Bool) (e : Ex) (v0 v1 : Value) (G : GS) : Option (Value × GS) :=
  bS (bx q v0 G) fun x0 G1 =>
  bS (bx q v1 G1) fun x2 G3 =>
  bP (lda Q q 27 3 x0 G3) fun x4 =>
  bS (e.ev.cl 286 [x4] G3) fun x5 G6 =>
  bP (un Q q .not x5) fun x7 =>
  ifV x7 (
  some (.tuple #[], G6)) (
  bP (ld Q q 32 x2 G6) fun x8 =>
  bP (fa Q q 27 0 0 x0) fun x9 =>
  bP (ld Q q 3 x9 G6) fun x10 =>
  bS (e.ev.cl 45 [x8, x10, (.int .u64 0)] G6) fun x11 G12 =>
  bP (lda Q q 27 3 x0 G12) fun x13 =>
  bS (e.ev.cl 287 [x13] G12) fun x14 G15 =>
  bX (xRange e.ev x14 #[15, 16] (subAt [1, 1, 1, 1, 0, 0] (bodyOf Tryz.f320)) (subAt [1, 1, 1, 1, 0, 1] (bodyOf Tryz.f320)) (lsq q 20 (nth undef [v0, v1]) [(14, x14), (13, x13), (12, x11), (11, x10), (10, x9), (9, x8), (8, x7), (7, x5), (6, x4), (3, x2), (2, x0)]) G15) fun e16 T17 G18 =>
  ifE e16 .normal (
  some (.tuple #[], G18)) (none))
theorem m320 {e : Ex} {E : Ev} (h : ExLe Q e E) (v0 v1 : Value) (G : GS) : Ref (s320 true e v0 v1 G) (s320 false (Ex.of E) v0 v1 G) := by
  unfold s320
  exact Ref.gq
theorem f320 {orc : FuncId → Bool} {e : Ex} (h : ExLe Q e (E orc)) (v0 v1 : Value) (G : GS) : Ref (s320 true e v0 v1 G) ((E orc).cl 320 [v0, v1] G) :=
  fun r hr => cl_sxE_some Q orc (vs := [v0, v1]) G Tryz.func320 (by kernel_rfl) (by kernel_rfl) (by kernel_rfl) (by kernel_rfl) (by kernel_rfl) (by kernel_rfl) (m320 h v0 v1 G r hr)
noncomputable def r320_0 (q : Bool) (e : Ex) (l : Nat) (τ : Env) (u0 u1 : Value) (G : GS) : Option (Value × GS) :=
  bV q (τ 3) fun a3_ =>
  bP (G.loop l) fun r0 => if r0.st = .ready then
  bP (ld Q q 32 a3_ (G.putLoop l (Lp.setSt r0 .busy))) fun x1 =>
  bS (e.ev.cl 45 [x1, u1, (.int .u64 0)] (G.putLoop l (Lp.setSt r0 .busy))) fun x2 G3 =>
  roundEnd l .normal G3
  else none
theorem mr320_0 {e : Ex} {E : Ev} (h : ExLe Q e E) (l : Nat) (τ : Env) (u0 u1 : Value) (G : GS) : Ref (r320_0 true e l τ u0 u1 G) (r320_0 false (Ex.of E) l τ u0 u1 G) := by
  unfold r320_0
  repeat' (with_reducible first | exact Ref.rfl' _ | exact ROp.r | refine Ref.bP ?_ fun _ => ?_ | refine Ref.bS ?_ fun _ _ => ?_ | exact Ref.cl (by assumption) | refine Ref.ifV ?_ ?_ | refine LpLe.rx (by assumption) ?_ | refine Ref.xitq ?_ | exact UOk.z | refine UOk.c (by assumption) ?_ | exact Ref.nil _ | refine Ref.bVe fun _ _ => ?_ | refine Ref.bLq (by assumption) ?_ fun _ _ _ => ?_ | refine Ref.ifE ?_ ?_ | refine Ref.chk ?_ ?_ | refine Imp.and ?_ ?_ | refine Imp.or ?_ | exact Imp.rfl' _ | refine Imp.sameO ?_ | refine Ref.gd ?_ | exact Ref.cValue (by assumption) | refine Ref.bX ?_ fun _ _ _ => ?_ | exact Ref.scQ (by assumption) | exact Ref.xRangeQ (by assumption) | exact Ref.cInvoke (by assumption) | refine Ref.rdy ?_)
theorem d320_0 {orc : FuncId → Bool} {e : Ex} (h : ExLe Q e (E orc)) (l : Nat) (T : List Value) (u0 u1 : Value) (G : GS) {st : LoopState} {pend : Option Code} (hl : G.loop l = some ⟨st, pend, T, [15, 16], (subAt [1, 1, 1, 1, 0, 0] (bodyOf Tryz.f320)), (subAt [1, 1, 1, 1, 0, 1] (bodyOf Tryz.f320))⟩) (hT : T.length = 20) : Ref (r320_0 true e l (nth undef T) u0 u1 G) ((E orc).rd l [u0, u1] G) :=
  fun r hr => rd_sxE Q orc hl (by kernel_rfl) hT (by kernel_rfl) (mr320_0 h l _ u0 u1 G r hr)
/-- (coxswain/limbo.turn).stack -/
noncomputable def s321 (q : Bool) (e : Ex) (v0 v1 : Value) (G : GS) : Option (Value × GS) :=
  bS (bx q v1 G) fun x0 G1 =>
  bS (al Q q 23 z23 G1) fun x2 G3 =>
  bP (fa Q q 29 2 9 x0) fun x4 =>
  bP (ld Q q 3 x4 G3) fun x5 =>
  bP (bn Q q .add 3 (.tmp 6) (.tmp 7) x5 v0) fun x6 =>
  bP (fa Q q 29 0 0 x0) fun x7 =>
  bP (fa Q q 25 0 0 x7) fun x8 =>
  bP (fa Q q 23 1 1 x8) fun x9 =>
  bP (ld Q q 3 x9 G3) fun x10 =>
  bP (fa Q q 29 0 0 x0) fun x11 =>
  bP (fa Q q 25 0 0 x11) fun x12 =>
  bP (fa Q q 23 2 2 x12) fun x13 =>
  bP (ld Q q 3 x13 G3) fun x14 =>
  bP (bd Q q 23 z23 [(0, 0, 1), (1, 1, 1), (2, 2, 1)] [x6, x10, x14]) fun x15 =>
  bP (st Q q 23 3 x2 x15 G3) fun G16 =>
  bP (lda Q q 23 3 x2 G16) fun x17 =>
  some (x17, G16)
theorem m321 {e : Ex} {E : Ev} (h : ExLe Q e E) (v0 v1 : Value) (G : GS) : Ref (s321 true e v0 v1 G) (s321 false (Ex.of E) v0 v1 G) := by
  unfold s321
  exact Ref.gq
theorem f321 {orc : FuncId → Bool} {e : Ex} (h : ExLe Q e (E orc)) (v0 v1 : Value) (G : GS) : Ref (s321 true e v0 v1 G) ((E orc).cl 321 [v0, v1] G) :=
  fun r hr => cl_sxE_some Q orc (vs := [v0, v1]) G Tryz.func321 (by kernel_rfl) (by kernel_rfl) (by kernel_rfl) (by kernel_rfl) (by kernel_rfl) (by kernel_rfl) (m321 h v0 v1 G r hr)
/-- coxswain/stack.link -/
noncomputable def s334 (q : Bool) (e : Ex) (v0 : Value) (G : GS) : Option (Value × GS) :=
  bP (bd Q q 274 z274 [(0, 0, 1)] [v0]) fun x0 =>
  bS (e.ev.cl 390 [x0] G) fun x1 G2 =>
  bP (pExtract x1 0) fun x3 =>
  bP (pExtract x1 1) fun x4 =>
  some (x3, G2)
theorem m334 {e : Ex} {E : Ev} (h : ExLe Q e E) (v0 : Value) (G : GS) : Ref (s334 true e v0 G) (s334 false (Ex.of E) v0 G) := by
  unfold s334
  exact Ref.gq
theorem f334 {orc : FuncId → Bool} {e : Ex} (h : ExLe Q e (E orc)) (v0 : Value) (G : GS) : Ref (s334 true e v0 G) ((E orc).cl 334 [v0] G) :=
  fun r hr => cl_sxE_some Q orc (vs := [v0]) G Tryz.func334 (by kernel_rfl) (by kernel_rfl) (by kernel_rfl) (by kernel_rfl) (by kernel_rfl) (by kernel_rfl) (m334 h v0 G r hr)
/-- (*coxswain/stack.Push).first -/
noncomputable def s344 (q : Bool) (e : Ex) (v0 v1 : Value) (G : GS) : Option (Value × GS) :=
  bP (pNil v0) fun x0 =>
  bP (fa Q q 498 0 0 x0) fun x1 =>
  bS (e.ev.cl 392 [x1, v1] G) fun x2 G3 =>
  bP (pNil v0) fun x4 =>
  bP (fa Q q 498 0 0 x4) fun x5 =>
  bP (fa Q q 486 3 5 x5) fun x6 =>
  bP (st Q q 3 1 x6 x2 G3) fun G7 =>
  bP (pNil v0) fun x8 =>
  bP (fa Q q 498 1 9 x8) fun x9 =>
  bP (st Q q 496 1 x9 (.func (.func 395) #[] #[]) G7) fun G10 =>
  some (.tuple #[], G10)
theorem m344 {e : Ex} {E : Ev} (h : ExLe Q e E) (v0 v1 : Value) (G : GS) : Ref (s344 true e v0 v1 G) (s344 false (Ex.of E) v0 v1 G) := by
  unfold s344
  exact Ref.gq
theorem f344 {orc : FuncId → Bool} {e : Ex} (h : ExLe Q e (E orc)) (v0 v1 : Value) (G : GS) : Ref (s344 true e v0 v1 G) ((E orc).cl 344 [v0, v1] G) :=
  fun r hr => cl_sxE_some Q orc (vs := [v0, v1]) G Tryz.func344 (by kernel_rfl) (by kernel_rfl) (by kernel_rfl) (by kernel_rfl) (by kernel_rfl) (by kernel_rfl) (m344 h v0 v1 G r hr)
/-- (*coxswain/stack.held).ends -/
noncomputable def s345 (q : Bool) (e : Ex) (v0 v1 : Value) (G : GS) : Option (Value × GS) :=
  bP (pNil v0) fun x0 =>
  bP (fa Q q 486 5 7 x0) fun x1 =>
  bP (st Q q 4 1 x1 (.bool true) G) fun G2 =>
  bP (pNil v0) fun x3 =>
  bP (fa Q q 486 6 8 x3) fun x4 =>
  bP (st Q q 33 1 x4 v1 G2) fun G5 =>
  some (.tuple #[], G5)
theorem m345 {e : Ex} {E : Ev} (h : ExLe Q e E) (v0 v1 : Value) (G : GS) : Ref (s345 true e v0 v1 G) (s345 false (Ex.of E) v0 v1 G) := by
  unfold s345
  exact Ref.gq
theorem f345 {orc : FuncId → Bool} {e : Ex} (h : ExLe Q e (E orc)) (v0 v1 : Value) (G : GS) : Ref (s345 true e v0 v1 G) ((E orc).cl 345 [v0, v1] G) :=
  fun r hr => cl_sxE_some Q orc (vs := [v0, v1]) G Tryz.func345 (by kernel_rfl) (by kernel_rfl) (by kernel_rfl) (by kernel_rfl) (by kernel_rfl) (by kernel_rfl) (m345 h v0 v1 G r hr)
/-- coxswain/find.down -/
noncomputable def s349 (q : Bool) (e : Ex) (v0 v1 : Value) (G : GS) : Option (Value × GS) :=
  bS (bx q v0 G) fun x0 G1 =>
  bS (bx q v1 G1) fun x2 G3 =>
  some ((.func (.func 397) #[] #[x0, x2]), G3)
theorem m349 {e : Ex} {E : Ev} (h : ExLe Q e E) (v0 v1 : Value) (G : GS) : Ref (s349 true e v0 v1 G) (s349 false (Ex.of E) v0 v1 G) := by
  unfold s349
  exact Ref.gq
theorem f349 {orc : FuncId → Bool} {e : Ex} (h : ExLe Q e (E orc)) (v0 v1 : Value) (G : GS) : Ref (s349 true e v0 v1 G) ((E orc).cl 349 [v0, v1] G) :=
  fun r hr => cl_sxE_some Q orc (vs := [v0, v1]) G Tryz.func349 (by kernel_rfl) (by kernel_rfl) (by kernel_rfl) (by kernel_rfl) (by kernel_rfl) (by kernel_rfl) (m349 h v0 v1 G r hr)
/-- (*coxswain/limbo.Retire).pushes -/
noncomputable def s350 (q : Bool) (e : Ex) (v0 v1 : Value) (G : GS) : Option (Value × GS) :=
  bP (pNil v0) fun x0 =>
  bP (fa Q q 404 3 14 x0) fun x1 =>
  bP (ld Q q 381 x1 G) fun x2 =>
  bS (e.ev.cl 398 [x2, v1] G) fun x3 G4 =>
  ifV x3 (
  some (.nilFunc, G4)) (
  some ((.func (.func 350) #[v0] #[]), G4))
theorem m350 {e : Ex} {E : Ev} (h : ExLe Q e E) (v0 v1 : Value) (G : GS) : Ref (s350 true e v0 v1 G) (s350 false (Ex.of E) v0 v1 G) := by
  unfold s350
  exact Ref.gq
theorem f350 {orc : FuncId → Bool} {e : Ex} (h : ExLe Q e (E orc)) (v0 v1 : Value) (G : GS) : Ref (s350 true e v0 v1 G) ((E orc).cl 350 [v0, v1] G) :=
  fun r hr => cl_sxE_some Q orc (vs := [v0, v1]) G Tryz.func350 (by kernel_rfl) (by kernel_rfl) (by kernel_rfl) (by kernel_rfl) (by kernel_rfl) (by kernel_rfl) (m350 h v0 v1 G r hr)
noncomputable def b351_0 (q : Bool) (e : Ex) (lp : Env → GS → Option (Exit × Env × GS)) (τ : Env) (G : GS) : Option (Exit × Env × GS) :=
  bV q (τ 0) fun a0_ =>
  bV q (τ 1) fun a1_ =>
  bV q (τ 2) fun a2_ =>
  bV q (τ 3) fun a3_ =>
  bV q (τ 5) fun a5_ =>
  bV q (τ 6) fun a6_ =>
  bP (bn Q q .geq 3 (.tmp 14) (.const (.int .i64 0)) a5_ (.int .i64 0)) fun x0 =>
  bS (gd x0 true (some (a6_, G)) G) fun x1 G2 =>
  bS (gd x0 true (bP (fa Q q 31 3 3 a1_) fun y => some (y, G2)) G2) fun x3 G4 =>
  bS (gd x0 true (bP (fa Q q 29 0 0 x3) fun y => some (y, G4)) G4) fun x5 G6 =>
  bS (gd x0 true (bP (fa Q q 25 0 0 x5) fun y => some (y, G6)) G6) fun x7 G8 =>
  bS (gd x0 true (bP (fa Q q 23 2 2 x7) fun y => some (y, G8)) G8) fun x9 G10 =>
  bS (gd x0 true (bP (ld Q q 3 x9 G10) fun y => some (y, G10)) G10) fun x11 G12 =>
  bS (gd x0 true (bP (bn Q q .lss 3 (.tmp 17) (.tmp 22) x1 x11) fun y => some (y, G12)) G12) fun x13 G14 =>
  bP (pickV x0 x13 (.bool false)) fun x15 =>
  bS (gd x15 true (some (a0_, G14)) G14) fun x16 G17 =>
  bS (gd x15 true (some (a5_, G17)) G17) fun x18 G19 =>
  bS (gd x15 true (bS (cValue e.ev x16 [x18] G19) fun y G => some (y, G)) G19) fun x20 G21 =>
  bP (pickV x15 x20 (.bool false)) fun x22 =>
  ifV x22 (
  bP (lda Q q 31 13 a1_ (G21.room 9)) fun x23 =>
  bP (ld Q q 407 a2_ (G21.room 9)) fun x24 =>
  bP (lda Q q 31 13 a1_ (G21.room 9)) fun x25 =>
  bP (ld Q q 3 a3_ (G21.room 9)) fun x26 =>
  bS (e.ev.cl 69 [x25, a5_, x26] (G21.room 9)) fun x28 G27 =>
  chk ((sameO (ld Q q 407 a2_ G27) x24 && (sameO (lda Q q 31 13 a1_ G27) x23 && true))) <|
  bS (e.ev.cl 353 [x24, x28] G27) fun x30 G29 =>
  chk ((sameO (lda Q q 31 13 a1_ G29) x23 && true)) <|
  bS (e.ev.cl 352 [x23, x30] G29) fun x32 G31 =>
  bP (bn Q q .add 3 (.tmp 30) (.const (.int .i64 1)) a6_ (.int .i64 1)) fun x33 =>
  lp (xq q 40 τ [(6, x33), (31, x33), (30, a6_), (5, x32), (39, x32), (38, x30), (37, x28), (36, x26), (35, a5_), (34, x25), (33, x24), (32, x23), (29, x22), (28, x20), (27, x18), (26, x16), (25, x15), (24, x15), (23, x13), (22, x11), (21, x9), (20, x7), (19, x5), (18, x3), (17, x1), (16, x0), (15, x0), (14, a5_)] [(0, a0_), (1, a1_), (2, a2_), (3, a3_)]) G31) (
  some ((.exit 0), xq q 40 τ [(29, x22), (28, x20), (27, x18), (26, x16), (25, x15), (24, x15), (23, x13), (22, x11), (21, x9), (20, x7), (19, x5), (18, x3), (17, x1), (16, x0), (15, x0), (14, a5_)] [(0, a0_), (1, a1_), (2, a2_), (3, a3_), (5, a5_), (6, a6_)], G21))
theorem mb351_0 {e : Ex} {E : Ev} (h : ExLe Q e E) {lp lp' : Env → GS → Option (Exit × Env × GS)} (hlp : LpLe lp lp') (τ : Env) (G : GS) : Ref (b351_0 true e lp τ G) (b351_0 false (Ex.of E) lp' τ G) := by
  unfold b351_0
  exact Ref.gq
theorem l351_0 {orc : FuncId → Bool} {e : Ex} (h : ExLe Q e (E orc)) (lp : Env → GS → Option (Exit × Env × GS)) (hlp : ∀ τ G, Ref (lp τ G) (mapE ((E orc).lp (subAt [1, 1, 0, 0] (bodyOf Tryz.f351)) (lst 40 τ) G))) (T : List Value) (G : GS) (hT : T.length = 40) : Ref (b351_0 true e lp (nth undef T) G) (mapE ((E orc).lp (subAt [1, 1, 0, 0] (bodyOf Tryz.f351)) T G)) :=
  fun r hr => lp_sxN Q orc G hT (by kernel_rfl) (mb351_0 h ⟨hlp⟩ _ _ r hr)
/-- (coxswain/tower.memory).level$1 -/
noncomputable def s351 (q : Bool) (e : Ex) (v0 v1 v2 v3 : Value) (G : GS) : Option (Value × GS) :=
  bP (lda Q q 31 13 v1 (G.room 8)) fun x0 =>
  bP (ld Q q 407 v2 (G.room 8)) fun x1 =>
  bP (lda Q q 31 13 v1 (G.room 8)) fun x2 =>
  bP (ld Q q 3 v3 (G.room 8)) fun x3 =>
  bS (e.ev.cl 69 [x2, (.int .i64 (-1)), x3] (G.room 8)) fun x5 G4 =>
  chk ((sameO (ld Q q 407 v2 G4) x1 && (sameO (lda Q q 31 13 v1 G4) x0 && true))) <|
  bS (e.ev.cl 353 [x1, x5] G4) fun x7 G6 =>
  chk ((sameO (lda Q q 31 13 v1 G6) x0 && true)) <|
  bS (e.ev.cl 352 [x0, x7] G6) fun x9 G8 =>
  bLq q e 351 0 (subAt [1, 1, 0, 0] (bodyOf Tryz.f351)) 40 (nth undef [v0, v1, v2, v3]) [(6, (.int .i64 0)), (5, x9), (13, x9), (12, x7), (11, x5), (10, x3), (9, x2), (8, x1), (7, x0)] [] G8 fun e10 t11 G12 =>
  ifE e10 (.exit 0) (
  some (.tuple #[], G12)) (none)
theorem m351 {e : Ex} {E : Ev} (h : ExLe Q e E) (v0 v1 v2 v3 : Value) (G : GS) : Ref (s351 true e v0 v1 v2 v3 G) (s351 false (Ex.of E) v0 v1 v2 v3 G) := by
  unfold s351
  exact Ref.gq
theorem f351 {orc : FuncId → Bool} {e : Ex} (h : ExLe Q e (E orc)) (v0 v1 v2 v3 : Value) (G : GS) : Ref (s351 true e v0 v1 v2 v3 G) ((E orc).cl 351 [v0, v1, v2, v3] G) :=
  fun r hr => cl_sxE_some Q orc (vs := [v0, v1, v2, v3]) G Tryz.func351 (by kernel_rfl) (by kernel_rfl) (by kernel_rfl) (by kernel_rfl) (by kernel_rfl) (by kernel_rfl) (m351 h v0 v1 v2 v3 G r hr)
/-- coxswain/tower.index -/
noncomputable def s352 (q : Bool) (e : Ex) (v0 v1 : Value) (G : GS) : Option (Value × GS) :=
  bS (bx q v0 G) fun x0 G1 =>
  bS (e.ev.cl 189 [v1] G1) fun x2 G3 =>
  bP (pExtract x2 0) fun x4 =>
  bP (pExtract x2 1) fun x5 =>
  bS (al Q q 274 z274 G3) fun x6 G7 =>
  bP (st Q q 274 2 x6 x4 G7) fun G8 =>
  bP (fa Q q 274 0 0 x6) fun x9 =>
  bP (ld Q q 3 x9 G8) fun x10 =>
  bP (fa Q q 31 3 3 x0) fun x11 =>
  bP (fa Q q 29 0 0 x11) fun x12 =>
  bP (fa Q q 25 0 0 x12) fun x13 =>
  bP (fa Q q 23 2 2 x13) fun x14 =>
  bP (ld Q q 3 x14 G8) fun x15 =>
  bP (bn Q q .geq 3 (.tmp 13) (.tmp 18) x10 x15) fun x16 =>
  ifV x16 (
  some ((.int .i64 (-1)), G8)) (
  bP (fa Q q 274 0 0 x6) fun x17 =>
  bP (ld Q q 3 x17 G8) fun x18 =>
  some (x18, G8))
theorem m352 {e : Ex} {E : Ev} (h : ExLe Q e E) (v0 v1 : Value) (G : GS) : Ref (s352 true e v0 v1 G) (s352 false (Ex.of E) v0 v1 G) := by
  unfold s352
  exact Ref.gq
theorem f352 {orc : FuncId → Bool} {e : Ex} (h : ExLe Q e (E orc)) (v0 v1 : Value) (G : GS) : Ref (s352 true e v0 v1 G) ((E orc).cl 352 [v0, v1] G) :=
  fun r hr => cl_sxE_some Q orc (vs := [v0, v1]) G Tryz.func352 (by kernel_rfl) (by kernel_rfl) (by kernel_rfl) (by kernel_rfl) (by kernel_rfl) (by kernel_rfl) (m352 h v0 v1 G r hr)
/-- (coxswain/tower.memory).at -/
noncomputable def s353 (q : Bool) (e : Ex) (v0 v1 : Value) (G : GS) : Option (Value × GS) :=
  bP (bn Q q .lss 3 (.tmp 5) (.const (.int .i64 0)) v1 (.int .i64 0)) fun x0 =>
  bS (gd x0 false (some (v1, G)) G) fun x1 G2 =>
  bS (gd x0 false (some (v0, G2)) G2) fun x3 G4 =>
  bS (gd x0 false (bP (ln Q q 407 x3) fun y => some (y, G4)) G4) fun x5 G6 =>
  bS (gd x0 false (bP (bn Q q .geq 3 (.tmp 8) (.tmp 10) x1 x5) fun y => some (y, G6)) G6) fun x7 G8 =>
  bP (pickV x0 (.bool true) x7) fun x9 =>
  ifV x9 (
  some ((.int .u64 0), G8)) (
  bP (ias Q q 407 1 v0 v1) fun x10 =>
  bP (ld Q q 41 x10 G8) fun x11 =>
  some (x11, G8))
theorem m353 {e : Ex} {E : Ev} (h : ExLe Q e E) (v0 v1 : Value) (G : GS) : Ref (s353 true e v0 v1 G) (s353 false (Ex.of E) v0 v1 G) := by
  unfold s353
  exact Ref.gq
theorem f353 {orc : FuncId → Bool} {e : Ex} (h : ExLe Q e (E orc)) (v0 v1 : Value) (G : GS) : Ref (s353 true e v0 v1 G) ((E orc).cl 353 [v0, v1] G) :=
  fun r hr => cl_sxE_some Q orc (vs := [v0, v1]) G Tryz.func353 (by kernel_rfl) (by kernel_rfl) (by kernel_rfl) (by kernel_rfl) (by kernel_rfl) (by kernel_rfl) (m353 h v0 v1 G r hr)
end Go.Proofs.YtdohlgkmaeipjaaGreat.Lift
