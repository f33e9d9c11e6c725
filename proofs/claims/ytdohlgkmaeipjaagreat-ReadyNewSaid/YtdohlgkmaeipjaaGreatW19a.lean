/- the program's code, spelled out by a program of ours (lift2.lean) -/
import Derived.Test.YtdohlgkmaeipjaaGreatProg
import Derived.Test.YtdohlgkmaeipjaaGreatGhKO
import Derived.KernelRfl
namespace Go.Proofs.YtdohlgkmaeipjaaGreat.LiftK
open Go Go.Proofs.YtdohlgkmaeipjaaGreat.Gh Go.Proofs
set_option linter.unusedVariables false
set_option maxRecDepth 100000
@[reducible] noncomputable def Q : Program := Tryz.prog
@[reducible] noncomputable def E (orc : FuncId → Bool) : Ev := evL Tryz.prog orc
instance ilp12_0 : LpIs Q 12 0 (subAt [1, 0, 1, 1, 0, 0, 0] (bodyOf Tryz.f12)) 162 := ⟨by kernel_rfl, by kernel_rfl⟩
instance ilp129_0 : LpIs Q 129 0 (subAt [1, 1, 0, 1, 0, 0] (bodyOf Tryz.f129)) 29 := ⟨by kernel_rfl, by kernel_rfl⟩
instance ilp156_0 : LpIs Q 156 0 (subAt [1, 1, 1, 1, 0, 0] (bodyOf Tryz.f156)) 24 := ⟨by kernel_rfl, by kernel_rfl⟩
instance ilp171_0 : LpIs Q 171 0 (subAt [1, 1, 1, 1, 1, 0, 0] (bodyOf Tryz.f171)) 29 := ⟨by kernel_rfl, by kernel_rfl⟩
instance ilp196_0 : LpIs Q 196 0 (subAt [1, 0, 1, 1, 1, 1, 1, 0, 0, 0] (bodyOf Tryz.f196)) 195 := ⟨by kernel_rfl, by kernel_rfl⟩
instance ilp230_0 : LpIs Q 230 0 (subAt [1, 1, 1, 0, 0, 0] (bodyOf Tryz.f230)) 35 := ⟨by kernel_rfl, by kernel_rfl⟩
instance ilp232_0 : LpIs Q 232 0 (subAt [1, 1, 0, 1, 0, 0] (bodyOf Tryz.f232)) 29 := ⟨by kernel_rfl, by kernel_rfl⟩
instance ilp246_0 : LpIs Q 246 0 (subAt [1, 1, 1, 1, 0, 0] (bodyOf Tryz.f246)) 23 := ⟨by kernel_rfl, by kernel_rfl⟩
instance ilp257_0 : LpIs Q 257 0 (subAt [1, 1, 1, 1, 0, 0] (bodyOf Tryz.f257)) 34 := ⟨by kernel_rfl, by kernel_rfl⟩
instance ilp295_0 : LpIs Q 295 0 (subAt [1, 0, 1, 1, 1, 1, 1, 0, 0] (bodyOf Tryz.f295)) 91 := ⟨by kernel_rfl, by kernel_rfl⟩
instance ilp357_0 : LpIs Q 357 0 (subAt [1, 0, 1, 0, 0] (bodyOf Tryz.f357)) 24 := ⟨by kernel_rfl, by kernel_rfl⟩
instance ilp358_0 : LpIs Q 358 0 (subAt [1, 1, 0, 1, 0, 0] (bodyOf Tryz.f358)) 24 := ⟨by kernel_rfl, by kernel_rfl⟩
instance ilp359_0 : LpIs Q 359 0 (subAt [1, 0, 0] (bodyOf Tryz.f359)) 18 := ⟨by kernel_rfl, by kernel_rfl⟩
instance ilp397_0 : LpIs Q 397 0 (subAt [1, 1, 0, 0] (bodyOf Tryz.f397)) 25 := ⟨by kernel_rfl, by kernel_rfl⟩
instance ilp539_0 : LpIs Q 539 0 (subAt [1, 1, 0, 1, 0, 0] (bodyOf Tryz.f539)) 36 := ⟨by kernel_rfl, by kernel_rfl⟩
instance ilp545_0 : LpIs Q 545 0 (subAt [1, 0, 1, 1, 0, 1, 0, 0] (bodyOf Tryz.f545)) 66 := ⟨by kernel_rfl, by kernel_rfl⟩
instance ilp557_0 : LpIs Q 557 0 (subAt [1, 1, 0, 1, 0, 0] (bodyOf Tryz.f557)) 20 := ⟨by kernel_rfl, by kernel_rfl⟩
instance ilp563_0 : LpIs Q 563 0 (subAt [1, 1, 0, 1, 0, 0] (bodyOf Tryz.f563)) 20 := ⟨by kernel_rfl, by kernel_rfl⟩
instance ilp564_0 : LpIs Q 564 0 (subAt [1, 1, 0, 1, 0, 0] (bodyOf Tryz.f564)) 20 := ⟨by kernel_rfl, by kernel_rfl⟩
noncomputable abbrev z156 : List Value := (zs 4096 (.int .u64 0))
instance ial156 : AlOk Q 156 z156 := ⟨fun G => by kernel_rfl⟩
noncomputable abbrev z158 : List Value := [(.pointer none), (.int .i64 0), (.int .i64 0), (.int .i64 0), (.int .u64 0), (.int .u64 0), (.bool false), (.int .i64 0)]
instance ibd158_0_1 : BdOk Q 158 z158 [(0, 0, 1), (1, 1, 1)] := bd_ok Q (by kernel_rfl) (by kernel_rfl) (by kernel_rfl)
noncomputable abbrev z44 : List Value := [(.int .u64 0), (.int .i64 0)]
instance ial44 : AlOk Q 44 z44 := ⟨fun G => by kernel_rfl⟩
instance iep36 : EpOk Q 36 := ⟨fun neg x y => by cases neg <;> kernel_rfl, fun neg x y a => by cases neg <;> kernel_rfl, fun neg x y a => by cases neg <;> kernel_rfl⟩
instance ibd44_ : BdOk Q 44 z44 [] := bd_ok Q (by kernel_rfl) (by kernel_rfl) (by kernel_rfl)
instance ist44 : StOk Q 44 2 := ⟨fun b o s v G => by kernel_rfl⟩
instance ifa48_0 : FaOk Q 48 0 0 := ⟨fun b o s => by kernel_rfl⟩
instance ilda44 : LdAOk Q 44 2 := ⟨fun b o s G => by kernel_rfl⟩
instance iep50 : EpOk Q 50 := ⟨fun neg x y => by cases neg <;> kernel_rfl, fun neg x y a => by cases neg <;> kernel_rfl, fun neg x y a => by cases neg <;> kernel_rfl⟩
instance ifa55_0 : FaOk Q 55 0 0 := ⟨fun b o s => by kernel_rfl⟩
instance ifa46_2 : FaOk Q 46 2 17 := ⟨fun b o s => by kernel_rfl⟩
instance ild3 : LdOk Q 3 := ⟨fun b o s G => (show _ = loadOne b o G by kernel_rfl).trans (loadOne_eq b o G)⟩
instance ifa46_5 : FaOk Q 46 5 20 := ⟨fun b o s => by kernel_rfl⟩
instance ist42 : StOk Q 42 1 := ⟨fun b o s v G => by kernel_rfl⟩
instance ist3 : StOk Q 3 1 := ⟨fun b o s v G => by kernel_rfl⟩
instance ild42 : LdOk Q 42 := ⟨fun b o s G => (show _ = loadOne b o G by kernel_rfl).trans (loadOne_eq b o G)⟩
instance ifa46_3 : FaOk Q 46 3 18 := ⟨fun b o s => by kernel_rfl⟩
instance ild41 : LdOk Q 41 := ⟨fun b o s G => (show _ = loadOne b o G by kernel_rfl).trans (loadOne_eq b o G)⟩
instance ifa46_7 : FaOk Q 46 7 23 := ⟨fun b o s => by kernel_rfl⟩
instance ist41 : StOk Q 41 1 := ⟨fun b o s v G => by kernel_rfl⟩
instance ifa46_0 : FaOk Q 46 0 0 := ⟨fun b o s => by kernel_rfl⟩
instance ilda31 : LdAOk Q 31 13 := ⟨fun b o s G => by kernel_rfl⟩
instance ifa46_4 : FaOk Q 46 4 19 := ⟨fun b o s => by kernel_rfl⟩
instance ifa46_1 : FaOk Q 46 1 13 := ⟨fun b o s => by kernel_rfl⟩
instance ifa40_1 : FaOk Q 40 1 1 := ⟨fun b o s => by kernel_rfl⟩
instance ist4 : StOk Q 4 1 := ⟨fun b o s v G => by kernel_rfl⟩
instance ifa46_6 : FaOk Q 46 6 21 := ⟨fun b o s => by kernel_rfl⟩
instance ifa44_0 : FaOk Q 44 0 0 := ⟨fun b o s => by kernel_rfl⟩
instance ifa40_2 : FaOk Q 40 2 2 := ⟨fun b o s => by kernel_rfl⟩
instance ist37 : StOk Q 37 1 := ⟨fun b o s v G => by kernel_rfl⟩
instance ifa53_2 : FaOk Q 53 2 13 := ⟨fun b o s => by kernel_rfl⟩
instance ifa53_6 : FaOk Q 53 6 17 := ⟨fun b o s => by kernel_rfl⟩
instance ifa53_7 : FaOk Q 53 7 19 := ⟨fun b o s => by kernel_rfl⟩
noncomputable abbrev z48 : List Value := [(.int .i64 0), (.int .i64 0), (.int .i64 0), (.int .i64 0), (.int .i64 0), (.int .i64 0), (.int .i64 0), (.int .i64 0), (.int .i64 0), (.int .i64 0), (.int .i64 0), (.int .i64 0), (.int .i64 0), (.int .i64 0), (.bool false), (.pointer none), (.pointer none), (.int .i64 0), (.int .u64 0), (.int .i64 0), (.int .u64 0), (.int .u64 0), (.int .i64 0), (.int .u64 0), (.bool false), (.int .i64 0)]
instance ibd48_0 : BdOk Q 48 z48 [(0, 0, 26)] := bd_ok Q (by kernel_rfl) (by kernel_rfl) (by kernel_rfl)
noncomputable abbrev z55 : List Value := [(.int .i64 0), (.int .i64 0), (.int .i64 0), (.int .i64 0), (.int .i64 0), (.int .i64 0), (.int .i64 0), (.int .i64 0), (.int .i64 0), (.int .i64 0), (.int .i64 0), (.int .i64 0), (.int .i64 0), (.int .i64 0), (.int .u64 0), (.int .i64 0), (.int .u64 0), (.int .u64 0), (.int .i64 0), (.int .u64 0), (.bool false), (.int .i64 0)]
instance ibd55_0 : BdOk Q 55 z55 [(0, 0, 22)] := bd_ok Q (by kernel_rfl) (by kernel_rfl) (by kernel_rfl)
instance iep32 : EpOk Q 32 := ⟨fun neg x y => by cases neg <;> kernel_rfl, fun neg x y a => by cases neg <;> kernel_rfl, fun neg x y a => by cases neg <;> kernel_rfl⟩
instance ifa158_3 : FaOk Q 158 3 7 := ⟨fun b o s => by kernel_rfl⟩
noncomputable abbrev z31 : List Value := [(.int .i64 0), (.int .i64 0), (.int .i64 0), (.int .i64 0), (.int .i64 0), (.int .i64 0), (.int .i64 0), (.int .i64 0), (.int .i64 0), (.int .i64 0), (.int .i64 0), (.int .i64 0), (.int .i64 0)]
instance ial31 : AlOk Q 31 z31 := ⟨fun G => by kernel_rfl⟩
instance ist31 : StOk Q 31 13 := ⟨fun b o s v G => by kernel_rfl⟩
instance ifa44_1 : FaOk Q 44 1 1 := ⟨fun b o s => by kernel_rfl⟩
noncomputable abbrev z246 : List Value := [(.pointer none), (.int .u64 0), (.int .u64 0)]
instance ibd246_0_1 : BdOk Q 246 z246 [(0, 0, 1), (1, 1, 1)] := bd_ok Q (by kernel_rfl) (by kernel_rfl) (by kernel_rfl)
instance ial246 : AlOk Q 246 z246 := ⟨fun G => by kernel_rfl⟩
instance ist246 : StOk Q 246 3 := ⟨fun b o s v G => by kernel_rfl⟩
instance ifa246_0 : FaOk Q 246 0 0 := ⟨fun b o s => by kernel_rfl⟩
instance ild243 : LdOk Q 243 := ⟨fun b o s G => (show _ = loadOne b o G by kernel_rfl).trans (loadOne_eq b o G)⟩
instance ilda246 : LdAOk Q 246 3 := ⟨fun b o s G => by kernel_rfl⟩
instance ifa46_8 : FaOk Q 46 8 24 := ⟨fun b o s => by kernel_rfl⟩
instance ild4 : LdOk Q 4 := ⟨fun b o s G => (show _ = loadOne b o G by kernel_rfl).trans (loadOne_eq b o G)⟩
instance ifa46_9 : FaOk Q 46 9 25 := ⟨fun b o s => by kernel_rfl⟩
instance ild33 : LdOk Q 33 := ⟨fun b o s G => (show _ = loadOne b o G by kernel_rfl).trans (loadOne_eq b o G)⟩
instance ifa53_8 : FaOk Q 53 8 20 := ⟨fun b o s => by kernel_rfl⟩
instance ifa53_9 : FaOk Q 53 9 21 := ⟨fun b o s => by kernel_rfl⟩
noncomputable abbrev z274 : List Value := [(.int .i64 0), (.int .i64 0)]
instance ial274 : AlOk Q 274 z274 := ⟨fun G => by kernel_rfl⟩
instance ist274 : StOk Q 274 2 := ⟨fun b o s v G => by kernel_rfl⟩
instance ifa274_0 : FaOk Q 274 0 0 := ⟨fun b o s => by kernel_rfl⟩
instance ifa31_3 : FaOk Q 31 3 3 := ⟨fun b o s => by kernel_rfl⟩
instance ifa29_0 : FaOk Q 29 0 0 := ⟨fun b o s => by kernel_rfl⟩
instance ifa25_0 : FaOk Q 25 0 0 := ⟨fun b o s => by kernel_rfl⟩
instance ifa23_2 : FaOk Q 23 2 2 := ⟨fun b o s => by kernel_rfl⟩
instance ist33 : StOk Q 33 1 := ⟨fun b o s v G => by kernel_rfl⟩
instance ifa31_2 : FaOk Q 31 2 2 := ⟨fun b o s => by kernel_rfl⟩
instance ifa40_0 : FaOk Q 40 0 0 := ⟨fun b o s => by kernel_rfl⟩
instance icv3_41 : CvOk Q 3 41 .i64 .u64 := ⟨fun n => by kernel_rfl⟩
instance icv41_3 : CvOk Q 41 3 .u64 .i64 := ⟨fun n => by kernel_rfl⟩
instance ibd246_0_1_2 : BdOk Q 246 z246 [(0, 0, 1), (1, 1, 1), (2, 2, 1)] := bd_ok Q (by kernel_rfl) (by kernel_rfl) (by kernel_rfl)
instance ifd68_4 : FdOk Q 68 4 4 := ⟨fun l => by kernel_rfl⟩
noncomputable abbrev z283 : List Value := [(.int .i64 0), (.int .i64 0), (.int .i64 0), (.int .i64 0), (.int .i64 0), (.int .i64 0), (.int .i64 0), (.int .i64 0), (.int .i64 0), (.int .i64 0), (.int .i64 0), (.int .i64 0), (.int .i64 0), (.int .u64 0), (.int .i64 0), (.int .i64 0), (.int .i64 0), (.int .u64 0), (.int .u64 0), (.int .u64 0), (.slice none 0 0), (.int .u64 0), (.bool false), (.int .i64 0)]
instance ibd283_0_1_7 : BdOk Q 283 z283 [(0, 0, 13), (1, 13, 1), (7, 22, 1)] := bd_ok Q (by kernel_rfl) (by kernel_rfl) (by kernel_rfl)
instance ifa283_2 : FaOk Q 283 2 14 := ⟨fun b o s => by kernel_rfl⟩
instance ifa283_8 : FaOk Q 283 8 23 := ⟨fun b o s => by kernel_rfl⟩
noncomputable abbrev z280 : List Value := [(.int .i64 0), (.int .i64 0), (.int .u64 0), (.int .u64 0)]
instance imk281 : MkSlOk Q 281 4 32 z280 := ⟨fun k k' l c G => by kernel_rfl⟩
instance ifa283_5 : FaOk Q 283 5 20 := ⟨fun b o s => by kernel_rfl⟩
instance ist281 : StOk Q 281 1 := ⟨fun b o s v G => by kernel_rfl⟩
instance ild37 : LdOk Q 37 := ⟨fun b o s G => (show _ = loadOne b o G by kernel_rfl).trans (loadOne_eq b o G)⟩
instance ilda29 : LdAOk Q 29 10 := ⟨fun b o s G => by kernel_rfl⟩
instance ifa40_3 : FaOk Q 40 3 3 := ⟨fun b o s => by kernel_rfl⟩
instance ist38 : StOk Q 38 1 := ⟨fun b o s v G => by kernel_rfl⟩
instance ild38 : LdOk Q 38 := ⟨fun b o s G => (show _ = loadOne b o G by kernel_rfl).trans (loadOne_eq b o G)⟩
instance ifa53_0 : FaOk Q 53 0 0 := ⟨fun b o s => by kernel_rfl⟩
instance ifa53_3 : FaOk Q 53 3 14 := ⟨fun b o s => by kernel_rfl⟩
instance ifa53_4 : FaOk Q 53 4 15 := ⟨fun b o s => by kernel_rfl⟩
instance ifa53_5 : FaOk Q 53 5 16 := ⟨fun b o s => by kernel_rfl⟩
noncomputable abbrev z46 : List Value := [(.int .i64 0), (.int .i64 0), (.int .i64 0), (.int .i64 0), (.int .i64 0), (.int .i64 0), (.int .i64 0), (.int .i64 0), (.int .i64 0), (.int .i64 0), (.int .i64 0), (.int .i64 0), (.int .i64 0), (.int .i64 0), (.bool false), (.pointer none), (.pointer none), (.int .i64 0), (.int .u64 0), (.int .i64 0), (.int .u64 0), (.int .u64 0), (.int .i64 0), (.int .u64 0), (.bool false), (.int .i64 0)]
instance ial46 : AlOk Q 46 z46 := ⟨fun G => by kernel_rfl⟩
instance ibd46_8_2_9 : BdOk Q 46 z46 [(8, 24, 1), (2, 17, 1), (9, 25, 1)] := bd_ok Q (by kernel_rfl) (by kernel_rfl) (by kernel_rfl)
instance ist46 : StOk Q 46 26 := ⟨fun b o s v G => by kernel_rfl⟩
instance ibd46_0_8_2 : BdOk Q 46 z46 [(0, 0, 13), (8, 24, 1), (2, 17, 1)] := bd_ok Q (by kernel_rfl) (by kernel_rfl) (by kernel_rfl)
instance ilda46 : LdAOk Q 46 26 := ⟨fun b o s G => by kernel_rfl⟩
noncomputable abbrev z53 : List Value := [(.int .i64 0), (.int .i64 0), (.int .i64 0), (.int .i64 0), (.int .i64 0), (.int .i64 0), (.int .i64 0), (.int .i64 0), (.int .i64 0), (.int .i64 0), (.int .i64 0), (.int .i64 0), (.int .i64 0), (.int .i64 0), (.int .u64 0), (.int .i64 0), (.int .u64 0), (.int .u64 0), (.int .i64 0), (.int .u64 0), (.bool false), (.int .i64 0)]
instance ial53 : AlOk Q 53 z53 := ⟨fun G => by kernel_rfl⟩
instance ibd53_8_2_9 : BdOk Q 53 z53 [(8, 20, 1), (2, 13, 1), (9, 21, 1)] := bd_ok Q (by kernel_rfl) (by kernel_rfl) (by kernel_rfl)
instance ist53 : StOk Q 53 22 := ⟨fun b o s v G => by kernel_rfl⟩
instance ibd53_0_8_2 : BdOk Q 53 z53 [(0, 0, 13), (8, 20, 1), (2, 13, 1)] := bd_ok Q (by kernel_rfl) (by kernel_rfl) (by kernel_rfl)
instance ilda53 : LdAOk Q 53 22 := ⟨fun b o s G => by kernel_rfl⟩
instance ifa31_0 : FaOk Q 31 0 0 := ⟨fun b o s => by kernel_rfl⟩
instance ifa31_1 : FaOk Q 31 1 1 := ⟨fun b o s => by kernel_rfl⟩
noncomputable abbrev z187 : List Value := [(.int .i64 0), (.int .i64 0), (.int .i64 0)]
instance ial187 : AlOk Q 187 z187 := ⟨fun G => by kernel_rfl⟩
instance ibd187_0_1_2 : BdOk Q 187 z187 [(0, 0, 1), (1, 1, 1), (2, 2, 1)] := bd_ok Q (by kernel_rfl) (by kernel_rfl) (by kernel_rfl)
instance ist187 : StOk Q 187 3 := ⟨fun b o s v G => by kernel_rfl⟩
instance ilda187 : LdAOk Q 187 3 := ⟨fun b o s G => by kernel_rfl⟩
noncomputable abbrev z192 : List Value := [(.int .i64 0), (.int .i64 0), (.int .i64 0)]
instance ial192 : AlOk Q 192 z192 := ⟨fun G => by kernel_rfl⟩
instance ibd192_0_1_2 : BdOk Q 192 z192 [(0, 0, 1), (1, 1, 1), (2, 2, 1)] := bd_ok Q (by kernel_rfl) (by kernel_rfl) (by kernel_rfl)
instance ist192 : StOk Q 192 3 := ⟨fun b o s v G => by kernel_rfl⟩
instance ilda192 : LdAOk Q 192 3 := ⟨fun b o s G => by kernel_rfl⟩
noncomputable abbrev z303 : List Value := [(.int .i64 0), (.int .i64 0), (.int .i64 0), (.int .i64 0), (.int .i64 0), (.int .i64 0), (.int .i64 0), (.int .i64 0), (.int .i64 0), (.int .i64 0), (.int .i64 0), (.int .i64 0), (.int .i64 0), (.int .i64 0), (.bool false), (.int .i64 0), (.slice none 0 0), (.int .u64 0), (.int .i64 0), (.int .u64 0), (.int .i64 0), (.int .i64 0), (.int .i64 0), (.int .u64 0)]
instance ibd303_0_1_2_3 : BdOk Q 303 z303 [(0, 0, 19), (1, 19, 1), (2, 20, 1), (3, 21, 1)] := bd_ok Q (by kernel_rfl) (by kernel_rfl) (by kernel_rfl)
instance ifa303_0 : FaOk Q 303 0 0 := ⟨fun b o s => by kernel_rfl⟩
instance ifa300_6 : FaOk Q 300 6 18 := ⟨fun b o s => by kernel_rfl⟩
noncomputable abbrev z305 : List Value := [.nilIface]
instance ibs298_2_0_1 : BsOk Q 298 2 (rep z305 2) 1 [(0, 0, 1), (1, 1, 1)] := bs_ok Q (z0 := z305) (by kernel_rfl) rfl (by decide) (by kernel_rfl)
instance ifa300_4 : FaOk Q 300 4 16 := ⟨fun b o s => by kernel_rfl⟩
instance ist298 : StOk Q 298 1 := ⟨fun b o s v G => by kernel_rfl⟩
noncomputable abbrev z311 : List Value := [(.int .i64 0), (.int .i64 0), (.int .i64 0), (.int .i64 0), (.int .i64 0), (.int .i64 0), (.int .i64 0), (.int .i64 0), (.int .i64 0), (.int .i64 0), (.int .i64 0), (.int .i64 0), (.int .i64 0), (.int .i64 0), (.bool false), (.int .i64 0), (.slice none 0 0), (.int .u64 0), (.int .i64 0), (.int .u64 0), (.int .i64 0), (.int .i64 0)]
instance ibd311_0 : BdOk Q 311 z311 [(0, 0, 19)] := bd_ok Q (by kernel_rfl) (by kernel_rfl) (by kernel_rfl)
noncomputable abbrev z82 : List Value := [(.pointer none)]
instance ial82 : AlOk Q 82 z82 := ⟨fun G => by kernel_rfl⟩
instance ist82 : StOk Q 82 1 := ⟨fun b o s v G => by kernel_rfl⟩
instance ild82 : LdOk Q 82 := ⟨fun b o s G => (show _ = loadOne b o G by kernel_rfl).trans (loadOne_eq b o G)⟩
instance ifa311_0 : FaOk Q 311 0 0 := ⟨fun b o s => by kernel_rfl⟩
noncomputable abbrev z317 : List Value := [.nilFunc, .nilFunc, .nilFunc, (.pointer none), (.bool false)]
instance ibd317_0_1_2 : BdOk Q 317 z317 [(0, 0, 1), (1, 1, 1), (2, 2, 1)] := bd_ok Q (by kernel_rfl) (by kernel_rfl) (by kernel_rfl)
instance iifc312 : IfcOk Q 312 := ⟨fun v => by kernel_rfl⟩
instance ibs298_3_0_1_2 : BsOk Q 298 3 (rep z305 3) 1 [(0, 0, 1), (1, 1, 1), (2, 2, 1)] := bs_ok Q (z0 := z305) (by kernel_rfl) rfl (by decide) (by kernel_rfl)
noncomputable abbrev z318 : List Value := [(.int .i64 0), (.int .i64 0), (.int .i64 0), (.int .i64 0), (.int .i64 0), (.int .i64 0), (.int .i64 0), (.int .i64 0), (.int .i64 0), (.int .i64 0), (.int .i64 0), (.int .i64 0), (.int .i64 0), (.int .i64 0), (.bool false), (.int .i64 0), (.slice none 0 0), (.int .u64 0), (.int .i64 0), (.int .u64 0), (.int .i64 0), (.int .i64 0)]
instance ibd318_0 : BdOk Q 318 z318 [(0, 0, 19)] := bd_ok Q (by kernel_rfl) (by kernel_rfl) (by kernel_rfl)
noncomputable abbrev z84 : List Value := [(.pointer none)]
instance ial84 : AlOk Q 84 z84 := ⟨fun G => by kernel_rfl⟩
instance ist84 : StOk Q 84 1 := ⟨fun b o s v G => by kernel_rfl⟩
instance ild84 : LdOk Q 84 := ⟨fun b o s G => (show _ = loadOne b o G by kernel_rfl).trans (loadOne_eq b o G)⟩
instance ifa318_0 : FaOk Q 318 0 0 := ⟨fun b o s => by kernel_rfl⟩
noncomputable abbrev z324 : List Value := [.nilFunc, .nilFunc, .nilFunc, (.pointer none), (.bool false)]
instance ibd324_0_1_2 : BdOk Q 324 z324 [(0, 0, 1), (1, 1, 1), (2, 2, 1)] := bd_ok Q (by kernel_rfl) (by kernel_rfl) (by kernel_rfl)
instance iifc319 : IfcOk Q 319 := ⟨fun v => by kernel_rfl⟩
instance iep80 : EpOk Q 80 := ⟨fun neg x y => by cases neg <;> kernel_rfl, fun neg x y a => by cases neg <;> kernel_rfl, fun neg x y a => by cases neg <;> kernel_rfl⟩
instance iep82 : EpOk Q 82 := ⟨fun neg x y => by cases neg <;> kernel_rfl, fun neg x y a => by cases neg <;> kernel_rfl, fun neg x y a => by cases neg <;> kernel_rfl⟩
instance ifa311_1 : FaOk Q 311 1 19 := ⟨fun b o s => by kernel_rfl⟩
instance ilda309 : LdAOk Q 309 3 := ⟨fun b o s G => by kernel_rfl⟩
instance iep84 : EpOk Q 84 := ⟨fun neg x y => by cases neg <;> kernel_rfl, fun neg x y a => by cases neg <;> kernel_rfl, fun neg x y a => by cases neg <;> kernel_rfl⟩
instance ifa318_1 : FaOk Q 318 1 19 := ⟨fun b o s => by kernel_rfl⟩
noncomputable abbrev z23 : List Value := [(.int .i64 0), (.int .i64 0), (.int .i64 0)]
instance ibd23_0_1_2 : BdOk Q 23 z23 [(0, 0, 1), (1, 1, 1), (2, 2, 1)] := bd_ok Q (by kernel_rfl) (by kernel_rfl) (by kernel_rfl)
noncomputable abbrev z25 : List Value := [(.int .i64 0), (.int .i64 0), (.int .i64 0), (.int .i64 0), (.int .i64 0), (.int .i64 0)]
instance ibd25_0_1_2_3 : BdOk Q 25 z25 [(0, 0, 3), (1, 3, 1), (2, 4, 1), (3, 5, 1)] := bd_ok Q (by kernel_rfl) (by kernel_rfl) (by kernel_rfl)
instance ial25 : AlOk Q 25 z25 := ⟨fun G => by kernel_rfl⟩
instance ist25 : StOk Q 25 6 := ⟨fun b o s v G => by kernel_rfl⟩
instance ilda25 : LdAOk Q 25 6 := ⟨fun b o s G => by kernel_rfl⟩
noncomputable abbrev z27 : List Value := [(.int .i64 0), (.int .i64 0), (.int .i64 0)]
instance ibd27_0_1_2 : BdOk Q 27 z27 [(0, 0, 1), (1, 1, 1), (2, 2, 1)] := bd_ok Q (by kernel_rfl) (by kernel_rfl) (by kernel_rfl)
noncomputable abbrev z29 : List Value := [(.int .i64 0), (.int .i64 0), (.int .i64 0), (.int .i64 0), (.int .i64 0), (.int .i64 0), (.int .i64 0), (.int .i64 0), (.int .i64 0), (.int .i64 0)]
instance ibd29_0_1_2 : BdOk Q 29 z29 [(0, 0, 6), (1, 6, 3), (2, 9, 1)] := bd_ok Q (by kernel_rfl) (by kernel_rfl) (by kernel_rfl)
instance ial29 : AlOk Q 29 z29 := ⟨fun G => by kernel_rfl⟩
instance ist29 : StOk Q 29 10 := ⟨fun b o s v G => by kernel_rfl⟩
instance ibd31_0_1_2_3 : BdOk Q 31 z31 [(0, 0, 1), (1, 1, 1), (2, 2, 1), (3, 3, 10)] := bd_ok Q (by kernel_rfl) (by kernel_rfl) (by kernel_rfl)
instance ifa158_0 : FaOk Q 158 0 0 := ⟨fun b o s => by kernel_rfl⟩
instance ild153 : LdOk Q 153 := ⟨fun b o s G => (show _ = loadOne b o G by kernel_rfl).trans (loadOne_eq b o G)⟩
instance iep153 : EpOk Q 153 := ⟨fun neg x y => by cases neg <;> kernel_rfl, fun neg x y a => by cases neg <;> kernel_rfl, fun neg x y a => by cases neg <;> kernel_rfl⟩
instance ifa158_1 : FaOk Q 158 1 1 := ⟨fun b o s => by kernel_rfl⟩
instance iiaa156 : IaaOk Q 156 4096 1 := ⟨fun b o s k j => by kernel_rfl⟩
noncomputable abbrev z68 : List Value := [(.int .i64 0), (.int .i64 0), (.int .u64 0), (.int .u64 0), (.bool false)]
instance ial68 : AlOk Q 68 z68 := ⟨fun G => by kernel_rfl⟩
instance ibd68_ : BdOk Q 68 z68 [] := bd_ok Q (by kernel_rfl) (by kernel_rfl) (by kernel_rfl)
instance ist68 : StOk Q 68 5 := ⟨fun b o s v G => by kernel_rfl⟩
instance ibd68_0_1 : BdOk Q 68 z68 [(0, 0, 1), (1, 1, 1)] := bd_ok Q (by kernel_rfl) (by kernel_rfl) (by kernel_rfl)
instance ifa158_2 : FaOk Q 158 2 2 := ⟨fun b o s => by kernel_rfl⟩
instance ild154 : LdOk Q 154 := ⟨fun b o s G => (show _ = loadOne b o G by kernel_rfl).trans (loadOne_eq b o G)⟩
instance ifa68_2 : FaOk Q 68 2 2 := ⟨fun b o s => by kernel_rfl⟩
instance ifa68_3 : FaOk Q 68 3 3 := ⟨fun b o s => by kernel_rfl⟩
instance ifa68_4 : FaOk Q 68 4 4 := ⟨fun b o s => by kernel_rfl⟩
instance ist154 : StOk Q 154 1 := ⟨fun b o s v G => by kernel_rfl⟩
instance ilda68 : LdAOk Q 68 5 := ⟨fun b o s G => by kernel_rfl⟩
instance ifa246_1 : FaOk Q 246 1 1 := ⟨fun b o s => by kernel_rfl⟩
instance ilda23 : LdAOk Q 23 3 := ⟨fun b o s G => by kernel_rfl⟩
instance ifa25_2 : FaOk Q 25 2 4 := ⟨fun b o s => by kernel_rfl⟩
instance ifa25_1 : FaOk Q 25 1 3 := ⟨fun b o s => by kernel_rfl⟩
noncomputable abbrev z375 : List Value := [(.pointer none), (.int .i64 0), (.int .i64 0), (.int .i64 0), (.int .i64 0), (.int .i64 0), (.int .i64 0), (.bool false), .nilFunc, (.int .i64 0), (.int .u64 0), (.int .i64 0)]
instance ibd375_0_1_2_3 : BdOk Q 375 z375 [(0, 0, 1), (1, 1, 6), (2, 7, 1), (3, 8, 1)] := bd_ok Q (by kernel_rfl) (by kernel_rfl) (by kernel_rfl)
instance iep145 : EpOk Q 145 := ⟨fun neg x y => by cases neg <;> kernel_rfl, fun neg x y a => by cases neg <;> kernel_rfl, fun neg x y a => by cases neg <;> kernel_rfl⟩
instance ifa375_2 : FaOk Q 375 2 7 := ⟨fun b o s => by kernel_rfl⟩
instance ifa375_3 : FaOk Q 375 3 8 := ⟨fun b o s => by kernel_rfl⟩
instance ild373 : LdOk Q 373 := ⟨fun b o s G => (show _ = loadOne b o G by kernel_rfl).trans (loadOne_eq b o G)⟩
instance ief373 : EfOk Q 373 := ⟨fun neg x y => by cases neg <;> kernel_rfl, fun neg x y f a b => by cases neg <;> kernel_rfl⟩
instance ifa375_5 : FaOk Q 375 5 10 := ⟨fun b o s => by kernel_rfl⟩
instance ifa375_6 : FaOk Q 375 6 11 := ⟨fun b o s => by kernel_rfl⟩
instance ibd246_0 : BdOk Q 246 z246 [(0, 0, 1)] := bd_ok Q (by kernel_rfl) (by kernel_rfl) (by kernel_rfl)
instance ifd68_3 : FdOk Q 68 3 3 := ⟨fun l => by kernel_rfl⟩
instance iep147 : EpOk Q 147 := ⟨fun neg x y => by cases neg <;> kernel_rfl, fun neg x y a => by cases neg <;> kernel_rfl, fun neg x y a => by cases neg <;> kernel_rfl⟩
instance ifa384_3 : FaOk Q 384 3 8 := ⟨fun b o s => by kernel_rfl⟩
instance ild382 : LdOk Q 382 := ⟨fun b o s G => (show _ = loadOne b o G by kernel_rfl).trans (loadOne_eq b o G)⟩
instance ief382 : EfOk Q 382 := ⟨fun neg x y => by cases neg <;> kernel_rfl, fun neg x y f a b => by cases neg <;> kernel_rfl⟩
noncomputable abbrev z384 : List Value := [(.pointer none), (.int .i64 0), (.int .i64 0), (.int .i64 0), (.int .i64 0), (.int .i64 0), (.int .i64 0), (.bool false), .nilFunc, (.int .i64 0), (.int .u64 0), (.int .i64 0)]
instance ibd384_0_1_2_4 : BdOk Q 384 z384 [(0, 0, 1), (1, 1, 6), (2, 7, 1), (4, 9, 1)] := bd_ok Q (by kernel_rfl) (by kernel_rfl) (by kernel_rfl)
instance ifa384_6 : FaOk Q 384 6 11 := ⟨fun b o s => by kernel_rfl⟩
instance ist382 : StOk Q 382 1 := ⟨fun b o s v G => by kernel_rfl⟩
noncomputable abbrev z393 : List Value := [(.int .i64 0), (.int .i64 0), (.int .i64 0), (.int .i64 0)]
instance ial393 : AlOk Q 393 z393 := ⟨fun G => by kernel_rfl⟩
instance ist393 : StOk Q 393 4 := ⟨fun b o s v G => by kernel_rfl⟩
instance iiaa393 : IaaOk Q 393 2 2 := ⟨fun b o s k j => by kernel_rfl⟩
instance ilda392 : LdAOk Q 392 2 := ⟨fun b o s G => by kernel_rfl⟩
instance ibd274_0_1 : BdOk Q 274 z274 [(0, 0, 1), (1, 1, 1)] := bd_ok Q (by kernel_rfl) (by kernel_rfl) (by kernel_rfl)
instance ilda274 : LdAOk Q 274 2 := ⟨fun b o s G => by kernel_rfl⟩
instance ifa246_2 : FaOk Q 246 2 2 := ⟨fun b o s => by kernel_rfl⟩
instance ifa283_0 : FaOk Q 283 0 0 := ⟨fun b o s => by kernel_rfl⟩
instance iep37 : EpOk Q 37 := ⟨fun neg x y => by cases neg <;> kernel_rfl, fun neg x y a => by cases neg <;> kernel_rfl, fun neg x y a => by cases neg <;> kernel_rfl⟩
instance ifa283_7 : FaOk Q 283 7 22 := ⟨fun b o s => by kernel_rfl⟩
instance ifa283_3 : FaOk Q 283 3 15 := ⟨fun b o s => by kernel_rfl⟩
instance ifa280_1 : FaOk Q 280 1 1 := ⟨fun b o s => by kernel_rfl⟩
instance ifa280_0 : FaOk Q 280 0 0 := ⟨fun b o s => by kernel_rfl⟩
instance ifa280_3 : FaOk Q 280 3 3 := ⟨fun b o s => by kernel_rfl⟩
instance ifa280_2 : FaOk Q 280 2 2 := ⟨fun b o s => by kernel_rfl⟩
instance ifa283_6 : FaOk Q 283 6 21 := ⟨fun b o s => by kernel_rfl⟩
instance ifa283_4 : FaOk Q 283 4 19 := ⟨fun b o s => by kernel_rfl⟩
instance ifa283_1 : FaOk Q 283 1 13 := ⟨fun b o s => by kernel_rfl⟩
noncomputable abbrev z402 : List Value := [.nilFunc, (.bool false), (.int .i64 0)]
instance ibd402_1 : BdOk Q 402 z402 [(1, 1, 1)] := bd_ok Q (by kernel_rfl) (by kernel_rfl) (by kernel_rfl)
noncomputable abbrev z404 : List Value := [.nilFunc, (.bool false), (.int .i64 0), (.int .i64 0), (.int .i64 0), (.int .i64 0), (.int .i64 0), (.int .i64 0), (.int .i64 0), (.int .i64 0), (.int .i64 0), (.int .i64 0), (.int .i64 0), (.int .i64 0), (.pointer none)]
instance ibd404_0_1_2 : BdOk Q 404 z404 [(0, 0, 3), (1, 3, 10), (2, 13, 1)] := bd_ok Q (by kernel_rfl) (by kernel_rfl) (by kernel_rfl)
instance ifa404_0 : FaOk Q 404 0 0 := ⟨fun b o s => by kernel_rfl⟩
instance ifa402_2 : FaOk Q 402 2 2 := ⟨fun b o s => by kernel_rfl⟩
instance ifa402_0 : FaOk Q 402 0 0 := ⟨fun b o s => by kernel_rfl⟩
instance ist400 : StOk Q 400 1 := ⟨fun b o s v G => by kernel_rfl⟩
instance iep38 : EpOk Q 38 := ⟨fun neg x y => by cases neg <;> kernel_rfl, fun neg x y a => by cases neg <;> kernel_rfl, fun neg x y a => by cases neg <;> kernel_rfl⟩
noncomputable abbrev z289 : List Value := [(.int .i64 0), (.int .i64 0), (.bool false)]
instance ial289 : AlOk Q 289 z289 := ⟨fun G => by kernel_rfl⟩
instance ibd289_0_1_2 : BdOk Q 289 z289 [(0, 0, 1), (1, 1, 1), (2, 2, 1)] := bd_ok Q (by kernel_rfl) (by kernel_rfl) (by kernel_rfl)
instance ist289 : StOk Q 289 3 := ⟨fun b o s v G => by kernel_rfl⟩
instance ilda289 : LdAOk Q 289 3 := ⟨fun b o s G => by kernel_rfl⟩
instance ibd289_ : BdOk Q 289 z289 [] := bd_ok Q (by kernel_rfl) (by kernel_rfl) (by kernel_rfl)
noncomputable abbrev z300 : List Value := [(.int .i64 0), (.int .i64 0), (.int .i64 0), (.int .i64 0), (.int .i64 0), (.int .i64 0), (.int .i64 0), (.int .i64 0), (.int .i64 0), (.int .i64 0), (.int .i64 0), (.int .i64 0), (.int .i64 0), (.int .i64 0), (.bool false), (.int .i64 0), (.slice none 0 0), (.int .u64 0), (.int .i64 0)]
instance ial300 : AlOk Q 300 z300 := ⟨fun G => by kernel_rfl⟩
instance ibd300_0_1_2 : BdOk Q 300 z300 [(0, 0, 13), (1, 13, 1), (2, 14, 1)] := bd_ok Q (by kernel_rfl) (by kernel_rfl) (by kernel_rfl)
instance ist300 : StOk Q 300 19 := ⟨fun b o s v G => by kernel_rfl⟩
instance ifa29_1 : FaOk Q 29 1 6 := ⟨fun b o s => by kernel_rfl⟩
instance ifa27_2 : FaOk Q 27 2 2 := ⟨fun b o s => by kernel_rfl⟩
instance ilda300 : LdAOk Q 300 19 := ⟨fun b o s G => by kernel_rfl⟩
noncomputable abbrev z423 : List Value := [.nilFunc, .nilFunc, .nilFunc, (.pointer none), (.bool false)]
instance ibd423_0_2 : BdOk Q 423 z423 [(0, 0, 1), (2, 2, 1)] := bd_ok Q (by kernel_rfl) (by kernel_rfl) (by kernel_rfl)
instance iifc416 : IfcOk Q 416 := ⟨fun v => by kernel_rfl⟩
instance ild80 : LdOk Q 80 := ⟨fun b o s G => (show _ = loadOne b o G by kernel_rfl).trans (loadOne_eq b o G)⟩
noncomputable abbrev z429 : List Value := [.nilFunc, .nilFunc, .nilFunc, (.pointer none), (.bool false)]
instance ibd429_0_2 : BdOk Q 429 z429 [(0, 0, 1), (2, 2, 1)] := bd_ok Q (by kernel_rfl) (by kernel_rfl) (by kernel_rfl)
instance iifc424 : IfcOk Q 424 := ⟨fun v => by kernel_rfl⟩
instance ifa309_0 : FaOk Q 309 0 0 := ⟨fun b o s => by kernel_rfl⟩
instance ifa309_1 : FaOk Q 309 1 2 := ⟨fun b o s => by kernel_rfl⟩
noncomputable abbrev z438 : List Value := [.nilFunc, .nilFunc, .nilFunc, (.pointer none), (.bool false)]
instance ibd438_0 : BdOk Q 438 z438 [(0, 0, 1)] := bd_ok Q (by kernel_rfl) (by kernel_rfl) (by kernel_rfl)
instance iifc431 : IfcOk Q 431 := ⟨fun v => by kernel_rfl⟩
noncomputable abbrev z444 : List Value := [.nilFunc, .nilFunc, .nilFunc, (.pointer none), (.bool false)]
instance ibd444_0_2 : BdOk Q 444 z444 [(0, 0, 1), (2, 2, 1)] := bd_ok Q (by kernel_rfl) (by kernel_rfl) (by kernel_rfl)
instance iifc439 : IfcOk Q 439 := ⟨fun v => by kernel_rfl⟩
instance ifa300_2 : FaOk Q 300 2 14 := ⟨fun b o s => by kernel_rfl⟩
instance ild298 : LdOk Q 298 := ⟨fun b o s G => (show _ = loadOne b o G by kernel_rfl).trans (loadOne_eq b o G)⟩
instance iln298 : LnOk Q 298 := ⟨fun a n c => by kernel_rfl⟩
instance ilda27 : LdAOk Q 27 3 := ⟨fun b o s G => by kernel_rfl⟩
instance ifd23_0 : FdOk Q 23 0 0 := ⟨fun l => by kernel_rfl⟩
instance iep243 : EpOk Q 243 := ⟨fun neg x y => by cases neg <;> kernel_rfl, fun neg x y a => by cases neg <;> kernel_rfl, fun neg x y a => by cases neg <;> kernel_rfl⟩
instance ifa23_0 : FaOk Q 23 0 0 := ⟨fun b o s => by kernel_rfl⟩
instance ifa23_1 : FaOk Q 23 1 1 := ⟨fun b o s => by kernel_rfl⟩
noncomputable abbrev z486 : List Value := [(.int .i64 0), (.int .i64 0), (.int .i64 0), (.int .u64 0), (.int .i64 0), (.int .i64 0), (.bool false), (.bool false), (.int .i64 0)]
instance ibd486_0_4 : BdOk Q 486 z486 [(0, 0, 3), (4, 6, 1)] := bd_ok Q (by kernel_rfl) (by kernel_rfl) (by kernel_rfl)
noncomputable abbrev z489 : List Value := [(.int .i64 0), (.int .i64 0), (.int .i64 0), (.int .u64 0), (.int .i64 0), (.int .i64 0), (.bool false), (.bool false), (.int .i64 0), .nilFunc]
instance ibd489_0_1 : BdOk Q 489 z489 [(0, 0, 9), (1, 9, 1)] := bd_ok Q (by kernel_rfl) (by kernel_rfl) (by kernel_rfl)
instance ifa375_0 : FaOk Q 375 0 0 := ⟨fun b o s => by kernel_rfl⟩
instance ild371 : LdOk Q 371 := ⟨fun b o s G => (show _ = loadOne b o G by kernel_rfl).trans (loadOne_eq b o G)⟩
instance ifa375_4 : FaOk Q 375 4 9 := ⟨fun b o s => by kernel_rfl⟩
instance ist373 : StOk Q 373 1 := ⟨fun b o s v G => by kernel_rfl⟩
instance ibd486_0_2_4 : BdOk Q 486 z486 [(0, 0, 3), (2, 4, 1), (4, 6, 1)] := bd_ok Q (by kernel_rfl) (by kernel_rfl) (by kernel_rfl)
noncomputable abbrev z498 : List Value := [(.int .i64 0), (.int .i64 0), (.int .i64 0), (.int .u64 0), (.int .i64 0), (.int .i64 0), (.bool false), (.bool false), (.int .i64 0), .nilFunc]
instance ibd498_0_1 : BdOk Q 498 z498 [(0, 0, 9), (1, 9, 1)] := bd_ok Q (by kernel_rfl) (by kernel_rfl) (by kernel_rfl)
instance ifa498_0 : FaOk Q 498 0 0 := ⟨fun b o s => by kernel_rfl⟩
instance ifa384_1 : FaOk Q 384 1 1 := ⟨fun b o s => by kernel_rfl⟩
instance ifa384_4 : FaOk Q 384 4 9 := ⟨fun b o s => by kernel_rfl⟩
instance ifa384_5 : FaOk Q 384 5 10 := ⟨fun b o s => by kernel_rfl⟩
instance ifa25_3 : FaOk Q 25 3 5 := ⟨fun b o s => by kernel_rfl⟩
noncomputable abbrev z392 : List Value := [(.int .i64 0), (.int .i64 0)]
instance ibd392_0_1 : BdOk Q 392 z392 [(0, 0, 1), (1, 1, 1)] := bd_ok Q (by kernel_rfl) (by kernel_rfl) (by kernel_rfl)
instance ibd393_0_1 : BdOk Q 393 z393 [(0, 0, 2), (1, 2, 2)] := bd_ok Q (by kernel_rfl) (by kernel_rfl) (by kernel_rfl)
instance ilda393 : LdAOk Q 393 4 := ⟨fun b o s G => by kernel_rfl⟩
instance ifa392_0 : FaOk Q 392 0 0 := ⟨fun b o s => by kernel_rfl⟩
instance ifa392_1 : FaOk Q 392 1 1 := ⟨fun b o s => by kernel_rfl⟩
instance ifa187_1 : FaOk Q 187 1 1 := ⟨fun b o s => by kernel_rfl⟩
instance ifa187_2 : FaOk Q 187 2 2 := ⟨fun b o s => by kernel_rfl⟩
instance ild185 : LdOk Q 185 := ⟨fun b o s G => (show _ = loadOne b o G by kernel_rfl).trans (loadOne_eq b o G)⟩
instance iifc185 : IfcOk Q 185 := ⟨fun v => by kernel_rfl⟩
instance ifa187_0 : FaOk Q 187 0 0 := ⟨fun b o s => by kernel_rfl⟩
instance ifa192_1 : FaOk Q 192 1 1 := ⟨fun b o s => by kernel_rfl⟩
instance ifa192_2 : FaOk Q 192 2 2 := ⟨fun b o s => by kernel_rfl⟩
instance ild190 : LdOk Q 190 := ⟨fun b o s G => (show _ = loadOne b o G by kernel_rfl).trans (loadOne_eq b o G)⟩
instance iifc190 : IfcOk Q 190 := ⟨fun v => by kernel_rfl⟩
instance ifa192_0 : FaOk Q 192 0 0 := ⟨fun b o s => by kernel_rfl⟩
instance ild281 : LdOk Q 281 := ⟨fun b o s G => (show _ = loadOne b o G by kernel_rfl).trans (loadOne_eq b o G)⟩
instance ial280 : AlOk Q 280 z280 := ⟨fun G => by kernel_rfl⟩
instance ist280 : StOk Q 280 4 := ⟨fun b o s v G => by kernel_rfl⟩
instance ilda280 : LdAOk Q 280 4 := ⟨fun b o s G => by kernel_rfl⟩
instance iias281 : IasOk Q 281 4 := ⟨fun b o s n c k j => by kernel_rfl⟩
instance ifa404_1 : FaOk Q 404 1 3 := ⟨fun b o s => by kernel_rfl⟩
instance ifa27_0 : FaOk Q 27 0 0 := ⟨fun b o s => by kernel_rfl⟩
instance icv41_478 : CvOk Q 41 478 .u64 .i64 := ⟨fun n => by kernel_rfl⟩
instance ifa404_2 : FaOk Q 404 2 13 := ⟨fun b o s => by kernel_rfl⟩
instance ifa404_3 : FaOk Q 404 3 14 := ⟨fun b o s => by kernel_rfl⟩
instance ist381 : StOk Q 381 1 := ⟨fun b o s v G => by kernel_rfl⟩
instance ild400 : LdOk Q 400 := ⟨fun b o s G => (show _ = loadOne b o G by kernel_rfl).trans (loadOne_eq b o G)⟩
instance ief400 : EfOk Q 400 := ⟨fun neg x y => by cases neg <;> kernel_rfl, fun neg x y f a b => by cases neg <;> kernel_rfl⟩
instance ifa289_0 : FaOk Q 289 0 0 := ⟨fun b o s => by kernel_rfl⟩
noncomputable abbrev z505 : List Value := [(.int .i64 0), (.int .i64 0), (.int .i64 0)]
instance ibd505_0_1_2 : BdOk Q 505 z505 [(0, 0, 1), (1, 1, 1), (2, 2, 1)] := bd_ok Q (by kernel_rfl) (by kernel_rfl) (by kernel_rfl)
instance ifa289_1 : FaOk Q 289 1 1 := ⟨fun b o s => by kernel_rfl⟩
instance ibs538_2_0_1 : BsOk Q 538 2 (rep z505 2) 3 [(0, 0, 3), (1, 3, 3)] := bs_ok Q (z0 := z505) (by kernel_rfl) rfl (by decide) (by kernel_rfl)
instance isla393 : SlAOk Q 393 2 2 := ⟨fun a lo hi mx G => by kernel_rfl⟩
noncomputable abbrev z3 : List Value := [(.int .i64 0)]
instance ibs78_2_0_1 : BsOk Q 78 2 (rep z3 2) 1 [(0, 0, 1), (1, 1, 1)] := bs_ok Q (z0 := z3) (by kernel_rfl) rfl (by decide) (by kernel_rfl)
instance ifa289_2 : FaOk Q 289 2 2 := ⟨fun b o s => by kernel_rfl⟩
instance ild334 : LdOk Q 334 := ⟨fun b o s G => (show _ = loadOne b o G by kernel_rfl).trans (loadOne_eq b o G)⟩
instance ifa300_0 : FaOk Q 300 0 0 := ⟨fun b o s => by kernel_rfl⟩
instance ifa300_1 : FaOk Q 300 1 13 := ⟨fun b o s => by kernel_rfl⟩
noncomputable abbrev z510 : List Value := [.nilFunc, .nilFunc, .nilFunc, (.int .i64 0), (.bool false), (.int .i64 0)]
instance ibd510_2 : BdOk Q 510 z510 [(2, 4, 1)] := bd_ok Q (by kernel_rfl) (by kernel_rfl) (by kernel_rfl)
noncomputable abbrev z512 : List Value := [.nilFunc, .nilFunc, .nilFunc, (.int .i64 0), (.bool false), (.int .i64 0), (.int .i64 0), (.int .i64 0), (.int .i64 0), (.int .i64 0), (.int .u32 0)]
instance ibd512_0_1 : BdOk Q 512 z512 [(0, 0, 6), (1, 6, 3)] := bd_ok Q (by kernel_rfl) (by kernel_rfl) (by kernel_rfl)
instance ifa512_0 : FaOk Q 512 0 0 := ⟨fun b o s => by kernel_rfl⟩
instance ifa27_1 : FaOk Q 27 1 1 := ⟨fun b o s => by kernel_rfl⟩
instance ifa512_2 : FaOk Q 512 2 9 := ⟨fun b o s => by kernel_rfl⟩
noncomputable abbrev z508 : List Value := [.nilFunc, .nilFunc, .nilFunc]
instance ibd508_0_1_2 : BdOk Q 508 z508 [(0, 0, 1), (1, 1, 1), (2, 2, 1)] := bd_ok Q (by kernel_rfl) (by kernel_rfl) (by kernel_rfl)
instance ifa510_0 : FaOk Q 510 0 0 := ⟨fun b o s => by kernel_rfl⟩
instance ist508 : StOk Q 508 3 := ⟨fun b o s v G => by kernel_rfl⟩
instance ifa300_3 : FaOk Q 300 3 15 := ⟨fun b o s => by kernel_rfl⟩
instance iep417 : EpOk Q 417 := ⟨fun neg x y => by cases neg <;> kernel_rfl, fun neg x y a => by cases neg <;> kernel_rfl, fun neg x y a => by cases neg <;> kernel_rfl⟩
instance ifa512_3 : FaOk Q 512 3 10 := ⟨fun b o s => by kernel_rfl⟩
instance ild415 : LdOk Q 415 := ⟨fun b o s G => (show _ = loadOne b o G by kernel_rfl).trans (loadOne_eq b o G)⟩
instance icv415_3 : CvOk Q 415 3 .u32 .i64 := ⟨fun n => by kernel_rfl⟩
instance ifa303_5 : FaOk Q 303 5 23 := ⟨fun b o s => by kernel_rfl⟩
noncomputable abbrev z306 : List Value := [.nilFunc]
instance ibs514_3_0_1_2 : BsOk Q 514 3 (rep z306 3) 1 [(0, 0, 1), (1, 1, 1), (2, 2, 1)] := bs_ok Q (z0 := z306) (by kernel_rfl) rfl (by decide) (by kernel_rfl)
instance iln514 : LnOk Q 514 := ⟨fun a n c => by kernel_rfl⟩
instance iias514 : IasOk Q 514 1 := ⟨fun b o s n c k j => by kernel_rfl⟩
instance ild306 : LdOk Q 306 := ⟨fun b o s G => (show _ = loadOne b o G by kernel_rfl).trans (loadOne_eq b o G)⟩
instance ifa303_4 : FaOk Q 303 4 22 := ⟨fun b o s => by kernel_rfl⟩
instance ibs514_4_0_1_2_3 : BsOk Q 514 4 (rep z306 4) 1 [(0, 0, 1), (1, 1, 1), (2, 2, 1), (3, 3, 1)] := bs_ok Q (z0 := z306) (by kernel_rfl) rfl (by decide) (by kernel_rfl)
instance ibs298_1_0 : BsOk Q 298 1 (rep z305 1) 1 [(0, 0, 1)] := bs_ok Q (z0 := z305) (by kernel_rfl) rfl (by decide) (by kernel_rfl)
instance iap298_298 : ApOk Q 298 298 1 16 := ⟨fun s x G => by kernel_rfl⟩
noncomputable abbrev z518 : List Value := [.nilFunc, .nilFunc, .nilFunc, (.int .i64 0), (.bool false), (.int .i64 0), (.int .i64 0)]
instance ibd518_0_1 : BdOk Q 518 z518 [(0, 0, 6), (1, 6, 1)] := bd_ok Q (by kernel_rfl) (by kernel_rfl) (by kernel_rfl)
instance ifa518_0 : FaOk Q 518 0 0 := ⟨fun b o s => by kernel_rfl⟩
instance iiaa508 : IaaOk Q 508 3 1 := ⟨fun b o s k j => by kernel_rfl⟩
instance ist159 : StOk Q 159 1 := ⟨fun b o s v G => by kernel_rfl⟩
noncomputable abbrev z450 : List Value := [.nilFunc, (.bool false), (.int .i64 0), (.int .i64 0), (.int .i64 0), (.int .i64 0), (.int .i64 0), (.int .i64 0), (.int .i64 0), (.int .i64 0), (.int .i64 0), (.int .i64 0), (.int .i64 0), (.pointer none), (.pointer none), (.int .i64 0), (.pointer none), (.int .i64 0), (.int .i64 0)]
instance ibd450_0_1 : BdOk Q 450 z450 [(0, 0, 3), (1, 3, 10)] := bd_ok Q (by kernel_rfl) (by kernel_rfl) (by kernel_rfl)
instance ifa450_0 : FaOk Q 450 0 0 := ⟨fun b o s => by kernel_rfl⟩
instance ifa450_2 : FaOk Q 450 2 13 := ⟨fun b o s => by kernel_rfl⟩
instance ist445 : StOk Q 445 1 := ⟨fun b o s v G => by kernel_rfl⟩
instance ifa450_3 : FaOk Q 450 3 14 := ⟨fun b o s => by kernel_rfl⟩
instance ist446 : StOk Q 446 1 := ⟨fun b o s v G => by kernel_rfl⟩
instance iias298 : IasOk Q 298 1 := ⟨fun b o s n c k j => by kernel_rfl⟩
instance ild305 : LdOk Q 305 := ⟨fun b o s G => (show _ = loadOne b o G by kernel_rfl).trans (loadOne_eq b o G)⟩
instance isl298 : SlOk Q 298 1 := ⟨fun a n c lo hi mx G => sl_eq Q (e := 305) (by kernel_rfl) (by kernel_rfl) a n c lo hi mx G⟩
instance ifa300_5 : FaOk Q 300 5 17 := ⟨fun b o s => by kernel_rfl⟩
instance ild32 : LdOk Q 32 := ⟨fun b o s G => (show _ = loadOne b o G by kernel_rfl).trans (loadOne_eq b o G)⟩
instance ial23 : AlOk Q 23 z23 := ⟨fun G => by kernel_rfl⟩
instance ifa29_2 : FaOk Q 29 2 9 := ⟨fun b o s => by kernel_rfl⟩
instance ist23 : StOk Q 23 3 := ⟨fun b o s v G => by kernel_rfl⟩
instance ibd274_0 : BdOk Q 274 z274 [(0, 0, 1)] := bd_ok Q (by kernel_rfl) (by kernel_rfl) (by kernel_rfl)
instance ifa489_1 : FaOk Q 489 1 9 := ⟨fun b o s => by kernel_rfl⟩
instance ist487 : StOk Q 487 1 := ⟨fun b o s v G => by kernel_rfl⟩
instance ifa489_0 : FaOk Q 489 0 0 := ⟨fun b o s => by kernel_rfl⟩
instance ifa486_2 : FaOk Q 486 2 4 := ⟨fun b o s => by kernel_rfl⟩
instance iep371 : EpOk Q 371 := ⟨fun neg x y => by cases neg <;> kernel_rfl, fun neg x y a => by cases neg <;> kernel_rfl, fun neg x y a => by cases neg <;> kernel_rfl⟩
instance ild487 : LdOk Q 487 := ⟨fun b o s G => (show _ = loadOne b o G by kernel_rfl).trans (loadOne_eq b o G)⟩
instance ifa486_5 : FaOk Q 486 5 7 := ⟨fun b o s => by kernel_rfl⟩
instance ifa375_1 : FaOk Q 375 1 1 := ⟨fun b o s => by kernel_rfl⟩
instance ibd289_0_1 : BdOk Q 289 z289 [(0, 0, 1), (1, 1, 1)] := bd_ok Q (by kernel_rfl) (by kernel_rfl) (by kernel_rfl)
instance ifa486_3 : FaOk Q 486 3 5 := ⟨fun b o s => by kernel_rfl⟩
instance ifa498_1 : FaOk Q 498 1 9 := ⟨fun b o s => by kernel_rfl⟩
instance ist496 : StOk Q 496 1 := ⟨fun b o s v G => by kernel_rfl⟩
instance ifa486_6 : FaOk Q 486 6 8 := ⟨fun b o s => by kernel_rfl⟩
instance ild381 : LdOk Q 381 := ⟨fun b o s G => (show _ = loadOne b o G by kernel_rfl).trans (loadOne_eq b o G)⟩
instance iln538 : LnOk Q 538 := ⟨fun a n c => by kernel_rfl⟩
instance iias538 : IasOk Q 538 3 := ⟨fun b o s n c k j => by kernel_rfl⟩
instance ilda505 : LdAOk Q 505 3 := ⟨fun b o s G => by kernel_rfl⟩
instance ial505 : AlOk Q 505 z505 := ⟨fun G => by kernel_rfl⟩
instance ist505 : StOk Q 505 3 := ⟨fun b o s v G => by kernel_rfl⟩
instance ifa505_0 : FaOk Q 505 0 0 := ⟨fun b o s => by kernel_rfl⟩
instance ifa505_1 : FaOk Q 505 1 1 := ⟨fun b o s => by kernel_rfl⟩
instance ifa505_2 : FaOk Q 505 2 2 := ⟨fun b o s => by kernel_rfl⟩
instance iln507 : LnOk Q 507 := ⟨fun a n c => by kernel_rfl⟩
instance iias507 : IasOk Q 507 2 := ⟨fun b o s n c k j => by kernel_rfl⟩
instance ial392 : AlOk Q 392 z392 := ⟨fun G => by kernel_rfl⟩
instance ist392 : StOk Q 392 2 := ⟨fun b o s v G => by kernel_rfl⟩
instance iias78 : IasOk Q 78 1 := ⟨fun b o s n c k j => by kernel_rfl⟩
instance ifa510_1 : FaOk Q 510 1 3 := ⟨fun b o s => by kernel_rfl⟩
instance ifa510_3 : FaOk Q 510 3 5 := ⟨fun b o s => by kernel_rfl⟩
instance ifa512_1 : FaOk Q 512 1 6 := ⟨fun b o s => by kernel_rfl⟩
instance icv41_415 : CvOk Q 41 415 .u64 .u32 := ⟨fun n => by kernel_rfl⟩
instance ist415 : StOk Q 415 1 := ⟨fun b o s v G => by kernel_rfl⟩
instance icv415_41 : CvOk Q 415 41 .u32 .u64 := ⟨fun n => by kernel_rfl⟩
instance ifa510_2 : FaOk Q 510 2 4 := ⟨fun b o s => by kernel_rfl⟩
noncomputable abbrev z548 : List Value := [.nilFunc, .nilFunc, .nilFunc, (.pointer none), (.bool false)]
instance ibd548_0_1 : BdOk Q 548 z548 [(0, 0, 1), (1, 1, 1)] := bd_ok Q (by kernel_rfl) (by kernel_rfl) (by kernel_rfl)
instance iifc541 : IfcOk Q 541 := ⟨fun v => by kernel_rfl⟩
noncomputable abbrev z556 : List Value := [.nilFunc, .nilFunc, .nilFunc, (.pointer none), (.bool false)]
instance ibd556_0_1 : BdOk Q 556 z556 [(0, 0, 1), (1, 1, 1)] := bd_ok Q (by kernel_rfl) (by kernel_rfl) (by kernel_rfl)
instance iifc549 : IfcOk Q 549 := ⟨fun v => by kernel_rfl⟩
instance ifa518_1 : FaOk Q 518 1 6 := ⟨fun b o s => by kernel_rfl⟩
noncomputable abbrev z558 : List Value := [.nilFunc, .nilFunc, .nilFunc, (.int .i64 0), (.bool false), (.int .i64 0), (.int .i64 0), (.int .i64 0), (.int .i64 0), (.int .i64 0), (.int .i64 0), (.int .u64 0), (.int .i64 0)]
instance ibd558_0_1_2_3 : BdOk Q 558 z558 [(0, 0, 6), (1, 6, 3), (2, 9, 1), (3, 10, 1)] := bd_ok Q (by kernel_rfl) (by kernel_rfl) (by kernel_rfl)
instance ifa558_0 : FaOk Q 558 0 0 := ⟨fun b o s => by kernel_rfl⟩
noncomputable abbrev z561 : List Value := [(.int .i64 0), (.int .i64 0), (.int .i64 0), (.int .u64 0), (.int .i64 0), (.int .i64 0), (.bool false), (.bool false), (.int .i64 0), .nilFunc]
instance ibd561_0_1 : BdOk Q 561 z561 [(0, 0, 9), (1, 9, 1)] := bd_ok Q (by kernel_rfl) (by kernel_rfl) (by kernel_rfl)
instance ild445 : LdOk Q 445 := ⟨fun b o s G => (show _ = loadOne b o G by kernel_rfl).trans (loadOne_eq b o G)⟩
instance ifa274_1 : FaOk Q 274 1 1 := ⟨fun b o s => by kernel_rfl⟩
instance ifa486_0 : FaOk Q 486 0 0 := ⟨fun b o s => by kernel_rfl⟩
instance ifa486_1 : FaOk Q 486 1 3 := ⟨fun b o s => by kernel_rfl⟩
instance iep536 : EpOk Q 536 := ⟨fun neg x y => by cases neg <;> kernel_rfl, fun neg x y a => by cases neg <;> kernel_rfl, fun neg x y a => by cases neg <;> kernel_rfl⟩
instance ifa486_4 : FaOk Q 486 4 6 := ⟨fun b o s => by kernel_rfl⟩
instance ifa384_0 : FaOk Q 384 0 0 := ⟨fun b o s => by kernel_rfl⟩
instance ibd280_1 : BdOk Q 280 z280 [(1, 1, 1)] := bd_ok Q (by kernel_rfl) (by kernel_rfl) (by kernel_rfl)
instance iep381 : EpOk Q 381 := ⟨fun neg x y => by cases neg <;> kernel_rfl, fun neg x y a => by cases neg <;> kernel_rfl, fun neg x y a => by cases neg <;> kernel_rfl⟩
instance ild496 : LdOk Q 496 := ⟨fun b o s G => (show _ = loadOne b o G by kernel_rfl).trans (loadOne_eq b o G)⟩
instance ifa303_1 : FaOk Q 303 1 19 := ⟨fun b o s => by kernel_rfl⟩
instance ifa303_2 : FaOk Q 303 2 20 := ⟨fun b o s => by kernel_rfl⟩
instance ifa303_3 : FaOk Q 303 3 21 := ⟨fun b o s => by kernel_rfl⟩
noncomputable abbrev z566 : List Value := [(.bool false), (.int .u64 0), .nilFunc, .nilFunc, .nilFunc, .nilFunc, (.int .i64 0), (.int .i64 0)]
instance ibd566_0_1_4 : BdOk Q 566 z566 [(0, 0, 1), (1, 1, 1), (4, 7, 1)] := bd_ok Q (by kernel_rfl) (by kernel_rfl) (by kernel_rfl)
instance ifa566_4 : FaOk Q 566 4 7 := ⟨fun b o s => by kernel_rfl⟩
instance ifa566_3 : FaOk Q 566 3 6 := ⟨fun b o s => by kernel_rfl⟩
instance ial3 : AlOk Q 3 z3 := ⟨fun G => by kernel_rfl⟩
noncomputable abbrev z564 : List Value := [.nilFunc, .nilFunc, .nilFunc, .nilFunc]
instance ibd564_0_1_2_3 : BdOk Q 564 z564 [(0, 0, 1), (1, 1, 1), (2, 2, 1), (3, 3, 1)] := bd_ok Q (by kernel_rfl) (by kernel_rfl) (by kernel_rfl)
instance ifa566_2 : FaOk Q 566 2 2 := ⟨fun b o s => by kernel_rfl⟩
instance ist564 : StOk Q 564 4 := ⟨fun b o s v G => by kernel_rfl⟩
instance iep542 : EpOk Q 542 := ⟨fun neg x y => by cases neg <;> kernel_rfl, fun neg x y a => by cases neg <;> kernel_rfl, fun neg x y a => by cases neg <;> kernel_rfl⟩
instance ifa566_1 : FaOk Q 566 1 1 := ⟨fun b o s => by kernel_rfl⟩
noncomputable abbrev z571 : List Value := [(.int .i64 0), (.int .i64 0), (.int .i64 0), (.int .i64 0), (.int .i64 0), (.int .i64 0), (.int .i64 0), (.int .i64 0), (.int .i64 0), (.int .i64 0), (.int .i64 0), (.int .i64 0), (.int .i64 0), (.bool false), (.bool false), (.int .u64 0), (.int .u64 0), (.int .i64 0), (.int .i64 0), (.int .i64 0), (.int .i64 0), (.int .u64 0), (.pointer none), (.pointer none), (.int .u64 0), (.int .i64 0)]
instance ibd571_0_1_3_4_6_13 : BdOk Q 571 z571 [(0, 0, 13), (1, 13, 1), (3, 15, 1), (4, 16, 1), (6, 18, 1), (13, 25, 1)] := bd_ok Q (by kernel_rfl) (by kernel_rfl) (by kernel_rfl)
instance ifa571_13 : FaOk Q 571 13 25 := ⟨fun b o s => by kernel_rfl⟩
instance ifa571_5 : FaOk Q 571 5 17 := ⟨fun b o s => by kernel_rfl⟩
instance ifa571_7 : FaOk Q 571 7 19 := ⟨fun b o s => by kernel_rfl⟩
instance ist569 : StOk Q 569 1 := ⟨fun b o s v G => by kernel_rfl⟩
instance iep550 : EpOk Q 550 := ⟨fun neg x y => by cases neg <;> kernel_rfl, fun neg x y a => by cases neg <;> kernel_rfl, fun neg x y a => by cases neg <;> kernel_rfl⟩
instance ifa571_12 : FaOk Q 571 12 24 := ⟨fun b o s => by kernel_rfl⟩
instance ifa558_1 : FaOk Q 558 1 6 := ⟨fun b o s => by kernel_rfl⟩
instance ifa558_4 : FaOk Q 558 4 11 := ⟨fun b o s => by kernel_rfl⟩
instance ifa558_3 : FaOk Q 558 3 10 := ⟨fun b o s => by kernel_rfl⟩
instance ifa558_5 : FaOk Q 558 5 12 := ⟨fun b o s => by kernel_rfl⟩
instance ifa561_1 : FaOk Q 561 1 9 := ⟨fun b o s => by kernel_rfl⟩
instance ist559 : StOk Q 559 1 := ⟨fun b o s v G => by kernel_rfl⟩
instance ifa561_0 : FaOk Q 561 0 0 := ⟨fun b o s => by kernel_rfl⟩
instance iep445 : EpOk Q 445 := ⟨fun neg x y => by cases neg <;> kernel_rfl, fun neg x y a => by cases neg <;> kernel_rfl, fun neg x y a => by cases neg <;> kernel_rfl⟩
instance ild446 : LdOk Q 446 := ⟨fun b o s G => (show _ = loadOne b o G by kernel_rfl).trans (loadOne_eq b o G)⟩
instance ifa450_4 : FaOk Q 450 4 15 := ⟨fun b o s => by kernel_rfl⟩
instance ifa571_0 : FaOk Q 571 0 0 := ⟨fun b o s => by kernel_rfl⟩
instance ifa571_4 : FaOk Q 571 4 16 := ⟨fun b o s => by kernel_rfl⟩
instance ifa571_10 : FaOk Q 571 10 22 := ⟨fun b o s => by kernel_rfl⟩
instance ifa558_2 : FaOk Q 558 2 9 := ⟨fun b o s => by kernel_rfl⟩
instance ild159 : LdOk Q 159 := ⟨fun b o s G => (show _ = loadOne b o G by kernel_rfl).trans (loadOne_eq b o G)⟩
instance iep446 : EpOk Q 446 := ⟨fun neg x y => by cases neg <;> kernel_rfl, fun neg x y a => by cases neg <;> kernel_rfl, fun neg x y a => by cases neg <;> kernel_rfl⟩
instance ild559 : LdOk Q 559 := ⟨fun b o s G => (show _ = loadOne b o G by kernel_rfl).trans (loadOne_eq b o G)⟩
instance ifa450_1 : FaOk Q 450 1 3 := ⟨fun b o s => by kernel_rfl⟩
noncomputable abbrev z448 : List Value := [(.pointer none), (.int .i64 0)]
instance ibd448_0_1 : BdOk Q 448 z448 [(0, 0, 1), (1, 1, 1)] := bd_ok Q (by kernel_rfl) (by kernel_rfl) (by kernel_rfl)
instance ifa450_5 : FaOk Q 450 5 16 := ⟨fun b o s => by kernel_rfl⟩
instance ist448 : StOk Q 448 2 := ⟨fun b o s v G => by kernel_rfl⟩
instance ifa448_0 : FaOk Q 448 0 0 := ⟨fun b o s => by kernel_rfl⟩
instance ild147 : LdOk Q 147 := ⟨fun b o s G => (show _ = loadOne b o G by kernel_rfl).trans (loadOne_eq b o G)⟩
instance ifa450_6 : FaOk Q 450 6 18 := ⟨fun b o s => by kernel_rfl⟩
instance ifa448_1 : FaOk Q 448 1 1 := ⟨fun b o s => by kernel_rfl⟩
instance iep86 : EpOk Q 86 := ⟨fun neg x y => by cases neg <;> kernel_rfl, fun neg x y a => by cases neg <;> kernel_rfl, fun neg x y a => by cases neg <;> kernel_rfl⟩
instance ifa326_0 : FaOk Q 326 0 0 := ⟨fun b o s => by kernel_rfl⟩
instance ifa317_4 : FaOk Q 317 4 4 := ⟨fun b o s => by kernel_rfl⟩
instance ifa317_0 : FaOk Q 317 0 0 := ⟨fun b o s => by kernel_rfl⟩
instance ild313 : LdOk Q 313 := ⟨fun b o s G => (show _ = loadOne b o G by kernel_rfl).trans (loadOne_eq b o G)⟩
instance ifa317_3 : FaOk Q 317 3 3 := ⟨fun b o s => by kernel_rfl⟩
instance ist36 : StOk Q 36 1 := ⟨fun b o s v G => by kernel_rfl⟩
instance ild36 : LdOk Q 36 := ⟨fun b o s G => (show _ = loadOne b o G by kernel_rfl).trans (loadOne_eq b o G)⟩
instance iifc36 : IfcOk Q 36 := ⟨fun v => by kernel_rfl⟩
instance ifa317_1 : FaOk Q 317 1 1 := ⟨fun b o s => by kernel_rfl⟩
instance ild314 : LdOk Q 314 := ⟨fun b o s G => (show _ = loadOne b o G by kernel_rfl).trans (loadOne_eq b o G)⟩
instance ief314 : EfOk Q 314 := ⟨fun neg x y => by cases neg <;> kernel_rfl, fun neg x y f a b => by cases neg <;> kernel_rfl⟩
instance ifa317_2 : FaOk Q 317 2 2 := ⟨fun b o s => by kernel_rfl⟩
instance ild315 : LdOk Q 315 := ⟨fun b o s G => (show _ = loadOne b o G by kernel_rfl).trans (loadOne_eq b o G)⟩
instance ief315 : EfOk Q 315 := ⟨fun neg x y => by cases neg <;> kernel_rfl, fun neg x y f a b => by cases neg <;> kernel_rfl⟩
instance ifa324_4 : FaOk Q 324 4 4 := ⟨fun b o s => by kernel_rfl⟩
instance ifa324_0 : FaOk Q 324 0 0 := ⟨fun b o s => by kernel_rfl⟩
instance ild320 : LdOk Q 320 := ⟨fun b o s G => (show _ = loadOne b o G by kernel_rfl).trans (loadOne_eq b o G)⟩
instance ifa324_3 : FaOk Q 324 3 3 := ⟨fun b o s => by kernel_rfl⟩
instance ist50 : StOk Q 50 1 := ⟨fun b o s v G => by kernel_rfl⟩
instance ild50 : LdOk Q 50 := ⟨fun b o s G => (show _ = loadOne b o G by kernel_rfl).trans (loadOne_eq b o G)⟩
instance iifc50 : IfcOk Q 50 := ⟨fun v => by kernel_rfl⟩
instance ifa324_1 : FaOk Q 324 1 1 := ⟨fun b o s => by kernel_rfl⟩
instance ild321 : LdOk Q 321 := ⟨fun b o s G => (show _ = loadOne b o G by kernel_rfl).trans (loadOne_eq b o G)⟩
instance ief321 : EfOk Q 321 := ⟨fun neg x y => by cases neg <;> kernel_rfl, fun neg x y f a b => by cases neg <;> kernel_rfl⟩
instance ifa324_2 : FaOk Q 324 2 2 := ⟨fun b o s => by kernel_rfl⟩
instance ild322 : LdOk Q 322 := ⟨fun b o s G => (show _ = loadOne b o G by kernel_rfl).trans (loadOne_eq b o G)⟩
instance ief322 : EfOk Q 322 := ⟨fun neg x y => by cases neg <;> kernel_rfl, fun neg x y f a b => by cases neg <;> kernel_rfl⟩
instance iep328 : EpOk Q 328 := ⟨fun neg x y => by cases neg <;> kernel_rfl, fun neg x y a => by cases neg <;> kernel_rfl, fun neg x y a => by cases neg <;> kernel_rfl⟩
instance ifa423_4 : FaOk Q 423 4 4 := ⟨fun b o s => by kernel_rfl⟩
instance ifa423_0 : FaOk Q 423 0 0 := ⟨fun b o s => by kernel_rfl⟩
instance ild419 : LdOk Q 419 := ⟨fun b o s G => (show _ = loadOne b o G by kernel_rfl).trans (loadOne_eq b o G)⟩
instance ifa423_3 : FaOk Q 423 3 3 := ⟨fun b o s => by kernel_rfl⟩
instance ist417 : StOk Q 417 1 := ⟨fun b o s v G => by kernel_rfl⟩
instance ild417 : LdOk Q 417 := ⟨fun b o s G => (show _ = loadOne b o G by kernel_rfl).trans (loadOne_eq b o G)⟩
instance iifc417 : IfcOk Q 417 := ⟨fun v => by kernel_rfl⟩
instance ifa423_1 : FaOk Q 423 1 1 := ⟨fun b o s => by kernel_rfl⟩
instance ild421 : LdOk Q 421 := ⟨fun b o s G => (show _ = loadOne b o G by kernel_rfl).trans (loadOne_eq b o G)⟩
instance ief421 : EfOk Q 421 := ⟨fun neg x y => by cases neg <;> kernel_rfl, fun neg x y f a b => by cases neg <;> kernel_rfl⟩
instance ifa423_2 : FaOk Q 423 2 2 := ⟨fun b o s => by kernel_rfl⟩
instance ild420 : LdOk Q 420 := ⟨fun b o s G => (show _ = loadOne b o G by kernel_rfl).trans (loadOne_eq b o G)⟩
instance ief420 : EfOk Q 420 := ⟨fun neg x y => by cases neg <;> kernel_rfl, fun neg x y f a b => by cases neg <;> kernel_rfl⟩
instance ifa429_4 : FaOk Q 429 4 4 := ⟨fun b o s => by kernel_rfl⟩
instance ifa429_0 : FaOk Q 429 0 0 := ⟨fun b o s => by kernel_rfl⟩
instance ild425 : LdOk Q 425 := ⟨fun b o s G => (show _ = loadOne b o G by kernel_rfl).trans (loadOne_eq b o G)⟩
instance ifa429_3 : FaOk Q 429 3 3 := ⟨fun b o s => by kernel_rfl⟩
instance ist145 : StOk Q 145 1 := ⟨fun b o s v G => by kernel_rfl⟩
instance ild145 : LdOk Q 145 := ⟨fun b o s G => (show _ = loadOne b o G by kernel_rfl).trans (loadOne_eq b o G)⟩
instance iifc145 : IfcOk Q 145 := ⟨fun v => by kernel_rfl⟩
instance ifa429_1 : FaOk Q 429 1 1 := ⟨fun b o s => by kernel_rfl⟩
instance ild427 : LdOk Q 427 := ⟨fun b o s G => (show _ = loadOne b o G by kernel_rfl).trans (loadOne_eq b o G)⟩
instance ief427 : EfOk Q 427 := ⟨fun neg x y => by cases neg <;> kernel_rfl, fun neg x y f a b => by cases neg <;> kernel_rfl⟩
instance ifa429_2 : FaOk Q 429 2 2 := ⟨fun b o s => by kernel_rfl⟩
instance ild426 : LdOk Q 426 := ⟨fun b o s G => (show _ = loadOne b o G by kernel_rfl).trans (loadOne_eq b o G)⟩
instance ief426 : EfOk Q 426 := ⟨fun neg x y => by cases neg <;> kernel_rfl, fun neg x y f a b => by cases neg <;> kernel_rfl⟩
instance ifa438_4 : FaOk Q 438 4 4 := ⟨fun b o s => by kernel_rfl⟩
instance ifa438_0 : FaOk Q 438 0 0 := ⟨fun b o s => by kernel_rfl⟩
instance ild434 : LdOk Q 434 := ⟨fun b o s G => (show _ = loadOne b o G by kernel_rfl).trans (loadOne_eq b o G)⟩
instance ifa438_3 : FaOk Q 438 3 3 := ⟨fun b o s => by kernel_rfl⟩
instance ist432 : StOk Q 432 1 := ⟨fun b o s v G => by kernel_rfl⟩
instance ild432 : LdOk Q 432 := ⟨fun b o s G => (show _ = loadOne b o G by kernel_rfl).trans (loadOne_eq b o G)⟩
instance iifc432 : IfcOk Q 432 := ⟨fun v => by kernel_rfl⟩
instance ifa438_1 : FaOk Q 438 1 1 := ⟨fun b o s => by kernel_rfl⟩
instance ild435 : LdOk Q 435 := ⟨fun b o s G => (show _ = loadOne b o G by kernel_rfl).trans (loadOne_eq b o G)⟩
instance ief435 : EfOk Q 435 := ⟨fun neg x y => by cases neg <;> kernel_rfl, fun neg x y f a b => by cases neg <;> kernel_rfl⟩
instance ifa438_2 : FaOk Q 438 2 2 := ⟨fun b o s => by kernel_rfl⟩
instance ild436 : LdOk Q 436 := ⟨fun b o s G => (show _ = loadOne b o G by kernel_rfl).trans (loadOne_eq b o G)⟩
instance ief436 : EfOk Q 436 := ⟨fun neg x y => by cases neg <;> kernel_rfl, fun neg x y f a b => by cases neg <;> kernel_rfl⟩
instance iep432 : EpOk Q 432 := ⟨fun neg x y => by cases neg <;> kernel_rfl, fun neg x y a => by cases neg <;> kernel_rfl, fun neg x y a => by cases neg <;> kernel_rfl⟩
instance ifa444_4 : FaOk Q 444 4 4 := ⟨fun b o s => by kernel_rfl⟩
instance ifa444_0 : FaOk Q 444 0 0 := ⟨fun b o s => by kernel_rfl⟩
instance ild441 : LdOk Q 441 := ⟨fun b o s G => (show _ = loadOne b o G by kernel_rfl).trans (loadOne_eq b o G)⟩
instance ifa444_3 : FaOk Q 444 3 3 := ⟨fun b o s => by kernel_rfl⟩
instance ist328 : StOk Q 328 1 := ⟨fun b o s v G => by kernel_rfl⟩
instance ild328 : LdOk Q 328 := ⟨fun b o s G => (show _ = loadOne b o G by kernel_rfl).trans (loadOne_eq b o G)⟩
instance iifc328 : IfcOk Q 328 := ⟨fun v => by kernel_rfl⟩
instance ifa444_1 : FaOk Q 444 1 1 := ⟨fun b o s => by kernel_rfl⟩
instance ild442 : LdOk Q 442 := ⟨fun b o s G => (show _ = loadOne b o G by kernel_rfl).trans (loadOne_eq b o G)⟩
instance ief442 : EfOk Q 442 := ⟨fun neg x y => by cases neg <;> kernel_rfl, fun neg x y f a b => by cases neg <;> kernel_rfl⟩
instance ifa444_2 : FaOk Q 444 2 2 := ⟨fun b o s => by kernel_rfl⟩
instance ild329 : LdOk Q 329 := ⟨fun b o s G => (show _ = loadOne b o G by kernel_rfl).trans (loadOne_eq b o G)⟩
instance ief329 : EfOk Q 329 := ⟨fun neg x y => by cases neg <;> kernel_rfl, fun neg x y f a b => by cases neg <;> kernel_rfl⟩
instance ifa548_4 : FaOk Q 548 4 4 := ⟨fun b o s => by kernel_rfl⟩
instance ifa548_0 : FaOk Q 548 0 0 := ⟨fun b o s => by kernel_rfl⟩
instance ild544 : LdOk Q 544 := ⟨fun b o s G => (show _ = loadOne b o G by kernel_rfl).trans (loadOne_eq b o G)⟩
instance ifa548_3 : FaOk Q 548 3 3 := ⟨fun b o s => by kernel_rfl⟩
instance ist542 : StOk Q 542 1 := ⟨fun b o s v G => by kernel_rfl⟩
instance ild542 : LdOk Q 542 := ⟨fun b o s G => (show _ = loadOne b o G by kernel_rfl).trans (loadOne_eq b o G)⟩
instance iifc542 : IfcOk Q 542 := ⟨fun v => by kernel_rfl⟩
instance ifa548_1 : FaOk Q 548 1 1 := ⟨fun b o s => by kernel_rfl⟩
instance ild545 : LdOk Q 545 := ⟨fun b o s G => (show _ = loadOne b o G by kernel_rfl).trans (loadOne_eq b o G)⟩
instance ief545 : EfOk Q 545 := ⟨fun neg x y => by cases neg <;> kernel_rfl, fun neg x y f a b => by cases neg <;> kernel_rfl⟩
instance ifa548_2 : FaOk Q 548 2 2 := ⟨fun b o s => by kernel_rfl⟩
instance ild546 : LdOk Q 546 := ⟨fun b o s G => (show _ = loadOne b o G by kernel_rfl).trans (loadOne_eq b o G)⟩
instance ief546 : EfOk Q 546 := ⟨fun neg x y => by cases neg <;> kernel_rfl, fun neg x y f a b => by cases neg <;> kernel_rfl⟩
instance ilda564 : LdAOk Q 564 4 := ⟨fun b o s G => by kernel_rfl⟩
instance iix564 : IxOk Q 564 4 := ⟨fun l k j => by kernel_rfl⟩
instance ifa566_0 : FaOk Q 566 0 0 := ⟨fun b o s => by kernel_rfl⟩
instance ifa556_4 : FaOk Q 556 4 4 := ⟨fun b o s => by kernel_rfl⟩
instance ifa556_0 : FaOk Q 556 0 0 := ⟨fun b o s => by kernel_rfl⟩
instance ild552 : LdOk Q 552 := ⟨fun b o s G => (show _ = loadOne b o G by kernel_rfl).trans (loadOne_eq b o G)⟩
instance ifa556_3 : FaOk Q 556 3 3 := ⟨fun b o s => by kernel_rfl⟩
instance ist550 : StOk Q 550 1 := ⟨fun b o s v G => by kernel_rfl⟩
instance ild550 : LdOk Q 550 := ⟨fun b o s G => (show _ = loadOne b o G by kernel_rfl).trans (loadOne_eq b o G)⟩
instance iifc550 : IfcOk Q 550 := ⟨fun v => by kernel_rfl⟩
instance ifa556_1 : FaOk Q 556 1 1 := ⟨fun b o s => by kernel_rfl⟩
instance ild553 : LdOk Q 553 := ⟨fun b o s G => (show _ = loadOne b o G by kernel_rfl).trans (loadOne_eq b o G)⟩
instance ief553 : EfOk Q 553 := ⟨fun neg x y => by cases neg <;> kernel_rfl, fun neg x y f a b => by cases neg <;> kernel_rfl⟩
instance ifa556_2 : FaOk Q 556 2 2 := ⟨fun b o s => by kernel_rfl⟩
instance ild554 : LdOk Q 554 := ⟨fun b o s G => (show _ = loadOne b o G by kernel_rfl).trans (loadOne_eq b o G)⟩
instance ief554 : EfOk Q 554 := ⟨fun neg x y => by cases neg <;> kernel_rfl, fun neg x y f a b => by cases neg <;> kernel_rfl⟩
instance ild569 : LdOk Q 569 := ⟨fun b o s G => (show _ = loadOne b o G by kernel_rfl).trans (loadOne_eq b o G)⟩
noncomputable abbrev z616 : List Value := [.nilFunc, .nilFunc, .nilFunc, .nilFunc, .nilFunc, .nilFunc, .nilFunc, .nilFunc, .nilFunc, .nilFunc, .nilFunc, .nilFunc, .nilFunc]
instance ial616 : AlOk Q 616 z616 := ⟨fun G => by kernel_rfl⟩
instance ist616 : StOk Q 616 13 := ⟨fun b o s v G => by kernel_rfl⟩
instance iiaa616 : IaaOk Q 616 13 1 := ⟨fun b o s k j => by kernel_rfl⟩
instance ild615 : LdOk Q 615 := ⟨fun b o s G => (show _ = loadOne b o G by kernel_rfl).trans (loadOne_eq b o G)⟩
instance ibd616_1_2_3_4_5_6_7_8_9_10_11_12 : BdOk Q 616 z616 [(1, 1, 1), (2, 2, 1), (3, 3, 1), (4, 4, 1), (5, 5, 1), (6, 6, 1), (7, 7, 1), (8, 8, 1), (9, 9, 1), (10, 10, 1), (11, 11, 1), (12, 12, 1)] := bd_ok Q (by kernel_rfl) (by kernel_rfl) (by kernel_rfl)
instance ilda616 : LdAOk Q 616 13 := ⟨fun b o s G => by kernel_rfl⟩
instance ifa571_8 : FaOk Q 571 8 20 := ⟨fun b o s => by kernel_rfl⟩
instance ifa571_3 : FaOk Q 571 3 15 := ⟨fun b o s => by kernel_rfl⟩
instance ifa571_6 : FaOk Q 571 6 18 := ⟨fun b o s => by kernel_rfl⟩
instance iias111 : IasOk Q 111 1 := ⟨fun b o s n c k j => by kernel_rfl⟩
instance ifa571_2 : FaOk Q 571 2 14 := ⟨fun b o s => by kernel_rfl⟩
instance ifa571_9 : FaOk Q 571 9 21 := ⟨fun b o s => by kernel_rfl⟩
instance ifa571_11 : FaOk Q 571 11 23 := ⟨fun b o s => by kernel_rfl⟩
instance iln281 : LnOk Q 281 := ⟨fun a n c => by kernel_rfl⟩
noncomputable abbrev z41 : List Value := [(.int .u64 0)]
instance ibs111_1_0 : BsOk Q 111 1 (rep z41 1) 1 [(0, 0, 1)] := bs_ok Q (z0 := z41) (by kernel_rfl) rfl (by decide) (by kernel_rfl)
instance iap111_111 : ApOk Q 111 111 1 8 := ⟨fun s x G => by kernel_rfl⟩
instance ibs78_1_0 : BsOk Q 78 1 (rep z3 1) 1 [(0, 0, 1)] := bs_ok Q (z0 := z3) (by kernel_rfl) rfl (by decide) (by kernel_rfl)
instance iap78_78 : ApOk Q 78 78 1 8 := ⟨fun s x G => by kernel_rfl⟩
/-- coxswain/cells.New -/
noncomputable def s9 (q : Bool) (e : Ex) (v0 : Value) (G : GS) : Option (Value × GS) :=
  bP (bn Q q .lss 3 (.tmp 4) (.const (.int .i64 1)) v0 (.int .i64 1)) fun x0 =>
  bS (gd x0 false (some (v0, G)) G) fun x1 G2 =>
  bS (gd x0 false (bP (bn Q q .gtr 3 (.tmp 7) (.const (.int .i64 4096)) x1 (.int .i64 4096)) fun y => some (y, G2)) G2) fun x3 G4 =>
  bP (pickV x0 (.bool true) x3) fun x5 =>
  ifV x5 (
  some (.tuple #[(.pointer none), (.int .i64 3)], G4)) (
  bS (al Q q 156 z156 G4) fun x6 G7 =>
  bP (bd Q q 158 z158 [(0, 0, 1), (1, 1, 1)] [x6, v0]) fun x8 =>
  bS (bx q x8 G7) fun x9 G10 =>
  some (.tuple #[x9, (.int .i64 0)], G10))
theorem m9 {e : Ex} {E : Ev} (h : ExLe Q e E) (v0 : Value) (G : GS) : Ref (s9 true e v0 G) (s9 false (Ex.of E) v0 G) := by
  unfold s9
  exact Ref.go
theorem f9 {orc : FuncId → Bool} {e : Ex} (h : ExLe Q e (E orc)) (v0 : Value) (G : GS) : Ref (s9 true e v0 G) ((E orc).cl 9 [v0] G) :=
  fun r hr => cl_sxE_some Q orc (vs := [v0]) G Tryz.func9 (by kernel_rfl) (by kernel_rfl) (by kernel_rfl) (by kernel_rfl) (by kernel_rfl) (by kernel_rfl) (m9 h v0 G r hr)
/-- (*coxswain/claim.Claim).Item -/
noncomputable def s10 (q : Bool) (e : Ex) (v0 : Value) (G : GS) : Option (Value × GS) :=
  bS (al Q q 44 z44 G) fun x0 G1 =>
  bP (ep Q q false 36 (.tmp 4) (.const (.pointer none)) v0 (.pointer none)) fun x2 =>
  ifV x2 (
  bP (bd Q q 44 z44 [] []) fun x3 =>
  bP (st Q q 44 2 x0 x3 G1) fun G4 =>
  bP (lda Q q 44 2 x0 G4) fun x5 =>
  some (.tuple #[x5, (.int .i64 1)], G4)) (
  bP (pNil v0) fun x6 =>
  bP (fa Q q 48 0 0 x6) fun x7 =>
  bS (e.ev.cl 61 [x7] G1) fun x8 G9 =>
  bP (pExtract x8 0) fun x10 =>
  bP (pExtract x8 1) fun x11 =>
  bP (st Q q 44 2 x0 x10 G9) fun G12 =>
  bP (lda Q q 44 2 x0 G12) fun x13 =>
  some (.tuple #[x13, x11], G12))
theorem m10 {e : Ex} {E : Ev} (h : ExLe Q e E) (v0 : Value) (G : GS) : Ref (s10 true e v0 G) (s10 false (Ex.of E) v0 G) := by
  unfold s10
  exact Ref.go
theorem f10 {orc : FuncId → Bool} {e : Ex} (h : ExLe Q e (E orc)) (v0 : Value) (G : GS) : Ref (s10 true e v0 G) ((E orc).cl 10 [v0] G) :=
  fun r hr => cl_sxE_some Q orc (vs := [v0]) G Tryz.func10 (by kernel_rfl) (by kernel_rfl) (by kernel_rfl) (by kernel_rfl) (by kernel_rfl) (by kernel_rfl) (m10 h v0 G r hr)
/-- (*coxswain/claim.Peek).Item -/
noncomputable def s11 (q : Bool) (e : Ex) (v0 : Value) (G : GS) : Option (Value × GS) :=
  bS (al Q q 44 z44 G) fun x0 G1 =>
  bP (ep Q q false 50 (.tmp 4) (.const (.pointer none)) v0 (.pointer none)) fun x2 =>
  ifV x2 (
  bP (bd Q q 44 z44 [] []) fun x3 =>
  bP (st Q q 44 2 x0 x3 G1) fun G4 =>
  bP (lda Q q 44 2 x0 G4) fun x5 =>
  some (.tuple #[x5, (.int .i64 1)], G4)) (
  bP (pNil v0) fun x6 =>
  bP (fa Q q 55 0 0 x6) fun x7 =>
  bS (e.ev.cl 62 [x7] G1) fun x8 G9 =>
  bP (pExtract x8 0) fun x10 =>
  bP (pExtract x8 1) fun x11 =>
  bP (st Q q 44 2 x0 x10 G9) fun G12 =>
  bP (lda Q q 44 2 x0 G12) fun x13 =>
  some (.tuple #[x13, x11], G12))
theorem m11 {e : Ex} {E : Ev} (h : ExLe Q e E) (v0 : Value) (G : GS) : Ref (s11 true e v0 G) (s11 false (Ex.of E) v0 G) := by
  unfold s11
  exact Ref.go
theorem f11 {orc : FuncId → Bool} {e : Ex} (h : ExLe Q e (E orc)) (v0 : Value) (G : GS) : Ref (s11 true e v0 G) ((E orc).cl 11 [v0] G) :=
  fun r hr => cl_sxE_some Q orc (vs := [v0]) G Tryz.func11 (by kernel_rfl) (by kernel_rfl) (by kernel_rfl) (by kernel_rfl) (by kernel_rfl) (by kernel_rfl) (m11 h v0 G r hr)
noncomputable def b12_0 (q : Bool) (e : Ex) (lp : Env → GS → Option (Exit × Env × GS)) (τ : Env) (G : GS) : Option (Exit × Env × GS) :=
  bV q (τ 0) fun a0_ =>
  bV q (τ 1) fun a1_ =>
  bP (pNil a0_) fun x0 =>
  bP (fa Q q 48 0 0 x0) fun x1 =>
  bP (fa Q q 46 2 17 x1) fun x2 =>
  bP (ld Q q 3 x2 G) fun x3 =>
  bP (bn Q q .eql 3 (.tmp 17) (.const (.int .i64 1)) x3 (.int .i64 1)) fun x4 =>
  ifV x4 (
  bP (pNil a0_) fun x5 =>
  bP (fa Q q 48 0 0 x5) fun x6 =>
  bS (e.ev.cl 64 [x6, a1_] G) fun x7 G8 =>
  some ((.exit 0), clq q 162 (tu τ [(0, a0_), (1, a1_), (13, a0_), (14, x0), (15, x1), (16, x2), (17, x3), (18, x4), (19, x4), (36, a0_), (37, x5), (38, x6), (39, a1_), (40, x7)]), G8)) (
  bP (bn Q q .eql 3 (.tmp 17) (.const (.int .i64 2)) x3 (.int .i64 2)) fun x9 =>
  ifV x9 (
  bP (pNil a0_) fun x10 =>
  bP (fa Q q 48 0 0 x10) fun x11 =>
  bS (e.ev.cl 64 [x11, a1_] G) fun x12 G13 =>
  some ((.exit 0), clq q 162 (tu τ [(0, a0_), (1, a1_), (13, a0_), (14, x0), (15, x1), (16, x2), (17, x3), (18, x4), (19, x4), (20, x9), (21, x9), (36, a0_), (37, x10), (38, x11), (39, a1_), (40, x12)]), G13)) (
  bP (bn Q q .eql 3 (.tmp 17) (.const (.int .i64 3)) x3 (.int .i64 3)) fun x14 =>
  ifV x14 (
  bP (pNil a0_) fun x15 =>
  bP (fa Q q 48 0 0 x15) fun x16 =>
  bS (e.ev.cl 64 [x16, a1_] G) fun x17 G18 =>
  some ((.exit 0), clq q 162 (tu τ [(0, a0_), (1, a1_), (13, a0_), (14, x0), (15, x1), (16, x2), (17, x3), (18, x4), (19, x4), (20, x9), (21, x9), (22, x14), (23, x14), (36, a0_), (37, x15), (38, x16), (39, a1_), (40, x17)]), G18)) (
  bP (bn Q q .eql 3 (.tmp 17) (.const (.int .i64 4)) x3 (.int .i64 4)) fun x19 =>
  ifV x19 (
  ifV x19 (
  bS (e.ev.cl 65 [a0_, a1_] G) fun x20 G21 =>
  some ((.exit 0), clq q 162 (tu τ [(0, a0_), (1, a1_), (13, a0_), (14, x0), (15, x1), (16, x2), (17, x3), (18, x4), (19, x4), (20, x9), (21, x9), (22, x14), (23, x14), (24, x19), (25, x19), (41, a0_), (42, a1_), (43, x20)]), G21)) (
  bP (bn Q q .eql 3 (.tmp 17) (.const (.int .i64 7)) x3 (.int .i64 7)) fun x22 =>
  ifV x22 (
  bP (pNil a0_) fun x23 =>
  bP (fa Q q 48 0 0 x23) fun x24 =>
  bS (e.ev.cl 66 [x24, a1_, (.int .i64 4)] G) fun x25 G26 =>
  bP (pNil a0_) fun x27 =>
  bP (fa Q q 48 0 0 x27) fun x28 =>
  bP (fa Q q 46 5 20 x28) fun x29 =>
  bP (st Q q 42 1 x29 x25 G26) fun G30 =>
  bP (pNil a0_) fun x31 =>
  bP (fa Q q 48 0 0 x31) fun x32 =>
  bP (fa Q q 46 2 17 x32) fun x33 =>
  bP (st Q q 3 1 x33 (.int .i64 8) G30) fun G34 =>
  bP (pNil a0_) fun x35 =>
  bP (fa Q q 48 0 0 x35) fun x36 =>
  bP (fa Q q 46 5 20 x36) fun x37 =>
  bP (ld Q q 42 x37 G34) fun x38 =>
  bS (e.ev.cl 67 [x38] G34) fun x39 G40 =>
  ifV x39 (
  bP (pNil a0_) fun x41 =>
  bP (fa Q q 48 0 0 x41) fun x42 =>
  bP (fa Q q 46 2 17 x42) fun x43 =>
  bP (st Q q 3 1 x43 (.int .i64 3) G40) fun G44 =>
  some ((.exit 0), clq q 162 (tu τ [(0, a0_), (1, a1_), (13, a0_), (14, x0), (15, x1), (16, x2), (17, x3), (18, x4), (19, x4), (20, x9), (21, x9), (22, x14), (23, x14), (24, x19), (25, x19), (28, x22), (29, x22), (44, a0_), (45, a0_), (46, x23), (47, x24), (48, a1_), (49, x25), (50, x27), (51, x28), (52, x29), (53, a0_), (54, x31), (55, x32), (56, x33), (57, a0_), (58, x35), (59, x36), (60, x37), (61, x38), (62, x39), (63, a0_), (64, x41), (65, x42), (66, x43)]), G44)) (
  some ((.exit 0), clq q 162 (tu τ [(0, a0_), (1, a1_), (13, a0_), (14, x0), (15, x1), (16, x2), (17, x3), (18, x4), (19, x4), (20, x9), (21, x9), (22, x14), (23, x14), (24, x19), (25, x19), (28, x22), (29, x22), (44, a0_), (45, a0_), (46, x23), (47, x24), (48, a1_), (49, x25), (50, x27), (51, x28), (52, x29), (53, a0_), (54, x31), (55, x32), (56, x33), (57, a0_), (58, x35), (59, x36), (60, x37), (61, x38), (62, x39)]), G40))) (
  bP (bn Q q .eql 3 (.tmp 17) (.const (.int .i64 8)) x3 (.int .i64 8)) fun x45 =>
  ifV x45 (
  bP (pNil a0_) fun x46 =>
  bP (fa Q q 48 0 0 x46) fun x47 =>
  bP (fa Q q 46 3 18 x47) fun x48 =>
  bP (ld Q q 41 x48 G) fun x49 =>
  bP (pNil a0_) fun x50 =>
  bP (fa Q q 48 0 0 x50) fun x51 =>
  bP (fa Q q 46 7 23 x51) fun x52 =>
  bP (st Q q 41 1 x52 x49 G) fun G53 =>
  bP (pNil a0_) fun x54 =>
  bP (fa Q q 48 0 0 x54) fun x55 =>
  bP (fa Q q 46 2 17 x55) fun x56 =>
  bP (st Q q 3 1 x56 (.int .i64 7) G53) fun G57 =>
  bP (pNil a0_) fun x58 =>
  bP (fa Q q 48 0 0 x58) fun x59 =>
  bP (fa Q q 46 0 0 x59) fun x60 =>
  bP (lda Q q 31 13 x60 (G57.room 24)) fun x61 =>
  bP (pNil a0_) fun x62 =>
  bP (fa Q q 48 0 0 x62) fun x63 =>
  bP (fa Q q 46 4 19 x63) fun x64 =>
  bP (ld Q q 3 x64 (G57.room 24)) fun x65 =>
  bS (e.ev.cl 69 [x61, x65, (.int .i64 0)] (G57.room 24)) fun x67 G66 =>
  bP (pNil a0_) fun x68 =>
  bP (fa Q q 48 0 0 x68) fun x69 =>
  bP (fa Q q 46 5 20 x69) fun x70 =>
  bP (ld Q q 42 x70 G66) fun x71 =>
  chk ((sameO (ld Q q 42 x70 (G57.room 24)) x71 && true)) <|
  bP (pNil a0_) fun x72 =>
  bP (fa Q q 48 0 0 x72) fun x73 =>
  bP (fa Q q 46 5 20 x73) fun x74 =>
  bP (ld Q q 42 x74 G66) fun x75 =>
  chk ((sameO (ld Q q 42 x74 (G57.room 24)) x75 && true)) <|
  bS (e.ev.cl 70 [x75, (.bool true)] G66) fun x77 G76 =>
  chk ((sameO (ld Q q 42 x70 G76) x71 && true)) <|
  bS (e.ev.cl 68 [a1_, x67, x71, x77] G76) fun x79 G78 =>
  ifV x79 (
  bP (pNil a0_) fun x80 =>
  bP (fa Q q 48 0 0 x80) fun x81 =>
  bP (fa Q q 46 1 13 x81) fun x82 =>
  bP (fa Q q 40 1 1 x82) fun x83 =>
  bP (st Q q 4 1 x83 (.bool true) G78) fun G84 =>
  bP (pNil a0_) fun x85 =>
  bP (fa Q q 48 0 0 x85) fun x86 =>
  bP (fa Q q 46 2 17 x86) fun x87 =>
  bP (st Q q 3 1 x87 (.int .i64 9) G84) fun G88 =>
  some ((.exit 0), clq q 162 (tu τ [(0, a0_), (1, a1_), (13, a0_), (14, x0), (15, x1), (16, x2), (17, x3), (18, x4), (19, x4), (20, x9), (21, x9), (22, x14), (23, x14), (24, x19), (25, x19), (28, x22), (29, x22), (30, x45), (31, x45), (67, a0_), (68, a0_), (69, a0_), (70, x46), (71, x47), (72, x48), (73, x49), (74, x50), (75, x51), (76, x52), (77, x54), (78, x55), (79, x56), (80, a1_), (81, a0_), (82, x58), (83, x59), (84, x60), (85, x61), (86, a0_), (87, x62), (88, x63), (89, x64), (90, x65), (91, x67), (92, a0_), (93, x68), (94, x69), (95, x70), (96, x71), (97, a0_), (98, x72), (99, x73), (100, x74), (101, x75), (102, x77), (103, x79), (104, a0_), (105, a0_), (106, x80), (107, x81), (108, x82), (109, x83), (110, x85), (111, x86), (112, x87)]), G88)) (
  some ((.exit 0), clq q 162 (tu τ [(0, a0_), (1, a1_), (13, a0_), (14, x0), (15, x1), (16, x2), (17, x3), (18, x4), (19, x4), (20, x9), (21, x9), (22, x14), (23, x14), (24, x19), (25, x19), (28, x22), (29, x22), (30, x45), (31, x45), (67, a0_), (68, a0_), (69, a0_), (70, x46), (71, x47), (72, x48), (73, x49), (74, x50), (75, x51), (76, x52), (77, x54), (78, x55), (79, x56), (80, a1_), (81, a0_), (82, x58), (83, x59), (84, x60), (85, x61), (86, a0_), (87, x62), (88, x63), (89, x64), (90, x65), (91, x67), (92, a0_), (93, x68), (94, x69), (95, x70), (96, x71), (97, a0_), (98, x72), (99, x73), (100, x74), (101, x75), (102, x77), (103, x79)]), G78))) (
  bP (bn Q q .eql 3 (.tmp 17) (.const (.int .i64 9)) x3 (.int .i64 9)) fun x89 =>
  ifV x89 (
  bP (pNil a0_) fun x90 =>
  bP (fa Q q 48 0 0 x90) fun x91 =>
  bS (e.ev.cl 66 [x91, a1_, (.int .i64 0)] G) fun x92 G93 =>
  bP (pNil a0_) fun x94 =>
  bP (fa Q q 48 0 0 x94) fun x95 =>
  bP (fa Q q 46 6 21 x95) fun x96 =>
  bP (fa Q q 44 0 0 x96) fun x97 =>
  bP (st Q q 41 1 x97 x92 G93) fun G98 =>
  bP (pNil a0_) fun x99 =>
  bP (fa Q q 48 0 0 x99) fun x100 =>
  bP (fa Q q 46 2 17 x100) fun x101 =>
  bP (st Q q 3 1 x101 (.int .i64 91) G98) fun G102 =>
  some ((.exit 0), clq q 162 (tu τ [(0, a0_), (1, a1_), (13, a0_), (14, x0), (15, x1), (16, x2), (17, x3), (18, x4), (19, x4), (20, x9), (21, x9), (22, x14), (23, x14), (24, x19), (25, x19), (28, x22), (29, x22), (30, x45), (31, x45), (32, x89), (33, x89), (113, a0_), (114, a0_), (115, a0_), (116, x90), (117, x91), (118, a1_), (119, x92), (120, x94), (121, x95), (122, x96), (123, x97), (124, x99), (125, x100), (126, x101)]), G102)) (
  bP (bn Q q .eql 3 (.tmp 17) (.const (.int .i64 91)) x3 (.int .i64 91)) fun x103 =>
  ifV x103 (
  bP (pNil a0_) fun x104 =>
  bP (fa Q q 48 0 0 x104) fun x105 =>
  bS (e.ev.cl 71 [x105, a1_] G) fun x106 G107 =>
  bP (pNil a0_) fun x108 =>
  bP (fa Q q 48 0 0 x108) fun x109 =>
  bP (fa Q q 46 0 0 x109) fun x110 =>
  bP (lda Q q 31 13 x110 (G107.room 23)) fun x111 =>
  bP (pNil a0_) fun x112 =>
  bP (fa Q q 48 0 0 x112) fun x113 =>
  bP (fa Q q 46 6 21 x113) fun x114 =>
  bP (fa Q q 44 0 0 x114) fun x115 =>
  bP (ld Q q 41 x115 (G107.room 23)) fun x116 =>
  bS (e.ev.cl 72 [x111, x116] (G107.room 23)) fun x118 G117 =>
  bP (pNil a0_) fun x119 =>
  bP (fa Q q 48 0 0 x119) fun x120 =>
  bP (fa Q q 46 1 13 x120) fun x121 =>
  bP (fa Q q 40 2 2 x121) fun x122 =>
  bP (st Q q 37 1 x122 x118 G117) fun G123 =>
  bP (pNil a0_) fun x124 =>
  bP (fa Q q 48 0 0 x124) fun x125 =>
  bP (fa Q q 46 2 17 x125) fun x126 =>
  bP (st Q q 3 1 x126 (.int .i64 10) G123) fun G127 =>
  some ((.exit 0), clq q 162 (tu τ [(0, a0_), (1, a1_), (13, a0_), (14, x0), (15, x1), (16, x2), (17, x3), (18, x4), (19, x4), (20, x9), (21, x9), (22, x14), (23, x14), (24, x19), (25, x19), (28, x22), (29, x22), (30, x45), (31, x45), (32, x89), (33, x89), (34, x103), (35, x103), (127, a0_), (128, x104), (129, x105), (130, a1_), (131, x106), (132, a0_), (133, a0_), (134, a0_), (135, x108), (136, x109), (137, x110), (138, x111), (139, a0_), (140, x112), (141, x113), (142, x114), (143, x115), (144, x116), (145, x118), (146, x119), (147, x120), (148, x121), (149, x122), (150, x124), (151, x125), (152, x126)]), G127)) (
  bS (e.ev.cl 73 [a0_, a1_] G) fun x128 G129 =>
  some ((.exit 0), clq q 162 (tu τ [(0, a0_), (1, a1_), (13, a0_), (14, x0), (15, x1), (16, x2), (17, x3), (18, x4), (19, x4), (20, x9), (21, x9), (22, x14), (23, x14), (24, x19), (25, x19), (28, x22), (29, x22), (30, x45), (31, x45), (32, x89), (33, x89), (34, x103), (35, x103), (153, a0_), (154, a1_), (155, x128)]), G129))))))) (
  bP (bn Q q .eql 3 (.tmp 17) (.const (.int .i64 5)) x3 (.int .i64 5)) fun x130 =>
  ifV x130 (
  ifV x130 (
  bS (e.ev.cl 65 [a0_, a1_] G) fun x131 G132 =>
  some ((.exit 0), clq q 162 (tu τ [(0, a0_), (1, a1_), (13, a0_), (14, x0), (15, x1), (16, x2), (17, x3), (18, x4), (19, x4), (20, x9), (21, x9), (22, x14), (23, x14), (24, x130), (25, x19), (26, x130), (41, a0_), (42, a1_), (43, x131)]), G132)) (
  bP (bn Q q .eql 3 (.tmp 17) (.const (.int .i64 7)) x3 (.int .i64 7)) fun x133 =>
  ifV x133 (
  bP (pNil a0_) fun x134 =>
  bP (fa Q q 48 0 0 x134) fun x135 =>
  bS (e.ev.cl 66 [x135, a1_, (.int .i64 4)] G) fun x136 G137 =>
  bP (pNil a0_) fun x138 =>
  bP (fa Q q 48 0 0 x138) fun x139 =>
  bP (fa Q q 46 5 20 x139) fun x140 =>
  bP (st Q q 42 1 x140 x136 G137) fun G141 =>
  bP (pNil a0_) fun x142 =>
  bP (fa Q q 48 0 0 x142) fun x143 =>
  bP (fa Q q 46 2 17 x143) fun x144 =>
  bP (st Q q 3 1 x144 (.int .i64 8) G141) fun G145 =>
  bP (pNil a0_) fun x146 =>
  bP (fa Q q 48 0 0 x146) fun x147 =>
  bP (fa Q q 46 5 20 x147) fun x148 =>
  bP (ld Q q 42 x148 G145) fun x149 =>
  bS (e.ev.cl 67 [x149] G145) fun x150 G151 =>
  ifV x150 (
  bP (pNil a0_) fun x152 =>
  bP (fa Q q 48 0 0 x152) fun x153 =>
  bP (fa Q q 46 2 17 x153) fun x154 =>
  bP (st Q q 3 1 x154 (.int .i64 3) G151) fun G155 =>
  some ((.exit 0), clq q 162 (tu τ [(0, a0_), (1, a1_), (13, a0_), (14, x0), (15, x1), (16, x2), (17, x3), (18, x4), (19, x4), (20, x9), (21, x9), (22, x14), (23, x14), (24, x130), (25, x19), (26, x130), (28, x133), (29, x133), (44, a0_), (45, a0_), (46, x134), (47, x135), (48, a1_), (49, x136), (50, x138), (51, x139), (52, x140), (53, a0_), (54, x142), (55, x143), (56, x144), (57, a0_), (58, x146), (59, x147), (60, x148), (61, x149), (62, x150), (63, a0_), (64, x152), (65, x153), (66, x154)]), G155)) (
  some ((.exit 0), clq q 162 (tu τ [(0, a0_), (1, a1_), (13, a0_), (14, x0), (15, x1), (16, x2), (17, x3), (18, x4), (19, x4), (20, x9), (21, x9), (22, x14), (23, x14), (24, x130), (25, x19), (26, x130), (28, x133), (29, x133), (44, a0_), (45, a0_), (46, x134), (47, x135), (48, a1_), (49, x136), (50, x138), (51, x139), (52, x140), (53, a0_), (54, x142), (55, x143), (56, x144), (57, a0_), (58, x146), (59, x147), (60, x148), (61, x149), (62, x150)]), G151))) (
  bP (bn Q q .eql 3 (.tmp 17) (.const (.int .i64 8)) x3 (.int .i64 8)) fun x156 =>
  ifV x156 (
  bP (pNil a0_) fun x157 =>
  bP (fa Q q 48 0 0 x157) fun x158 =>
  bP (fa Q q 46 3 18 x158) fun x159 =>
  bP (ld Q q 41 x159 G) fun x160 =>
  bP (pNil a0_) fun x161 =>
  bP (fa Q q 48 0 0 x161) fun x162 =>
  bP (fa Q q 46 7 23 x162) fun x163 =>
  bP (st Q q 41 1 x163 x160 G) fun G164 =>
  bP (pNil a0_) fun x165 =>
  bP (fa Q q 48 0 0 x165) fun x166 =>
  bP (fa Q q 46 2 17 x166) fun x167 =>
  bP (st Q q 3 1 x167 (.int .i64 7) G164) fun G168 =>
  bP (pNil a0_) fun x169 =>
  bP (fa Q q 48 0 0 x169) fun x170 =>
  bP (fa Q q 46 0 0 x170) fun x171 =>
  bP (lda Q q 31 13 x171 (G168.room 24)) fun x172 =>
  bP (pNil a0_) fun x173 =>
  bP (fa Q q 48 0 0 x173) fun x174 =>
  bP (fa Q q 46 4 19 x174) fun x175 =>
  bP (ld Q q 3 x175 (G168.room 24)) fun x176 =>
  bS (e.ev.cl 69 [x172, x176, (.int .i64 0)] (G168.room 24)) fun x178 G177 =>
  bP (pNil a0_) fun x179 =>
  bP (fa Q q 48 0 0 x179) fun x180 =>
  bP (fa Q q 46 5 20 x180) fun x181 =>
  bP (ld Q q 42 x181 G177) fun x182 =>
  chk ((sameO (ld Q q 42 x181 (G168.room 24)) x182 && true)) <|
  bP (pNil a0_) fun x183 =>
  bP (fa Q q 48 0 0 x183) fun x184 =>
  bP (fa Q q 46 5 20 x184) fun x185 =>
  bP (ld Q q 42 x185 G177) fun x186 =>
  chk ((sameO (ld Q q 42 x185 (G168.room 24)) x186 && true)) <|
  bS (e.ev.cl 70 [x186, (.bool true)] G177) fun x188 G187 =>
  chk ((sameO (ld Q q 42 x181 G187) x182 && true)) <|
  bS (e.ev.cl 68 [a1_, x178, x182, x188] G187) fun x190 G189 =>
  ifV x190 (
  bP (pNil a0_) fun x191 =>
  bP (fa Q q 48 0 0 x191) fun x192 =>
  bP (fa Q q 46 1 13 x192) fun x193 =>
  bP (fa Q q 40 1 1 x193) fun x194 =>
  bP (st Q q 4 1 x194 (.bool true) G189) fun G195 =>
  bP (pNil a0_) fun x196 =>
  bP (fa Q q 48 0 0 x196) fun x197 =>
  bP (fa Q q 46 2 17 x197) fun x198 =>
  bP (st Q q 3 1 x198 (.int .i64 9) G195) fun G199 =>
  some ((.exit 0), clq q 162 (tu τ [(0, a0_), (1, a1_), (13, a0_), (14, x0), (15, x1), (16, x2), (17, x3), (18, x4), (19, x4), (20, x9), (21, x9), (22, x14), (23, x14), (24, x130), (25, x19), (26, x130), (28, x133), (29, x133), (30, x156), (31, x156), (67, a0_), (68, a0_), (69, a0_), (70, x157), (71, x158), (72, x159), (73, x160), (74, x161), (75, x162), (76, x163), (77, x165), (78, x166), (79, x167), (80, a1_), (81, a0_), (82, x169), (83, x170), (84, x171), (85, x172), (86, a0_), (87, x173), (88, x174), (89, x175), (90, x176), (91, x178), (92, a0_), (93, x179), (94, x180), (95, x181), (96, x182), (97, a0_), (98, x183), (99, x184), (100, x185), (101, x186), (102, x188), (103, x190), (104, a0_), (105, a0_), (106, x191), (107, x192), (108, x193), (109, x194), (110, x196), (111, x197), (112, x198)]), G199)) (
  some ((.exit 0), clq q 162 (tu τ [(0, a0_), (1, a1_), (13, a0_), (14, x0), (15, x1), (16, x2), (17, x3), (18, x4), (19, x4), (20, x9), (21, x9), (22, x14), (23, x14), (24, x130), (25, x19), (26, x130), (28, x133), (29, x133), (30, x156), (31, x156), (67, a0_), (68, a0_), (69, a0_), (70, x157), (71, x158), (72, x159), (73, x160), (74, x161), (75, x162), (76, x163), (77, x165), (78, x166), (79, x167), (80, a1_), (81, a0_), (82, x169), (83, x170), (84, x171), (85, x172), (86, a0_), (87, x173), (88, x174), (89, x175), (90, x176), (91, x178), (92, a0_), (93, x179), (94, x180), (95, x181), (96, x182), (97, a0_), (98, x183), (99, x184), (100, x185), (101, x186), (102, x188), (103, x190)]), G189))) (
  bP (bn Q q .eql 3 (.tmp 17) (.const (.int .i64 9)) x3 (.int .i64 9)) fun x200 =>
  ifV x200 (
  bP (pNil a0_) fun x201 =>
  bP (fa Q q 48 0 0 x201) fun x202 =>
  bS (e.ev.cl 66 [x202, a1_, (.int .i64 0)] G) fun x203 G204 =>
  bP (pNil a0_) fun x205 =>
  bP (fa Q q 48 0 0 x205) fun x206 =>
  bP (fa Q q 46 6 21 x206) fun x207 =>
  bP (fa Q q 44 0 0 x207) fun x208 =>
  bP (st Q q 41 1 x208 x203 G204) fun G209 =>
  bP (pNil a0_) fun x210 =>
  bP (fa Q q 48 0 0 x210) fun x211 =>
  bP (fa Q q 46 2 17 x211) fun x212 =>
  bP (st Q q 3 1 x212 (.int .i64 91) G209) fun G213 =>
  some ((.exit 0), clq q 162 (tu τ [(0, a0_), (1, a1_), (13, a0_), (14, x0), (15, x1), (16, x2), (17, x3), (18, x4), (19, x4), (20, x9), (21, x9), (22, x14), (23, x14), (24, x130), (25, x19), (26, x130), (28, x133), (29, x133), (30, x156), (31, x156), (32, x200), (33, x200), (113, a0_), (114, a0_), (115, a0_), (116, x201), (117, x202), (118, a1_), (119, x203), (120, x205), (121, x206), (122, x207), (123, x208), (124, x210), (125, x211), (126, x212)]), G213)) (
  bP (bn Q q .eql 3 (.tmp 17) (.const (.int .i64 91)) x3 (.int .i64 91)) fun x214 =>
  ifV x214 (
  bP (pNil a0_) fun x215 =>
  bP (fa Q q 48 0 0 x215) fun x216 =>
  bS (e.ev.cl 71 [x216, a1_] G) fun x217 G218 =>
  bP (pNil a0_) fun x219 =>
  bP (fa Q q 48 0 0 x219) fun x220 =>
  bP (fa Q q 46 0 0 x220) fun x221 =>
  bP (lda Q q 31 13 x221 (G218.room 23)) fun x222 =>
  bP (pNil a0_) fun x223 =>
  bP (fa Q q 48 0 0 x223) fun x224 =>
  bP (fa Q q 46 6 21 x224) fun x225 =>
  bP (fa Q q 44 0 0 x225) fun x226 =>
  bP (ld Q q 41 x226 (G218.room 23)) fun x227 =>
  bS (e.ev.cl 72 [x222, x227] (G218.room 23)) fun x229 G228 =>
  bP (pNil a0_) fun x230 =>
  bP (fa Q q 48 0 0 x230) fun x231 =>
  bP (fa Q q 46 1 13 x231) fun x232 =>
  bP (fa Q q 40 2 2 x232) fun x233 =>
  bP (st Q q 37 1 x233 x229 G228) fun G234 =>
  bP (pNil a0_) fun x235 =>
  bP (fa Q q 48 0 0 x235) fun x236 =>
  bP (fa Q q 46 2 17 x236) fun x237 =>
  bP (st Q q 3 1 x237 (.int .i64 10) G234) fun G238 =>
  some ((.exit 0), clq q 162 (tu τ [(0, a0_), (1, a1_), (13, a0_), (14, x0), (15, x1), (16, x2), (17, x3), (18, x4), (19, x4), (20, x9), (21, x9), (22, x14), (23, x14), (24, x130), (25, x19), (26, x130), (28, x133), (29, x133), (30, x156), (31, x156), (32, x200), (33, x200), (34, x214), (35, x214), (127, a0_), (128, x215), (129, x216), (130, a1_), (131, x217), (132, a0_), (133, a0_), (134, a0_), (135, x219), (136, x220), (137, x221), (138, x222), (139, a0_), (140, x223), (141, x224), (142, x225), (143, x226), (144, x227), (145, x229), (146, x230), (147, x231), (148, x232), (149, x233), (150, x235), (151, x236), (152, x237)]), G238)) (
  bS (e.ev.cl 73 [a0_, a1_] G) fun x239 G240 =>
  some ((.exit 0), clq q 162 (tu τ [(0, a0_), (1, a1_), (13, a0_), (14, x0), (15, x1), (16, x2), (17, x3), (18, x4), (19, x4), (20, x9), (21, x9), (22, x14), (23, x14), (24, x130), (25, x19), (26, x130), (28, x133), (29, x133), (30, x156), (31, x156), (32, x200), (33, x200), (34, x214), (35, x214), (153, a0_), (154, a1_), (155, x239)]), G240))))))) (
  bP (bn Q q .eql 3 (.tmp 17) (.const (.int .i64 6)) x3 (.int .i64 6)) fun x241 =>
  ifV x241 (
  bS (e.ev.cl 65 [a0_, a1_] G) fun x242 G243 =>
  some ((.exit 0), clq q 162 (tu τ [(0, a0_), (1, a1_), (13, a0_), (14, x0), (15, x1), (16, x2), (17, x3), (18, x4), (19, x4), (20, x9), (21, x9), (22, x14), (23, x14), (24, x241), (25, x19), (26, x130), (27, x241), (41, a0_), (42, a1_), (43, x242)]), G243)) (
  bP (bn Q q .eql 3 (.tmp 17) (.const (.int .i64 7)) x3 (.int .i64 7)) fun x244 =>
  ifV x244 (
  bP (pNil a0_) fun x245 =>
  bP (fa Q q 48 0 0 x245) fun x246 =>
  bS (e.ev.cl 66 [x246, a1_, (.int .i64 4)] G) fun x247 G248 =>
  bP (pNil a0_) fun x249 =>
  bP (fa Q q 48 0 0 x249) fun x250 =>
  bP (fa Q q 46 5 20 x250) fun x251 =>
  bP (st Q q 42 1 x251 x247 G248) fun G252 =>
  bP (pNil a0_) fun x253 =>
  bP (fa Q q 48 0 0 x253) fun x254 =>
  bP (fa Q q 46 2 17 x254) fun x255 =>
  bP (st Q q 3 1 x255 (.int .i64 8) G252) fun G256 =>
  bP (pNil a0_) fun x257 =>
  bP (fa Q q 48 0 0 x257) fun x258 =>
  bP (fa Q q 46 5 20 x258) fun x259 =>
  bP (ld Q q 42 x259 G256) fun x260 =>
  bS (e.ev.cl 67 [x260] G256) fun x261 G262 =>
  ifV x261 (
  bP (pNil a0_) fun x263 =>
  bP (fa Q q 48 0 0 x263) fun x264 =>
  bP (fa Q q 46 2 17 x264) fun x265 =>
  bP (st Q q 3 1 x265 (.int .i64 3) G262) fun G266 =>
  some ((.exit 0), clq q 162 (tu τ [(0, a0_), (1, a1_), (13, a0_), (14, x0), (15, x1), (16, x2), (17, x3), (18, x4), (19, x4), (20, x9), (21, x9), (22, x14), (23, x14), (24, x241), (25, x19), (26, x130), (27, x241), (28, x244), (29, x244), (44, a0_), (45, a0_), (46, x245), (47, x246), (48, a1_), (49, x247), (50, x249), (51, x250), (52, x251), (53, a0_), (54, x253), (55, x254), (56, x255), (57, a0_), (58, x257), (59, x258), (60, x259), (61, x260), (62, x261), (63, a0_), (64, x263), (65, x264), (66, x265)]), G266)) (
  some ((.exit 0), clq q 162 (tu τ [(0, a0_), (1, a1_), (13, a0_), (14, x0), (15, x1), (16, x2), (17, x3), (18, x4), (19, x4), (20, x9), (21, x9), (22, x14), (23, x14), (24, x241), (25, x19), (26, x130), (27, x241), (28, x244), (29, x244), (44, a0_), (45, a0_), (46, x245), (47, x246), (48, a1_), (49, x247), (50, x249), (51, x250), (52, x251), (53, a0_), (54, x253), (55, x254), (56, x255), (57, a0_), (58, x257), (59, x258), (60, x259), (61, x260), (62, x261)]), G262))) (
  bP (bn Q q .eql 3 (.tmp 17) (.const (.int .i64 8)) x3 (.int .i64 8)) fun x267 =>
  ifV x267 (
  bP (pNil a0_) fun x268 =>
  bP (fa Q q 48 0 0 x268) fun x269 =>
  bP (fa Q q 46 3 18 x269) fun x270 =>
  bP (ld Q q 41 x270 G) fun x271 =>
  bP (pNil a0_) fun x272 =>
  bP (fa Q q 48 0 0 x272) fun x273 =>
  bP (fa Q q 46 7 23 x273) fun x274 =>
  bP (st Q q 41 1 x274 x271 G) fun G275 =>
  bP (pNil a0_) fun x276 =>
  bP (fa Q q 48 0 0 x276) fun x277 =>
  bP (fa Q q 46 2 17 x277) fun x278 =>
  bP (st Q q 3 1 x278 (.int .i64 7) G275) fun G279 =>
  bP (pNil a0_) fun x280 =>
  bP (fa Q q 48 0 0 x280) fun x281 =>
  bP (fa Q q 46 0 0 x281) fun x282 =>
  bP (lda Q q 31 13 x282 (G279.room 24)) fun x283 =>
  bP (pNil a0_) fun x284 =>
  bP (fa Q q 48 0 0 x284) fun x285 =>
  bP (fa Q q 46 4 19 x285) fun x286 =>
  bP (ld Q q 3 x286 (G279.room 24)) fun x287 =>
  bS (e.ev.cl 69 [x283, x287, (.int .i64 0)] (G279.room 24)) fun x289 G288 =>
  bP (pNil a0_) fun x290 =>
  bP (fa Q q 48 0 0 x290) fun x291 =>
  bP (fa Q q 46 5 20 x291) fun x292 =>
  bP (ld Q q 42 x292 G288) fun x293 =>
  chk ((sameO (ld Q q 42 x292 (G279.room 24)) x293 && true)) <|
  bP (pNil a0_) fun x294 =>
  bP (fa Q q 48 0 0 x294) fun x295 =>
  bP (fa Q q 46 5 20 x295) fun x296 =>
  bP (ld Q q 42 x296 G288) fun x297 =>
  chk ((sameO (ld Q q 42 x296 (G279.room 24)) x297 && true)) <|
  bS (e.ev.cl 70 [x297, (.bool true)] G288) fun x299 G298 =>
  chk ((sameO (ld Q q 42 x292 G298) x293 && true)) <|
  bS (e.ev.cl 68 [a1_, x289, x293, x299] G298) fun x301 G300 =>
  ifV x301 (
  bP (pNil a0_) fun x302 =>
  bP (fa Q q 48 0 0 x302) fun x303 =>
  bP (fa Q q 46 1 13 x303) fun x304 =>
  bP (fa Q q 40 1 1 x304) fun x305 =>
  bP (st Q q 4 1 x305 (.bool true) G300) fun G306 =>
  bP (pNil a0_) fun x307 =>
  bP (fa Q q 48 0 0 x307) fun x308 =>
  bP (fa Q q 46 2 17 x308) fun x309 =>
  bP (st Q q 3 1 x309 (.int .i64 9) G306) fun G310 =>
  some ((.exit 0), clq q 162 (tu τ [(0, a0_), (1, a1_), (13, a0_), (14, x0), (15, x1), (16, x2), (17, x3), (18, x4), (19, x4), (20, x9), (21, x9), (22, x14), (23, x14), (24, x241), (25, x19), (26, x130), (27, x241), (28, x244), (29, x244), (30, x267), (31, x267), (67, a0_), (68, a0_), (69, a0_), (70, x268), (71, x269), (72, x270), (73, x271), (74, x272), (75, x273), (76, x274), (77, x276), (78, x277), (79, x278), (80, a1_), (81, a0_), (82, x280), (83, x281), (84, x282), (85, x283), (86, a0_), (87, x284), (88, x285), (89, x286), (90, x287), (91, x289), (92, a0_), (93, x290), (94, x291), (95, x292), (96, x293), (97, a0_), (98, x294), (99, x295), (100, x296), (101, x297), (102, x299), (103, x301), (104, a0_), (105, a0_), (106, x302), (107, x303), (108, x304), (109, x305), (110, x307), (111, x308), (112, x309)]), G310)) (
  some ((.exit 0), clq q 162 (tu τ [(0, a0_), (1, a1_), (13, a0_), (14, x0), (15, x1), (16, x2), (17, x3), (18, x4), (19, x4), (20, x9), (21, x9), (22, x14), (23, x14), (24, x241), (25, x19), (26, x130), (27, x241), (28, x244), (29, x244), (30, x267), (31, x267), (67, a0_), (68, a0_), (69, a0_), (70, x268), (71, x269), (72, x270), (73, x271), (74, x272), (75, x273), (76, x274), (77, x276), (78, x277), (79, x278), (80, a1_), (81, a0_), (82, x280), (83, x281), (84, x282), (85, x283), (86, a0_), (87, x284), (88, x285), (89, x286), (90, x287), (91, x289), (92, a0_), (93, x290), (94, x291), (95, x292), (96, x293), (97, a0_), (98, x294), (99, x295), (100, x296), (101, x297), (102, x299), (103, x301)]), G300))) (
  bP (bn Q q .eql 3 (.tmp 17) (.const (.int .i64 9)) x3 (.int .i64 9)) fun x311 =>
  ifV x311 (
  bP (pNil a0_) fun x312 =>
  bP (fa Q q 48 0 0 x312) fun x313 =>
  bS (e.ev.cl 66 [x313, a1_, (.int .i64 0)] G) fun x314 G315 =>
  bP (pNil a0_) fun x316 =>
  bP (fa Q q 48 0 0 x316) fun x317 =>
  bP (fa Q q 46 6 21 x317) fun x318 =>
  bP (fa Q q 44 0 0 x318) fun x319 =>
  bP (st Q q 41 1 x319 x314 G315) fun G320 =>
  bP (pNil a0_) fun x321 =>
  bP (fa Q q 48 0 0 x321) fun x322 =>
  bP (fa Q q 46 2 17 x322) fun x323 =>
  bP (st Q q 3 1 x323 (.int .i64 91) G320) fun G324 =>
  some ((.exit 0), clq q 162 (tu τ [(0, a0_), (1, a1_), (13, a0_), (14, x0), (15, x1), (16, x2), (17, x3), (18, x4), (19, x4), (20, x9), (21, x9), (22, x14), (23, x14), (24, x241), (25, x19), (26, x130), (27, x241), (28, x244), (29, x244), (30, x267), (31, x267), (32, x311), (33, x311), (113, a0_), (114, a0_), (115, a0_), (116, x312), (117, x313), (118, a1_), (119, x314), (120, x316), (121, x317), (122, x318), (123, x319), (124, x321), (125, x322), (126, x323)]), G324)) (
  bP (bn Q q .eql 3 (.tmp 17) (.const (.int .i64 91)) x3 (.int .i64 91)) fun x325 =>
  ifV x325 (
  bP (pNil a0_) fun x326 =>
  bP (fa Q q 48 0 0 x326) fun x327 =>
  bS (e.ev.cl 71 [x327, a1_] G) fun x328 G329 =>
  bP (pNil a0_) fun x330 =>
  bP (fa Q q 48 0 0 x330) fun x331 =>
  bP (fa Q q 46 0 0 x331) fun x332 =>
  bP (lda Q q 31 13 x332 (G329.room 23)) fun x333 =>
  bP (pNil a0_) fun x334 =>
  bP (fa Q q 48 0 0 x334) fun x335 =>
  bP (fa Q q 46 6 21 x335) fun x336 =>
  bP (fa Q q 44 0 0 x336) fun x337 =>
  bP (ld Q q 41 x337 (G329.room 23)) fun x338 =>
  bS (e.ev.cl 72 [x333, x338] (G329.room 23)) fun x340 G339 =>
  bP (pNil a0_) fun x341 =>
  bP (fa Q q 48 0 0 x341) fun x342 =>
  bP (fa Q q 46 1 13 x342) fun x343 =>
  bP (fa Q q 40 2 2 x343) fun x344 =>
  bP (st Q q 37 1 x344 x340 G339) fun G345 =>
  bP (pNil a0_) fun x346 =>
  bP (fa Q q 48 0 0 x346) fun x347 =>
  bP (fa Q q 46 2 17 x347) fun x348 =>
  bP (st Q q 3 1 x348 (.int .i64 10) G345) fun G349 =>
  some ((.exit 0), clq q 162 (tu τ [(0, a0_), (1, a1_), (13, a0_), (14, x0), (15, x1), (16, x2), (17, x3), (18, x4), (19, x4), (20, x9), (21, x9), (22, x14), (23, x14), (24, x241), (25, x19), (26, x130), (27, x241), (28, x244), (29, x244), (30, x267), (31, x267), (32, x311), (33, x311), (34, x325), (35, x325), (127, a0_), (128, x326), (129, x327), (130, a1_), (131, x328), (132, a0_), (133, a0_), (134, a0_), (135, x330), (136, x331), (137, x332), (138, x333), (139, a0_), (140, x334), (141, x335), (142, x336), (143, x337), (144, x338), (145, x340), (146, x341), (147, x342), (148, x343), (149, x344), (150, x346), (151, x347), (152, x348)]), G349)) (
  bS (e.ev.cl 73 [a0_, a1_] G) fun x350 G351 =>
  some ((.exit 0), clq q 162 (tu τ [(0, a0_), (1, a1_), (13, a0_), (14, x0), (15, x1), (16, x2), (17, x3), (18, x4), (19, x4), (20, x9), (21, x9), (22, x14), (23, x14), (24, x241), (25, x19), (26, x130), (27, x241), (28, x244), (29, x244), (30, x267), (31, x267), (32, x311), (33, x311), (34, x325), (35, x325), (153, a0_), (154, a1_), (155, x350)]), G351)))))))))))
theorem mb12_0 {e : Ex} {E : Ev} (h : ExLe Q e E) {lp lp' : Env → GS → Option (Exit × Env × GS)} (hlp : LpLe lp lp') (τ : Env) (G : GS) : Ref (b12_0 true e lp τ G) (b12_0 false (Ex.of E) lp' τ G) := by
  unfold b12_0
  exact Ref.go
set_option maxHeartbeats 8000000 in
theorem l12_0 {orc : FuncId → Bool} {e : Ex} (h : ExLe Q e (E orc)) (lp : Env → GS → Option (Exit × Env × GS)) (hlp : ∀ τ G, Ref (lp τ G) (mapE ((E orc).lp (subAt [1, 0, 1, 1, 0, 0, 0] (bodyOf Tryz.f12)) (lst 162 τ) G))) (T : List Value) (G : GS) (hT : T.length = 162) : Ref (b12_0 true e lp (nth undef T) G) (mapE ((E orc).lp (subAt [1, 0, 1, 1, 0, 0, 0] (bodyOf Tryz.f12)) T G)) :=
  fun r hr => lp_sxM Q orc G hT (by kernel_rfl) (mb12_0 h ⟨hlp⟩ _ _ r hr)
/-- (*coxswain/claim.Claim).Step -/
noncomputable def s12 (q : Bool) (e : Ex) (v0 v1 : Value) (G : GS) : Option (Value × GS) :=
  bP (ep Q q false 36 (.tmp 5) (.const (.pointer none)) v0 (.pointer none)) fun x0 =>
  bS (gd x0 false (some (v0, G)) G) fun x1 G2 =>
  bS (gd x0 false (bP (pNil x1) fun y => some (y, G2)) G2) fun x3 G4 =>
  bS (gd x0 false (bP (fa Q q 48 0 0 x3) fun y => some (y, G4)) G4) fun x5 G6 =>
  bS (gd x0 false (bS (e.ev.cl 63 [x5] G6) fun y G => some (y, G)) G6) fun x7 G8 =>
  bP (pickV x0 (.bool true) x7) fun x9 =>
  ifV x9 (
  some ((.bool true), G8)) (
  bL q e 12 0 (subAt [1, 0, 1, 1, 0, 0, 0] (bodyOf Tryz.f12)) 162 (tu (nth undef [v0, v1]) [(4, (.bool false)), (5, v0), (6, x0), (7, x0), (8, x1), (9, x3), (10, x5), (11, x7), (12, x9)]) G8 fun e10 t11 G12 =>
  bV q (t11 0) fun t11x0_ =>
  ifE e10 (.exit 0) (
  bP (pNil t11x0_) fun x13 =>
  bP (fa Q q 48 0 0 x13) fun x14 =>
  bP (fa Q q 46 2 17 x14) fun x15 =>
  bP (ld Q q 3 x15 G12) fun x16 =>
  bP (bn Q q .eql 3 (.tmp 160) (.const (.int .i64 99)) x16 (.int .i64 99)) fun x17 =>
  some (x17, G12)) (none))
theorem m12 {e : Ex} {E : Ev} (h : ExLe Q e E) (v0 v1 : Value) (G : GS) : Ref (s12 true e v0 v1 G) (s12 false (Ex.of E) v0 v1 G) := by
  unfold s12
  exact Ref.go
set_option maxHeartbeats 8000000 in
theorem f12 {orc : FuncId → Bool} {e : Ex} (h : ExLe Q e (E orc)) (v0 v1 : Value) (G : GS) : Ref (s12 true e v0 v1 G) ((E orc).cl 12 [v0, v1] G) :=
  fun r hr => cl_sxE_some Q orc (vs := [v0, v1]) G Tryz.func12 (by kernel_rfl) (by kernel_rfl) (by kernel_rfl) (by kernel_rfl) (by kernel_rfl) (by kernel_rfl) (m12 h v0 v1 G r hr)
/-- (*coxswain/claim.Peek).Step -/
noncomputable def s13 (q : Bool) (e : Ex) (v0 v1 : Value) (G : GS) : Option (Value × GS) :=
  bP (ep Q q false 50 (.tmp 5) (.const (.pointer none)) v0 (.pointer none)) fun x0 =>
  bS (gd x0 false (some (v0, G)) G) fun x1 G2 =>
  bS (gd x0 false (bP (pNil x1) fun y => some (y, G2)) G2) fun x3 G4 =>
  bS (gd x0 false (bP (fa Q q 55 0 0 x3) fun y => some (y, G4)) G4) fun x5 G6 =>
  bS (gd x0 false (bS (e.ev.cl 74 [x5] G6) fun y G => some (y, G)) G6) fun x7 G8 =>
  bP (pickV x0 (.bool true) x7) fun x9 =>
  ifV x9 (
  some ((.bool true), G8)) (
  bP (pNil v0) fun x10 =>
  bP (fa Q q 55 0 0 x10) fun x11 =>
  bP (fa Q q 53 2 13 x11) fun x12 =>
  bP (ld Q q 3 x12 G8) fun x13 =>
  bP (bn Q q .eql 3 (.tmp 17) (.const (.int .i64 4)) x13 (.int .i64 4)) fun x14 =>
  ifV x14 (
  bP (pNil v0) fun x15 =>
  bP (fa Q q 55 0 0 x15) fun x16 =>
  bS (e.ev.cl 76 [x16, v1, (.int .i64 0)] G8) fun x17 G18 =>
  bP (pNil v0) fun x19 =>
  bP (fa Q q 55 0 0 x19) fun x20 =>
  bP (fa Q q 53 6 17 x20) fun x21 =>
  bP (fa Q q 44 0 0 x21) fun x22 =>
  bP (st Q q 41 1 x22 x17 G18) fun G23 =>
  bP (pNil v0) fun x24 =>
  bP (fa Q q 55 0 0 x24) fun x25 =>
  bP (fa Q q 53 2 13 x25) fun x26 =>
  bP (st Q q 3 1 x26 (.int .i64 5) G23) fun G27 =>
  bP (pNil v0) fun x28 =>
  bP (fa Q q 55 0 0 x28) fun x29 =>
  bP (fa Q q 53 2 13 x29) fun x30 =>
  bP (ld Q q 3 x30 G27) fun x31 =>
  bP (bn Q q .eql 3 (.tmp 54) (.const (.int .i64 99)) x31 (.int .i64 99)) fun x32 =>
  some (x32, G27)) (
  bP (bn Q q .eql 3 (.tmp 17) (.const (.int .i64 5)) x13 (.int .i64 5)) fun x33 =>
  ifV x33 (
  bP (pNil v0) fun x34 =>
  bP (fa Q q 55 0 0 x34) fun x35 =>
  bS (e.ev.cl 77 [x35, v1] G8) fun x36 G37 =>
  bP (pNil v0) fun x38 =>
  bP (fa Q q 55 0 0 x38) fun x39 =>
  bP (fa Q q 53 2 13 x39) fun x40 =>
  bP (st Q q 3 1 x40 (.int .i64 99) G37) fun G41 =>
  bP (pNil v0) fun x42 =>
  bP (fa Q q 55 0 0 x42) fun x43 =>
  bP (fa Q q 53 2 13 x43) fun x44 =>
  bP (ld Q q 3 x44 G41) fun x45 =>
  bP (bn Q q .eql 3 (.tmp 54) (.const (.int .i64 99)) x45 (.int .i64 99)) fun x46 =>
  some (x46, G41)) (
  bP (pNil v0) fun x47 =>
  bP (fa Q q 55 0 0 x47) fun x48 =>
  bS (e.ev.cl 75 [x48, v1] G8) fun x49 G50 =>
  bP (pNil v0) fun x51 =>
  bP (fa Q q 55 0 0 x51) fun x52 =>
  bP (fa Q q 53 2 13 x52) fun x53 =>
  bP (ld Q q 3 x53 G50) fun x54 =>
  bP (bn Q q .eql 3 (.tmp 54) (.const (.int .i64 99)) x54 (.int .i64 99)) fun x55 =>
  some (x55, G50))))
theorem m13 {e : Ex} {E : Ev} (h : ExLe Q e E) (v0 v1 : Value) (G : GS) : Ref (s13 true e v0 v1 G) (s13 false (Ex.of E) v0 v1 G) := by
  unfold s13
  exact Ref.go
theorem f13 {orc : FuncId → Bool} {e : Ex} (h : ExLe Q e (E orc)) (v0 v1 : Value) (G : GS) : Ref (s13 true e v0 v1 G) ((E orc).cl 13 [v0, v1] G) :=
  fun r hr => cl_sxE_some Q orc (vs := [v0, v1]) G Tryz.func13 (by kernel_rfl) (by kernel_rfl) (by kernel_rfl) (by kernel_rfl) (by kernel_rfl) (by kernel_rfl) (m13 h v0 v1 G r hr)
/-- (*coxswain/claim.Claim).By -/
noncomputable def s16 (q : Bool) (e : Ex) (v0 : Value) (G : GS) : Option (Value × GS) :=
  bP (ep Q q false 36 (.tmp 3) (.const (.pointer none)) v0 (.pointer none)) fun x0 =>
  ifV x0 (
  some ((.int .u64 0), G)) (
  bP (pNil v0) fun x1 =>
  bP (fa Q q 48 0 0 x1) fun x2 =>
  bP (fa Q q 46 7 23 x2) fun x3 =>
  bP (ld Q q 41 x3 G) fun x4 =>
  some (x4, G))
theorem m16 {e : Ex} {E : Ev} (h : ExLe Q e E) (v0 : Value) (G : GS) : Ref (s16 true e v0 G) (s16 false (Ex.of E) v0 G) := by
  unfold s16
  exact Ref.go
theorem f16 {orc : FuncId → Bool} {e : Ex} (h : ExLe Q e (E orc)) (v0 : Value) (G : GS) : Ref (s16 true e v0 G) ((E orc).cl 16 [v0] G) :=
  fun r hr => cl_sxE_some Q orc (vs := [v0]) G Tryz.func16 (by kernel_rfl) (by kernel_rfl) (by kernel_rfl) (by kernel_rfl) (by kernel_rfl) (by kernel_rfl) (m16 h v0 G r hr)
/-- (*coxswain/claim.Peek).By -/
noncomputable def s17 (q : Bool) (e : Ex) (v0 : Value) (G : GS) : Option (Value × GS) :=
  bP (ep Q q false 50 (.tmp 3) (.const (.pointer none)) v0 (.pointer none)) fun x0 =>
  ifV x0 (
  some ((.int .u64 0), G)) (
  bP (pNil v0) fun x1 =>
  bP (fa Q q 55 0 0 x1) fun x2 =>
  bP (fa Q q 53 7 19 x2) fun x3 =>
  bP (ld Q q 41 x3 G) fun x4 =>
  some (x4, G))
theorem m17 {e : Ex} {E : Ev} (h : ExLe Q e E) (v0 : Value) (G : GS) : Ref (s17 true e v0 G) (s17 false (Ex.of E) v0 G) := by
  unfold s17
  exact Ref.go
theorem f17 {orc : FuncId → Bool} {e : Ex} (h : ExLe Q e (E orc)) (v0 : Value) (G : GS) : Ref (s17 true e v0 G) ((E orc).cl 17 [v0] G) :=
  fun r hr => cl_sxE_some Q orc (vs := [v0]) G Tryz.func17 (by kernel_rfl) (by kernel_rfl) (by kernel_rfl) (by kernel_rfl) (by kernel_rfl) (by kernel_rfl) (m17 h v0 G r hr)
/-- coxswain/claim.NewClaim -/
noncomputable def s19 (q : Bool) (e : Ex) (v0 : Value) (G : GS) : Option (Value × GS) :=
  bS (bx q v0 G) fun x0 G1 =>
  bP (lda Q q 31 13 x0 G1) fun x2 =>
  bS (e.ev.cl 78 [x2] G1) fun x3 G4 =>
  bP (bd Q q 48 z48 [(0, 0, 26)] [x3]) fun x5 =>
  bS (bx q x5 G4) fun x6 G7 =>
  some (x6, G7)
theorem m19 {e : Ex} {E : Ev} (h : ExLe Q e E) (v0 : Value) (G : GS) : Ref (s19 true e v0 G) (s19 false (Ex.of E) v0 G) := by
  unfold s19
  exact Ref.go
theorem f19 {orc : FuncId → Bool} {e : Ex} (h : ExLe Q e (E orc)) (v0 : Value) (G : GS) : Ref (s19 true e v0 G) ((E orc).cl 19 [v0] G) :=
  fun r hr => cl_sxE_some Q orc (vs := [v0]) G Tryz.func19 (by kernel_rfl) (by kernel_rfl) (by kernel_rfl) (by kernel_rfl) (by kernel_rfl) (by kernel_rfl) (m19 h v0 G r hr)
/-- coxswain/claim.NewPeek -/
noncomputable def s20 (q : Bool) (e : Ex) (v0 : Value) (G : GS) : Option (Value × GS) :=
  bS (bx q v0 G) fun x0 G1 =>
  bP (lda Q q 31 13 x0 G1) fun x2 =>
  bS (e.ev.cl 79 [x2] G1) fun x3 G4 =>
  bP (bd Q q 55 z55 [(0, 0, 22)] [x3]) fun x5 =>
  bS (bx q x5 G4) fun x6 G7 =>
  some (x6, G7)
theorem m20 {e : Ex} {E : Ev} (h : ExLe Q e E) (v0 : Value) (G : GS) : Ref (s20 true e v0 G) (s20 false (Ex.of E) v0 G) := by
  unfold s20
  exact Ref.go
theorem f20 {orc : FuncId → Bool} {e : Ex} (h : ExLe Q e (E orc)) (v0 : Value) (G : GS) : Ref (s20 true e v0 G) ((E orc).cl 20 [v0] G) :=
  fun r hr => cl_sxE_some Q orc (vs := [v0]) G Tryz.func20 (by kernel_rfl) (by kernel_rfl) (by kernel_rfl) (by kernel_rfl) (by kernel_rfl) (by kernel_rfl) (m20 h v0 G r hr)
/-- (*coxswain/cells.Mem).Count -/
noncomputable def s21 (q : Bool) (e : Ex) (v0 : Value) (G : GS) : Option (Value × GS) :=
  bP (ep Q q false 32 (.tmp 3) (.const (.pointer none)) v0 (.pointer none)) fun x0 =>
  ifV x0 (
  some ((.int .i64 0), G)) (
  bP (pNil v0) fun x1 =>
  bP (fa Q q 158 3 7 x1) fun x2 =>
  bP (ld Q q 3 x2 G) fun x3 =>
  some (x3, G))
theorem m21 {e : Ex} {E : Ev} (h : ExLe Q e E) (v0 : Value) (G : GS) : Ref (s21 true e v0 G) (s21 false (Ex.of E) v0 G) := by
  unfold s21
  exact Ref.go
theorem f21 {orc : FuncId → Bool} {e : Ex} (h : ExLe Q e (E orc)) (v0 : Value) (G : GS) : Ref (s21 true e v0 G) ((E orc).cl 21 [v0] G) :=
  fun r hr => cl_sxE_some Q orc (vs := [v0]) G Tryz.func21 (by kernel_rfl) (by kernel_rfl) (by kernel_rfl) (by kernel_rfl) (by kernel_rfl) (by kernel_rfl) (m21 h v0 G r hr)
/-- coxswain/coxswainlaw19.awake -/
noncomputable def s32 (q : Bool) (e : Ex) (G : GS) : Option (Value × GS) :=
  bS (e.ev.cl 127 [] G) fun x0 G1 =>
  bS (al Q q 31 z31 G1) fun x2 G3 =>
  bP (st Q q 31 13 x2 x0 G3) fun G4 =>
  bS (e.ev.cl 128 [] G4) fun x5 G6 =>
  bP (ep Q q false 32 (.tmp 7) (.const (.pointer none)) x5 (.pointer none)) fun x7 =>
  ifV x7 (
  some ((.bool false), G6)) (
  bP (lda Q q 31 13 x2 G6) fun x8 =>
  bS (e.ev.cl 129 [x8, x5, (.int .i64 0)] G6) fun x9 G10 =>
  bP (pExtract x9 0) fun x11 =>
  bP (pExtract x9 1) fun x12 =>
  bS (al Q q 44 z44 G10) fun x13 G14 =>
  bP (st Q q 44 2 x13 x11 G14) fun G15 =>
  bP (bn Q q .eql 33 (.tmp 15) (.const (.int .i64 0)) x12 (.int .i64 0)) fun x16 =>
  bS (gd x16 true (bP (fa Q q 44 0 0 x13) fun y => some (y, G15)) G15) fun x17 G18 =>
  bS (gd x16 true (bP (ld Q q 41 x17 G18) fun y => some (y, G18)) G18) fun x19 G20 =>
  bS (gd x16 true (bP (bn Q q .eql 41 (.tmp 19) (.const (.int .u64 4)) x19 (.int .u64 4)) fun y => some (y, G20)) G20) fun x21 G22 =>
  bP (pickV x16 x21 (.bool false)) fun x23 =>
  bS (gd x23 true (bP (fa Q q 44 1 1 x13) fun y => some (y, G22)) G22) fun x24 G25 =>
  bS (gd x23 true (bP (ld Q q 3 x24 G25) fun y => some (y, G25)) G25) fun x26 G27 =>
  bS (gd x23 true (bP (bn Q q .eql 3 (.tmp 24) (.const (.int .i64 6)) x26 (.int .i64 6)) fun y => some (y, G27)) G27) fun x28 G29 =>
  bP (pickV x23 x28 (.bool false)) fun x30 =>
  bS (gd x30 true (bP (lda Q q 31 13 x2 G29) fun y => some (y, G29)) G29) fun x31 G32 =>
  bS (gd x30 true (some (x5, G32)) G32) fun x33 G34 =>
  bS (gd x30 true (bS (e.ev.cl 130 [x31, x33, (.int .u64 4), (.int .i64 6)] G34) fun y G => some (y, G)) G34) fun x35 G36 =>
  bP (pickV x30 x35 (.bool false)) fun x37 =>
  some (x37, G36))
theorem m32 {e : Ex} {E : Ev} (h : ExLe Q e E) (G : GS) : Ref (s32 true e  G) (s32 false (Ex.of E)  G) := by
  unfold s32
  exact Ref.go
theorem f32 {orc : FuncId → Bool} {e : Ex} (h : ExLe Q e (E orc)) (ho : orc 32 = false) (G : GS) : Ref (s32 true e  G) ((E orc).cl 32 [] G) :=
  fun r hr => cl_sxE_some Q orc (vs := []) G Tryz.func32 (by kernel_rfl) (by kernel_rfl) ho (by kernel_rfl) (by kernel_rfl) (by kernel_rfl) (m32 h  G r hr)
/-- (*coxswain/cells.Mem).Store -/
noncomputable def s45 (q : Bool) (e : Ex) (v0 v1 v2 : Value) (G : GS) : Option (Value × GS) :=
  bS (e.ev.cl 158 [v0, v1] G) fun x0 G1 =>
  bP (bd Q q 246 z246 [(0, 0, 1), (1, 1, 1)] [x0, v2]) fun x2 =>
  bS (al Q q 246 z246 G1) fun x3 G4 =>
  bP (st Q q 246 3 x3 x2 G4) fun G5 =>
  bP (fa Q q 246 0 0 x3) fun x6 =>
  bP (ld Q q 243 x6 G5) fun x7 =>
  bP (lda Q q 246 3 x3 G5) fun x8 =>
  bS (e.ev.cl 159 [v0, (.int .i64 2), v1, x7, (.func (.func 160) #[x8] #[])] G5) fun x9 G10 =>
  some (.tuple #[], G10)
theorem m45 {e : Ex} {E : Ev} (h : ExLe Q e E) (v0 v1 v2 : Value) (G : GS) : Ref (s45 true e v0 v1 v2 G) (s45 false (Ex.of E) v0 v1 v2 G) := by
  unfold s45
  exact Ref.go
theorem f45 {orc : FuncId → Bool} {e : Ex} (h : ExLe Q e (E orc)) (v0 v1 v2 : Value) (G : GS) : Ref (s45 true e v0 v1 v2 G) ((E orc).cl 45 [v0, v1, v2] G) :=
  fun r hr => cl_sxE_some Q orc (vs := [v0, v1, v2]) G Tryz.func45 (by kernel_rfl) (by kernel_rfl) (by kernel_rfl) (by kernel_rfl) (by kernel_rfl) (by kernel_rfl) (m45 h v0 v1 v2 G r hr)
/-- (*coxswain/claim.seeker[coxswain/claim.taking]).item -/
noncomputable def s61 (q : Bool) (e : Ex) (v0 : Value) (G : GS) : Option (Value × GS) :=
  bS (al Q q 44 z44 G) fun x0 G1 =>
  bP (pNil v0) fun x2 =>
  bP (fa Q q 46 8 24 x2) fun x3 =>
  bP (ld Q q 4 x3 G1) fun x4 =>
  bP (un Q q .not x4) fun x5 =>
  ifV x5 (
  bP (bd Q q 44 z44 [] []) fun x6 =>
  bP (st Q q 44 2 x0 x6 G1) fun G7 =>
  bP (lda Q q 44 2 x0 G7) fun x8 =>
  some (.tuple #[x8, (.int .i64 1)], G7)) (
  bP (pNil v0) fun x9 =>
  bP (fa Q q 46 2 17 x9) fun x10 =>
  bP (ld Q q 3 x10 G1) fun x11 =>
  bP (bn Q q .neq 3 (.tmp 15) (.const (.int .i64 99)) x11 (.int .i64 99)) fun x12 =>
  ifV x12 (
  bP (bd Q q 44 z44 [] []) fun x13 =>
  bP (st Q q 44 2 x0 x13 G1) fun G14 =>
  bP (lda Q q 44 2 x0 G14) fun x15 =>
  some (.tuple #[x15, (.int .i64 14)], G14)) (
  bP (pNil v0) fun x16 =>
  bP (fa Q q 46 9 25 x16) fun x17 =>
  bP (ld Q q 33 x17 G1) fun x18 =>
  bP (bn Q q .neq 33 (.tmp 22) (.const (.int .i64 0)) x18 (.int .i64 0)) fun x19 =>
  ifV x19 (
  bP (bd Q q 44 z44 [] []) fun x20 =>
  bP (pNil v0) fun x21 =>
  bP (fa Q q 46 9 25 x21) fun x22 =>
  bP (ld Q q 33 x22 (G1.room 7)) fun x23 =>
  bP (st Q q 44 2 x0 x20 (G1.room 7)) fun G24 =>
  chk ((sameO (ld Q q 33 x22 G24) x23 && true)) <|
  bP (lda Q q 44 2 x0 G24) fun x25 =>
  some (.tuple #[x25, x23], G24)) (
  bP (pNil v0) fun x26 =>
  bP (fa Q q 46 6 21 x26) fun x27 =>
  bP (lda Q q 44 2 x27 G1) fun x28 =>
  bP (st Q q 44 2 x0 x28 G1) fun G29 =>
  bP (lda Q q 44 2 x0 G29) fun x30 =>
  some (.tuple #[x30, (.int .i64 0)], G29))))
theorem m61 {e : Ex} {E : Ev} (h : ExLe Q e E) (v0 : Value) (G : GS) : Ref (s61 true e v0 G) (s61 false (Ex.of E) v0 G) := by
  unfold s61
  exact Ref.go
theorem f61 {orc : FuncId → Bool} {e : Ex} (h : ExLe Q e (E orc)) (v0 : Value) (G : GS) : Ref (s61 true e v0 G) ((E orc).cl 61 [v0] G) :=
  fun r hr => cl_sxE_some Q orc (vs := [v0]) G Tryz.func61 (by kernel_rfl) (by kernel_rfl) (by kernel_rfl) (by kernel_rfl) (by kernel_rfl) (by kernel_rfl) (m61 h v0 G r hr)
/-- (*coxswain/claim.seeker[struct{}]).item -/
noncomputable def s62 (q : Bool) (e : Ex) (v0 : Value) (G : GS) : Option (Value × GS) :=
  bS (al Q q 44 z44 G) fun x0 G1 =>
  bP (pNil v0) fun x2 =>
  bP (fa Q q 53 8 20 x2) fun x3 =>
  bP (ld Q q 4 x3 G1) fun x4 =>
  bP (un Q q .not x4) fun x5 =>
  ifV x5 (
  bP (bd Q q 44 z44 [] []) fun x6 =>
  bP (st Q q 44 2 x0 x6 G1) fun G7 =>
  bP (lda Q q 44 2 x0 G7) fun x8 =>
  some (.tuple #[x8, (.int .i64 1)], G7)) (
  bP (pNil v0) fun x9 =>
  bP (fa Q q 53 2 13 x9) fun x10 =>
  bP (ld Q q 3 x10 G1) fun x11 =>
  bP (bn Q q .neq 3 (.tmp 15) (.const (.int .i64 99)) x11 (.int .i64 99)) fun x12 =>
  ifV x12 (
  bP (bd Q q 44 z44 [] []) fun x13 =>
  bP (st Q q 44 2 x0 x13 G1) fun G14 =>
  bP (lda Q q 44 2 x0 G14) fun x15 =>
  some (.tuple #[x15, (.int .i64 14)], G14)) (
  bP (pNil v0) fun x16 =>
  bP (fa Q q 53 9 21 x16) fun x17 =>
  bP (ld Q q 33 x17 G1) fun x18 =>
  bP (bn Q q .neq 33 (.tmp 22) (.const (.int .i64 0)) x18 (.int .i64 0)) fun x19 =>
  ifV x19 (
  bP (bd Q q 44 z44 [] []) fun x20 =>
  bP (pNil v0) fun x21 =>
  bP (fa Q q 53 9 21 x21) fun x22 =>
  bP (ld Q q 33 x22 (G1.room 7)) fun x23 =>
  bP (st Q q 44 2 x0 x20 (G1.room 7)) fun G24 =>
  chk ((sameO (ld Q q 33 x22 G24) x23 && true)) <|
  bP (lda Q q 44 2 x0 G24) fun x25 =>
  some (.tuple #[x25, x23], G24)) (
  bP (pNil v0) fun x26 =>
  bP (fa Q q 53 6 17 x26) fun x27 =>
  bP (lda Q q 44 2 x27 G1) fun x28 =>
  bP (st Q q 44 2 x0 x28 G1) fun G29 =>
  bP (lda Q q 44 2 x0 G29) fun x30 =>
  some (.tuple #[x30, (.int .i64 0)], G29))))
theorem m62 {e : Ex} {E : Ev} (h : ExLe Q e E) (v0 : Value) (G : GS) : Ref (s62 true e v0 G) (s62 false (Ex.of E) v0 G) := by
  unfold s62
  exact Ref.go
theorem f62 {orc : FuncId → Bool} {e : Ex} (h : ExLe Q e (E orc)) (v0 : Value) (G : GS) : Ref (s62 true e v0 G) ((E orc).cl 62 [v0] G) :=
  fun r hr => cl_sxE_some Q orc (vs := [v0]) G Tryz.func62 (by kernel_rfl) (by kernel_rfl) (by kernel_rfl) (by kernel_rfl) (by kernel_rfl) (by kernel_rfl) (m62 h v0 G r hr)
/-- (*coxswain/claim.seeker[coxswain/claim.taking]).done -/
noncomputable def s63 (q : Bool) (e : Ex) (v0 : Value) (G : GS) : Option (Value × GS) :=
  bP (pNil v0) fun x0 =>
  bP (fa Q q 46 8 24 x0) fun x1 =>
  bP (ld Q q 4 x1 G) fun x2 =>
  bP (un Q q .not x2) fun x3 =>
  bS (gd x3 false (some (v0, G)) G) fun x4 G5 =>
  bS (gd x3 false (bP (pNil x4) fun y => some (y, G5)) G5) fun x6 G7 =>
  bS (gd x3 false (bP (fa Q q 46 2 17 x6) fun y => some (y, G7)) G7) fun x8 G9 =>
  bS (gd x3 false (bP (ld Q q 3 x8 G9) fun y => some (y, G9)) G9) fun x10 G11 =>
  bS (gd x3 false (bP (bn Q q .eql 3 (.tmp 12) (.const (.int .i64 99)) x10 (.int .i64 99)) fun y => some (y, G11)) G11) fun x12 G13 =>
  bP (pickV x3 (.bool true) x12) fun x14 =>
  some (x14, G13)
theorem m63 {e : Ex} {E : Ev} (h : ExLe Q e E) (v0 : Value) (G : GS) : Ref (s63 true e v0 G) (s63 false (Ex.of E) v0 G) := by
  unfold s63
  exact Ref.go
theorem f63 {orc : FuncId → Bool} {e : Ex} (h : ExLe Q e (E orc)) (v0 : Value) (G : GS) : Ref (s63 true e v0 G) ((E orc).cl 63 [v0] G) :=
  fun r hr => cl_sxE_some Q orc (vs := [v0]) G Tryz.func63 (by kernel_rfl) (by kernel_rfl) (by kernel_rfl) (by kernel_rfl) (by kernel_rfl) (by kernel_rfl) (m63 h v0 G r hr)
/-- (*coxswain/claim.seeker[coxswain/claim.taking]).first -/
noncomputable def s64 (q : Bool) (e : Ex) (v0 v1 : Value) (G : GS) : Option (Value × GS) :=
  bP (pNil v0) fun x0 =>
  bP (fa Q q 46 2 17 x0) fun x1 =>
  bP (ld Q q 3 x1 G) fun x2 =>
  bP (bn Q q .eql 3 (.tmp 9) (.const (.int .i64 1)) x2 (.int .i64 1)) fun x3 =>
  ifV x3 (
  bP (pNil v0) fun x4 =>
  bP (fa Q q 46 7 23 x4) fun x5 =>
  bP (st Q q 41 1 x5 (.int .u64 0) G) fun G6 =>
  bP (pNil v0) fun x7 =>
  bP (fa Q q 46 0 0 x7) fun x8 =>
  bP (lda Q q 31 13 x8 G6) fun x9 =>
  bS (e.ev.cl 69 [x9, (.int .i64 (-1)), (.int .i64 0)] G6) fun x10 G11 =>
  bS (e.ev.cl 177 [v1, x10] G11) fun x12 G13 =>
  bP (pNil v0) fun x14 =>
  bP (fa Q q 46 3 18 x14) fun x15 =>
  bP (st Q q 41 1 x15 x12 G13) fun G16 =>
  bP (pNil v0) fun x17 =>
  bP (fa Q q 46 3 18 x17) fun x18 =>
  bP (ld Q q 41 x18 G16) fun x19 =>
  bS (e.ev.cl 189 [x19] G16) fun x20 G21 =>
  bP (pExtract x20 0) fun x22 =>
  bP (pExtract x20 1) fun x23 =>
  bS (al Q q 274 z274 G21) fun x24 G25 =>
  bP (st Q q 274 2 x24 x22 G25) fun G26 =>
  bP (fa Q q 274 0 0 x24) fun x27 =>
  bP (ld Q q 3 x27 G26) fun x28 =>
  bP (pNil v0) fun x29 =>
  bP (fa Q q 46 4 19 x29) fun x30 =>
  bP (st Q q 3 1 x30 x28 G26) fun G31 =>
  bP (pNil v0) fun x32 =>
  bP (fa Q q 46 2 17 x32) fun x33 =>
  bP (st Q q 3 1 x33 (.int .i64 2) G31) fun G34 =>
  bP (pNil v0) fun x35 =>
  bP (fa Q q 46 4 19 x35) fun x36 =>
  bP (ld Q q 3 x36 (G34.room 20)) fun x37 =>
  bP (bn Q q .lss 3 (.tmp 44) (.const (.int .i64 0)) x37 (.int .i64 0)) fun x38 =>
  bS (gd x38 false (some (v0, (G34.room 20))) (G34.room 20)) fun x39 _ =>
  bS (gd x38 false (bP (pNil x39) fun y => some (y, (G34.room 20))) (G34.room 20)) fun x40 _ =>
  bS (gd x38 false (bP (fa Q q 46 4 19 x40) fun y => some (y, (G34.room 20))) (G34.room 20)) fun x41 _ =>
  bS (gd x38 false (bP (ld Q q 3 x41 (G34.room 20)) fun y => some (y, (G34.room 20))) (G34.room 20)) fun x42 _ =>
  bS (gd x38 false (some (v0, (G34.room 20))) (G34.room 20)) fun x43 _ =>
  bS (gd x38 false (bP (pNil x43) fun y => some (y, (G34.room 20))) (G34.room 20)) fun x44 _ =>
  bS (gd x38 false (bP (fa Q q 46 0 0 x44) fun y => some (y, (G34.room 20))) (G34.room 20)) fun x45 _ =>
  bS (gd x38 false (bP (fa Q q 31 3 3 x45) fun y => some (y, (G34.room 20))) (G34.room 20)) fun x46 _ =>
  bS (gd x38 false (bP (fa Q q 29 0 0 x46) fun y => some (y, (G34.room 20))) (G34.room 20)) fun x47 _ =>
  bS (gd x38 false (bP (fa Q q 25 0 0 x47) fun y => some (y, (G34.room 20))) (G34.room 20)) fun x48 _ =>
  bS (gd x38 false (bP (fa Q q 23 2 2 x48) fun y => some (y, (G34.room 20))) (G34.room 20)) fun x49 _ =>
  bS (gd x38 false (bP (ld Q q 3 x49 (G34.room 20)) fun y => some (y, (G34.room 20))) (G34.room 20)) fun x50 _ =>
  bS (gd x38 false (bP (bn Q q .geq 3 (.tmp 50) (.tmp 58) x42 x50) fun y => some (y, (G34.room 20))) (G34.room 20)) fun x51 _ =>
  bP (pickV x38 (.bool true) x51) fun x52 =>
  ifV x52 (
  bP (pNil v0) fun x53 =>
  bP (fa Q q 46 2 17 x53) fun x54 =>
  bP (st Q q 3 1 x54 (.int .i64 99) (G34.room 20)) fun G55 =>
  bP (pNil v0) fun x56 =>
  bP (fa Q q 46 9 25 x56) fun x57 =>
  bP (st Q q 33 1 x57 (.int .i64 15) G55) fun G58 =>
  some (.tuple #[], G58)) (
  some (.tuple #[], (G34.room 20)))) (
  bP (bn Q q .eql 3 (.tmp 9) (.const (.int .i64 2)) x2 (.int .i64 2)) fun x59 =>
  ifV x59 (
  bS (e.ev.cl 66 [v0, v1, (.int .i64 4)] G) fun x60 G61 =>
  bP (pNil v0) fun x62 =>
  bP (fa Q q 46 5 20 x62) fun x63 =>
  bP (st Q q 42 1 x63 x60 G61) fun G64 =>
  bP (pNil v0) fun x65 =>
  bP (fa Q q 46 2 17 x65) fun x66 =>
  bP (st Q q 3 1 x66 (.int .i64 4) G64) fun G67 =>
  bP (pNil v0) fun x68 =>
  bP (fa Q q 46 5 20 x68) fun x69 =>
  bP (ld Q q 42 x69 G67) fun x70 =>
  bS (e.ev.cl 67 [x70] G67) fun x71 G72 =>
  ifV x71 (
  bP (pNil v0) fun x73 =>
  bP (fa Q q 46 2 17 x73) fun x74 =>
  bP (st Q q 3 1 x74 (.int .i64 3) G72) fun G75 =>
  some (.tuple #[], G75)) (
  some (.tuple #[], G72))) (
  bP (bn Q q .eql 3 (.tmp 9) (.const (.int .i64 3)) x2 (.int .i64 3)) fun x76 =>
  ifV x76 (
  bP (pNil v0) fun x77 =>
  bP (fa Q q 46 7 23 x77) fun x78 =>
  bP (st Q q 41 1 x78 (.int .u64 0) G) fun G79 =>
  bP (pNil v0) fun x80 =>
  bP (fa Q q 46 0 0 x80) fun x81 =>
  bP (lda Q q 31 13 x81 (G79.room 16)) fun x82 =>
  bS (e.ev.cl 69 [x82, (.int .i64 (-1)), (.int .i64 0)] (G79.room 16)) fun x84 G83 =>
  bP (pNil v0) fun x85 =>
  bP (fa Q q 46 3 18 x85) fun x86 =>
  bP (ld Q q 41 x86 G83) fun x87 =>
  chk ((sameO (ld Q q 41 x86 (G79.room 16)) x87 && true)) <|
  bP (pNil v0) fun x88 =>
  bP (fa Q q 46 5 20 x88) fun x89 =>
  bP (ld Q q 42 x89 G83) fun x90 =>
  chk ((sameO (ld Q q 42 x89 (G79.room 16)) x90 && true)) <|
  bS (e.ev.cl 70 [x90, (.bool false)] G83) fun x92 G91 =>
  chk ((sameO (ld Q q 41 x86 G91) x87 && true)) <|
  bS (e.ev.cl 68 [v1, x84, x87, x92] G91) fun x94 G93 =>
  bP (pNil v0) fun x95 =>
  bP (fa Q q 46 2 17 x95) fun x96 =>
  bP (st Q q 3 1 x96 (.int .i64 1) G93) fun G97 =>
  some (.tuple #[], G97)) (
  some (.tuple #[], G))))
theorem m64 {e : Ex} {E : Ev} (h : ExLe Q e E) (v0 v1 : Value) (G : GS) : Ref (s64 true e v0 v1 G) (s64 false (Ex.of E) v0 v1 G) := by
  unfold s64
  exact Ref.go
set_option maxHeartbeats 8000000 in
theorem f64 {orc : FuncId → Bool} {e : Ex} (h : ExLe Q e (E orc)) (v0 v1 : Value) (G : GS) : Ref (s64 true e v0 v1 G) ((E orc).cl 64 [v0, v1] G) :=
  fun r hr => cl_sxE_some Q orc (vs := [v0, v1]) G Tryz.func64 (by kernel_rfl) (by kernel_rfl) (by kernel_rfl) (by kernel_rfl) (by kernel_rfl) (by kernel_rfl) (m64 h v0 v1 G r hr)
/-- (*coxswain/claim.Claim).mark -/
noncomputable def s65 (q : Bool) (e : Ex) (v0 v1 : Value) (G : GS) : Option (Value × GS) :=
  bP (pNil v0) fun x0 =>
  bP (fa Q q 48 0 0 x0) fun x1 =>
  bP (fa Q q 46 2 17 x1) fun x2 =>
  bP (ld Q q 3 x2 G) fun x3 =>
  bP (bn Q q .eql 3 (.tmp 9) (.const (.int .i64 4)) x3 (.int .i64 4)) fun x4 =>
  ifV x4 (
  bP (pNil v0) fun x5 =>
  bP (fa Q q 48 0 0 x5) fun x6 =>
  bP (fa Q q 46 0 0 x6) fun x7 =>
  bP (fa Q q 31 2 2 x7) fun x8 =>
  bP (ld Q q 3 x8 G) fun x9 =>
  bP (pNil v0) fun x10 =>
  bP (fa Q q 48 0 0 x10) fun x11 =>
  bP (fa Q q 46 1 13 x11) fun x12 =>
  bP (fa Q q 40 0 0 x12) fun x13 =>
  bP (st Q q 3 1 x13 x9 G) fun G14 =>
  bP (pNil v0) fun x15 =>
  bP (fa Q q 48 0 0 x15) fun x16 =>
  bS (e.ev.cl 66 [x16, v1, (.int .i64 2)] G14) fun x17 G18 =>
  bP (pNil v0) fun x19 =>
  bP (fa Q q 48 0 0 x19) fun x20 =>
  bP (fa Q q 46 0 0 x20) fun x21 =>
  bP (fa Q q 31 2 2 x21) fun x22 =>
  bP (ld Q q 3 x22 G18) fun x23 =>
  bP (cv Q q 3 41 .i64 .u64 x23) fun x24 =>
  bP (bn Q q .lss 41 (.tmp 28) (.tmp 35) x17 x24) fun x25 =>
  ifV x25 (
  bP (cv Q q 41 3 .u64 .i64 x17) fun x26 =>
  bP (pNil v0) fun x27 =>
  bP (fa Q q 48 0 0 x27) fun x28 =>
  bP (fa Q q 46 1 13 x28) fun x29 =>
  bP (fa Q q 40 0 0 x29) fun x30 =>
  bP (st Q q 3 1 x30 x26 G18) fun G31 =>
  bS (e.ev.cl 190 [v0] G31) fun x32 G33 =>
  some (.tuple #[], G33)) (
  bS (e.ev.cl 190 [v0] G18) fun x34 G35 =>
  some (.tuple #[], G35))) (
  bP (bn Q q .eql 3 (.tmp 9) (.const (.int .i64 5)) x3 (.int .i64 5)) fun x36 =>
  ifV x36 (
  bP (pNil v0) fun x37 =>
  bP (fa Q q 48 0 0 x37) fun x38 =>
  bP (pNil v0) fun x39 =>
  bP (fa Q q 48 0 0 x39) fun x40 =>
  bP (fa Q q 46 1 13 x40) fun x41 =>
  bP (fa Q q 40 0 0 x41) fun x42 =>
  bP (ld Q q 3 x42 (G.room 17)) fun x43 =>
  bP (bn Q q .add 3 (.const (.int .i64 4)) (.tmp 58) (.int .i64 4) x43) fun x44 =>
  bS (e.ev.cl 66 [x38, v1, x44] (G.room 17)) fun x46 G45 =>
  bP (pNil v0) fun x47 =>
  bP (fa Q q 48 0 0 x47) fun x48 =>
  bP (fa Q q 46 5 20 x48) fun x49 =>
  bP (st Q q 42 1 x49 x46 G45) fun G50 =>
  bP (pNil v0) fun x51 =>
  bP (fa Q q 48 0 0 x51) fun x52 =>
  bP (fa Q q 46 2 17 x52) fun x53 =>
  bP (st Q q 3 1 x53 (.int .i64 6) G50) fun G54 =>
  bP (pNil v0) fun x55 =>
  bP (fa Q q 48 0 0 x55) fun x56 =>
  bP (fa Q q 46 5 20 x56) fun x57 =>
  bP (ld Q q 42 x57 G54) fun x58 =>
  bS (e.ev.cl 67 [x58] G54) fun x59 G60 =>
  ifV x59 (
  bS (e.ev.cl 190 [v0] G60) fun x61 G62 =>
  some (.tuple #[], G62)) (
  some (.tuple #[], G60))) (
  bP (bn Q q .eql 3 (.tmp 9) (.const (.int .i64 6)) x3 (.int .i64 6)) fun x63 =>
  ifV x63 (
  bP (pNil v0) fun x64 =>
  bP (fa Q q 48 0 0 x64) fun x65 =>
  bP (fa Q q 46 3 18 x65) fun x66 =>
  bP (ld Q q 41 x66 G) fun x67 =>
  bP (pNil v0) fun x68 =>
  bP (fa Q q 48 0 0 x68) fun x69 =>
  bP (fa Q q 46 7 23 x69) fun x70 =>
  bP (st Q q 41 1 x70 x67 G) fun G71 =>
  bP (pNil v0) fun x72 =>
  bP (fa Q q 48 0 0 x72) fun x73 =>
  bP (fa Q q 46 2 17 x73) fun x74 =>
  bP (st Q q 3 1 x74 (.int .i64 5) G71) fun G75 =>
  bP (pNil v0) fun x76 =>
  bP (fa Q q 48 0 0 x76) fun x77 =>
  bP (fa Q q 46 0 0 x77) fun x78 =>
  bP (lda Q q 31 13 x78 (G75.room 30)) fun x79 =>
  bP (pNil v0) fun x80 =>
  bP (fa Q q 48 0 0 x80) fun x81 =>
  bP (fa Q q 46 4 19 x81) fun x82 =>
  bP (ld Q q 3 x82 (G75.room 30)) fun x83 =>
  bP (pNil v0) fun x84 =>
  bP (fa Q q 48 0 0 x84) fun x85 =>
  bP (fa Q q 46 1 13 x85) fun x86 =>
  bP (fa Q q 40 0 0 x86) fun x87 =>
  bP (ld Q q 3 x87 (G75.room 30)) fun x88 =>
  bS (e.ev.cl 69 [x79, x83, x88] (G75.room 30)) fun x90 G89 =>
  bP (pNil v0) fun x91 =>
  bP (fa Q q 48 0 0 x91) fun x92 =>
  bP (fa Q q 46 5 20 x92) fun x93 =>
  bP (ld Q q 42 x93 G89) fun x94 =>
  chk ((sameO (ld Q q 42 x93 (G75.room 30)) x94 && true)) <|
  bP (pNil v0) fun x95 =>
  bP (fa Q q 48 0 0 x95) fun x96 =>
  bP (fa Q q 46 5 20 x96) fun x97 =>
  bP (ld Q q 42 x97 G89) fun x98 =>
  chk ((sameO (ld Q q 42 x97 (G75.room 30)) x98 && true)) <|
  bS (e.ev.cl 70 [x98, (.bool true)] G89) fun x100 G99 =>
  chk ((sameO (ld Q q 42 x93 G99) x94 && true)) <|
  bS (e.ev.cl 68 [v1, x90, x94, x100] G99) fun x102 G101 =>
  ifV x102 (
  bS (e.ev.cl 190 [v0] G101) fun x103 G104 =>
  some (.tuple #[], G104)) (
  some (.tuple #[], G101))) (
  some (.tuple #[], G))))
theorem m65 {e : Ex} {E : Ev} (h : ExLe Q e E) (v0 v1 : Value) (G : GS) : Ref (s65 true e v0 v1 G) (s65 false (Ex.of E) v0 v1 G) := by
  unfold s65
  exact Ref.go
set_option maxHeartbeats 8000000 in
theorem f65 {orc : FuncId → Bool} {e : Ex} (h : ExLe Q e (E orc)) (v0 v1 : Value) (G : GS) : Ref (s65 true e v0 v1 G) ((E orc).cl 65 [v0, v1] G) :=
  fun r hr => cl_sxE_some Q orc (vs := [v0, v1]) G Tryz.func65 (by kernel_rfl) (by kernel_rfl) (by kernel_rfl) (by kernel_rfl) (by kernel_rfl) (by kernel_rfl) (m65 h v0 v1 G r hr)
/-- (*coxswain/claim.seeker[coxswain/claim.taking]).load -/
noncomputable def s66 (q : Bool) (e : Ex) (v0 v1 v2 : Value) (G : GS) : Option (Value × GS) :=
  bP (pNil v0) fun x0 =>
  bP (fa Q q 46 3 18 x0) fun x1 =>
  bP (ld Q q 41 x1 G) fun x2 =>
  bP (pNil v0) fun x3 =>
  bP (fa Q q 46 7 23 x3) fun x4 =>
  bP (st Q q 41 1 x4 x2 G) fun G5 =>
  bP (pNil v0) fun x6 =>
  bP (fa Q q 46 0 0 x6) fun x7 =>
  bP (lda Q q 31 13 x7 (G5.room 13)) fun x8 =>
  bP (pNil v0) fun x9 =>
  bP (fa Q q 46 4 19 x9) fun x10 =>
  bP (ld Q q 3 x10 (G5.room 13)) fun x11 =>
  bS (e.ev.cl 191 [x8, x11, v2] (G5.room 13)) fun x13 G12 =>
  bS (e.ev.cl 177 [v1, x13] G12) fun x15 G14 =>
  some (x15, G14)
theorem m66 {e : Ex} {E : Ev} (h : ExLe Q e E) (v0 v1 v2 : Value) (G : GS) : Ref (s66 true e v0 v1 v2 G) (s66 false (Ex.of E) v0 v1 v2 G) := by
  unfold s66
  exact Ref.go
theorem f66 {orc : FuncId → Bool} {e : Ex} (h : ExLe Q e (E orc)) (v0 v1 v2 : Value) (G : GS) : Ref (s66 true e v0 v1 v2 G) ((E orc).cl 66 [v0, v1, v2] G) :=
  fun r hr => cl_sxE_some Q orc (vs := [v0, v1, v2]) G Tryz.func66 (by kernel_rfl) (by kernel_rfl) (by kernel_rfl) (by kernel_rfl) (by kernel_rfl) (by kernel_rfl) (m66 h v0 v1 v2 G r hr)
/-- (coxswain/claim.link).marked -/
noncomputable def s67 (q : Bool) (e : Ex) (v0 : Value) (G : GS) : Option (Value × GS) :=
  bS (e.ev.cl 192 [v0] G) fun x0 G1 =>
  some (x0, G1)
theorem m67 {e : Ex} {E : Ev} (h : ExLe Q e E) (v0 : Value) (G : GS) : Ref (s67 true e v0 G) (s67 false (Ex.of E) v0 G) := by
  unfold s67
  exact Ref.go
theorem f67 {orc : FuncId → Bool} {e : Ex} (h : ExLe Q e (E orc)) (v0 : Value) (G : GS) : Ref (s67 true e v0 G) ((E orc).cl 67 [v0] G) :=
  fun r hr => cl_sxE_some Q orc (vs := [v0]) G Tryz.func67 (by kernel_rfl) (by kernel_rfl) (by kernel_rfl) (by kernel_rfl) (by kernel_rfl) (by kernel_rfl) (m67 h v0 G r hr)
/-- (*coxswain/cells.Mem).CAS -/
noncomputable def s68 (q : Bool) (e : Ex) (v0 v1 v2 v3 : Value) (G : GS) : Option (Value × GS) :=
  bS (e.ev.cl 158 [v0, v1] G) fun x0 G1 =>
  bP (bd Q q 246 z246 [(0, 0, 1), (1, 1, 1), (2, 2, 1)] [x0, v2, v3]) fun x2 =>
  bS (al Q q 246 z246 G1) fun x3 G4 =>
  bP (st Q q 246 3 x3 x2 G4) fun G5 =>
  bP (fa Q q 246 0 0 x3) fun x6 =>
  bP (ld Q q 243 x6 G5) fun x7 =>
  bP (lda Q q 246 3 x3 G5) fun x8 =>
  bS (e.ev.cl 159 [v0, (.int .i64 3), v1, x7, (.func (.func 193) #[x8] #[])] G5) fun x9 G10 =>
  bP (fd Q q 68 4 4 x9) fun x11 =>
  some (x11, G10)
theorem m68 {e : Ex} {E : Ev} (h : ExLe Q e E) (v0 v1 v2 v3 : Value) (G : GS) : Ref (s68 true e v0 v1 v2 v3 G) (s68 false (Ex.of E) v0 v1 v2 v3 G) := by
  unfold s68
  exact Ref.go
theorem f68 {orc : FuncId → Bool} {e : Ex} (h : ExLe Q e (E orc)) (v0 v1 v2 v3 : Value) (G : GS) : Ref (s68 true e v0 v1 v2 v3 G) ((E orc).cl 68 [v0, v1, v2, v3] G) :=
  fun r hr => cl_sxE_some Q orc (vs := [v0, v1, v2, v3]) G Tryz.func68 (by kernel_rfl) (by kernel_rfl) (by kernel_rfl) (by kernel_rfl) (by kernel_rfl) (by kernel_rfl) (m68 h v0 v1 v2 v3 G r hr)
/-- coxswain/tower.Next -/
noncomputable def s69 (q : Bool) (e : Ex) (v0 v1 v2 : Value) (G : GS) : Option (Value × GS) :=
  bS (bx q v0 G) fun x0 G1 =>
  bP (bn Q q .lss 3 (.tmp 7) (.const (.int .i64 0)) v2 (.int .i64 0)) fun x2 =>
  bS (gd x2 false (some (v2, G1)) G1) fun x3 G4 =>
  bS (gd x2 false (bP (bn Q q .geq 3 (.tmp 10) (.const (.int .i64 4)) x3 (.int .i64 4)) fun y => some (y, G4)) G4) fun x5 G6 =>
  bP (pickV x2 (.bool true) x5) fun x7 =>
  ifV x7 (
  some ((.int .i64 (-1)), G6)) (
  bP (lda Q q 31 13 x0 G6) fun x8 =>
  bP (bn Q q .add 3 (.const (.int .i64 4)) (.tmp 15) (.int .i64 4) v2) fun x9 =>
  bS (e.ev.cl 191 [x8, v1, x9] G6) fun x10 G11 =>
  some (x10, G11))
theorem m69 {e : Ex} {E : Ev} (h : ExLe Q e E) (v0 v1 v2 : Value) (G : GS) : Ref (s69 true e v0 v1 v2 G) (s69 false (Ex.of E) v0 v1 v2 G) := by
  unfold s69
  exact Ref.go
theorem f69 {orc : FuncId → Bool} {e : Ex} (h : ExLe Q e (E orc)) (v0 v1 v2 : Value) (G : GS) : Ref (s69 true e v0 v1 v2 G) ((E orc).cl 69 [v0, v1, v2] G) :=
  fun r hr => cl_sxE_some Q orc (vs := [v0, v1, v2]) G Tryz.func69 (by kernel_rfl) (by kernel_rfl) (by kernel_rfl) (by kernel_rfl) (by kernel_rfl) (by kernel_rfl) (m69 h v0 v1 v2 G r hr)
/-- (coxswain/claim.link).marks -/
noncomputable def s70 (q : Bool) (e : Ex) (v0 v1 : Value) (G : GS) : Option (Value × GS) :=
  bS (e.ev.cl 194 [v0, v1] G) fun x0 G1 =>
  some (x0, G1)
theorem m70 {e : Ex} {E : Ev} (h : ExLe Q e E) (v0 v1 : Value) (G : GS) : Ref (s70 true e v0 v1 G) (s70 false (Ex.of E) v0 v1 G) := by
  unfold s70
  exact Ref.go
theorem f70 {orc : FuncId → Bool} {e : Ex} (h : ExLe Q e (E orc)) (v0 v1 : Value) (G : GS) : Ref (s70 true e v0 v1 G) ((E orc).cl 70 [v0, v1] G) :=
  fun r hr => cl_sxE_some Q orc (vs := [v0, v1]) G Tryz.func70 (by kernel_rfl) (by kernel_rfl) (by kernel_rfl) (by kernel_rfl) (by kernel_rfl) (by kernel_rfl) (m70 h v0 v1 G r hr)
/-- (*coxswain/claim.seeker[coxswain/claim.taking]).job -/
noncomputable def s71 (q : Bool) (e : Ex) (v0 v1 : Value) (G : GS) : Option (Value × GS) :=
  bS (e.ev.cl 66 [v0, v1, (.int .i64 1)] G) fun x0 G1 =>
  bP (bn Q q .and 41 (.tmp 7) (.const (.int .u64 65535)) x0 (.int .u64 65535)) fun x2 =>
  bP (cv Q q 41 3 .u64 .i64 x2) fun x3 =>
  bP (pNil v0) fun x4 =>
  bP (fa Q q 46 6 21 x4) fun x5 =>
  bP (fa Q q 44 1 1 x5) fun x6 =>
  bP (st Q q 3 1 x6 x3 G1) fun G7 =>
  some (.tuple #[], G7)
theorem m71 {e : Ex} {E : Ev} (h : ExLe Q e E) (v0 v1 : Value) (G : GS) : Ref (s71 true e v0 v1 G) (s71 false (Ex.of E) v0 v1 G) := by
  unfold s71
  exact Ref.go
theorem f71 {orc : FuncId → Bool} {e : Ex} (h : ExLe Q e (E orc)) (v0 v1 : Value) (G : GS) : Ref (s71 true e v0 v1 G) ((E orc).cl 71 [v0, v1] G) :=
  fun r hr => cl_sxE_some Q orc (vs := [v0, v1]) G Tryz.func71 (by kernel_rfl) (by kernel_rfl) (by kernel_rfl) (by kernel_rfl) (by kernel_rfl) (by kernel_rfl) (m71 h v0 v1 G r hr)
/-- coxswain/find.NewFind -/
noncomputable def s72 (q : Bool) (e : Ex) (v0 v1 : Value) (G : GS) : Option (Value × GS) :=
  bS (bx q v0 G) fun x0 G1 =>
  bP (lda Q q 31 13 x0 G1) fun x2 =>
  bP (bd Q q 283 z283 [(0, 0, 13), (1, 13, 1), (7, 22, 1)] [x2, v1, (.bool true)]) fun x3 =>
  bS (bx q x3 G1) fun x4 G5 =>
  bP (lda Q q 31 13 x0 G5) fun x6 =>
  bS (e.ev.cl 69 [x6, (.int .i64 (-1)), (.int .i64 0)] G5) fun x7 G8 =>
  bP (bn Q q .lss 3 (.tmp 11) (.const (.int .i64 0)) x7 (.int .i64 0)) fun x9 =>
  ifV x9 (
  bP (pNil x4) fun x10 =>
  bP (fa Q q 283 2 14 x10) fun x11 =>
  bP (st Q q 3 1 x11 (.int .i64 9) G8) fun G12 =>
  bP (pNil x4) fun x13 =>
  bP (fa Q q 283 8 23 x13) fun x14 =>
  bP (st Q q 33 1 x14 (.int .i64 2) G12) fun G15 =>
  some (x4, G15)) (
  bP (fa Q q 31 2 2 x0) fun x16 =>
  bP (ld Q q 3 x16 G8) fun x17 =>
  bS (mk Q q 281 4 32 z280 x17 x17 G8) fun x18 G19 =>
  bP (pNil x4) fun x20 =>
  bP (fa Q q 283 5 20 x20) fun x21 =>
  bP (st Q q 281 1 x21 x18 G19) fun G22 =>
  bS (e.ev.cl 195 [x4] G22) fun x23 G24 =>
  some (x4, G24))
theorem m72 {e : Ex} {E : Ev} (h : ExLe Q e E) (v0 v1 : Value) (G : GS) : Ref (s72 true e v0 v1 G) (s72 false (Ex.of E) v0 v1 G) := by
  unfold s72
  exact Ref.go
theorem f72 {orc : FuncId → Bool} {e : Ex} (h : ExLe Q e (E orc)) (v0 v1 : Value) (G : GS) : Ref (s72 true e v0 v1 G) ((E orc).cl 72 [v0, v1] G) :=
  fun r hr => cl_sxE_some Q orc (vs := [v0, v1]) G Tryz.func72 (by kernel_rfl) (by kernel_rfl) (by kernel_rfl) (by kernel_rfl) (by kernel_rfl) (by kernel_rfl) (m72 h v0 v1 G r hr)
/-- (*coxswain/claim.Claim).leave -/
noncomputable def s73 (q : Bool) (e : Ex) (v0 v1 : Value) (G : GS) : Option (Value × GS) :=
  bP (pNil v0) fun x0 =>
  bP (fa Q q 48 0 0 x0) fun x1 =>
  bP (fa Q q 46 2 17 x1) fun x2 =>
  bP (ld Q q 3 x2 G) fun x3 =>
  bP (bn Q q .eql 3 (.tmp 8) (.const (.int .i64 10)) x3 (.int .i64 10)) fun x4 =>
  ifV x4 (
  bP (pNil v0) fun x5 =>
  bP (fa Q q 48 0 0 x5) fun x6 =>
  bP (fa Q q 46 1 13 x6) fun x7 =>
  bP (fa Q q 40 2 2 x7) fun x8 =>
  bP (ld Q q 37 x8 G) fun x9 =>
  bS (e.ev.cl 196 [x9, v1] G) fun x10 G11 =>
  ifV x10 (
  bP (pNil v0) fun x12 =>
  bP (fa Q q 48 0 0 x12) fun x13 =>
  bP (fa Q q 46 2 17 x13) fun x14 =>
  bP (st Q q 3 1 x14 (.int .i64 11) G11) fun G15 =>
  bP (pNil v0) fun x16 =>
  bP (fa Q q 48 0 0 x16) fun x17 =>
  bP (fa Q q 46 1 13 x17) fun x18 =>
  bP (fa Q q 40 2 2 x18) fun x19 =>
  bP (ld Q q 37 x19 G15) fun x20 =>
  bS (e.ev.cl 197 [x20] G15) fun x21 G22 =>
  bP (pNil v0) fun x23 =>
  bP (fa Q q 48 0 0 x23) fun x24 =>
  bP (fa Q q 46 7 23 x24) fun x25 =>
  bP (st Q q 41 1 x25 x21 G22) fun G26 =>
  some (.tuple #[], G26)) (
  bP (pNil v0) fun x27 =>
  bP (fa Q q 48 0 0 x27) fun x28 =>
  bP (fa Q q 46 1 13 x28) fun x29 =>
  bP (fa Q q 40 2 2 x29) fun x30 =>
  bP (ld Q q 37 x30 G11) fun x31 =>
  bS (e.ev.cl 197 [x31] G11) fun x32 G33 =>
  bP (pNil v0) fun x34 =>
  bP (fa Q q 48 0 0 x34) fun x35 =>
  bP (fa Q q 46 7 23 x35) fun x36 =>
  bP (st Q q 41 1 x36 x32 G33) fun G37 =>
  some (.tuple #[], G37))) (
  bP (bn Q q .eql 3 (.tmp 8) (.const (.int .i64 11)) x3 (.int .i64 11)) fun x38 =>
  ifV x38 (
  bP (pNil v0) fun x39 =>
  bP (fa Q q 48 0 0 x39) fun x40 =>
  bP (fa Q q 46 3 18 x40) fun x41 =>
  bP (ld Q q 41 x41 G) fun x42 =>
  bP (pNil v0) fun x43 =>
  bP (fa Q q 48 0 0 x43) fun x44 =>
  bP (fa Q q 46 7 23 x44) fun x45 =>
  bP (st Q q 41 1 x45 x42 G) fun G46 =>
  bP (pNil v0) fun x47 =>
  bP (fa Q q 48 0 0 x47) fun x48 =>
  bP (fa Q q 46 2 17 x48) fun x49 =>
  bP (st Q q 3 1 x49 (.int .i64 99) G46) fun G50 =>
  bP (pNil v0) fun x51 =>
  bP (fa Q q 48 0 0 x51) fun x52 =>
  bP (fa Q q 46 0 0 x52) fun x53 =>
  bP (lda Q q 31 13 x53 (G50.room 14)) fun x54 =>
  bP (pNil v0) fun x55 =>
  bP (fa Q q 48 0 0 x55) fun x56 =>
  bP (fa Q q 46 4 19 x56) fun x57 =>
  bP (ld Q q 3 x57 (G50.room 14)) fun x58 =>
  bS (e.ev.cl 191 [x54, x58, (.int .i64 3)] (G50.room 14)) fun x60 G59 =>
  bS (e.ev.cl 198 [v1, x60, (.int .u64 18446744073709551615)] G59) fun x62 G61 =>
  bP (bn Q q .eql 41 (.tmp 61) (.const (.int .u64 0)) x62 (.int .u64 0)) fun x63 =>
  ifV x63 (
  bP (pNil v0) fun x64 =>
  bP (fa Q q 48 0 0 x64) fun x65 =>
  bP (fa Q q 46 0 0 x65) fun x66 =>
  bP (fa Q q 31 3 3 x66) fun x67 =>
  bP (lda Q q 29 10 x67 (G61.room 23)) fun x68 =>
  bP (pNil v0) fun x69 =>
  bP (fa Q q 48 0 0 x69) fun x70 =>
  bP (fa Q q 46 4 19 x70) fun x71 =>
  bP (ld Q q 3 x71 (G61.room 23)) fun x72 =>
  bS (e.ev.cl 199 [x68, x72] (G61.room 23)) fun x74 G73 =>
  bP (pNil v0) fun x75 =>
  bP (fa Q q 48 0 0 x75) fun x76 =>
  bP (fa Q q 46 1 13 x76) fun x77 =>
  bP (fa Q q 40 3 3 x77) fun x78 =>
  bP (st Q q 38 1 x78 x74 G73) fun G79 =>
  bP (pNil v0) fun x80 =>
  bP (fa Q q 48 0 0 x80) fun x81 =>
  bP (fa Q q 46 2 17 x81) fun x82 =>
  bP (st Q q 3 1 x82 (.int .i64 12) G79) fun G83 =>
  some (.tuple #[], G83)) (
  some (.tuple #[], G61))) (
  bP (bn Q q .eql 3 (.tmp 8) (.const (.int .i64 12)) x3 (.int .i64 12)) fun x84 =>
  ifV x84 (
  bP (pNil v0) fun x85 =>
  bP (fa Q q 48 0 0 x85) fun x86 =>
  bP (fa Q q 46 7 23 x86) fun x87 =>
  bP (st Q q 41 1 x87 (.int .u64 0) G) fun G88 =>
  bP (pNil v0) fun x89 =>
  bP (fa Q q 48 0 0 x89) fun x90 =>
  bP (fa Q q 46 1 13 x90) fun x91 =>
  bP (fa Q q 40 3 3 x91) fun x92 =>
  bP (ld Q q 38 x92 G88) fun x93 =>
  bS (e.ev.cl 200 [x93, v1] G88) fun x94 G95 =>
  ifV x94 (
  bP (pNil v0) fun x96 =>
  bP (fa Q q 48 0 0 x96) fun x97 =>
  bP (fa Q q 46 2 17 x97) fun x98 =>
  bP (st Q q 3 1 x98 (.int .i64 99) G95) fun G99 =>
  some (.tuple #[], G99)) (
  some (.tuple #[], G95))) (
  some (.tuple #[], G))))
theorem m73 {e : Ex} {E : Ev} (h : ExLe Q e E) (v0 v1 : Value) (G : GS) : Ref (s73 true e v0 v1 G) (s73 false (Ex.of E) v0 v1 G) := by
  unfold s73
  exact Ref.go
set_option maxHeartbeats 8000000 in
theorem f73 {orc : FuncId → Bool} {e : Ex} (h : ExLe Q e (E orc)) (v0 v1 : Value) (G : GS) : Ref (s73 true e v0 v1 G) ((E orc).cl 73 [v0, v1] G) :=
  fun r hr => cl_sxE_some Q orc (vs := [v0, v1]) G Tryz.func73 (by kernel_rfl) (by kernel_rfl) (by kernel_rfl) (by kernel_rfl) (by kernel_rfl) (by kernel_rfl) (m73 h v0 v1 G r hr)
/-- (*coxswain/claim.seeker[struct{}]).done -/
noncomputable def s74 (q : Bool) (e : Ex) (v0 : Value) (G : GS) : Option (Value × GS) :=
  bP (pNil v0) fun x0 =>
  bP (fa Q q 53 8 20 x0) fun x1 =>
  bP (ld Q q 4 x1 G) fun x2 =>
  bP (un Q q .not x2) fun x3 =>
  bS (gd x3 false (some (v0, G)) G) fun x4 G5 =>
  bS (gd x3 false (bP (pNil x4) fun y => some (y, G5)) G5) fun x6 G7 =>
  bS (gd x3 false (bP (fa Q q 53 2 13 x6) fun y => some (y, G7)) G7) fun x8 G9 =>
  bS (gd x3 false (bP (ld Q q 3 x8 G9) fun y => some (y, G9)) G9) fun x10 G11 =>
  bS (gd x3 false (bP (bn Q q .eql 3 (.tmp 12) (.const (.int .i64 99)) x10 (.int .i64 99)) fun y => some (y, G11)) G11) fun x12 G13 =>
  bP (pickV x3 (.bool true) x12) fun x14 =>
  some (x14, G13)
theorem m74 {e : Ex} {E : Ev} (h : ExLe Q e E) (v0 : Value) (G : GS) : Ref (s74 true e v0 G) (s74 false (Ex.of E) v0 G) := by
  unfold s74
  exact Ref.go
theorem f74 {orc : FuncId → Bool} {e : Ex} (h : ExLe Q e (E orc)) (v0 : Value) (G : GS) : Ref (s74 true e v0 G) ((E orc).cl 74 [v0] G) :=
  fun r hr => cl_sxE_some Q orc (vs := [v0]) G Tryz.func74 (by kernel_rfl) (by kernel_rfl) (by kernel_rfl) (by kernel_rfl) (by kernel_rfl) (by kernel_rfl) (m74 h v0 G r hr)
/-- (*coxswain/claim.seeker[struct{}]).first -/
noncomputable def s75 (q : Bool) (e : Ex) (v0 v1 : Value) (G : GS) : Option (Value × GS) :=
  bP (pNil v0) fun x0 =>
  bP (fa Q q 53 2 13 x0) fun x1 =>
  bP (ld Q q 3 x1 G) fun x2 =>
  bP (bn Q q .eql 3 (.tmp 9) (.const (.int .i64 1)) x2 (.int .i64 1)) fun x3 =>
  ifV x3 (
  bP (pNil v0) fun x4 =>
  bP (fa Q q 53 7 19 x4) fun x5 =>
  bP (st Q q 41 1 x5 (.int .u64 0) G) fun G6 =>
  bP (pNil v0) fun x7 =>
  bP (fa Q q 53 0 0 x7) fun x8 =>
  bP (lda Q q 31 13 x8 G6) fun x9 =>
  bS (e.ev.cl 69 [x9, (.int .i64 (-1)), (.int .i64 0)] G6) fun x10 G11 =>
  bS (e.ev.cl 177 [v1, x10] G11) fun x12 G13 =>
  bP (pNil v0) fun x14 =>
  bP (fa Q q 53 3 14 x14) fun x15 =>
  bP (st Q q 41 1 x15 x12 G13) fun G16 =>
  bP (pNil v0) fun x17 =>
  bP (fa Q q 53 3 14 x17) fun x18 =>
  bP (ld Q q 41 x18 G16) fun x19 =>
  bS (e.ev.cl 189 [x19] G16) fun x20 G21 =>
  bP (pExtract x20 0) fun x22 =>
  bP (pExtract x20 1) fun x23 =>
  bS (al Q q 274 z274 G21) fun x24 G25 =>
  bP (st Q q 274 2 x24 x22 G25) fun G26 =>
  bP (fa Q q 274 0 0 x24) fun x27 =>
  bP (ld Q q 3 x27 G26) fun x28 =>
  bP (pNil v0) fun x29 =>
  bP (fa Q q 53 4 15 x29) fun x30 =>
  bP (st Q q 3 1 x30 x28 G26) fun G31 =>
  bP (pNil v0) fun x32 =>
  bP (fa Q q 53 2 13 x32) fun x33 =>
  bP (st Q q 3 1 x33 (.int .i64 2) G31) fun G34 =>
  bP (pNil v0) fun x35 =>
  bP (fa Q q 53 4 15 x35) fun x36 =>
  bP (ld Q q 3 x36 (G34.room 20)) fun x37 =>
  bP (bn Q q .lss 3 (.tmp 44) (.const (.int .i64 0)) x37 (.int .i64 0)) fun x38 =>
  bS (gd x38 false (some (v0, (G34.room 20))) (G34.room 20)) fun x39 _ =>
  bS (gd x38 false (bP (pNil x39) fun y => some (y, (G34.room 20))) (G34.room 20)) fun x40 _ =>
  bS (gd x38 false (bP (fa Q q 53 4 15 x40) fun y => some (y, (G34.room 20))) (G34.room 20)) fun x41 _ =>
  bS (gd x38 false (bP (ld Q q 3 x41 (G34.room 20)) fun y => some (y, (G34.room 20))) (G34.room 20)) fun x42 _ =>
  bS (gd x38 false (some (v0, (G34.room 20))) (G34.room 20)) fun x43 _ =>
  bS (gd x38 false (bP (pNil x43) fun y => some (y, (G34.room 20))) (G34.room 20)) fun x44 _ =>
  bS (gd x38 false (bP (fa Q q 53 0 0 x44) fun y => some (y, (G34.room 20))) (G34.room 20)) fun x45 _ =>
  bS (gd x38 false (bP (fa Q q 31 3 3 x45) fun y => some (y, (G34.room 20))) (G34.room 20)) fun x46 _ =>
  bS (gd x38 false (bP (fa Q q 29 0 0 x46) fun y => some (y, (G34.room 20))) (G34.room 20)) fun x47 _ =>
  bS (gd x38 false (bP (fa Q q 25 0 0 x47) fun y => some (y, (G34.room 20))) (G34.room 20)) fun x48 _ =>
  bS (gd x38 false (bP (fa Q q 23 2 2 x48) fun y => some (y, (G34.room 20))) (G34.room 20)) fun x49 _ =>
  bS (gd x38 false (bP (ld Q q 3 x49 (G34.room 20)) fun y => some (y, (G34.room 20))) (G34.room 20)) fun x50 _ =>
  bS (gd x38 false (bP (bn Q q .geq 3 (.tmp 50) (.tmp 58) x42 x50) fun y => some (y, (G34.room 20))) (G34.room 20)) fun x51 _ =>
  bP (pickV x38 (.bool true) x51) fun x52 =>
  ifV x52 (
  bP (pNil v0) fun x53 =>
  bP (fa Q q 53 2 13 x53) fun x54 =>
  bP (st Q q 3 1 x54 (.int .i64 99) (G34.room 20)) fun G55 =>
  bP (pNil v0) fun x56 =>
  bP (fa Q q 53 9 21 x56) fun x57 =>
  bP (st Q q 33 1 x57 (.int .i64 15) G55) fun G58 =>
  some (.tuple #[], G58)) (
  some (.tuple #[], (G34.room 20)))) (
  bP (bn Q q .eql 3 (.tmp 9) (.const (.int .i64 2)) x2 (.int .i64 2)) fun x59 =>
  ifV x59 (
  bS (e.ev.cl 76 [v0, v1, (.int .i64 4)] G) fun x60 G61 =>
  bP (pNil v0) fun x62 =>
  bP (fa Q q 53 5 16 x62) fun x63 =>
  bP (st Q q 42 1 x63 x60 G61) fun G64 =>
  bP (pNil v0) fun x65 =>
  bP (fa Q q 53 2 13 x65) fun x66 =>
  bP (st Q q 3 1 x66 (.int .i64 4) G64) fun G67 =>
  bP (pNil v0) fun x68 =>
  bP (fa Q q 53 5 16 x68) fun x69 =>
  bP (ld Q q 42 x69 G67) fun x70 =>
  bS (e.ev.cl 67 [x70] G67) fun x71 G72 =>
  ifV x71 (
  bP (pNil v0) fun x73 =>
  bP (fa Q q 53 2 13 x73) fun x74 =>
  bP (st Q q 3 1 x74 (.int .i64 3) G72) fun G75 =>
  some (.tuple #[], G75)) (
  some (.tuple #[], G72))) (
  bP (bn Q q .eql 3 (.tmp 9) (.const (.int .i64 3)) x2 (.int .i64 3)) fun x76 =>
  ifV x76 (
  bP (pNil v0) fun x77 =>
  bP (fa Q q 53 7 19 x77) fun x78 =>
  bP (st Q q 41 1 x78 (.int .u64 0) G) fun G79 =>
  bP (pNil v0) fun x80 =>
  bP (fa Q q 53 0 0 x80) fun x81 =>
  bP (lda Q q 31 13 x81 (G79.room 16)) fun x82 =>
  bS (e.ev.cl 69 [x82, (.int .i64 (-1)), (.int .i64 0)] (G79.room 16)) fun x84 G83 =>
  bP (pNil v0) fun x85 =>
  bP (fa Q q 53 3 14 x85) fun x86 =>
  bP (ld Q q 41 x86 G83) fun x87 =>
  chk ((sameO (ld Q q 41 x86 (G79.room 16)) x87 && true)) <|
  bP (pNil v0) fun x88 =>
  bP (fa Q q 53 5 16 x88) fun x89 =>
  bP (ld Q q 42 x89 G83) fun x90 =>
  chk ((sameO (ld Q q 42 x89 (G79.room 16)) x90 && true)) <|
  bS (e.ev.cl 70 [x90, (.bool false)] G83) fun x92 G91 =>
  chk ((sameO (ld Q q 41 x86 G91) x87 && true)) <|
  bS (e.ev.cl 68 [v1, x84, x87, x92] G91) fun x94 G93 =>
  bP (pNil v0) fun x95 =>
  bP (fa Q q 53 2 13 x95) fun x96 =>
  bP (st Q q 3 1 x96 (.int .i64 1) G93) fun G97 =>
  some (.tuple #[], G97)) (
  some (.tuple #[], G))))
theorem m75 {e : Ex} {E : Ev} (h : ExLe Q e E) (v0 v1 : Value) (G : GS) : Ref (s75 true e v0 v1 G) (s75 false (Ex.of E) v0 v1 G) := by
  unfold s75
  exact Ref.go
set_option maxHeartbeats 8000000 in
theorem f75 {orc : FuncId → Bool} {e : Ex} (h : ExLe Q e (E orc)) (v0 v1 : Value) (G : GS) : Ref (s75 true e v0 v1 G) ((E orc).cl 75 [v0, v1] G) :=
  fun r hr => cl_sxE_some Q orc (vs := [v0, v1]) G Tryz.func75 (by kernel_rfl) (by kernel_rfl) (by kernel_rfl) (by kernel_rfl) (by kernel_rfl) (by kernel_rfl) (m75 h v0 v1 G r hr)
/-- (*coxswain/claim.seeker[struct{}]).load -/
noncomputable def s76 (q : Bool) (e : Ex) (v0 v1 v2 : Value) (G : GS) : Option (Value × GS) :=
  bP (pNil v0) fun x0 =>
  bP (fa Q q 53 3 14 x0) fun x1 =>
  bP (ld Q q 41 x1 G) fun x2 =>
  bP (pNil v0) fun x3 =>
  bP (fa Q q 53 7 19 x3) fun x4 =>
  bP (st Q q 41 1 x4 x2 G) fun G5 =>
  bP (pNil v0) fun x6 =>
  bP (fa Q q 53 0 0 x6) fun x7 =>
  bP (lda Q q 31 13 x7 (G5.room 13)) fun x8 =>
  bP (pNil v0) fun x9 =>
  bP (fa Q q 53 4 15 x9) fun x10 =>
  bP (ld Q q 3 x10 (G5.room 13)) fun x11 =>
  bS (e.ev.cl 191 [x8, x11, v2] (G5.room 13)) fun x13 G12 =>
  bS (e.ev.cl 177 [v1, x13] G12) fun x15 G14 =>
  some (x15, G14)
theorem m76 {e : Ex} {E : Ev} (h : ExLe Q e E) (v0 v1 v2 : Value) (G : GS) : Ref (s76 true e v0 v1 v2 G) (s76 false (Ex.of E) v0 v1 v2 G) := by
  unfold s76
  exact Ref.go
theorem f76 {orc : FuncId → Bool} {e : Ex} (h : ExLe Q e (E orc)) (v0 v1 v2 : Value) (G : GS) : Ref (s76 true e v0 v1 v2 G) ((E orc).cl 76 [v0, v1, v2] G) :=
  fun r hr => cl_sxE_some Q orc (vs := [v0, v1, v2]) G Tryz.func76 (by kernel_rfl) (by kernel_rfl) (by kernel_rfl) (by kernel_rfl) (by kernel_rfl) (by kernel_rfl) (m76 h v0 v1 v2 G r hr)
/-- (*coxswain/claim.seeker[struct{}]).job -/
noncomputable def s77 (q : Bool) (e : Ex) (v0 v1 : Value) (G : GS) : Option (Value × GS) :=
  bS (e.ev.cl 76 [v0, v1, (.int .i64 1)] G) fun x0 G1 =>
  bP (bn Q q .and 41 (.tmp 7) (.const (.int .u64 65535)) x0 (.int .u64 65535)) fun x2 =>
  bP (cv Q q 41 3 .u64 .i64 x2) fun x3 =>
  bP (pNil v0) fun x4 =>
  bP (fa Q q 53 6 17 x4) fun x5 =>
  bP (fa Q q 44 1 1 x5) fun x6 =>
  bP (st Q q 3 1 x6 x3 G1) fun G7 =>
  some (.tuple #[], G7)
theorem m77 {e : Ex} {E : Ev} (h : ExLe Q e E) (v0 v1 : Value) (G : GS) : Ref (s77 true e v0 v1 G) (s77 false (Ex.of E) v0 v1 G) := by
  unfold s77
  exact Ref.go
theorem f77 {orc : FuncId → Bool} {e : Ex} (h : ExLe Q e (E orc)) (v0 v1 : Value) (G : GS) : Ref (s77 true e v0 v1 G) ((E orc).cl 77 [v0, v1] G) :=
  fun r hr => cl_sxE_some Q orc (vs := [v0, v1]) G Tryz.func77 (by kernel_rfl) (by kernel_rfl) (by kernel_rfl) (by kernel_rfl) (by kernel_rfl) (by kernel_rfl) (m77 h v0 v1 G r hr)
/-- coxswain/claim.seek[coxswain/claim.taking] -/
noncomputable def s78 (q : Bool) (e : Ex) (v0 : Value) (G : GS) : Option (Value × GS) :=
  bS (bx q v0 G) fun x0 G1 =>
  bS (al Q q 46 z46 G1) fun x2 G3 =>
  bP (lda Q q 31 13 x0 G3) fun x4 =>
  bS (e.ev.cl 69 [x4, (.int .i64 (-1)), (.int .i64 0)] G3) fun x5 G6 =>
  bP (bn Q q .lss 3 (.tmp 4) (.const (.int .i64 0)) x5 (.int .i64 0)) fun x7 =>
  ifV x7 (
  bP (bd Q q 46 z46 [(8, 24, 1), (2, 17, 1), (9, 25, 1)] [(.bool true), (.int .i64 99), (.int .i64 2)]) fun x8 =>
  bP (st Q q 46 26 x2 x8 G6) fun G9 =>
  bP (lda Q q 46 26 x2 G9) fun x10 =>
  some (x10, G9)) (
  bP (lda Q q 31 13 x0 G6) fun x11 =>
  bP (bd Q q 46 z46 [(0, 0, 13), (8, 24, 1), (2, 17, 1)] [x11, (.bool true), (.int .i64 1)]) fun x12 =>
  bP (st Q q 46 26 x2 x12 G6) fun G13 =>
  bP (lda Q q 46 26 x2 G13) fun x14 =>
  some (x14, G13))
theorem m78 {e : Ex} {E : Ev} (h : ExLe Q e E) (v0 : Value) (G : GS) : Ref (s78 true e v0 G) (s78 false (Ex.of E) v0 G) := by
  unfold s78
  exact Ref.go
theorem f78 {orc : FuncId → Bool} {e : Ex} (h : ExLe Q e (E orc)) (v0 : Value) (G : GS) : Ref (s78 true e v0 G) ((E orc).cl 78 [v0] G) :=
  fun r hr => cl_sxE_some Q orc (vs := [v0]) G Tryz.func78 (by kernel_rfl) (by kernel_rfl) (by kernel_rfl) (by kernel_rfl) (by kernel_rfl) (by kernel_rfl) (m78 h v0 G r hr)
/-- coxswain/claim.seek[struct{}] -/
noncomputable def s79 (q : Bool) (e : Ex) (v0 : Value) (G : GS) : Option (Value × GS) :=
  bS (bx q v0 G) fun x0 G1 =>
  bS (al Q q 53 z53 G1) fun x2 G3 =>
  bP (lda Q q 31 13 x0 G3) fun x4 =>
  bS (e.ev.cl 69 [x4, (.int .i64 (-1)), (.int .i64 0)] G3) fun x5 G6 =>
  bP (bn Q q .lss 3 (.tmp 4) (.const (.int .i64 0)) x5 (.int .i64 0)) fun x7 =>
  ifV x7 (
  bP (bd Q q 53 z53 [(8, 20, 1), (2, 13, 1), (9, 21, 1)] [(.bool true), (.int .i64 99), (.int .i64 2)]) fun x8 =>
  bP (st Q q 53 22 x2 x8 G6) fun G9 =>
  bP (lda Q q 53 22 x2 G9) fun x10 =>
  some (x10, G9)) (
  bP (lda Q q 31 13 x0 G6) fun x11 =>
  bP (bd Q q 53 z53 [(0, 0, 13), (8, 20, 1), (2, 13, 1)] [x11, (.bool true), (.int .i64 1)]) fun x12 =>
  bP (st Q q 53 22 x2 x12 G6) fun G13 =>
  bP (lda Q q 53 22 x2 G13) fun x14 =>
  some (x14, G13))
theorem m79 {e : Ex} {E : Ev} (h : ExLe Q e E) (v0 : Value) (G : GS) : Ref (s79 true e v0 G) (s79 false (Ex.of E) v0 G) := by
  unfold s79
  exact Ref.go
theorem f79 {orc : FuncId → Bool} {e : Ex} (h : ExLe Q e (E orc)) (v0 : Value) (G : GS) : Ref (s79 true e v0 G) ((E orc).cl 79 [v0] G) :=
  fun r hr => cl_sxE_some Q orc (vs := [v0]) G Tryz.func79 (by kernel_rfl) (by kernel_rfl) (by kernel_rfl) (by kernel_rfl) (by kernel_rfl) (by kernel_rfl) (m79 h v0 G r hr)
/-- coxswain/tower.sound -/
noncomputable def s102 (q : Bool) (e : Ex) (v0 : Value) (G : GS) : Option (Value × GS) :=
  bS (bx q v0 G) fun x0 G1 =>
  bP (fa Q q 31 3 3 x0) fun x2 =>
  bP (fa Q q 29 0 0 x2) fun x3 =>
  bP (fa Q q 25 0 0 x3) fun x4 =>
  bP (fa Q q 23 2 2 x4) fun x5 =>
  bP (ld Q q 3 x5 G1) fun x6 =>
  bP (fa Q q 31 2 2 x0) fun x7 =>
  bP (ld Q q 3 x7 G1) fun x8 =>
  bP (bn Q q .geq 3 (.tmp 10) (.const (.int .i64 1)) x8 (.int .i64 1)) fun x9 =>
  bS (gd x9 true (bP (fa Q q 31 2 2 x0) fun y => some (y, G1)) G1) fun x10 G11 =>
  bS (gd x9 true (bP (ld Q q 3 x10 G11) fun y => some (y, G11)) G11) fun x12 G13 =>
  bS (gd x9 true (bP (bn Q q .leq 3 (.tmp 14) (.const (.int .i64 4)) x12 (.int .i64 4)) fun y => some (y, G13)) G13) fun x14 G15 =>
  bP (pickV x9 x14 (.bool false)) fun x16 =>
  bS (gd x16 true (some (x6, G15)) G15) fun x17 G18 =>
  bS (gd x16 true (bP (bn Q q .geq 3 (.tmp 18) (.const (.int .i64 1)) x17 (.int .i64 1)) fun y => some (y, G18)) G18) fun x19 G20 =>
  bP (pickV x16 x19 (.bool false)) fun x21 =>
  bS (gd x21 true (some (x6, G20)) G20) fun x22 G23 =>
  bS (gd x21 true (bP (bn Q q .leq 3 (.tmp 22) (.const (.int .i64 128)) x22 (.int .i64 128)) fun y => some (y, G23)) G23) fun x24 G25 =>
  bP (pickV x21 x24 (.bool false)) fun x26 =>
  bS (gd x26 true (bP (fa Q q 31 0 0 x0) fun y => some (y, G25)) G25) fun x27 G28 =>
  bS (gd x26 true (bP (ld Q q 3 x27 G28) fun y => some (y, G28)) G28) fun x29 G30 =>
  bS (gd x26 true (bP (bn Q q .geq 3 (.tmp 27) (.const (.int .i64 0)) x29 (.int .i64 0)) fun y => some (y, G30)) G30) fun x31 G32 =>
  bP (pickV x26 x31 (.bool false)) fun x33 =>
  bS (gd x33 true (bP (fa Q q 31 0 0 x0) fun y => some (y, G32)) G32) fun x34 G35 =>
  bS (gd x33 true (bP (ld Q q 3 x34 G35) fun y => some (y, G35)) G35) fun x36 G37 =>
  bS (gd x33 true (bP (bn Q q .lss 3 (.tmp 32) (.const (.int .i64 4096)) x36 (.int .i64 4096)) fun y => some (y, G37)) G37) fun x38 G39 =>
  bP (pickV x33 x38 (.bool false)) fun x40 =>
  bS (gd x40 true (bP (fa Q q 31 1 1 x0) fun y => some (y, G39)) G39) fun x41 G42 =>
  bS (gd x40 true (bP (ld Q q 3 x41 G42) fun y => some (y, G42)) G42) fun x43 G44 =>
  bS (gd x40 true (bP (bn Q q .geq 3 (.tmp 37) (.const (.int .i64 0)) x43 (.int .i64 0)) fun y => some (y, G44)) G44) fun x45 G46 =>
  bP (pickV x40 x45 (.bool false)) fun x47 =>
  bS (gd x47 true (bP (fa Q q 31 1 1 x0) fun y => some (y, G46)) G46) fun x48 G49 =>
  bS (gd x47 true (bP (ld Q q 3 x48 G49) fun y => some (y, G49)) G49) fun x50 G51 =>
  bS (gd x47 true (bP (bn Q q .lss 3 (.tmp 42) (.const (.int .i64 4096)) x50 (.int .i64 4096)) fun y => some (y, G51)) G51) fun x52 G53 =>
  bP (pickV x47 x52 (.bool false)) fun x54 =>
  some (x54, G53)
theorem m102 {e : Ex} {E : Ev} (h : ExLe Q e E) (v0 : Value) (G : GS) : Ref (s102 true e v0 G) (s102 false (Ex.of E) v0 G) := by
  unfold s102
  exact Ref.go
theorem f102 {orc : FuncId → Bool} {e : Ex} (h : ExLe Q e (E orc)) (v0 : Value) (G : GS) : Ref (s102 true e v0 G) ((E orc).cl 102 [v0] G) :=
  fun r hr => cl_sxE_some Q orc (vs := [v0]) G Tryz.func102 (by kernel_rfl) (by kernel_rfl) (by kernel_rfl) (by kernel_rfl) (by kernel_rfl) (by kernel_rfl) (m102 h v0 G r hr)
/-- coxswain/tower.nodes -/
noncomputable def s103 (q : Bool) (e : Ex) (v0 : Value) (G : GS) : Option (Value × GS) :=
  bS (bx q v0 G) fun x0 G1 =>
  bS (al Q q 187 z187 G1) fun x2 G3 =>
  bP (fa Q q 31 0 0 x0) fun x4 =>
  bP (ld Q q 3 x4 G3) fun x5 =>
  bP (fa Q q 31 3 3 x0) fun x6 =>
  bP (fa Q q 29 0 0 x6) fun x7 =>
  bP (fa Q q 25 0 0 x7) fun x8 =>
  bP (fa Q q 23 2 2 x8) fun x9 =>
  bP (ld Q q 3 x9 G3) fun x10 =>
  bP (fa Q q 31 2 2 x0) fun x11 =>
  bP (ld Q q 3 x11 G3) fun x12 =>
  bP (bd Q q 187 z187 [(0, 0, 1), (1, 1, 1), (2, 2, 1)] [x5, x10, x12]) fun x13 =>
  bP (st Q q 187 3 x2 x13 G3) fun G14 =>
  bP (lda Q q 187 3 x2 G14) fun x15 =>
  some (x15, G14)
theorem m103 {e : Ex} {E : Ev} (h : ExLe Q e E) (v0 : Value) (G : GS) : Ref (s103 true e v0 G) (s103 false (Ex.of E) v0 G) := by
  unfold s103
  exact Ref.go
theorem f103 {orc : FuncId → Bool} {e : Ex} (h : ExLe Q e (E orc)) (v0 : Value) (G : GS) : Ref (s103 true e v0 G) ((E orc).cl 103 [v0] G) :=
  fun r hr => cl_sxE_some Q orc (vs := [v0]) G Tryz.func103 (by kernel_rfl) (by kernel_rfl) (by kernel_rfl) (by kernel_rfl) (by kernel_rfl) (by kernel_rfl) (m103 h v0 G r hr)
/-- coxswain/tower.heads -/
noncomputable def s105 (q : Bool) (e : Ex) (v0 : Value) (G : GS) : Option (Value × GS) :=
  bS (bx q v0 G) fun x0 G1 =>
  bS (al Q q 192 z192 G1) fun x2 G3 =>
  bP (fa Q q 31 1 1 x0) fun x4 =>
  bP (ld Q q 3 x4 G3) fun x5 =>
  bP (fa Q q 31 2 2 x0) fun x6 =>
  bP (ld Q q 3 x6 G3) fun x7 =>
  bP (bd Q q 192 z192 [(0, 0, 1), (1, 1, 1), (2, 2, 1)] [x5, (.int .i64 1), x7]) fun x8 =>
  bP (st Q q 192 3 x2 x8 G3) fun G9 =>
  bP (lda Q q 192 3 x2 G9) fun x10 =>
  some (x10, G9)
theorem m105 {e : Ex} {E : Ev} (h : ExLe Q e E) (v0 : Value) (G : GS) : Ref (s105 true e v0 G) (s105 false (Ex.of E) v0 G) := by
  unfold s105
  exact Ref.go
theorem f105 {orc : FuncId → Bool} {e : Ex} (h : ExLe Q e (E orc)) (v0 : Value) (G : GS) : Ref (s105 true e v0 G) ((E orc).cl 105 [v0] G) :=
  fun r hr => cl_sxE_some Q orc (vs := [v0]) G Tryz.func105 (by kernel_rfl) (by kernel_rfl) (by kernel_rfl) (by kernel_rfl) (by kernel_rfl) (by kernel_rfl) (m105 h v0 G r hr)
/-- coxswain/ready.NewPut -/
noncomputable def s107 (q : Bool) (e : Ex) (v0 v1 v2 v3 v4 : Value) (G : GS) : Option (Value × GS) :=
  bS (bx q v0 G) fun x0 G1 =>
  bP (lda Q q 31 13 x0 G1) fun x2 =>
  bS (e.ev.cl 213 [x2, v1] G1) fun x3 G4 =>
  bP (bd Q q 303 z303 [(0, 0, 19), (1, 19, 1), (2, 20, 1), (3, 21, 1)] [x3, v2, v3, v4]) fun x5 =>
  bS (bx q x5 G4) fun x6 G7 =>
  bP (pNil x6) fun x8 =>
  bP (fa Q q 303 0 0 x8) fun x9 =>
  bP (fa Q q 300 6 18 x9) fun x10 =>
  bP (ld Q q 33 x10 G7) fun x11 =>
  bP (bn Q q .eql 33 (.tmp 24) (.const (.int .i64 0)) x11 (.int .i64 0)) fun x12 =>
  bS (gd x12 true (some (v2, G7)) G7) fun x13 G14 =>
  bS (gd x12 true (bP (bn Q q .eql 41 (.tmp 27) (.const (.int .u64 18446744073709551615)) x13 (.int .u64 18446744073709551615)) fun y => some (y, G14)) G14) fun x15 G16 =>
  bS (gd x12 true (some (x15, G16)) G16) fun x17 G18 =>
  bS (gd x17 false (some (v3, G18)) G18) fun x19 G20 =>
  bS (gd x17 false (bP (bn Q q .lss 3 (.tmp 30) (.const (.int .i64 0)) x19 (.int .i64 0)) fun y => some (y, G20)) G20) fun x21 G22 =>
  bS (gd x12 true (bP (pickV x17 (.bool true) x21) fun y => some (y, G22)) G22) fun x23 G24 =>
  bS (gd x12 true (some (x23, G24)) G24) fun x25 G26 =>
  bS (gd x25 false (some (v3, G26)) G26) fun x27 G28 =>
  bS (gd x25 false (bP (bn Q q .gtr 3 (.tmp 34) (.const (.int .i64 65534)) x27 (.int .i64 65534)) fun y => some (y, G28)) G28) fun x29 G30 =>
  bS (gd x12 true (bP (pickV x25 (.bool true) x29) fun y => some (y, G30)) G30) fun x31 G32 =>
  bS (gd x12 true (some (x31, G32)) G32) fun x33 G34 =>
  bS (gd x33 false (some (v4, G34)) G34) fun x35 G36 =>
  bS (gd x33 false (bP (bn Q q .lss 3 (.tmp 38) (.const (.int .i64 1)) x35 (.int .i64 1)) fun y => some (y, G36)) G36) fun x37 G38 =>
  bS (gd x12 true (bP (pickV x33 (.bool true) x37) fun y => some (y, G38)) G38) fun x39 G40 =>
  bS (gd x12 true (some (x39, G40)) G40) fun x41 G42 =>
  bS (gd x41 false (some (v4, G42)) G42) fun x43 G44 =>
  bS (gd x41 false (bP (fa Q q 31 2 2 x0) fun y => some (y, G44)) G44) fun x45 G46 =>
  bS (gd x41 false (bP (ld Q q 3 x45 G46) fun y => some (y, G46)) G46) fun x47 G48 =>
  bS (gd x41 false (bP (bn Q q .gtr 3 (.tmp 42) (.tmp 44) x43 x47) fun y => some (y, G48)) G48) fun x49 G50 =>
  bS (gd x12 true (bP (pickV x41 (.bool true) x49) fun y => some (y, G50)) G50) fun x51 G52 =>
  bP (pickV x12 x51 (.bool false)) fun x53 =>
  ifV x53 (
  bP (pNil x6) fun x54 =>
  bP (fa Q q 303 0 0 x54) fun x55 =>
  bP (fa Q q 300 6 18 x55) fun x56 =>
  bP (st Q q 33 1 x56 (.int .i64 3) G52) fun G57 =>
  bP (pNil x6) fun x58 =>
  bP (fa Q q 303 0 0 x58) fun x59 =>
  bP (fa Q q 300 6 18 x59) fun x60 =>
  bP (ld Q q 33 x60 G57) fun x61 =>
  bP (bn Q q .eql 33 (.tmp 56) (.const (.int .i64 0)) x61 (.int .i64 0)) fun x62 =>
  ifV x62 (
  bP (pNil x6) fun x63 =>
  bP (fa Q q 303 0 0 x63) fun x64 =>
  bS (e.ev.cl 214 [x64] G57) fun x65 G66 =>
  bS (e.ev.cl 215 [x6] G66) fun x67 G68 =>
  bS (bs Q q 298 2 (rep z305 2) 1 [(0, 0, 1), (1, 1, 1)] [x65, x67] G68) fun x69 G70 =>
  bP (pNil x6) fun x71 =>
  bP (fa Q q 303 0 0 x71) fun x72 =>
  bP (fa Q q 300 4 16 x72) fun x73 =>
  bP (st Q q 298 1 x73 x69 G70) fun G74 =>
  some (x6, G74)) (
  some (x6, G57))) (
  bP (pNil x6) fun x75 =>
  bP (fa Q q 303 0 0 x75) fun x76 =>
  bP (fa Q q 300 6 18 x76) fun x77 =>
  bP (ld Q q 33 x77 G52) fun x78 =>
  bP (bn Q q .eql 33 (.tmp 56) (.const (.int .i64 0)) x78 (.int .i64 0)) fun x79 =>
  ifV x79 (
  bP (pNil x6) fun x80 =>
  bP (fa Q q 303 0 0 x80) fun x81 =>
  bS (e.ev.cl 214 [x81] G52) fun x82 G83 =>
  bS (e.ev.cl 215 [x6] G83) fun x84 G85 =>
  bS (bs Q q 298 2 (rep z305 2) 1 [(0, 0, 1), (1, 1, 1)] [x82, x84] G85) fun x86 G87 =>
  bP (pNil x6) fun x88 =>
  bP (fa Q q 303 0 0 x88) fun x89 =>
  bP (fa Q q 300 4 16 x89) fun x90 =>
  bP (st Q q 298 1 x90 x86 G87) fun G91 =>
  some (x6, G91)) (
  some (x6, G52)))
theorem m107 {e : Ex} {E : Ev} (h : ExLe Q e E) (v0 v1 v2 v3 v4 : Value) (G : GS) : Ref (s107 true e v0 v1 v2 v3 v4 G) (s107 false (Ex.of E) v0 v1 v2 v3 v4 G) := by
  unfold s107
  exact Ref.go
theorem f107 {orc : FuncId → Bool} {e : Ex} (h : ExLe Q e (E orc)) (v0 v1 v2 v3 v4 : Value) (G : GS) : Ref (s107 true e v0 v1 v2 v3 v4 G) ((E orc).cl 107 [v0, v1, v2, v3, v4] G) :=
  fun r hr => cl_sxE_some Q orc (vs := [v0, v1, v2, v3, v4]) G Tryz.func107 (by kernel_rfl) (by kernel_rfl) (by kernel_rfl) (by kernel_rfl) (by kernel_rfl) (by kernel_rfl) (m107 h v0 v1 v2 v3 v4 G r hr)
/-- coxswain/ready.NewPick -/
noncomputable def s109 (q : Bool) (e : Ex) (v0 v1 : Value) (G : GS) : Option (Value × GS) :=
  bS (bx q v0 G) fun x0 G1 =>
  bP (lda Q q 31 13 x0 G1) fun x2 =>
  bS (e.ev.cl 213 [x2, v1] G1) fun x3 G4 =>
  bP (bd Q q 311 z311 [(0, 0, 19)] [x3]) fun x5 =>
  bS (bx q x5 G4) fun x6 G7 =>
  bS (al Q q 82 z82 G7) fun x8 G9 =>
  bP (st Q q 82 1 x8 x6 G9) fun G10 =>
  bP (ld Q q 82 x8 G10) fun x11 =>
  bP (pNil x11) fun x12 =>
  bP (fa Q q 311 0 0 x12) fun x13 =>
  bP (fa Q q 300 6 18 x13) fun x14 =>
  bP (ld Q q 33 x14 G10) fun x15 =>
  bP (bn Q q .eql 33 (.tmp 15) (.const (.int .i64 0)) x15 (.int .i64 0)) fun x16 =>
  ifV x16 (
  bP (ld Q q 82 x8 (G10.room 19)) fun x17 =>
  bP (ld Q q 82 x8 (G10.room 19)) fun x18 =>
  bP (pNil x18) fun x19 =>
  bP (fa Q q 311 0 0 x19) fun x20 =>
  bS (e.ev.cl 214 [x20] (G10.room 19)) fun x22 G21 =>
  chk ((sameO (ld Q q 82 x8 G21) x17 && true)) <|
  bP (bd Q q 317 z317 [(0, 0, 1), (1, 1, 1), (2, 2, 1)] [(.func (.func 218) #[] #[x0]), (.func (.func 16) #[] #[]), (.func (.func 219) #[] #[x8])]) fun x23 =>
  bS (bx q x23 (G21.at' (G10.nx + 8))) fun x24 G25 =>
  bP (ifc Q q 312 x24) fun x26 =>
  bP (ld Q q 82 x8 (G25.back G21)) fun x27 =>
  chk ((sameO (ld Q q 82 x8 (G10.room 19)) x27 && true)) <|
  bP (pNil x27) fun x28 =>
  bP (fa Q q 311 0 0 x28) fun x29 =>
  bS (e.ev.cl 220 [x29] (G25.back G21)) fun x31 G30 =>
  chk ((sameO (ld Q q 82 x8 G30) x17 && true)) <|
  bS (bs Q q 298 3 (rep z305 3) 1 [(0, 0, 1), (1, 1, 1), (2, 2, 1)] [x22, x26, x31] (G30.at' (G10.nx + 14))) fun x32 G33 =>
  bP (pNil x17) fun x34 =>
  bP (fa Q q 311 0 0 x34) fun x35 =>
  bP (fa Q q 300 4 16 x35) fun x36 =>
  bP (st Q q 298 1 x36 x32 (G33.back G30)) fun G37 =>
  bP (ld Q q 82 x8 G37) fun x38 =>
  some (x38, G37)) (
  bP (ld Q q 82 x8 G10) fun x39 =>
  some (x39, G10))
theorem m109 {e : Ex} {E : Ev} (h : ExLe Q e E) (v0 v1 : Value) (G : GS) : Ref (s109 true e v0 v1 G) (s109 false (Ex.of E) v0 v1 G) := by
  unfold s109
  exact Ref.go
theorem f109 {orc : FuncId → Bool} {e : Ex} (h : ExLe Q e (E orc)) (v0 v1 : Value) (G : GS) : Ref (s109 true e v0 v1 G) ((E orc).cl 109 [v0, v1] G) :=
  fun r hr => cl_sxE_some Q orc (vs := [v0, v1]) G Tryz.func109 (by kernel_rfl) (by kernel_rfl) (by kernel_rfl) (by kernel_rfl) (by kernel_rfl) (by kernel_rfl) (m109 h v0 v1 G r hr)
/-- coxswain/ready.NewLook -/
noncomputable def s111 (q : Bool) (e : Ex) (v0 v1 : Value) (G : GS) : Option (Value × GS) :=
  bS (bx q v0 G) fun x0 G1 =>
  bP (lda Q q 31 13 x0 G1) fun x2 =>
  bS (e.ev.cl 213 [x2, v1] G1) fun x3 G4 =>
  bP (bd Q q 318 z318 [(0, 0, 19)] [x3]) fun x5 =>
  bS (bx q x5 G4) fun x6 G7 =>
  bS (al Q q 84 z84 G7) fun x8 G9 =>
  bP (st Q q 84 1 x8 x6 G9) fun G10 =>
  bP (ld Q q 84 x8 G10) fun x11 =>
  bP (pNil x11) fun x12 =>
  bP (fa Q q 318 0 0 x12) fun x13 =>
  bP (fa Q q 300 6 18 x13) fun x14 =>
  bP (ld Q q 33 x14 G10) fun x15 =>
  bP (bn Q q .eql 33 (.tmp 15) (.const (.int .i64 0)) x15 (.int .i64 0)) fun x16 =>
  ifV x16 (
  bP (ld Q q 84 x8 (G10.room 19)) fun x17 =>
  bP (ld Q q 84 x8 (G10.room 19)) fun x18 =>
  bP (pNil x18) fun x19 =>
  bP (fa Q q 318 0 0 x19) fun x20 =>
  bS (e.ev.cl 214 [x20] (G10.room 19)) fun x22 G21 =>
  chk ((sameO (ld Q q 84 x8 G21) x17 && true)) <|
  bP (bd Q q 324 z324 [(0, 0, 1), (1, 1, 1), (2, 2, 1)] [(.func (.func 221) #[] #[x0]), (.func (.func 17) #[] #[]), (.func (.func 222) #[] #[x8])]) fun x23 =>
  bS (bx q x23 (G21.at' (G10.nx + 8))) fun x24 G25 =>
  bP (ifc Q q 319 x24) fun x26 =>
  bP (ld Q q 84 x8 (G25.back G21)) fun x27 =>
  chk ((sameO (ld Q q 84 x8 (G10.room 19)) x27 && true)) <|
  bP (pNil x27) fun x28 =>
  bP (fa Q q 318 0 0 x28) fun x29 =>
  bS (e.ev.cl 220 [x29] (G25.back G21)) fun x31 G30 =>
  chk ((sameO (ld Q q 84 x8 G30) x17 && true)) <|
  bS (bs Q q 298 3 (rep z305 3) 1 [(0, 0, 1), (1, 1, 1), (2, 2, 1)] [x22, x26, x31] (G30.at' (G10.nx + 14))) fun x32 G33 =>
  bP (pNil x17) fun x34 =>
  bP (fa Q q 318 0 0 x34) fun x35 =>
  bP (fa Q q 300 4 16 x35) fun x36 =>
  bP (st Q q 298 1 x36 x32 (G33.back G30)) fun G37 =>
  bP (ld Q q 84 x8 G37) fun x38 =>
  some (x38, G37)) (
  bP (ld Q q 84 x8 G10) fun x39 =>
  some (x39, G10))
theorem m111 {e : Ex} {E : Ev} (h : ExLe Q e E) (v0 v1 : Value) (G : GS) : Ref (s111 true e v0 v1 G) (s111 false (Ex.of E) v0 v1 G) := by
  unfold s111
  exact Ref.go
theorem f111 {orc : FuncId → Bool} {e : Ex} (h : ExLe Q e (E orc)) (v0 v1 : Value) (G : GS) : Ref (s111 true e v0 v1 G) ((E orc).cl 111 [v0, v1] G) :=
  fun r hr => cl_sxE_some Q orc (vs := [v0, v1]) G Tryz.func111 (by kernel_rfl) (by kernel_rfl) (by kernel_rfl) (by kernel_rfl) (by kernel_rfl) (by kernel_rfl) (m111 h v0 v1 G r hr)
/-- (*coxswain/ready.Put).Err -/
noncomputable def s115 (q : Bool) (e : Ex) (v0 : Value) (G : GS) : Option (Value × GS) :=
  bP (ep Q q false 80 (.tmp 3) (.const (.pointer none)) v0 (.pointer none)) fun x0 =>
  ifV x0 (
  some ((.int .i64 1), G)) (
  bP (pNil v0) fun x1 =>
  bP (fa Q q 303 0 0 x1) fun x2 =>
  bS (e.ev.cl 226 [x2] G) fun x3 G4 =>
  some (x3, G4))
theorem m115 {e : Ex} {E : Ev} (h : ExLe Q e E) (v0 : Value) (G : GS) : Ref (s115 true e v0 G) (s115 false (Ex.of E) v0 G) := by
  unfold s115
  exact Ref.go
theorem f115 {orc : FuncId → Bool} {e : Ex} (h : ExLe Q e (E orc)) (v0 : Value) (G : GS) : Ref (s115 true e v0 G) ((E orc).cl 115 [v0] G) :=
  fun r hr => cl_sxE_some Q orc (vs := [v0]) G Tryz.func115 (by kernel_rfl) (by kernel_rfl) (by kernel_rfl) (by kernel_rfl) (by kernel_rfl) (by kernel_rfl) (m115 h v0 G r hr)
/-- (*coxswain/ready.Pick).Item -/
noncomputable def s119 (q : Bool) (e : Ex) (v0 : Value) (G : GS) : Option (Value × GS) :=
  bS (al Q q 44 z44 G) fun x0 G1 =>
  bP (ep Q q false 82 (.tmp 4) (.const (.pointer none)) v0 (.pointer none)) fun x2 =>
  ifV x2 (
  bP (bd Q q 44 z44 [] []) fun x3 =>
  bP (st Q q 44 2 x0 x3 G1) fun G4 =>
  bP (lda Q q 44 2 x0 G4) fun x5 =>
  some (.tuple #[x5, (.int .i64 1)], G4)) (
  bP (pNil v0) fun x6 =>
  bP (fa Q q 311 1 19 x6) fun x7 =>
  bP (lda Q q 309 3 x7 (G1.room 12)) fun x8 =>
  bP (pNil v0) fun x9 =>
  bP (fa Q q 311 0 0 x9) fun x10 =>
  bS (e.ev.cl 227 [x8, x10] (G1.room 12)) fun x12 G11 =>
  bP (pExtract x12 0) fun x13 =>
  bP (pExtract x12 1) fun x14 =>
  bP (st Q q 44 2 x0 x13 G11) fun G15 =>
  bP (lda Q q 44 2 x0 G15) fun x16 =>
  some (.tuple #[x16, x14], G15))
theorem m119 {e : Ex} {E : Ev} (h : ExLe Q e E) (v0 : Value) (G : GS) : Ref (s119 true e v0 G) (s119 false (Ex.of E) v0 G) := by
  unfold s119
  exact Ref.go
theorem f119 {orc : FuncId → Bool} {e : Ex} (h : ExLe Q e (E orc)) (v0 : Value) (G : GS) : Ref (s119 true e v0 G) ((E orc).cl 119 [v0] G) :=
  fun r hr => cl_sxE_some Q orc (vs := [v0]) G Tryz.func119 (by kernel_rfl) (by kernel_rfl) (by kernel_rfl) (by kernel_rfl) (by kernel_rfl) (by kernel_rfl) (m119 h v0 G r hr)
/-- (*coxswain/ready.Look).Item -/
noncomputable def s122 (q : Bool) (e : Ex) (v0 : Value) (G : GS) : Option (Value × GS) :=
  bS (al Q q 44 z44 G) fun x0 G1 =>
  bP (ep Q q false 84 (.tmp 4) (.const (.pointer none)) v0 (.pointer none)) fun x2 =>
  ifV x2 (
  bP (bd Q q 44 z44 [] []) fun x3 =>
  bP (st Q q 44 2 x0 x3 G1) fun G4 =>
  bP (lda Q q 44 2 x0 G4) fun x5 =>
  some (.tuple #[x5, (.int .i64 1)], G4)) (
  bP (pNil v0) fun x6 =>
  bP (fa Q q 318 1 19 x6) fun x7 =>
  bP (lda Q q 309 3 x7 (G1.room 12)) fun x8 =>
  bP (pNil v0) fun x9 =>
  bP (fa Q q 318 0 0 x9) fun x10 =>
  bS (e.ev.cl 227 [x8, x10] (G1.room 12)) fun x12 G11 =>
  bP (pExtract x12 0) fun x13 =>
  bP (pExtract x12 1) fun x14 =>
  bP (st Q q 44 2 x0 x13 G11) fun G15 =>
  bP (lda Q q 44 2 x0 G15) fun x16 =>
  some (.tuple #[x16, x14], G15))
theorem m122 {e : Ex} {E : Ev} (h : ExLe Q e E) (v0 : Value) (G : GS) : Ref (s122 true e v0 G) (s122 false (Ex.of E) v0 G) := by
  unfold s122
  exact Ref.go
theorem f122 {orc : FuncId → Bool} {e : Ex} (h : ExLe Q e (E orc)) (v0 : Value) (G : GS) : Ref (s122 true e v0 G) ((E orc).cl 122 [v0] G) :=
  fun r hr => cl_sxE_some Q orc (vs := [v0]) G Tryz.func122 (by kernel_rfl) (by kernel_rfl) (by kernel_rfl) (by kernel_rfl) (by kernel_rfl) (by kernel_rfl) (m122 h v0 G r hr)
/-- coxswain/coxswainlaw19.chapter -/
noncomputable def s127 (q : Bool) (e : Ex) (G : GS) : Option (Value × GS) :=
  bS (al Q q 31 z31 G) fun x0 G1 =>
  bP (bd Q q 23 z23 [(0, 0, 1), (1, 1, 1), (2, 2, 1)] [(.int .i64 0), (.int .i64 1), (.int .i64 3)]) fun x2 =>
  bP (bd Q q 25 z25 [(0, 0, 3), (1, 3, 1), (2, 4, 1), (3, 5, 1)] [x2, (.int .i64 4), (.int .i64 7), (.int .i64 9)]) fun x3 =>
  bS (al Q q 25 z25 G1) fun x4 G5 =>
  bP (st Q q 25 6 x4 x3 G5) fun G6 =>
  bP (lda Q q 25 6 x4 G6) fun x7 =>
  bP (bd Q q 27 z27 [(0, 0, 1), (1, 1, 1), (2, 2, 1)] [(.int .i64 8), (.int .i64 9), (.int .i64 2)]) fun x8 =>
  bP (bd Q q 29 z29 [(0, 0, 6), (1, 6, 3), (2, 9, 1)] [x7, x8, (.int .i64 11)]) fun x9 =>
  bS (al Q q 29 z29 G6) fun x10 G11 =>
  bP (st Q q 29 10 x10 x9 G11) fun G12 =>
  bP (lda Q q 29 10 x10 G12) fun x13 =>
  bP (bd Q q 31 z31 [(0, 0, 1), (1, 1, 1), (2, 2, 1), (3, 3, 10)] [(.int .i64 16), (.int .i64 14), (.int .i64 2), x13]) fun x14 =>
  bP (st Q q 31 13 x0 x14 G12) fun G15 =>
  bP (lda Q q 31 13 x0 G15) fun x16 =>
  some (x16, G15)
theorem m127 {e : Ex} {E : Ev} (h : ExLe Q e E) (G : GS) : Ref (s127 true e  G) (s127 false (Ex.of E)  G) := by
  unfold s127
  exact Ref.go
theorem f127 {orc : FuncId → Bool} {e : Ex} (h : ExLe Q e (E orc)) (ho : orc 127 = false) (G : GS) : Ref (s127 true e  G) ((E orc).cl 127 [] G) :=
  fun r hr => cl_sxE_some Q orc (vs := []) G Tryz.func127 (by kernel_rfl) (by kernel_rfl) ho (by kernel_rfl) (by kernel_rfl) (by kernel_rfl) (m127 h  G r hr)
/-- coxswain/coxswainlaw19.two -/
noncomputable def s128 (q : Bool) (e : Ex) (G : GS) : Option (Value × GS) :=
  bS (e.ev.cl 127 [] G) fun x0 G1 =>
  bS (al Q q 31 z31 G1) fun x2 G3 =>
  bP (st Q q 31 13 x2 x0 G3) fun G4 =>
  bP (lda Q q 31 13 x2 G4) fun x5 =>
  bS (e.ev.cl 229 [x5, (.int .i64 34)] G4) fun x6 G7 =>
  bP (ep Q q false 32 (.tmp 10) (.const (.pointer none)) x6 (.pointer none)) fun x8 =>
  ifV x8 (
  some ((.pointer none), G7)) (
  bP (lda Q q 31 13 x2 G7) fun x9 =>
  bS (e.ev.cl 230 [x9, x6, (.int .i64 0), (.int .u64 9), (.int .i64 5), (.int .i64 1)] G7) fun x10 G11 =>
  bP (pExtract x10 0) fun x12 =>
  bP (pExtract x10 1) fun x13 =>
  bP (lda Q q 31 13 x2 G11) fun x14 =>
  bS (e.ev.cl 230 [x14, x6, (.int .i64 1), (.int .u64 4), (.int .i64 6), (.int .i64 1)] G11) fun x15 G16 =>
  bP (pExtract x15 0) fun x17 =>
  bP (pExtract x15 1) fun x18 =>
  bP (bn Q q .neq 33 (.tmp 24) (.const (.int .i64 0)) x12 (.int .i64 0)) fun x19 =>
  bS (gd x19 false (some (x17, G16)) G16) fun x20 G21 =>
  bS (gd x19 false (bP (bn Q q .neq 33 (.tmp 27) (.const (.int .i64 0)) x20 (.int .i64 0)) fun y => some (y, G21)) G21) fun x22 G23 =>
  bP (pickV x19 (.bool true) x22) fun x24 =>
  bS (gd x24 false (some (x13, G23)) G23) fun x25 G26 =>
  bS (gd x24 false (bP (bn Q q .neq 3 (.tmp 31) (.const (.int .i64 18)) x25 (.int .i64 18)) fun y => some (y, G26)) G26) fun x27 G28 =>
  bP (pickV x24 (.bool true) x27) fun x29 =>
  bS (gd x29 false (some (x18, G28)) G28) fun x30 G31 =>
  bS (gd x29 false (bP (bn Q q .neq 3 (.tmp 35) (.const (.int .i64 20)) x30 (.int .i64 20)) fun y => some (y, G31)) G31) fun x32 G33 =>
  bP (pickV x29 (.bool true) x32) fun x34 =>
  ifV x34 (
  some ((.pointer none), G33)) (
  some (x6, G33)))
theorem m128 {e : Ex} {E : Ev} (h : ExLe Q e E) (G : GS) : Ref (s128 true e  G) (s128 false (Ex.of E)  G) := by
  unfold s128
  exact Ref.go
theorem f128 {orc : FuncId → Bool} {e : Ex} (h : ExLe Q e (E orc)) (ho : orc 128 = false) (G : GS) : Ref (s128 true e  G) ((E orc).cl 128 [] G) :=
  fun r hr => cl_sxE_some Q orc (vs := []) G Tryz.func128 (by kernel_rfl) (by kernel_rfl) ho (by kernel_rfl) (by kernel_rfl) (by kernel_rfl) (m128 h  G r hr)
noncomputable def b129_0 (q : Bool) (e : Ex) (lp : Env → GS → Option (Exit × Env × GS)) (τ : Env) (G : GS) : Option (Exit × Env × GS) :=
  bV q (τ 1) fun a1_ =>
  bV q (τ 8) fun a8_ =>
  bV q (τ 9) fun a9_ =>
  bP (bn Q q .lss 3 (.tmp 13) (.const (.int .i64 4000)) a9_ (.int .i64 4000)) fun x0 =>
  bS (gd x0 true (some (a8_, G)) G) fun x1 G2 =>
  bS (gd x0 true (some (a1_, G2)) G2) fun x3 G4 =>
  bS (gd x0 true (bS (e.ev.cl 231 [x1, x3] G4) fun y G => some (y, G)) G4) fun x5 G6 =>
  bS (gd x0 true (bP (un Q q .not x5) fun y => some (y, G6)) G6) fun x7 G8 =>
  bP (pickV x0 x7 (.bool false)) fun x9 =>
  ifV x9 (
  bS (e.ev.cl 21 [a1_] G8) fun x10 G11 =>
  bP (bn Q q .add 3 (.tmp 21) (.const (.int .i64 1)) a9_ (.int .i64 1)) fun x12 =>
  lp (tu τ [(1, a1_), (8, a8_), (9, x12), (13, a9_), (14, x0), (15, x0), (16, x1), (17, x3), (18, x5), (19, x7), (20, x9), (21, a9_), (22, x12), (23, a1_), (24, x10)]) G11) (
  some ((.exit 0), clq q 29 (tu τ [(1, a1_), (8, a8_), (9, a9_), (13, a9_), (14, x0), (15, x0), (16, x1), (17, x3), (18, x5), (19, x7), (20, x9)]), G8))
theorem mb129_0 {e : Ex} {E : Ev} (h : ExLe Q e E) {lp lp' : Env → GS → Option (Exit × Env × GS)} (hlp : LpLe lp lp') (τ : Env) (G : GS) : Ref (b129_0 true e lp τ G) (b129_0 false (Ex.of E) lp' τ G) := by
  unfold b129_0
  exact Ref.go
theorem l129_0 {orc : FuncId → Bool} {e : Ex} (h : ExLe Q e (E orc)) (lp : Env → GS → Option (Exit × Env × GS)) (hlp : ∀ τ G, Ref (lp τ G) (mapE ((E orc).lp (subAt [1, 1, 0, 1, 0, 0] (bodyOf Tryz.f129)) (lst 29 τ) G))) (T : List Value) (G : GS) (hT : T.length = 29) : Ref (b129_0 true e lp (nth undef T) G) (mapE ((E orc).lp (subAt [1, 1, 0, 1, 0, 0] (bodyOf Tryz.f129)) T G)) :=
  fun r hr => lp_sxM Q orc G hT (by kernel_rfl) (mb129_0 h ⟨hlp⟩ _ _ r hr)
/-- coxswain/coxswainlaw19.look -/
noncomputable def s129 (q : Bool) (e : Ex) (v0 v1 v2 : Value) (G : GS) : Option (Value × GS) :=
  bS (bx q v0 G) fun x0 G1 =>
  bS (al Q q 44 z44 G1) fun x2 G3 =>
  bP (lda Q q 31 13 x0 G3) fun x4 =>
  bS (e.ev.cl 111 [x4, v2] G3) fun x5 G6 =>
  bL q e 129 0 (subAt [1, 1, 0, 1, 0, 0] (bodyOf Tryz.f129)) 29 (tu (nth undef [v0, v1, v2]) [(3, x0), (6, x2), (7, (.int .i64 0)), (8, x5), (9, (.int .i64 1)), (10, x4), (11, v2), (12, x5)]) G6 fun e7 t8 G9 =>
  bV q (t8 6) fun t8x6_ =>
  bV q (t8 8) fun t8x8_ =>
  ifE e7 (.exit 0) (
  bS (e.ev.cl 122 [t8x8_] G9) fun x10 G11 =>
  bP (pExtract x10 0) fun x12 =>
  bP (pExtract x10 1) fun x13 =>
  bP (st Q q 44 2 t8x6_ x12 G11) fun G14 =>
  bP (lda Q q 44 2 t8x6_ G14) fun x15 =>
  some (.tuple #[x15, x13], G14)) (none)
theorem m129 {e : Ex} {E : Ev} (h : ExLe Q e E) (v0 v1 v2 : Value) (G : GS) : Ref (s129 true e v0 v1 v2 G) (s129 false (Ex.of E) v0 v1 v2 G) := by
  unfold s129
  exact Ref.go
theorem f129 {orc : FuncId → Bool} {e : Ex} (h : ExLe Q e (E orc)) (v0 v1 v2 : Value) (G : GS) : Ref (s129 true e v0 v1 v2 G) ((E orc).cl 129 [v0, v1, v2] G) :=
  fun r hr => cl_sxE_some Q orc (vs := [v0, v1, v2]) G Tryz.func129 (by kernel_rfl) (by kernel_rfl) (by kernel_rfl) (by kernel_rfl) (by kernel_rfl) (by kernel_rfl) (m129 h v0 v1 v2 G r hr)
/-- coxswain/coxswainlaw19.picked -/
noncomputable def s130 (q : Bool) (e : Ex) (v0 v1 v2 v3 : Value) (G : GS) : Option (Value × GS) :=
  bS (bx q v0 G) fun x0 G1 =>
  bP (lda Q q 31 13 x0 G1) fun x2 =>
  bS (e.ev.cl 232 [x2, v1, (.int .i64 0)] G1) fun x3 G4 =>
  bP (pExtract x3 0) fun x5 =>
  bP (pExtract x3 1) fun x6 =>
  bS (al Q q 44 z44 G4) fun x7 G8 =>
  bP (st Q q 44 2 x7 x5 G8) fun G9 =>
  bP (bn Q q .eql 33 (.tmp 17) (.const (.int .i64 0)) x6 (.int .i64 0)) fun x10 =>
  bS (gd x10 true (bP (fa Q q 44 0 0 x7) fun y => some (y, G9)) G9) fun x11 G12 =>
  bS (gd x10 true (bP (ld Q q 41 x11 G12) fun y => some (y, G12)) G12) fun x13 G14 =>
  bS (gd x10 true (some (v2, G14)) G14) fun x15 G16 =>
  bS (gd x10 true (bP (bn Q q .eql 41 (.tmp 21) (.tmp 22) x13 x15) fun y => some (y, G16)) G16) fun x17 G18 =>
  bP (pickV x10 x17 (.bool false)) fun x19 =>
  bS (gd x19 true (bP (fa Q q 44 1 1 x7) fun y => some (y, G18)) G18) fun x20 G21 =>
  bS (gd x19 true (bP (ld Q q 3 x20 G21) fun y => some (y, G21)) G21) fun x22 G23 =>
  bS (gd x19 true (some (v3, G23)) G23) fun x24 G25 =>
  bS (gd x19 true (bP (bn Q q .eql 3 (.tmp 27) (.tmp 28) x22 x24) fun y => some (y, G25)) G25) fun x26 G27 =>
  bP (pickV x19 x26 (.bool false)) fun x28 =>
  some (x28, G27)
theorem m130 {e : Ex} {E : Ev} (h : ExLe Q e E) (v0 v1 v2 v3 : Value) (G : GS) : Ref (s130 true e v0 v1 v2 v3 G) (s130 false (Ex.of E) v0 v1 v2 v3 G) := by
  unfold s130
  exact Ref.go
theorem f130 {orc : FuncId → Bool} {e : Ex} (h : ExLe Q e (E orc)) (v0 v1 v2 v3 : Value) (G : GS) : Ref (s130 true e v0 v1 v2 v3 G) ((E orc).cl 130 [v0, v1, v2, v3] G) :=
  fun r hr => cl_sxE_some Q orc (vs := [v0, v1, v2, v3]) G Tryz.func130 (by kernel_rfl) (by kernel_rfl) (by kernel_rfl) (by kernel_rfl) (by kernel_rfl) (by kernel_rfl) (m130 h v0 v1 v2 v3 G r hr)
noncomputable def b156_0 (q : Bool) (e : Ex) (lp : Env → GS → Option (Exit × Env × GS)) (τ : Env) (G : GS) : Option (Exit × Env × GS) :=
  bV q (τ 1) fun a1_ =>
  bV q (τ 2) fun a2_ =>
  bV q (τ 13) fun a13_ =>
  bV q (τ 14) fun a14_ =>
  bP (bn Q q .lss 3 (.tmp 14) (.tmp 13) a14_ a13_) fun x0 =>
  ifV x0 (
  bP (fa Q q 31 1 1 a2_) fun x1 =>
  bP (ld Q q 3 x1 G) fun x2 =>
  bP (bn Q q .add 3 (.tmp 19) (.tmp 20) x2 a14_) fun x3 =>
  bS (e.ev.cl 45 [a1_, x3, (.int .u64 0)] G) fun x4 G5 =>
  bP (bn Q q .add 3 (.tmp 14) (.const (.int .i64 1)) a14_ (.int .i64 1)) fun x6 =>
  lp (tu τ [(1, a1_), (2, a2_), (13, a13_), (14, x6), (4, a14_), (15, x0), (16, a14_), (17, a1_), (18, x1), (19, x2), (20, a14_), (21, x3), (22, x4), (23, x6)]) G5) (
  some ((.exit 0), clq q 24 (tu τ [(1, a1_), (2, a2_), (13, a13_), (14, a14_), (15, x0)]), G))
theorem mb156_0 {e : Ex} {E : Ev} (h : ExLe Q e E) {lp lp' : Env → GS → Option (Exit × Env × GS)} (hlp : LpLe lp lp') (τ : Env) (G : GS) : Ref (b156_0 true e lp τ G) (b156_0 false (Ex.of E) lp' τ G) := by
  unfold b156_0
  exact Ref.go
theorem l156_0 {orc : FuncId → Bool} {e : Ex} (h : ExLe Q e (E orc)) (lp : Env → GS → Option (Exit × Env × GS)) (hlp : ∀ τ G, Ref (lp τ G) (mapE ((E orc).lp (subAt [1, 1, 1, 1, 0, 0] (bodyOf Tryz.f156)) (lst 24 τ) G))) (T : List Value) (G : GS) (hT : T.length = 24) : Ref (b156_0 true e lp (nth undef T) G) (mapE ((E orc).lp (subAt [1, 1, 1, 1, 0, 0] (bodyOf Tryz.f156)) T G)) :=
  fun r hr => lp_sxM Q orc G hT (by kernel_rfl) (mb156_0 h ⟨hlp⟩ _ _ r hr)
/-- coxswain/tower.Fill -/
noncomputable def s156 (q : Bool) (e : Ex) (v0 v1 : Value) (G : GS) : Option (Value × GS) :=
  bS (bx q v0 G) fun x0 G1 =>
  bP (lda Q q 31 13 x0 G1) fun x2 =>
  bS (e.ev.cl 102 [x2] G1) fun x3 G4 =>
  bP (un Q q .not x3) fun x5 =>
  ifV x5 (
  some (.tuple #[], G4)) (
  bP (fa Q q 31 3 3 x0) fun x6 =>
  bP (lda Q q 29 10 x6 G4) fun x7 =>
  bS (e.ev.cl 246 [x7, v1] G4) fun x8 G9 =>
  bP (fa Q q 31 2 2 x0) fun x10 =>
  bP (ld Q q 3 x10 G9) fun x11 =>
  bL q e 156 0 (subAt [1, 1, 1, 1, 0, 0] (bodyOf Tryz.f156)) 24 (tu (nth undef [v0, v1]) [(2, x0), (5, x2), (6, x3), (7, x5), (8, x6), (9, x7), (10, v1), (11, x8), (12, x10), (13, x11), (14, (.int .i64 0))]) G9 fun e12 t13 G14 =>
  ifE e12 (.exit 0) (
  some (.tuple #[], G14)) (none))
theorem m156 {e : Ex} {E : Ev} (h : ExLe Q e E) (v0 v1 : Value) (G : GS) : Ref (s156 true e v0 v1 G) (s156 false (Ex.of E) v0 v1 G) := by
  unfold s156
  exact Ref.go
theorem f156 {orc : FuncId → Bool} {e : Ex} (h : ExLe Q e (E orc)) (v0 v1 : Value) (G : GS) : Ref (s156 true e v0 v1 G) ((E orc).cl 156 [v0, v1] G) :=
  fun r hr => cl_sxE_some Q orc (vs := [v0, v1]) G Tryz.func156 (by kernel_rfl) (by kernel_rfl) (by kernel_rfl) (by kernel_rfl) (by kernel_rfl) (by kernel_rfl) (m156 h v0 v1 G r hr)
/-- (*coxswain/cells.Mem).cell -/
noncomputable def s158 (q : Bool) (e : Ex) (v0 v1 : Value) (G : GS) : Option (Value × GS) :=
  bP (ep Q q false 32 (.tmp 5) (.const (.pointer none)) v0 (.pointer none)) fun x0 =>
  bS (gd x0 false (some (v0, G)) G) fun x1 G2 =>
  bS (gd x0 false (bP (pNil x1) fun y => some (y, G2)) G2) fun x3 G4 =>
  bS (gd x0 false (bP (fa Q q 158 0 0 x3) fun y => some (y, G4)) G4) fun x5 G6 =>
  bS (gd x0 false (bP (ld Q q 153 x5 G6) fun y => some (y, G6)) G6) fun x7 G8 =>
  bS (gd x0 false (bP (ep Q q false 153 (.tmp 11) (.const (.pointer none)) x7 (.pointer none)) fun y => some (y, G8)) G8) fun x9 G10 =>
  bP (pickV x0 (.bool true) x9) fun x11 =>
  bS (gd x11 false (some (v1, G10)) G10) fun x12 G13 =>
  bS (gd x11 false (bP (bn Q q .lss 3 (.tmp 15) (.const (.int .i64 0)) x12 (.int .i64 0)) fun y => some (y, G13)) G13) fun x14 G15 =>
  bP (pickV x11 (.bool true) x14) fun x16 =>
  bS (gd x16 false (some (v1, G15)) G15) fun x17 G18 =>
  bS (gd x16 false (some (v0, G18)) G18) fun x19 G20 =>
  bS (gd x16 false (bP (pNil x19) fun y => some (y, G20)) G20) fun x21 G22 =>
  bS (gd x16 false (bP (fa Q q 158 1 1 x21) fun y => some (y, G22)) G22) fun x23 G24 =>
  bS (gd x16 false (bP (ld Q q 3 x23 G24) fun y => some (y, G24)) G24) fun x25 G26 =>
  bS (gd x16 false (bP (bn Q q .geq 3 (.tmp 19) (.tmp 23) x17 x25) fun y => some (y, G26)) G26) fun x27 G28 =>
  bP (pickV x16 (.bool true) x27) fun x29 =>
  ifV x29 (
  some ((.pointer none), G28)) (
  bP (pNil v0) fun x30 =>
  bP (fa Q q 158 0 0 x30) fun x31 =>
  bP (ld Q q 153 x31 G28) fun x32 =>
  bP (pNil x32) fun x33 =>
  bP (iaa Q q 156 4096 1 x33 v1) fun x34 =>
  some (x34, G28))
theorem m158 {e : Ex} {E : Ev} (h : ExLe Q e E) (v0 v1 : Value) (G : GS) : Ref (s158 true e v0 v1 G) (s158 false (Ex.of E) v0 v1 G) := by
  unfold s158
  exact Ref.go
theorem f158 {orc : FuncId → Bool} {e : Ex} (h : ExLe Q e (E orc)) (v0 v1 : Value) (G : GS) : Ref (s158 true e v0 v1 G) ((E orc).cl 158 [v0, v1] G) :=
  fun r hr => cl_sxE_some Q orc (vs := [v0, v1]) G Tryz.func158 (by kernel_rfl) (by kernel_rfl) (by kernel_rfl) (by kernel_rfl) (by kernel_rfl) (by kernel_rfl) (m158 h v0 v1 G r hr)
/-- (*coxswain/cells.Mem).do -/
noncomputable def s159 (q : Bool) (e : Ex) (v0 v1 v2 v3 v4 : Value) (G : GS) : Option (Value × GS) :=
  bS (al Q q 68 z68 G) fun x0 G1 =>
  bP (ep Q q false 32 (.tmp 13) (.const (.pointer none)) v0 (.pointer none)) fun x2 =>
  bS (gd x2 false (some (v0, G1)) G1) fun x3 G4 =>
  bS (gd x2 false (bP (pNil x3) fun y => some (y, G4)) G4) fun x5 G6 =>
  bS (gd x2 false (bP (fa Q q 158 0 0 x5) fun y => some (y, G6)) G6) fun x7 G8 =>
  bS (gd x2 false (bP (ld Q q 153 x7 G8) fun y => some (y, G8)) G8) fun x9 G10 =>
  bS (gd x2 false (bP (ep Q q false 153 (.tmp 19) (.const (.pointer none)) x9 (.pointer none)) fun y => some (y, G10)) G10) fun x11 G12 =>
  bP (pickV x2 (.bool true) x11) fun x13 =>
  ifV x13 (
  bP (bd Q q 68 z68 [] []) fun x14 =>
  bP (st Q q 68 5 x0 x14 G12) fun G15 =>
  bP (lda Q q 68 5 x0 G15) fun x16 =>
  some (x16, G15)) (
  bP (pNil v0) fun x17 =>
  bP (fa Q q 158 3 7 x17) fun x18 =>
  bP (ld Q q 3 x18 G12) fun x19 =>
  bP (bn Q q .add 3 (.tmp 26) (.const (.int .i64 1)) x19 (.int .i64 1)) fun x20 =>
  bP (pNil v0) fun x21 =>
  bP (fa Q q 158 3 7 x21) fun x22 =>
  bP (st Q q 3 1 x22 x20 G12) fun G23 =>
  bP (bd Q q 68 z68 [(0, 0, 1), (1, 1, 1)] [v1, v2]) fun x24 =>
  bP (pNil v0) fun x25 =>
  bP (fa Q q 158 2 2 x25) fun x26 =>
  bP (st Q q 68 5 x26 x24 G23) fun G27 =>
  bS (e.ev.cl 248 [v3] G27) fun x28 G29 =>
  ifV x28 (
  bS (cValue e.ev v4 [] G29) fun x30 G31 =>
  bP (pExtract x30 0) fun x32 =>
  bP (pExtract x30 1) fun x33 =>
  bP (pNil v3) fun x34 =>
  bP (ld Q q 154 x34 G31) fun x35 =>
  bP (pNil v0) fun x36 =>
  bP (fa Q q 158 2 2 x36) fun x37 =>
  bP (fa Q q 68 2 2 x37) fun x38 =>
  bP (st Q q 41 1 x38 x35 G31) fun G39 =>
  bP (pNil v0) fun x40 =>
  bP (fa Q q 158 2 2 x40) fun x41 =>
  bP (fa Q q 68 3 3 x41) fun x42 =>
  bP (st Q q 41 1 x42 x32 G39) fun G43 =>
  bP (pNil v0) fun x44 =>
  bP (fa Q q 158 2 2 x44) fun x45 =>
  bP (fa Q q 68 4 4 x45) fun x46 =>
  bP (st Q q 4 1 x46 x33 G43) fun G47 =>
  bP (pNil v3) fun x48 =>
  bP (st Q q 154 1 x48 x32 G47) fun G49 =>
  bP (pNil v0) fun x50 =>
  bP (fa Q q 158 2 2 x50) fun x51 =>
  bP (lda Q q 68 5 x51 G49) fun x52 =>
  bP (st Q q 68 5 x0 x52 G49) fun G53 =>
  bP (lda Q q 68 5 x0 G53) fun x54 =>
  some (x54, G53)) (
  bP (pNil v0) fun x55 =>
  bP (fa Q q 158 2 2 x55) fun x56 =>
  bP (lda Q q 68 5 x56 G29) fun x57 =>
  bP (st Q q 68 5 x0 x57 G29) fun G58 =>
  bP (lda Q q 68 5 x0 G58) fun x59 =>
  some (x59, G58)))
theorem m159 {e : Ex} {E : Ev} (h : ExLe Q e E) (v0 v1 v2 v3 v4 : Value) (G : GS) : Ref (s159 true e v0 v1 v2 v3 v4 G) (s159 false (Ex.of E) v0 v1 v2 v3 v4 G) := by
  unfold s159
  exact Ref.go
theorem f159 {orc : FuncId → Bool} {e : Ex} (h : ExLe Q e (E orc)) (v0 v1 v2 v3 v4 : Value) (G : GS) : Ref (s159 true e v0 v1 v2 v3 v4 G) ((E orc).cl 159 [v0, v1, v2, v3, v4] G) :=
  fun r hr => cl_sxE_some Q orc (vs := [v0, v1, v2, v3, v4]) G Tryz.func159 (by kernel_rfl) (by kernel_rfl) (by kernel_rfl) (by kernel_rfl) (by kernel_rfl) (by kernel_rfl) (m159 h v0 v1 v2 v3 v4 G r hr)
/-- (coxswain/cells.deed).store -/
noncomputable def s160 (q : Bool) (e : Ex) (v0 : Value) (G : GS) : Option (Value × GS) :=
  bS (bx q v0 G) fun x0 G1 =>
  bP (fa Q q 246 1 1 x0) fun x2 =>
  bP (ld Q q 41 x2 G1) fun x3 =>
  some (.tuple #[x3, (.bool true)], G1)
theorem m160 {e : Ex} {E : Ev} (h : ExLe Q e E) (v0 : Value) (G : GS) : Ref (s160 true e v0 G) (s160 false (Ex.of E) v0 G) := by
  unfold s160
  exact Ref.go
theorem f160 {orc : FuncId → Bool} {e : Ex} (h : ExLe Q e (E orc)) (v0 : Value) (G : GS) : Ref (s160 true e v0 G) ((E orc).cl 160 [v0] G) :=
  fun r hr => cl_sxE_some Q orc (vs := [v0]) G Tryz.func160 (by kernel_rfl) (by kernel_rfl) (by kernel_rfl) (by kernel_rfl) (by kernel_rfl) (by kernel_rfl) (m160 h v0 G r hr)
noncomputable def b171_0 (q : Bool) (e : Ex) (lp : Env → GS → Option (Exit × Env × GS)) (τ : Env) (G : GS) : Option (Exit × Env × GS) :=
  bV q (τ 1) fun a1_ =>
  bV q (τ 2) fun a2_ =>
  bV q (τ 18) fun a18_ =>
  bV q (τ 19) fun a19_ =>
  bP (bn Q q .lss 3 (.tmp 19) (.tmp 18) a19_ a18_) fun x0 =>
  ifV x0 (
  bP (fa Q q 25 1 3 a2_) fun x1 =>
  bP (ld Q q 3 x1 G) fun x2 =>
  bP (bn Q q .add 3 (.tmp 24) (.tmp 25) x2 a19_) fun x3 =>
  bS (e.ev.cl 45 [a1_, x3, (.int .u64 1)] G) fun x4 G5 =>
  bP (bn Q q .add 3 (.tmp 19) (.const (.int .i64 1)) a19_ (.int .i64 1)) fun x6 =>
  lp (tu τ [(1, a1_), (2, a2_), (18, a18_), (19, x6), (4, a19_), (20, x0), (21, a19_), (22, a1_), (23, x1), (24, x2), (25, a19_), (26, x3), (27, x4), (28, x6)]) G5) (
  some ((.exit 0), clq q 29 (tu τ [(1, a1_), (2, a2_), (18, a18_), (19, a19_), (20, x0)]), G))
theorem mb171_0 {e : Ex} {E : Ev} (h : ExLe Q e E) {lp lp' : Env → GS → Option (Exit × Env × GS)} (hlp : LpLe lp lp') (τ : Env) (G : GS) : Ref (b171_0 true e lp τ G) (b171_0 false (Ex.of E) lp' τ G) := by
  unfold b171_0
  exact Ref.go
theorem l171_0 {orc : FuncId → Bool} {e : Ex} (h : ExLe Q e (E orc)) (lp : Env → GS → Option (Exit × Env × GS)) (hlp : ∀ τ G, Ref (lp τ G) (mapE ((E orc).lp (subAt [1, 1, 1, 1, 1, 0, 0] (bodyOf Tryz.f171)) (lst 29 τ) G))) (T : List Value) (G : GS) (hT : T.length = 29) : Ref (b171_0 true e lp (nth undef T) G) (mapE ((E orc).lp (subAt [1, 1, 1, 1, 1, 0, 0] (bodyOf Tryz.f171)) T G)) :=
  fun r hr => lp_sxM Q orc G hT (by kernel_rfl) (mb171_0 h ⟨hlp⟩ _ _ r hr)
/-- coxswain/arena.Fill -/
noncomputable def s171 (q : Bool) (e : Ex) (v0 v1 : Value) (G : GS) : Option (Value × GS) :=
  bS (bx q v0 G) fun x0 G1 =>
  bP (lda Q q 25 6 x0 G1) fun x2 =>
  bS (e.ev.cl 256 [x2] G1) fun x3 G4 =>
  bP (un Q q .not x3) fun x5 =>
  ifV x5 (
  some (.tuple #[], G4)) (
  bP (fa Q q 25 0 0 x0) fun x6 =>
  bP (lda Q q 23 3 x6 G4) fun x7 =>
  bS (e.ev.cl 257 [x7, v1] G4) fun x8 G9 =>
  bP (fa Q q 25 2 4 x0) fun x10 =>
  bP (ld Q q 3 x10 G9) fun x11 =>
  bS (e.ev.cl 45 [v1, x11, (.int .u64 0)] G9) fun x12 G13 =>
  bP (fa Q q 25 0 0 x0) fun x14 =>
  bP (fa Q q 23 2 2 x14) fun x15 =>
  bP (ld Q q 3 x15 G13) fun x16 =>
  bL q e 171 0 (subAt [1, 1, 1, 1, 1, 0, 0] (bodyOf Tryz.f171)) 29 (tu (nth undef [v0, v1]) [(2, x0), (5, x2), (6, x3), (7, x5), (8, x6), (9, x7), (10, v1), (11, x8), (12, v1), (13, x10), (14, x11), (15, x12), (16, x14), (17, x15), (18, x16), (19, (.int .i64 0))]) G13 fun e17 t18 G19 =>
  ifE e17 (.exit 0) (
  some (.tuple #[], G19)) (none))
theorem m171 {e : Ex} {E : Ev} (h : ExLe Q e E) (v0 v1 : Value) (G : GS) : Ref (s171 true e v0 v1 G) (s171 false (Ex.of E) v0 v1 G) := by
  unfold s171
  exact Ref.go
theorem f171 {orc : FuncId → Bool} {e : Ex} (h : ExLe Q e (E orc)) (v0 v1 : Value) (G : GS) : Ref (s171 true e v0 v1 G) ((E orc).cl 171 [v0, v1] G) :=
  fun r hr => cl_sxE_some Q orc (vs := [v0, v1]) G Tryz.func171 (by kernel_rfl) (by kernel_rfl) (by kernel_rfl) (by kernel_rfl) (by kernel_rfl) (by kernel_rfl) (m171 h v0 v1 G r hr)
/-- coxswain/arena.NewAlloc -/
noncomputable def s173 (q : Bool) (e : Ex) (v0 : Value) (G : GS) : Option (Value × GS) :=
  bS (bx q v0 G) fun x0 G1 =>
  bP (fa Q q 25 0 0 x0) fun x2 =>
  bP (lda Q q 23 3 x2 (G1.room 7)) fun x3 =>
  bS (e.ev.cl 258 [x3] (G1.room 7)) fun x5 G4 =>
  bP (lda Q q 25 6 x0 G4) fun x6 =>
  chk ((sameO (lda Q q 25 6 x0 (G1.room 7)) x6 && true)) <|
  bP (bd Q q 375 z375 [(0, 0, 1), (1, 1, 6), (2, 7, 1), (3, 8, 1)] [x5, x6, (.bool true), (.func (.func 259) #[] #[])]) fun x7 =>
  bS (bx q x7 (G4.at' (G1.nx + 5))) fun x8 G9 =>
  some (x8, (G9.back G4))
theorem m173 {e : Ex} {E : Ev} (h : ExLe Q e E) (v0 : Value) (G : GS) : Ref (s173 true e v0 G) (s173 false (Ex.of E) v0 G) := by
  unfold s173
  exact Ref.go
theorem f173 {orc : FuncId → Bool} {e : Ex} (h : ExLe Q e (E orc)) (v0 : Value) (G : GS) : Ref (s173 true e v0 G) ((E orc).cl 173 [v0] G) :=
  fun r hr => cl_sxE_some Q orc (vs := [v0]) G Tryz.func173 (by kernel_rfl) (by kernel_rfl) (by kernel_rfl) (by kernel_rfl) (by kernel_rfl) (by kernel_rfl) (m173 h v0 G r hr)
/-- (*coxswain/arena.Alloc).Ref -/
noncomputable def s174 (q : Bool) (e : Ex) (v0 : Value) (G : GS) : Option (Value × GS) :=
  bP (ep Q q false 145 (.tmp 5) (.const (.pointer none)) v0 (.pointer none)) fun x0 =>
  bS (gd x0 false (some (v0, G)) G) fun x1 G2 =>
  bS (gd x0 false (bP (pNil x1) fun y => some (y, G2)) G2) fun x3 G4 =>
  bS (gd x0 false (bP (fa Q q 375 2 7 x3) fun y => some (y, G4)) G4) fun x5 G6 =>
  bS (gd x0 false (bP (ld Q q 4 x5 G6) fun y => some (y, G6)) G6) fun x7 G8 =>
  bS (gd x0 false (bP (un Q q .not x7) fun y => some (y, G8)) G8) fun x9 G10 =>
  bP (pickV x0 (.bool true) x9) fun x11 =>
  ifV x11 (
  some (.tuple #[(.int .u64 0), (.int .i64 1)], G10)) (
  bP (pNil v0) fun x12 =>
  bP (fa Q q 375 3 8 x12) fun x13 =>
  bP (ld Q q 373 x13 G10) fun x14 =>
  bP (ef Q q true 373 (.tmp 18) (.const .nilFunc) x14 .nilFunc) fun x15 =>
  ifV x15 (
  some (.tuple #[(.int .u64 0), (.int .i64 14)], G10)) (
  bP (pNil v0) fun x16 =>
  bP (fa Q q 375 5 10 x16) fun x17 =>
  bP (ld Q q 41 x17 (G10.room 10)) fun x18 =>
  bP (pNil v0) fun x19 =>
  bP (fa Q q 375 6 11 x19) fun x20 =>
  bP (ld Q q 33 x20 (G10.room 10)) fun x21 =>
  some (.tuple #[x18, x21], (G10.room 10))))
theorem m174 {e : Ex} {E : Ev} (h : ExLe Q e E) (v0 : Value) (G : GS) : Ref (s174 true e v0 G) (s174 false (Ex.of E) v0 G) := by
  unfold s174
  exact Ref.go
theorem f174 {orc : FuncId → Bool} {e : Ex} (h : ExLe Q e (E orc)) (v0 : Value) (G : GS) : Ref (s174 true e v0 G) ((E orc).cl 174 [v0] G) :=
  fun r hr => cl_sxE_some Q orc (vs := [v0]) G Tryz.func174 (by kernel_rfl) (by kernel_rfl) (by kernel_rfl) (by kernel_rfl) (by kernel_rfl) (by kernel_rfl) (m174 h v0 G r hr)
/-- (*coxswain/cells.Mem).Load -/
noncomputable def s177 (q : Bool) (e : Ex) (v0 v1 : Value) (G : GS) : Option (Value × GS) :=
  bS (e.ev.cl 158 [v0, v1] G) fun x0 G1 =>
  bP (bd Q q 246 z246 [(0, 0, 1)] [x0]) fun x2 =>
  bS (al Q q 246 z246 G1) fun x3 G4 =>
  bP (st Q q 246 3 x3 x2 G4) fun G5 =>
  bP (fa Q q 246 0 0 x3) fun x6 =>
  bP (ld Q q 243 x6 G5) fun x7 =>
  bP (lda Q q 246 3 x3 G5) fun x8 =>
  bS (e.ev.cl 159 [v0, (.int .i64 1), v1, x7, (.func (.func 260) #[x8] #[])] G5) fun x9 G10 =>
  bP (fd Q q 68 3 3 x9) fun x11 =>
  some (x11, G10)
theorem m177 {e : Ex} {E : Ev} (h : ExLe Q e E) (v0 v1 : Value) (G : GS) : Ref (s177 true e v0 v1 G) (s177 false (Ex.of E) v0 v1 G) := by
  unfold s177
  exact Ref.go
theorem f177 {orc : FuncId → Bool} {e : Ex} (h : ExLe Q e (E orc)) (v0 v1 : Value) (G : GS) : Ref (s177 true e v0 v1 G) ((E orc).cl 177 [v0, v1] G) :=
  fun r hr => cl_sxE_some Q orc (vs := [v0, v1]) G Tryz.func177 (by kernel_rfl) (by kernel_rfl) (by kernel_rfl) (by kernel_rfl) (by kernel_rfl) (by kernel_rfl) (m177 h v0 v1 G r hr)
/-- (*coxswain/arena.Alloc).Step -/
noncomputable def s179 (q : Bool) (e : Ex) (v0 v1 : Value) (G : GS) : Option (Value × GS) :=
  bP (ep Q q false 145 (.tmp 5) (.const (.pointer none)) v0 (.pointer none)) fun x0 =>
  bS (gd x0 false (some (v0, G)) G) fun x1 G2 =>
  bS (gd x0 false (bP (pNil x1) fun y => some (y, G2)) G2) fun x3 G4 =>
  bS (gd x0 false (bP (fa Q q 375 3 8 x3) fun y => some (y, G4)) G4) fun x5 G6 =>
  bS (gd x0 false (bP (ld Q q 373 x5 G6) fun y => some (y, G6)) G6) fun x7 G8 =>
  bS (gd x0 false (bP (ef Q q false 373 (.tmp 11) (.const .nilFunc) x7 .nilFunc) fun y => some (y, G8)) G8) fun x9 G10 =>
  bP (pickV x0 (.bool true) x9) fun x11 =>
  ifV x11 (
  some ((.bool true), G10)) (
  bP (pNil v0) fun x12 =>
  bP (fa Q q 375 3 8 x12) fun x13 =>
  bP (ld Q q 373 x13 G10) fun x14 =>
  bS (cValue e.ev x14 [v0, v1] G10) fun x15 G16 =>
  bP (pNil v0) fun x17 =>
  bP (fa Q q 375 3 8 x17) fun x18 =>
  bP (ld Q q 373 x18 G16) fun x19 =>
  bP (ef Q q false 373 (.tmp 24) (.const .nilFunc) x19 .nilFunc) fun x20 =>
  some (x20, G16))
theorem m179 {e : Ex} {E : Ev} (h : ExLe Q e E) (v0 v1 : Value) (G : GS) : Ref (s179 true e v0 v1 G) (s179 false (Ex.of E) v0 v1 G) := by
  unfold s179
  exact Ref.go
theorem f179 {orc : FuncId → Bool} {e : Ex} (h : ExLe Q e (E orc)) (v0 v1 : Value) (G : GS) : Ref (s179 true e v0 v1 G) ((E orc).cl 179 [v0, v1] G) :=
  fun r hr => cl_sxE_some Q orc (vs := [v0, v1]) G Tryz.func179 (by kernel_rfl) (by kernel_rfl) (by kernel_rfl) (by kernel_rfl) (by kernel_rfl) (by kernel_rfl) (m179 h v0 v1 G r hr)
/-- (*coxswain/arena.Free).Step -/
noncomputable def s182 (q : Bool) (e : Ex) (v0 v1 : Value) (G : GS) : Option (Value × GS) :=
  bP (ep Q q false 147 (.tmp 5) (.const (.pointer none)) v0 (.pointer none)) fun x0 =>
  bS (gd x0 false (some (v0, G)) G) fun x1 G2 =>
  bS (gd x0 false (bP (pNil x1) fun y => some (y, G2)) G2) fun x3 G4 =>
  bS (gd x0 false (bP (fa Q q 384 3 8 x3) fun y => some (y, G4)) G4) fun x5 G6 =>
  bS (gd x0 false (bP (ld Q q 382 x5 G6) fun y => some (y, G6)) G6) fun x7 G8 =>
  bS (gd x0 false (bP (ef Q q false 382 (.tmp 11) (.const .nilFunc) x7 .nilFunc) fun y => some (y, G8)) G8) fun x9 G10 =>
  bP (pickV x0 (.bool true) x9) fun x11 =>
  ifV x11 (
  some ((.bool true), G10)) (
  bP (pNil v0) fun x12 =>
  bP (fa Q q 384 3 8 x12) fun x13 =>
  bP (ld Q q 382 x13 G10) fun x14 =>
  bS (cValue e.ev x14 [v0, v1] G10) fun x15 G16 =>
  bP (pNil v0) fun x17 =>
  bP (fa Q q 384 3 8 x17) fun x18 =>
  bP (ld Q q 382 x18 G16) fun x19 =>
  bP (ef Q q false 382 (.tmp 24) (.const .nilFunc) x19 .nilFunc) fun x20 =>
  some (x20, G16))
theorem m182 {e : Ex} {E : Ev} (h : ExLe Q e E) (v0 v1 : Value) (G : GS) : Ref (s182 true e v0 v1 G) (s182 false (Ex.of E) v0 v1 G) := by
  unfold s182
  exact Ref.go
theorem f182 {orc : FuncId → Bool} {e : Ex} (h : ExLe Q e (E orc)) (v0 v1 : Value) (G : GS) : Ref (s182 true e v0 v1 G) ((E orc).cl 182 [v0, v1] G) :=
  fun r hr => cl_sxE_some Q orc (vs := [v0, v1]) G Tryz.func182 (by kernel_rfl) (by kernel_rfl) (by kernel_rfl) (by kernel_rfl) (by kernel_rfl) (by kernel_rfl) (m182 h v0 v1 G r hr)
/-- coxswain/arena.NewFree -/
noncomputable def s187 (q : Bool) (e : Ex) (v0 v1 : Value) (G : GS) : Option (Value × GS) :=
  bS (bx q v0 G) fun x0 G1 =>
  bP (fa Q q 25 0 0 x0) fun x2 =>
  bP (lda Q q 23 3 x2 (G1.room 9)) fun x3 =>
  bS (e.ev.cl 268 [x3, v1] (G1.room 9)) fun x5 G4 =>
  bP (lda Q q 25 6 x0 G4) fun x6 =>
  chk ((sameO (lda Q q 25 6 x0 (G1.room 9)) x6 && true)) <|
  bP (bd Q q 384 z384 [(0, 0, 1), (1, 1, 6), (2, 7, 1), (4, 9, 1)] [x5, x6, (.bool true), v1]) fun x7 =>
  bS (bx q x7 (G4.at' (G1.nx + 7))) fun x8 G9 =>
  bP (bn Q q .lss 3 (.tmp 14) (.const (.int .i64 0)) v1 (.int .i64 0)) fun x10 =>
  bS (gd x10 false (some (v1, (G9.back G4))) (G9.back G4)) fun x11 G12 =>
  bS (gd x10 false (bP (fa Q q 25 0 0 x0) fun y => some (y, G12)) G12) fun x13 G14 =>
  bS (gd x10 false (bP (fa Q q 23 2 2 x13) fun y => some (y, G14)) G14) fun x15 G16 =>
  bS (gd x10 false (bP (ld Q q 3 x15 G16) fun y => some (y, G16)) G16) fun x17 G18 =>
  bS (gd x10 false (bP (bn Q q .geq 3 (.tmp 17) (.tmp 20) x11 x17) fun y => some (y, G18)) G18) fun x19 G20 =>
  bP (pickV x10 (.bool true) x19) fun x21 =>
  ifV x21 (
  bP (pNil x8) fun x22 =>
  bP (fa Q q 384 6 11 x22) fun x23 =>
  bP (st Q q 33 1 x23 (.int .i64 3) G20) fun G24 =>
  some (x8, G24)) (
  bP (pNil x8) fun x25 =>
  bP (fa Q q 384 3 8 x25) fun x26 =>
  bP (st Q q 382 1 x26 (.func (.func 269) #[] #[]) G20) fun G27 =>
  some (x8, G27))
theorem m187 {e : Ex} {E : Ev} (h : ExLe Q e E) (v0 v1 : Value) (G : GS) : Ref (s187 true e v0 v1 G) (s187 false (Ex.of E) v0 v1 G) := by
  unfold s187
  exact Ref.go
theorem f187 {orc : FuncId → Bool} {e : Ex} (h : ExLe Q e (E orc)) (v0 v1 : Value) (G : GS) : Ref (s187 true e v0 v1 G) ((E orc).cl 187 [v0, v1] G) :=
  fun r hr => cl_sxE_some Q orc (vs := [v0, v1]) G Tryz.func187 (by kernel_rfl) (by kernel_rfl) (by kernel_rfl) (by kernel_rfl) (by kernel_rfl) (by kernel_rfl) (m187 h v0 v1 G r hr)
/-- coxswain/word.GetTop -/
noncomputable def s189 (q : Bool) (e : Ex) (v0 : Value) (G : GS) : Option (Value × GS) :=
  bS (al Q q 274 z274 G) fun x0 G1 =>
  bS (e.ev.cl 271 [] G1) fun x2 G3 =>
  bS (al Q q 393 z393 G3) fun x4 G5 =>
  bP (st Q q 393 4 x4 x2 G5) fun G6 =>
  bP (iaa Q q 393 2 2 x4 (.int .i64 0)) fun x7 =>
  bP (lda Q q 392 2 x7 (G6.room 12)) fun x8 =>
  bS (e.ev.cl 272 [v0, x8] (G6.room 12)) fun x10 G9 =>
  bP (bn Q q .sub 3 (.tmp 9) (.const (.int .i64 1)) x10 (.int .i64 1)) fun x11 =>
  bP (iaa Q q 393 2 2 x4 (.int .i64 1)) fun x12 =>
  bP (lda Q q 392 2 x12 G9) fun x13 =>
  chk ((sameO (lda Q q 392 2 x12 (G6.room 12)) x13 && true)) <|
  bS (e.ev.cl 272 [v0, x13] G9) fun x15 G14 =>
  bP (bd Q q 274 z274 [(0, 0, 1), (1, 1, 1)] [x11, x15]) fun x16 =>
  bP (st Q q 274 2 x0 x16 G14) fun G17 =>
  bP (lda Q q 274 2 x0 G17) fun x18 =>
  some (.tuple #[x18, (.int .i64 0)], G17)
theorem m189 {e : Ex} {E : Ev} (h : ExLe Q e E) (v0 : Value) (G : GS) : Ref (s189 true e v0 G) (s189 false (Ex.of E) v0 G) := by
  unfold s189
  exact Ref.go
theorem f189 {orc : FuncId → Bool} {e : Ex} (h : ExLe Q e (E orc)) (v0 : Value) (G : GS) : Ref (s189 true e v0 G) ((E orc).cl 189 [v0] G) :=
  fun r hr => cl_sxE_some Q orc (vs := [v0]) G Tryz.func189 (by kernel_rfl) (by kernel_rfl) (by kernel_rfl) (by kernel_rfl) (by kernel_rfl) (by kernel_rfl) (m189 h v0 G r hr)
/-- (*coxswain/claim.Claim).below -/
noncomputable def s190 (q : Bool) (e : Ex) (v0 : Value) (G : GS) : Option (Value × GS) :=
  bP (pNil v0) fun x0 =>
  bP (fa Q q 48 0 0 x0) fun x1 =>
  bP (fa Q q 46 1 13 x1) fun x2 =>
  bP (fa Q q 40 0 0 x2) fun x3 =>
  bP (ld Q q 3 x3 G) fun x4 =>
  bP (bn Q q .sub 3 (.tmp 7) (.const (.int .i64 1)) x4 (.int .i64 1)) fun x5 =>
  bP (pNil v0) fun x6 =>
  bP (fa Q q 48 0 0 x6) fun x7 =>
  bP (fa Q q 46 1 13 x7) fun x8 =>
  bP (fa Q q 40 0 0 x8) fun x9 =>
  bP (st Q q 3 1 x9 x5 G) fun G10 =>
  bP (pNil v0) fun x11 =>
  bP (fa Q q 48 0 0 x11) fun x12 =>
  bP (fa Q q 46 2 17 x12) fun x13 =>
  bP (st Q q 3 1 x13 (.int .i64 5) G10) fun G14 =>
  bP (pNil v0) fun x15 =>
  bP (fa Q q 48 0 0 x15) fun x16 =>
  bP (fa Q q 46 1 13 x16) fun x17 =>
  bP (fa Q q 40 0 0 x17) fun x18 =>
  bP (ld Q q 3 x18 G14) fun x19 =>
  bP (bn Q q .lss 3 (.tmp 22) (.const (.int .i64 1)) x19 (.int .i64 1)) fun x20 =>
  ifV x20 (
  bP (pNil v0) fun x21 =>
  bP (fa Q q 48 0 0 x21) fun x22 =>
  bP (fa Q q 46 2 17 x22) fun x23 =>
  bP (st Q q 3 1 x23 (.int .i64 7) G14) fun G24 =>
  some (.tuple #[], G24)) (
  some (.tuple #[], G14))
theorem m190 {e : Ex} {E : Ev} (h : ExLe Q e E) (v0 : Value) (G : GS) : Ref (s190 true e v0 G) (s190 false (Ex.of E) v0 G) := by
  unfold s190
  exact Ref.go
theorem f190 {orc : FuncId → Bool} {e : Ex} (h : ExLe Q e (E orc)) (v0 : Value) (G : GS) : Ref (s190 true e v0 G) ((E orc).cl 190 [v0] G) :=
  fun r hr => cl_sxE_some Q orc (vs := [v0]) G Tryz.func190 (by kernel_rfl) (by kernel_rfl) (by kernel_rfl) (by kernel_rfl) (by kernel_rfl) (by kernel_rfl) (m190 h v0 G r hr)
/-- coxswain/tower.At -/
noncomputable def s191 (q : Bool) (e : Ex) (v0 v1 v2 : Value) (G : GS) : Option (Value × GS) :=
  bS (bx q v0 G) fun x0 G1 =>
  bP (lda Q q 31 13 x0 G1) fun x2 =>
  bS (e.ev.cl 102 [x2] G1) fun x3 G4 =>
  bP (un Q q .not x3) fun x5 =>
  ifV x5 (
  some ((.int .i64 (-1)), G4)) (
  bP (bn Q q .neq 3 (.tmp 12) (.const (.int .i64 (-1))) v1 (.int .i64 (-1))) fun x6 =>
  ifV x6 (
  bP (lda Q q 31 13 x0 G4) fun x7 =>
  bS (e.ev.cl 103 [x7] G4) fun x8 G9 =>
  bS (e.ev.cl 273 [x8, v1, v2] G9) fun x10 G11 =>
  some (x10, G11)) (
  bP (bn Q q .lss 3 (.tmp 20) (.const (.int .i64 4)) v2 (.int .i64 4)) fun x12 =>
  bS (gd x12 false (some (v2, G4)) G4) fun x13 G14 =>
  bS (gd x12 false (bP (fa Q q 31 2 2 x0) fun y => some (y, G14)) G14) fun x15 G16 =>
  bS (gd x12 false (bP (ld Q q 3 x15 G16) fun y => some (y, G16)) G16) fun x17 G18 =>
  bS (gd x12 false (bP (bn Q q .add 3 (.const (.int .i64 4)) (.tmp 25) (.int .i64 4) x17) fun y => some (y, G18)) G18) fun x19 G20 =>
  bS (gd x12 false (bP (bn Q q .geq 3 (.tmp 23) (.tmp 26) x13 x19) fun y => some (y, G20)) G20) fun x21 G22 =>
  bP (pickV x12 (.bool true) x21) fun x23 =>
  ifV x23 (
  some ((.int .i64 (-1)), G22)) (
  bP (lda Q q 31 13 x0 G22) fun x24 =>
  bS (e.ev.cl 105 [x24] G22) fun x25 G26 =>
  bP (bn Q q .sub 3 (.tmp 31) (.const (.int .i64 4)) v2 (.int .i64 4)) fun x27 =>
  bS (e.ev.cl 274 [x25, (.int .i64 0), x27] G26) fun x28 G29 =>
  some (x28, G29))))
theorem m191 {e : Ex} {E : Ev} (h : ExLe Q e E) (v0 v1 v2 : Value) (G : GS) : Ref (s191 true e v0 v1 v2 G) (s191 false (Ex.of E) v0 v1 v2 G) := by
  unfold s191
  exact Ref.go
theorem f191 {orc : FuncId → Bool} {e : Ex} (h : ExLe Q e (E orc)) (v0 v1 v2 : Value) (G : GS) : Ref (s191 true e v0 v1 v2 G) ((E orc).cl 191 [v0, v1, v2] G) :=
  fun r hr => cl_sxE_some Q orc (vs := [v0, v1, v2]) G Tryz.func191 (by kernel_rfl) (by kernel_rfl) (by kernel_rfl) (by kernel_rfl) (by kernel_rfl) (by kernel_rfl) (m191 h v0 v1 v2 G r hr)
/-- coxswain/word.Marked -/
noncomputable def s192 (q : Bool) (e : Ex) (v0 : Value) (G : GS) : Option (Value × GS) :=
  bP (bn Q q .shr 41 (.tmp 3) (.const (.int .u64 63)) v0 (.int .u64 63)) fun x0 =>
  bP (bn Q q .eql 41 (.tmp 4) (.const (.int .u64 1)) x0 (.int .u64 1)) fun x1 =>
  some (x1, G)
theorem m192 {e : Ex} {E : Ev} (h : ExLe Q e E) (v0 : Value) (G : GS) : Ref (s192 true e v0 G) (s192 false (Ex.of E) v0 G) := by
  unfold s192
  exact Ref.go
theorem f192 {orc : FuncId → Bool} {e : Ex} (h : ExLe Q e (E orc)) (v0 : Value) (G : GS) : Ref (s192 true e v0 G) ((E orc).cl 192 [v0] G) :=
  fun r hr => cl_sxE_some Q orc (vs := [v0]) G Tryz.func192 (by kernel_rfl) (by kernel_rfl) (by kernel_rfl) (by kernel_rfl) (by kernel_rfl) (by kernel_rfl) (m192 h v0 G r hr)
/-- (coxswain/cells.deed).swap -/
noncomputable def s193 (q : Bool) (e : Ex) (v0 : Value) (G : GS) : Option (Value × GS) :=
  bS (bx q v0 G) fun x0 G1 =>
  bP (fa Q q 246 0 0 x0) fun x2 =>
  bP (ld Q q 243 x2 (G1.room 7)) fun x3 =>
  bP (pNil x3) fun x4 =>
  bP (ld Q q 154 x4 (G1.room 7)) fun x5 =>
  bP (fa Q q 246 1 1 x0) fun x6 =>
  bP (ld Q q 41 x6 (G1.room 7)) fun x7 =>
  bP (bn Q q .neq 41 (.tmp 7) (.tmp 9) x5 x7) fun x8 =>
  ifV x8 (
  bP (fa Q q 246 0 0 x0) fun x9 =>
  bP (ld Q q 243 x9 (G1.room 7)) fun x10 =>
  bP (pNil x10) fun x11 =>
  bP (ld Q q 154 x11 (G1.room 7)) fun x12 =>
  some (.tuple #[x12, (.bool false)], (G1.room 7))) (
  bP (fa Q q 246 2 2 x0) fun x13 =>
  bP (ld Q q 41 x13 (G1.room 7)) fun x14 =>
  some (.tuple #[x14, (.bool true)], (G1.room 7)))
theorem m193 {e : Ex} {E : Ev} (h : ExLe Q e E) (v0 : Value) (G : GS) : Ref (s193 true e v0 G) (s193 false (Ex.of E) v0 G) := by
  unfold s193
  exact Ref.go
theorem f193 {orc : FuncId → Bool} {e : Ex} (h : ExLe Q e (E orc)) (v0 : Value) (G : GS) : Ref (s193 true e v0 G) ((E orc).cl 193 [v0] G) :=
  fun r hr => cl_sxE_some Q orc (vs := [v0]) G Tryz.func193 (by kernel_rfl) (by kernel_rfl) (by kernel_rfl) (by kernel_rfl) (by kernel_rfl) (by kernel_rfl) (m193 h v0 G r hr)
/-- coxswain/word.Marks -/
noncomputable def s194 (q : Bool) (e : Ex) (v0 v1 : Value) (G : GS) : Option (Value × GS) :=
  ifV v1 (
  bP (bn Q q .or 41 (.tmp 6) (.const (.int .u64 9223372036854775808)) v0 (.int .u64 9223372036854775808)) fun x0 =>
  some (x0, G)) (
  bP (bn Q q .andNot 41 (.tmp 8) (.const (.int .u64 9223372036854775808)) v0 (.int .u64 9223372036854775808)) fun x1 =>
  some (x1, G))
theorem m194 {e : Ex} {E : Ev} (h : ExLe Q e E) (v0 v1 : Value) (G : GS) : Ref (s194 true e v0 v1 G) (s194 false (Ex.of E) v0 v1 G) := by
  unfold s194
  exact Ref.go
theorem f194 {orc : FuncId → Bool} {e : Ex} (h : ExLe Q e (E orc)) (v0 v1 : Value) (G : GS) : Ref (s194 true e v0 v1 G) ((E orc).cl 194 [v0, v1] G) :=
  fun r hr => cl_sxE_some Q orc (vs := [v0, v1]) G Tryz.func194 (by kernel_rfl) (by kernel_rfl) (by kernel_rfl) (by kernel_rfl) (by kernel_rfl) (by kernel_rfl) (m194 h v0 v1 G r hr)
/-- (*coxswain/find.Find).anew -/
noncomputable def s195 (q : Bool) (e : Ex) (v0 : Value) (G : GS) : Option (Value × GS) :=
  bP (pNil v0) fun x0 =>
  bP (fa Q q 283 0 0 x0) fun x1 =>
  bP (fa Q q 31 2 2 x1) fun x2 =>
  bP (ld Q q 3 x2 G) fun x3 =>
  bP (bn Q q .sub 3 (.tmp 7) (.const (.int .i64 1)) x3 (.int .i64 1)) fun x4 =>
  bS (e.ev.cl 275 [v0, x4] G) fun x5 G6 =>
  some (.tuple #[], G6)
theorem m195 {e : Ex} {E : Ev} (h : ExLe Q e E) (v0 : Value) (G : GS) : Ref (s195 true e v0 G) (s195 false (Ex.of E) v0 G) := by
  unfold s195
  exact Ref.go
theorem f195 {orc : FuncId → Bool} {e : Ex} (h : ExLe Q e (E orc)) (v0 : Value) (G : GS) : Ref (s195 true e v0 G) ((E orc).cl 195 [v0] G) :=
  fun r hr => cl_sxE_some Q orc (vs := [v0]) G Tryz.func195 (by kernel_rfl) (by kernel_rfl) (by kernel_rfl) (by kernel_rfl) (by kernel_rfl) (by kernel_rfl) (m195 h v0 G r hr)
noncomputable def b196_0 (q : Bool) (e : Ex) (lp : Env → GS → Option (Exit × Env × GS)) (τ : Env) (G : GS) : Option (Exit × Env × GS) :=
  bV q (τ 0) fun a0_ =>
  bV q (τ 1) fun a1_ =>
  bV q (τ 5) fun a5_ =>
  bV q (τ 6) fun a6_ =>
  bP (pNil a0_) fun x0 =>
  bP (fa Q q 283 2 14 x0) fun x1 =>
  bP (ld Q q 3 x1 G) fun x2 =>
  bP (bn Q q .eql 3 (.tmp 56) (.const (.int .i64 1)) x2 (.int .i64 1)) fun x3 =>
  ifV x3 (
  bS (e.ev.cl 177 [a1_, a5_] G) fun x4 G5 =>
  bP (pNil a0_) fun x6 =>
  bP (fa Q q 283 3 15 x6) fun x7 =>
  bP (fa Q q 280 3 3 x7) fun x8 =>
  bP (st Q q 41 1 x8 x4 G5) fun G9 =>
  bP (pNil a0_) fun x10 =>
  bP (fa Q q 283 3 15 x10) fun x11 =>
  bP (fa Q q 280 3 3 x11) fun x12 =>
  bP (ld Q q 41 x12 G9) fun x13 =>
  bS (e.ev.cl 192 [x13] G9) fun x14 G15 =>
  ifV x14 (
  bS (e.ev.cl 195 [a0_] G15) fun x16 G17 =>
  some ((.exit 0), clq q 195 (tu τ [(0, a0_), (1, a1_), (5, a5_), (6, a6_), (53, a0_), (54, x0), (55, x1), (56, x2), (60, x3), (61, x3), (62, a0_), (63, a1_), (64, a5_), (65, x4), (66, x6), (67, x7), (68, x8), (69, a0_), (70, x10), (71, x11), (72, x12), (73, x13), (74, x14), (75, a0_), (76, x16)]), G17)) (
  bS (e.ev.cl 278 [a0_] G15) fun x18 G19 =>
  some ((.exit 0), clq q 195 (tu τ [(0, a0_), (1, a1_), (5, a5_), (6, a6_), (53, a0_), (54, x0), (55, x1), (56, x2), (60, x3), (61, x3), (62, a0_), (63, a1_), (64, a5_), (65, x4), (66, x6), (67, x7), (68, x8), (69, a0_), (70, x10), (71, x11), (72, x12), (73, x13), (74, x14), (188, a0_), (189, x18)]), G19))) (
  bP (bn Q q .eql 3 (.tmp 56) (.const (.int .i64 2)) x2 (.int .i64 2)) fun x20 =>
  ifV x20 (
  bP (pNil a0_) fun x21 =>
  bP (fa Q q 283 3 15 x21) fun x22 =>
  bP (fa Q q 280 3 3 x22) fun x23 =>
  bP (ld Q q 41 x23 G) fun x24 =>
  bP (pNil a0_) fun x25 =>
  bP (fa Q q 283 6 21 x25) fun x26 =>
  bP (st Q q 41 1 x26 x24 G) fun G27 =>
  bP (pNil a0_) fun x28 =>
  bP (fa Q q 283 0 0 x28) fun x29 =>
  bP (lda Q q 31 13 x29 (G27.room 17)) fun x30 =>
  bP (pNil a0_) fun x31 =>
  bP (fa Q q 283 3 15 x31) fun x32 =>
  bP (fa Q q 280 0 0 x32) fun x33 =>
  bP (ld Q q 3 x33 (G27.room 17)) fun x34 =>
  bS (e.ev.cl 69 [x30, a6_, x34] (G27.room 17)) fun x36 G35 =>
  bS (e.ev.cl 177 [a1_, x36] G35) fun x38 G37 =>
  bP (pNil a0_) fun x39 =>
  bP (fa Q q 283 4 19 x39) fun x40 =>
  bP (st Q q 41 1 x40 x38 G37) fun G41 =>
  bP (pNil a0_) fun x42 =>
  bP (fa Q q 283 2 14 x42) fun x43 =>
  bP (st Q q 3 1 x43 (.int .i64 4) G41) fun G44 =>
  bP (pNil a0_) fun x45 =>
  bP (fa Q q 283 4 19 x45) fun x46 =>
  bP (ld Q q 41 x46 G44) fun x47 =>
  bS (e.ev.cl 192 [x47] G44) fun x48 G49 =>
  ifV x48 (
  bP (pNil a0_) fun x50 =>
  bP (fa Q q 283 2 14 x50) fun x51 =>
  bP (st Q q 3 1 x51 (.int .i64 3) G49) fun G52 =>
  some ((.exit 0), clq q 195 (tu τ [(0, a0_), (1, a1_), (5, a5_), (6, a6_), (53, a0_), (54, x0), (55, x1), (56, x2), (60, x3), (61, x3), (77, x20), (78, x20), (79, a0_), (80, a0_), (81, x21), (82, x22), (83, x23), (84, x24), (85, x25), (86, x26), (87, a0_), (88, a1_), (89, a0_), (90, x28), (91, x29), (92, x30), (93, a6_), (94, a0_), (95, x31), (96, x32), (97, x33), (98, x34), (99, x36), (100, x38), (101, x39), (102, x40), (103, a0_), (104, x42), (105, x43), (106, a0_), (107, x45), (108, x46), (109, x47), (110, x48), (111, a0_), (112, x50), (113, x51)]), G52)) (
  some ((.exit 0), clq q 195 (tu τ [(0, a0_), (1, a1_), (5, a5_), (6, a6_), (53, a0_), (54, x0), (55, x1), (56, x2), (60, x3), (61, x3), (77, x20), (78, x20), (79, a0_), (80, a0_), (81, x21), (82, x22), (83, x23), (84, x24), (85, x25), (86, x26), (87, a0_), (88, a1_), (89, a0_), (90, x28), (91, x29), (92, x30), (93, a6_), (94, a0_), (95, x31), (96, x32), (97, x33), (98, x34), (99, x36), (100, x38), (101, x39), (102, x40), (103, a0_), (104, x42), (105, x43), (106, a0_), (107, x45), (108, x46), (109, x47), (110, x48)]), G49))) (
  bP (bn Q q .eql 3 (.tmp 56) (.const (.int .i64 3)) x2 (.int .i64 3)) fun x53 =>
  ifV x53 (
  bP (pNil a0_) fun x54 =>
  bP (fa Q q 283 3 15 x54) fun x55 =>
  bP (fa Q q 280 3 3 x55) fun x56 =>
  bP (ld Q q 41 x56 (G.room 14)) fun x57 =>
  bP (pNil a0_) fun x58 =>
  bP (fa Q q 283 4 19 x58) fun x59 =>
  bP (ld Q q 41 x59 (G.room 14)) fun x60 =>
  bS (e.ev.cl 194 [x60, (.bool false)] (G.room 14)) fun x62 G61 =>
  chk ((sameO (ld Q q 41 x56 G61) x57 && true)) <|
  bS (e.ev.cl 68 [a1_, a5_, x57, x62] G61) fun x64 G63 =>
  bP (un Q q .not x64) fun x65 =>
  ifV x65 (
  bS (e.ev.cl 195 [a0_] G63) fun x66 G67 =>
  some ((.exit 0), clq q 195 (tu τ [(0, a0_), (1, a1_), (5, a5_), (6, a6_), (53, a0_), (54, x0), (55, x1), (56, x2), (60, x3), (61, x3), (77, x20), (78, x20), (114, x53), (115, x53), (116, a1_), (117, a5_), (118, a0_), (119, x54), (120, x55), (121, x56), (122, x57), (123, a0_), (124, x58), (125, x59), (126, x60), (127, x62), (128, x64), (129, x65), (130, a0_), (131, x66)]), G67)) (
  bP (pNil a0_) fun x68 =>
  bP (fa Q q 283 4 19 x68) fun x69 =>
  bP (ld Q q 41 x69 G63) fun x70 =>
  bS (e.ev.cl 194 [x70, (.bool false)] G63) fun x71 G72 =>
  bP (pNil a0_) fun x73 =>
  bP (fa Q q 283 3 15 x73) fun x74 =>
  bP (fa Q q 280 3 3 x74) fun x75 =>
  bP (st Q q 41 1 x75 x71 G72) fun G76 =>
  bS (e.ev.cl 278 [a0_] G76) fun x77 G78 =>
  some ((.exit 0), clq q 195 (tu τ [(0, a0_), (1, a1_), (5, a5_), (6, a6_), (53, a0_), (54, x0), (55, x1), (56, x2), (60, x3), (61, x3), (77, x20), (78, x20), (114, x53), (115, x53), (116, a1_), (117, a5_), (118, a0_), (119, x54), (120, x55), (121, x56), (122, x57), (123, a0_), (124, x58), (125, x59), (126, x60), (127, x62), (128, x64), (129, x65), (132, a0_), (133, a0_), (134, x68), (135, x69), (136, x70), (137, x71), (138, x73), (139, x74), (140, x75), (188, a0_), (189, x77)]), G78))) (
  bP (bn Q q .eql 3 (.tmp 56) (.const (.int .i64 4)) x2 (.int .i64 4)) fun x79 =>
  ifV x79 (
  bP (pNil a0_) fun x80 =>
  bP (fa Q q 283 3 15 x80) fun x81 =>
  bP (fa Q q 280 3 3 x81) fun x82 =>
  bP (ld Q q 41 x82 G) fun x83 =>
  bP (pNil a0_) fun x84 =>
  bP (fa Q q 283 6 21 x84) fun x85 =>
  bP (st Q q 41 1 x85 x83 G) fun G86 =>
  bP (pNil a0_) fun x87 =>
  bP (fa Q q 283 0 0 x87) fun x88 =>
  bP (lda Q q 31 13 x88 (G86.room 13)) fun x89 =>
  bS (e.ev.cl 191 [x89, a6_, (.int .i64 0)] (G86.room 13)) fun x91 G90 =>
  bS (e.ev.cl 177 [a1_, x91] G90) fun x93 G92 =>
  bP (pNil a0_) fun x94 =>
  bP (fa Q q 283 1 13 x94) fun x95 =>
  bP (ld Q q 41 x95 G92) fun x96 =>
  chk ((sameO (ld Q q 41 x95 G90) x96 && (sameO (ld Q q 41 x95 (G86.room 13)) x96 && true))) <|
  bP (bn Q q .geq 41 (.tmp 158) (.tmp 162) x93 x96) fun x97 =>
  ifV x97 (
  bS (e.ev.cl 277 [a0_] G92) fun x98 G99 =>
  some ((.exit 0), clq q 195 (tu τ [(0, a0_), (1, a1_), (5, a5_), (6, a6_), (53, a0_), (54, x0), (55, x1), (56, x2), (60, x3), (61, x3), (77, x20), (78, x20), (114, x53), (115, x53), (141, x79), (142, x79), (143, a0_), (144, a0_), (145, x80), (146, x81), (147, x82), (148, x83), (149, x84), (150, x85), (151, a1_), (152, a0_), (153, x87), (154, x88), (155, x89), (156, a6_), (157, x91), (158, x93), (159, a0_), (160, x94), (161, x95), (162, x96), (163, x97), (164, a0_), (165, x98)]), G99)) (
  bP (pNil a0_) fun x100 =>
  bP (fa Q q 283 3 15 x100) fun x101 =>
  bP (fa Q q 280 3 3 x101) fun x102 =>
  bP (ld Q q 41 x102 (G92.room 25)) fun x103 =>
  bP (pNil a0_) fun x104 =>
  bP (fa Q q 283 4 19 x104) fun x105 =>
  bP (ld Q q 41 x105 (G92.room 25)) fun x106 =>
  bP (pNil a0_) fun x107 =>
  bP (fa Q q 283 3 15 x107) fun x108 =>
  bP (fa Q q 280 1 1 x108) fun x109 =>
  bP (st Q q 3 1 x109 a6_ (G92.room 25)) fun G110 =>
  bP (pNil a0_) fun x111 =>
  bP (fa Q q 283 3 15 x111) fun x112 =>
  bP (fa Q q 280 2 2 x112) fun x113 =>
  bP (st Q q 41 1 x113 x103 G110) fun G114 =>
  bP (pNil a0_) fun x115 =>
  bP (fa Q q 283 3 15 x115) fun x116 =>
  bP (fa Q q 280 3 3 x116) fun x117 =>
  bP (st Q q 41 1 x117 x106 G114) fun G118 =>
  bS (e.ev.cl 278 [a0_] G118) fun x119 G120 =>
  some ((.exit 0), clq q 195 (tu τ [(0, a0_), (1, a1_), (5, a5_), (6, a6_), (53, a0_), (54, x0), (55, x1), (56, x2), (60, x3), (61, x3), (77, x20), (78, x20), (114, x53), (115, x53), (141, x79), (142, x79), (143, a0_), (144, a0_), (145, x80), (146, x81), (147, x82), (148, x83), (149, x84), (150, x85), (151, a1_), (152, a0_), (153, x87), (154, x88), (155, x89), (156, a6_), (157, x91), (158, x93), (159, a0_), (160, x94), (161, x95), (162, x96), (163, x97), (166, a0_), (167, a0_), (168, a0_), (169, a6_), (170, a0_), (171, x100), (172, x101), (173, x102), (174, x103), (175, a0_), (176, x104), (177, x105), (178, x106), (179, x107), (180, x108), (181, x109), (182, x111), (183, x112), (184, x113), (185, x115), (186, x116), (187, x117), (188, a0_), (189, x119)]), G120))) (
  bP (pNil a0_) fun x121 =>
  bP (fa Q q 283 2 14 x121) fun x122 =>
  bP (st Q q 3 1 x122 (.int .i64 1) G) fun G123 =>
  lp (tu τ [(0, a0_), (1, a1_), (5, a5_), (6, a6_), (53, a0_), (54, x0), (55, x1), (56, x2), (57, a0_), (58, x121), (59, x122), (60, x3), (61, x3), (77, x20), (78, x20), (114, x53), (115, x53), (141, x79), (142, x79)]) G123))))
theorem mb196_0 {e : Ex} {E : Ev} (h : ExLe Q e E) {lp lp' : Env → GS → Option (Exit × Env × GS)} (hlp : LpLe lp lp') (τ : Env) (G : GS) : Ref (b196_0 true e lp τ G) (b196_0 false (Ex.of E) lp' τ G) := by
  unfold b196_0
  exact Ref.go
set_option maxHeartbeats 8000000 in
theorem l196_0 {orc : FuncId → Bool} {e : Ex} (h : ExLe Q e (E orc)) (lp : Env → GS → Option (Exit × Env × GS)) (hlp : ∀ τ G, Ref (lp τ G) (mapE ((E orc).lp (subAt [1, 0, 1, 1, 1, 1, 1, 0, 0, 0] (bodyOf Tryz.f196)) (lst 195 τ) G))) (T : List Value) (G : GS) (hT : T.length = 195) : Ref (b196_0 true e lp (nth undef T) G) (mapE ((E orc).lp (subAt [1, 0, 1, 1, 1, 1, 1, 0, 0, 0] (bodyOf Tryz.f196)) T G)) :=
  fun r hr => lp_sxM Q orc G hT (by kernel_rfl) (mb196_0 h ⟨hlp⟩ _ _ r hr)
/-- (*coxswain/find.Find).Step -/
noncomputable def s196 (q : Bool) (e : Ex) (v0 v1 : Value) (G : GS) : Option (Value × GS) :=
  bP (ep Q q false 37 (.tmp 7) (.const (.pointer none)) v0 (.pointer none)) fun x0 =>
  bS (gd x0 false (some (v0, G)) G) fun x1 G2 =>
  bS (gd x0 false (bP (pNil x1) fun y => some (y, G2)) G2) fun x3 G4 =>
  bS (gd x0 false (bP (fa Q q 283 7 22 x3) fun y => some (y, G4)) G4) fun x5 G6 =>
  bS (gd x0 false (bP (ld Q q 4 x5 G6) fun y => some (y, G6)) G6) fun x7 G8 =>
  bS (gd x0 false (bP (un Q q .not x7) fun y => some (y, G8)) G8) fun x9 G10 =>
  bP (pickV x0 (.bool true) x9) fun x11 =>
  bS (gd x11 false (some (v0, G10)) G10) fun x12 G13 =>
  bS (gd x11 false (bP (pNil x12) fun y => some (y, G13)) G13) fun x14 G15 =>
  bS (gd x11 false (bP (fa Q q 283 2 14 x14) fun y => some (y, G15)) G15) fun x16 G17 =>
  bS (gd x11 false (bP (ld Q q 3 x16 G17) fun y => some (y, G17)) G17) fun x18 G19 =>
  bS (gd x11 false (bP (bn Q q .eql 3 (.tmp 20) (.const (.int .i64 9)) x18 (.int .i64 9)) fun y => some (y, G19)) G19) fun x20 G21 =>
  bP (pickV x11 (.bool true) x20) fun x22 =>
  ifV x22 (
  some ((.bool true), G21)) (
  bP (pNil v0) fun x23 =>
  bP (fa Q q 283 0 0 x23) fun x24 =>
  bP (lda Q q 31 13 x24 (G21.room 16)) fun x25 =>
  bP (pNil v0) fun x26 =>
  bP (fa Q q 283 3 15 x26) fun x27 =>
  bP (fa Q q 280 1 1 x27) fun x28 =>
  bP (ld Q q 3 x28 (G21.room 16)) fun x29 =>
  bP (pNil v0) fun x30 =>
  bP (fa Q q 283 3 15 x30) fun x31 =>
  bP (fa Q q 280 0 0 x31) fun x32 =>
  bP (ld Q q 3 x32 (G21.room 16)) fun x33 =>
  bS (e.ev.cl 69 [x25, x29, x33] (G21.room 16)) fun x35 G34 =>
  bP (pNil v0) fun x36 =>
  bP (fa Q q 283 3 15 x36) fun x37 =>
  bP (fa Q q 280 3 3 x37) fun x38 =>
  bP (ld Q q 41 x38 G34) fun x39 =>
  bS (e.ev.cl 276 [v0, x39] G34) fun x40 G41 =>
  bP (pNil v0) fun x42 =>
  bP (fa Q q 283 3 15 x42) fun x43 =>
  bP (fa Q q 280 2 2 x43) fun x44 =>
  bP (ld Q q 41 x44 G41) fun x45 =>
  bP (pNil v0) fun x46 =>
  bP (fa Q q 283 6 21 x46) fun x47 =>
  bP (st Q q 41 1 x47 x45 G41) fun G48 =>
  bL q e 196 0 (subAt [1, 0, 1, 1, 1, 1, 1, 0, 0, 0] (bodyOf Tryz.f196)) 195 (tu (nth undef [v0, v1]) [(4, (.bool false)), (5, x35), (6, x40), (7, v0), (8, x0), (9, x0), (10, x1), (11, x3), (12, x5), (13, x7), (14, x9), (15, x11), (16, x11), (17, x12), (18, x14), (19, x16), (20, x18), (21, x20), (22, x22), (23, v0), (24, x23), (25, x24), (26, x25), (27, v0), (28, x26), (29, x27), (30, x28), (31, x29), (32, v0), (33, x30), (34, x31), (35, x32), (36, x33), (37, x35), (38, v0), (39, v0), (40, x36), (41, x37), (42, x38), (43, x39), (44, x40), (45, v0), (46, v0), (47, x42), (48, x43), (49, x44), (50, x45), (51, x46), (52, x47)]) G48 fun e49 t50 G51 =>
  bV q (t50 0) fun t50x0_ =>
  ifE e49 (.exit 0) (
  bP (pNil t50x0_) fun x52 =>
  bP (fa Q q 283 2 14 x52) fun x53 =>
  bP (ld Q q 3 x53 G51) fun x54 =>
  bP (bn Q q .eql 3 (.tmp 193) (.const (.int .i64 9)) x54 (.int .i64 9)) fun x55 =>
  some (x55, G51)) (none))
theorem m196 {e : Ex} {E : Ev} (h : ExLe Q e E) (v0 v1 : Value) (G : GS) : Ref (s196 true e v0 v1 G) (s196 false (Ex.of E) v0 v1 G) := by
  unfold s196
  exact Ref.go
set_option maxHeartbeats 8000000 in
theorem f196 {orc : FuncId → Bool} {e : Ex} (h : ExLe Q e (E orc)) (v0 v1 : Value) (G : GS) : Ref (s196 true e v0 v1 G) ((E orc).cl 196 [v0, v1] G) :=
  fun r hr => cl_sxE_some Q orc (vs := [v0, v1]) G Tryz.func196 (by kernel_rfl) (by kernel_rfl) (by kernel_rfl) (by kernel_rfl) (by kernel_rfl) (by kernel_rfl) (m196 h v0 v1 G r hr)
/-- (*coxswain/find.Find).By -/
noncomputable def s197 (q : Bool) (e : Ex) (v0 : Value) (G : GS) : Option (Value × GS) :=
  bP (ep Q q false 37 (.tmp 3) (.const (.pointer none)) v0 (.pointer none)) fun x0 =>
  ifV x0 (
  some ((.int .u64 0), G)) (
  bP (pNil v0) fun x1 =>
  bP (fa Q q 283 6 21 x1) fun x2 =>
  bP (ld Q q 41 x2 G) fun x3 =>
  some (x3, G))
theorem m197 {e : Ex} {E : Ev} (h : ExLe Q e E) (v0 : Value) (G : GS) : Ref (s197 true e v0 G) (s197 false (Ex.of E) v0 G) := by
  unfold s197
  exact Ref.go
theorem f197 {orc : FuncId → Bool} {e : Ex} (h : ExLe Q e (E orc)) (v0 : Value) (G : GS) : Ref (s197 true e v0 G) ((E orc).cl 197 [v0] G) :=
  fun r hr => cl_sxE_some Q orc (vs := [v0]) G Tryz.func197 (by kernel_rfl) (by kernel_rfl) (by kernel_rfl) (by kernel_rfl) (by kernel_rfl) (by kernel_rfl) (m197 h v0 G r hr)
/-- (*coxswain/cells.Mem).Add -/
noncomputable def s198 (q : Bool) (e : Ex) (v0 v1 v2 : Value) (G : GS) : Option (Value × GS) :=
  bS (e.ev.cl 158 [v0, v1] G) fun x0 G1 =>
  bP (bd Q q 246 z246 [(0, 0, 1), (1, 1, 1)] [x0, v2]) fun x2 =>
  bS (al Q q 246 z246 G1) fun x3 G4 =>
  bP (st Q q 246 3 x3 x2 G4) fun G5 =>
  bP (fa Q q 246 0 0 x3) fun x6 =>
  bP (ld Q q 243 x6 G5) fun x7 =>
  bP (lda Q q 246 3 x3 G5) fun x8 =>
  bS (e.ev.cl 159 [v0, (.int .i64 4), v1, x7, (.func (.func 279) #[x8] #[])] G5) fun x9 G10 =>
  bP (fd Q q 68 3 3 x9) fun x11 =>
  some (x11, G10)
theorem m198 {e : Ex} {E : Ev} (h : ExLe Q e E) (v0 v1 v2 : Value) (G : GS) : Ref (s198 true e v0 v1 v2 G) (s198 false (Ex.of E) v0 v1 v2 G) := by
  unfold s198
  exact Ref.go
theorem f198 {orc : FuncId → Bool} {e : Ex} (h : ExLe Q e (E orc)) (v0 v1 v2 : Value) (G : GS) : Ref (s198 true e v0 v1 v2 G) ((E orc).cl 198 [v0, v1, v2] G) :=
  fun r hr => cl_sxE_some Q orc (vs := [v0, v1, v2]) G Tryz.func198 (by kernel_rfl) (by kernel_rfl) (by kernel_rfl) (by kernel_rfl) (by kernel_rfl) (by kernel_rfl) (m198 h v0 v1 v2 G r hr)
/-- coxswain/limbo.NewRetire -/
noncomputable def s199 (q : Bool) (e : Ex) (v0 v1 : Value) (G : GS) : Option (Value × GS) :=
  bS (bx q v0 G) fun x0 G1 =>
  bP (bd Q q 402 z402 [(1, 1, 1)] [(.bool true)]) fun x2 =>
  bP (lda Q q 29 10 x0 G1) fun x3 =>
  bP (bd Q q 404 z404 [(0, 0, 3), (1, 3, 10), (2, 13, 1)] [x2, x3, v1]) fun x4 =>
  bS (bx q x4 G1) fun x5 G6 =>
  bP (bn Q q .lss 3 (.tmp 11) (.const (.int .i64 0)) v1 (.int .i64 0)) fun x7 =>
  bS (gd x7 false (some (v1, G6)) G6) fun x8 G9 =>
  bS (gd x7 false (bP (fa Q q 29 0 0 x0) fun y => some (y, G9)) G9) fun x10 G11 =>
  bS (gd x7 false (bP (fa Q q 25 0 0 x10) fun y => some (y, G11)) G11) fun x12 G13 =>
  bS (gd x7 false (bP (fa Q q 23 2 2 x12) fun y => some (y, G13)) G13) fun x14 G15 =>
  bS (gd x7 false (bP (ld Q q 3 x14 G15) fun y => some (y, G15)) G15) fun x16 G17 =>
  bS (gd x7 false (bP (bn Q q .geq 3 (.tmp 14) (.tmp 18) x8 x16) fun y => some (y, G17)) G17) fun x18 G19 =>
  bP (pickV x7 (.bool true) x18) fun x20 =>
  ifV x20 (
  bP (pNil x5) fun x21 =>
  bP (fa Q q 404 0 0 x21) fun x22 =>
  bP (fa Q q 402 2 2 x22) fun x23 =>
  bP (st Q q 33 1 x23 (.int .i64 3) G19) fun G24 =>
  some (x5, G24)) (
  bP (pNil x5) fun x25 =>
  bP (fa Q q 404 0 0 x25) fun x26 =>
  bP (fa Q q 402 0 0 x26) fun x27 =>
  bP (st Q q 400 1 x27 (.func (.func 280) #[x5] #[]) G19) fun G28 =>
  some (x5, G28))
theorem m199 {e : Ex} {E : Ev} (h : ExLe Q e E) (v0 v1 : Value) (G : GS) : Ref (s199 true e v0 v1 G) (s199 false (Ex.of E) v0 v1 G) := by
  unfold s199
  exact Ref.go
theorem f199 {orc : FuncId → Bool} {e : Ex} (h : ExLe Q e (E orc)) (v0 v1 : Value) (G : GS) : Ref (s199 true e v0 v1 G) ((E orc).cl 199 [v0, v1] G) :=
  fun r hr => cl_sxE_some Q orc (vs := [v0, v1]) G Tryz.func199 (by kernel_rfl) (by kernel_rfl) (by kernel_rfl) (by kernel_rfl) (by kernel_rfl) (by kernel_rfl) (m199 h v0 v1 G r hr)
/-- (*coxswain/limbo.Retire).Step -/
noncomputable def s200 (q : Bool) (e : Ex) (v0 v1 : Value) (G : GS) : Option (Value × GS) :=
  bP (ep Q q false 38 (.tmp 5) (.const (.pointer none)) v0 (.pointer none)) fun x0 =>
  bS (gd x0 false (some (v0, G)) G) fun x1 G2 =>
  bS (gd x0 false (bP (pNil x1) fun y => some (y, G2)) G2) fun x3 G4 =>
  bS (gd x0 false (bP (fa Q q 404 0 0 x3) fun y => some (y, G4)) G4) fun x5 G6 =>
  bS (gd x0 false (some (v1, G6)) G6) fun x7 G8 =>
  bS (gd x0 false (bS (e.ev.cl 281 [x5, x7] G8) fun y G => some (y, G)) G8) fun x9 G10 =>
  bP (pickV x0 (.bool true) x9) fun x11 =>
  some (x11, G10)
theorem m200 {e : Ex} {E : Ev} (h : ExLe Q e E) (v0 v1 : Value) (G : GS) : Ref (s200 true e v0 v1 G) (s200 false (Ex.of E) v0 v1 G) := by
  unfold s200
  exact Ref.go
theorem f200 {orc : FuncId → Bool} {e : Ex} (h : ExLe Q e (E orc)) (v0 v1 : Value) (G : GS) : Ref (s200 true e v0 v1 G) ((E orc).cl 200 [v0, v1] G) :=
  fun r hr => cl_sxE_some Q orc (vs := [v0, v1]) G Tryz.func200 (by kernel_rfl) (by kernel_rfl) (by kernel_rfl) (by kernel_rfl) (by kernel_rfl) (by kernel_rfl) (m200 h v0 v1 G r hr)
/-- coxswain/word.GetRef -/
noncomputable def s203 (q : Bool) (e : Ex) (v0 : Value) (G : GS) : Option (Value × GS) :=
  bS (al Q q 289 z289 G) fun x0 G1 =>
  bS (e.ev.cl 284 [] G1) fun x2 G3 =>
  bS (al Q q 393 z393 G3) fun x4 G5 =>
  bP (st Q q 393 4 x4 x2 G5) fun G6 =>
  bP (iaa Q q 393 2 2 x4 (.int .i64 0)) fun x7 =>
  bP (lda Q q 392 2 x7 (G6.room 14)) fun x8 =>
  bS (e.ev.cl 272 [v0, x8] (G6.room 14)) fun x10 G9 =>
  bP (bn Q q .sub 3 (.tmp 12) (.const (.int .i64 1)) x10 (.int .i64 1)) fun x11 =>
  bP (iaa Q q 393 2 2 x4 (.int .i64 1)) fun x12 =>
  bP (lda Q q 392 2 x12 G9) fun x13 =>
  chk ((sameO (lda Q q 392 2 x12 (G6.room 14)) x13 && true)) <|
  bS (e.ev.cl 272 [v0, x13] G9) fun x15 G14 =>
  bS (e.ev.cl 192 [v0] G14) fun x17 G16 =>
  bP (bd Q q 289 z289 [(0, 0, 1), (1, 1, 1), (2, 2, 1)] [x11, x15, x17]) fun x18 =>
  bS (al Q q 289 z289 (G16.at' (G6.nx + 12))) fun x19 G20 =>
  bP (st Q q 289 3 x19 x18 (G20.back G16)) fun G21 =>
  bP (lda Q q 289 3 x19 G21) fun x22 =>
  bS (e.ev.cl 285 [x22] G21) fun x23 G24 =>
  bP (pExtract x23 0) fun x25 =>
  bP (pExtract x23 1) fun x26 =>
  bP (bn Q q .neq 33 (.tmp 26) (.const (.int .i64 0)) x26 (.int .i64 0)) fun x27 =>
  bS (gd x27 false (some (x25, G24)) G24) fun x28 G29 =>
  bS (gd x27 false (some (v0, G29)) G29) fun x30 G31 =>
  bS (gd x27 false (bP (bn Q q .neq 41 (.tmp 29) (.tmp 30) x28 x30) fun y => some (y, G31)) G31) fun x32 G33 =>
  bP (pickV x27 (.bool true) x32) fun x34 =>
  ifV x34 (
  bP (bd Q q 289 z289 [] []) fun x35 =>
  bP (st Q q 289 3 x0 x35 G33) fun G36 =>
  bP (lda Q q 289 3 x0 G36) fun x37 =>
  some (.tuple #[x37, (.int .i64 5)], G36)) (
  bP (lda Q q 289 3 x19 G33) fun x38 =>
  bP (st Q q 289 3 x0 x38 G33) fun G39 =>
  bP (lda Q q 289 3 x0 G39) fun x40 =>
  some (.tuple #[x40, (.int .i64 0)], G39))
theorem m203 {e : Ex} {E : Ev} (h : ExLe Q e E) (v0 : Value) (G : GS) : Ref (s203 true e v0 G) (s203 false (Ex.of E) v0 G) := by
  unfold s203
  exact Ref.go
theorem f203 {orc : FuncId → Bool} {e : Ex} (h : ExLe Q e (E orc)) (v0 : Value) (G : GS) : Ref (s203 true e v0 G) ((E orc).cl 203 [v0] G) :=
  fun r hr => cl_sxE_some Q orc (vs := [v0]) G Tryz.func203 (by kernel_rfl) (by kernel_rfl) (by kernel_rfl) (by kernel_rfl) (by kernel_rfl) (by kernel_rfl) (m203 h v0 G r hr)
/-- coxswain/ready.begun -/
noncomputable def s213 (q : Bool) (e : Ex) (v0 v1 : Value) (G : GS) : Option (Value × GS) :=
  bS (bx q v0 G) fun x0 G1 =>
  bS (al Q q 300 z300 G1) fun x2 G3 =>
  bP (lda Q q 31 13 x0 G3) fun x4 =>
  bP (bd Q q 300 z300 [(0, 0, 13), (1, 13, 1), (2, 14, 1)] [x4, v1, (.bool true)]) fun x5 =>
  bS (al Q q 300 z300 G3) fun x6 G7 =>
  bP (st Q q 300 19 x6 x5 G7) fun G8 =>
  bP (lda Q q 31 13 x0 G8) fun x9 =>
  bS (e.ev.cl 191 [x9, (.int .i64 0), (.int .i64 0)] G8) fun x10 G11 =>
  bP (bn Q q .lss 3 (.tmp 11) (.const (.int .i64 0)) x10 (.int .i64 0)) fun x12 =>
  ifV x12 (
  bP (fa Q q 300 6 18 x6) fun x13 =>
  bP (st Q q 33 1 x13 (.int .i64 2) G11) fun G14 =>
  bP (lda Q q 300 19 x6 G14) fun x15 =>
  bP (st Q q 300 19 x2 x15 G14) fun G16 =>
  bP (lda Q q 300 19 x2 G16) fun x17 =>
  some (x17, G16)) (
  bP (bn Q q .lss 3 (.tmp 15) (.const (.int .i64 0)) v1 (.int .i64 0)) fun x18 =>
  bS (gd x18 false (some (v1, G11)) G11) fun x19 G20 =>
  bS (gd x18 false (bP (fa Q q 31 3 3 x0) fun y => some (y, G20)) G20) fun x21 G22 =>
  bS (gd x18 false (bP (fa Q q 29 1 6 x21) fun y => some (y, G22)) G22) fun x23 G24 =>
  bS (gd x18 false (bP (fa Q q 27 2 2 x23) fun y => some (y, G24)) G24) fun x25 G26 =>
  bS (gd x18 false (bP (ld Q q 3 x25 G26) fun y => some (y, G26)) G26) fun x27 G28 =>
  bS (gd x18 false (bP (bn Q q .geq 3 (.tmp 18) (.tmp 22) x19 x27) fun y => some (y, G28)) G28) fun x29 G30 =>
  bP (pickV x18 (.bool true) x29) fun x31 =>
  ifV x31 (
  bP (fa Q q 300 6 18 x6) fun x32 =>
  bP (st Q q 33 1 x32 (.int .i64 3) G30) fun G33 =>
  bP (lda Q q 300 19 x6 G33) fun x34 =>
  bP (st Q q 300 19 x2 x34 G33) fun G35 =>
  bP (lda Q q 300 19 x2 G35) fun x36 =>
  some (x36, G35)) (
  bP (lda Q q 300 19 x6 G30) fun x37 =>
  bP (st Q q 300 19 x2 x37 G30) fun G38 =>
  bP (lda Q q 300 19 x2 G38) fun x39 =>
  some (x39, G38)))
theorem m213 {e : Ex} {E : Ev} (h : ExLe Q e E) (v0 v1 : Value) (G : GS) : Ref (s213 true e v0 v1 G) (s213 false (Ex.of E) v0 v1 G) := by
  unfold s213
  exact Ref.go
theorem f213 {orc : FuncId → Bool} {e : Ex} (h : ExLe Q e (E orc)) (v0 v1 : Value) (G : GS) : Ref (s213 true e v0 v1 G) ((E orc).cl 213 [v0, v1] G) :=
  fun r hr => cl_sxE_some Q orc (vs := [v0, v1]) G Tryz.func213 (by kernel_rfl) (by kernel_rfl) (by kernel_rfl) (by kernel_rfl) (by kernel_rfl) (by kernel_rfl) (m213 h v0 v1 G r hr)
/-- (*coxswain/ready.work).pin -/
noncomputable def s214 (q : Bool) (e : Ex) (v0 : Value) (G : GS) : Option (Value × GS) :=
  bS (bx q v0 G) fun x0 G1 =>
  bP (bd Q q 423 z423 [(0, 0, 1), (2, 2, 1)] [(.func (.func 290) #[] #[x0]), (.func (.func 292) #[] #[x0])]) fun x2 =>
  bS (bx q x2 G1) fun x3 G4 =>
  bP (ifc Q q 416 x3) fun x5 =>
  some (x5, G4)
theorem m214 {e : Ex} {E : Ev} (h : ExLe Q e E) (v0 : Value) (G : GS) : Ref (s214 true e v0 G) (s214 false (Ex.of E) v0 G) := by
  unfold s214
  exact Ref.go
theorem f214 {orc : FuncId → Bool} {e : Ex} (h : ExLe Q e (E orc)) (v0 : Value) (G : GS) : Ref (s214 true e v0 G) ((E orc).cl 214 [v0] G) :=
  fun r hr => cl_sxE_some Q orc (vs := [v0]) G Tryz.func214 (by kernel_rfl) (by kernel_rfl) (by kernel_rfl) (by kernel_rfl) (by kernel_rfl) (by kernel_rfl) (m214 h v0 G r hr)
/-- (*coxswain/ready.Put).alloc -/
noncomputable def s215 (q : Bool) (e : Ex) (v0 : Value) (G : GS) : Option (Value × GS) :=
  bS (bx q v0 G) fun x0 G1 =>
  bP (ld Q q 80 x0 G1) fun x2 =>
  bP (bd Q q 429 z429 [(0, 0, 1), (2, 2, 1)] [(.func (.func 294) #[] #[x0]), (.func (.func 295) #[x2] #[])]) fun x3 =>
  bS (bx q x3 G1) fun x4 G5 =>
  bP (ifc Q q 424 x4) fun x6 =>
  some (x6, G5)
theorem m215 {e : Ex} {E : Ev} (h : ExLe Q e E) (v0 : Value) (G : GS) : Ref (s215 true e v0 G) (s215 false (Ex.of E) v0 G) := by
  unfold s215
  exact Ref.go
theorem f215 {orc : FuncId → Bool} {e : Ex} (h : ExLe Q e (E orc)) (v0 : Value) (G : GS) : Ref (s215 true e v0 G) ((E orc).cl 215 [v0] G) :=
  fun r hr => cl_sxE_some Q orc (vs := [v0]) G Tryz.func215 (by kernel_rfl) (by kernel_rfl) (by kernel_rfl) (by kernel_rfl) (by kernel_rfl) (by kernel_rfl) (m215 h v0 G r hr)
/-- coxswain/ready.NewPick$1 -/
noncomputable def s218 (q : Bool) (e : Ex) (v0 : Value) (G : GS) : Option (Value × GS) :=
  bP (lda Q q 31 13 v0 G) fun x0 =>
  bS (e.ev.cl 19 [x0] G) fun x1 G2 =>
  some (x1, G2)
theorem m218 {e : Ex} {E : Ev} (h : ExLe Q e E) (v0 : Value) (G : GS) : Ref (s218 true e v0 G) (s218 false (Ex.of E) v0 G) := by
  unfold s218
  exact Ref.go
theorem f218 {orc : FuncId → Bool} {e : Ex} (h : ExLe Q e (E orc)) (v0 : Value) (G : GS) : Ref (s218 true e v0 G) ((E orc).cl 218 [v0] G) :=
  fun r hr => cl_sxE_some Q orc (vs := [v0]) G Tryz.func218 (by kernel_rfl) (by kernel_rfl) (by kernel_rfl) (by kernel_rfl) (by kernel_rfl) (by kernel_rfl) (m218 h v0 G r hr)
/-- coxswain/ready.NewPick$2 -/
noncomputable def s219 (q : Bool) (e : Ex) (v0 v1 : Value) (G : GS) : Option (Value × GS) :=
  bP (ld Q q 82 v1 (G.room 15)) fun x0 =>
  bP (ld Q q 82 v1 (G.room 15)) fun x1 =>
  bS (e.ev.cl 10 [v0] (G.room 15)) fun x3 G2 =>
  chk ((sameO (ld Q q 82 v1 G2) x1 && (sameO (ld Q q 82 v1 G2) x0 && true))) <|
  bP (pExtract x3 0) fun x4 =>
  bP (pExtract x3 1) fun x5 =>
  bP (pNil x0) fun x6 =>
  bP (fa Q q 311 1 19 x6) fun x7 =>
  bP (fa Q q 309 0 0 x7) fun x8 =>
  bP (st Q q 44 2 x8 x4 G2) fun G9 =>
  chk ((sameO (ld Q q 82 v1 G9) x1 && true)) <|
  bP (pNil x1) fun x10 =>
  bP (fa Q q 311 1 19 x10) fun x11 =>
  bP (fa Q q 309 1 2 x11) fun x12 =>
  bP (st Q q 33 1 x12 x5 G9) fun G13 =>
  some (.tuple #[], G13)
theorem m219 {e : Ex} {E : Ev} (h : ExLe Q e E) (v0 v1 : Value) (G : GS) : Ref (s219 true e v0 v1 G) (s219 false (Ex.of E) v0 v1 G) := by
  unfold s219
  exact Ref.go
theorem f219 {orc : FuncId → Bool} {e : Ex} (h : ExLe Q e (E orc)) (v0 v1 : Value) (G : GS) : Ref (s219 true e v0 v1 G) ((E orc).cl 219 [v0, v1] G) :=
  fun r hr => cl_sxE_some Q orc (vs := [v0, v1]) G Tryz.func219 (by kernel_rfl) (by kernel_rfl) (by kernel_rfl) (by kernel_rfl) (by kernel_rfl) (by kernel_rfl) (m219 h v0 v1 G r hr)
/-- (*coxswain/ready.work).unpin -/
noncomputable def s220 (q : Bool) (e : Ex) (v0 : Value) (G : GS) : Option (Value × GS) :=
  bS (bx q v0 G) fun x0 G1 =>
  bP (bd Q q 438 z438 [(0, 0, 1)] [(.func (.func 297) #[] #[x0])]) fun x2 =>
  bS (bx q x2 G1) fun x3 G4 =>
  bP (ifc Q q 431 x3) fun x5 =>
  some (x5, G4)
theorem m220 {e : Ex} {E : Ev} (h : ExLe Q e E) (v0 : Value) (G : GS) : Ref (s220 true e v0 G) (s220 false (Ex.of E) v0 G) := by
  unfold s220
  exact Ref.go
theorem f220 {orc : FuncId → Bool} {e : Ex} (h : ExLe Q e (E orc)) (v0 : Value) (G : GS) : Ref (s220 true e v0 G) ((E orc).cl 220 [v0] G) :=
  fun r hr => cl_sxE_some Q orc (vs := [v0]) G Tryz.func220 (by kernel_rfl) (by kernel_rfl) (by kernel_rfl) (by kernel_rfl) (by kernel_rfl) (by kernel_rfl) (m220 h v0 G r hr)
/-- coxswain/ready.NewLook$1 -/
noncomputable def s221 (q : Bool) (e : Ex) (v0 : Value) (G : GS) : Option (Value × GS) :=
  bP (lda Q q 31 13 v0 G) fun x0 =>
  bS (e.ev.cl 20 [x0] G) fun x1 G2 =>
  some (x1, G2)
theorem m221 {e : Ex} {E : Ev} (h : ExLe Q e E) (v0 : Value) (G : GS) : Ref (s221 true e v0 G) (s221 false (Ex.of E) v0 G) := by
  unfold s221
  exact Ref.go
theorem f221 {orc : FuncId → Bool} {e : Ex} (h : ExLe Q e (E orc)) (v0 : Value) (G : GS) : Ref (s221 true e v0 G) ((E orc).cl 221 [v0] G) :=
  fun r hr => cl_sxE_some Q orc (vs := [v0]) G Tryz.func221 (by kernel_rfl) (by kernel_rfl) (by kernel_rfl) (by kernel_rfl) (by kernel_rfl) (by kernel_rfl) (m221 h v0 G r hr)
/-- coxswain/ready.NewLook$2 -/
noncomputable def s222 (q : Bool) (e : Ex) (v0 v1 : Value) (G : GS) : Option (Value × GS) :=
  bP (ld Q q 84 v1 (G.room 15)) fun x0 =>
  bP (ld Q q 84 v1 (G.room 15)) fun x1 =>
  bS (e.ev.cl 11 [v0] (G.room 15)) fun x3 G2 =>
  chk ((sameO (ld Q q 84 v1 G2) x1 && (sameO (ld Q q 84 v1 G2) x0 && true))) <|
  bP (pExtract x3 0) fun x4 =>
  bP (pExtract x3 1) fun x5 =>
  bP (pNil x0) fun x6 =>
  bP (fa Q q 318 1 19 x6) fun x7 =>
  bP (fa Q q 309 0 0 x7) fun x8 =>
  bP (st Q q 44 2 x8 x4 G2) fun G9 =>
  chk ((sameO (ld Q q 84 v1 G9) x1 && true)) <|
  bP (pNil x1) fun x10 =>
  bP (fa Q q 318 1 19 x10) fun x11 =>
  bP (fa Q q 309 1 2 x11) fun x12 =>
  bP (st Q q 33 1 x12 x5 G9) fun G13 =>
  some (.tuple #[], G13)
theorem m222 {e : Ex} {E : Ev} (h : ExLe Q e E) (v0 v1 : Value) (G : GS) : Ref (s222 true e v0 v1 G) (s222 false (Ex.of E) v0 v1 G) := by
  unfold s222
  exact Ref.go
theorem f222 {orc : FuncId → Bool} {e : Ex} (h : ExLe Q e (E orc)) (v0 v1 : Value) (G : GS) : Ref (s222 true e v0 v1 G) ((E orc).cl 222 [v0, v1] G) :=
  fun r hr => cl_sxE_some Q orc (vs := [v0, v1]) G Tryz.func222 (by kernel_rfl) (by kernel_rfl) (by kernel_rfl) (by kernel_rfl) (by kernel_rfl) (by kernel_rfl) (m222 h v0 v1 G r hr)
/-- (*coxswain/ready.work).collect -/
noncomputable def s223 (q : Bool) (e : Ex) (v0 v1 : Value) (G : GS) : Option (Value × GS) :=
  bS (bx q v0 G) fun x0 G1 =>
  bP (bd Q q 444 z444 [(0, 0, 1), (2, 2, 1)] [(.func (.func 299) #[] #[x0]), v1]) fun x2 =>
  bS (bx q x2 G1) fun x3 G4 =>
  bP (ifc Q q 439 x3) fun x5 =>
  some (x5, G4)
theorem m223 {e : Ex} {E : Ev} (h : ExLe Q e E) (v0 v1 : Value) (G : GS) : Ref (s223 true e v0 v1 G) (s223 false (Ex.of E) v0 v1 G) := by
  unfold s223
  exact Ref.go
theorem f223 {orc : FuncId → Bool} {e : Ex} (h : ExLe Q e (E orc)) (v0 v1 : Value) (G : GS) : Ref (s223 true e v0 v1 G) ((E orc).cl 223 [v0, v1] G) :=
  fun r hr => cl_sxE_some Q orc (vs := [v0, v1]) G Tryz.func223 (by kernel_rfl) (by kernel_rfl) (by kernel_rfl) (by kernel_rfl) (by kernel_rfl) (by kernel_rfl) (m223 h v0 v1 G r hr)
/-- (*coxswain/ready.work).told -/
noncomputable def s226 (q : Bool) (e : Ex) (v0 : Value) (G : GS) : Option (Value × GS) :=
  bP (pNil v0) fun x0 =>
  bP (fa Q q 300 2 14 x0) fun x1 =>
  bP (ld Q q 4 x1 G) fun x2 =>
  bP (un Q q .not x2) fun x3 =>
  ifV x3 (
  some ((.int .i64 1), G)) (
  bP (pNil v0) fun x4 =>
  bP (fa Q q 300 4 16 x4) fun x5 =>
  bP (ld Q q 298 x5 G) fun x6 =>
  bP (ln Q q 298 x6) fun x7 =>
  bP (bn Q q .gtr 3 (.tmp 14) (.const (.int .i64 0)) x7 (.int .i64 0)) fun x8 =>
  ifV x8 (
  some ((.int .i64 14), G)) (
  bP (pNil v0) fun x9 =>
  bP (fa Q q 300 6 18 x9) fun x10 =>
  bP (ld Q q 33 x10 G) fun x11 =>
  some (x11, G)))
theorem m226 {e : Ex} {E : Ev} (h : ExLe Q e E) (v0 : Value) (G : GS) : Ref (s226 true e v0 G) (s226 false (Ex.of E) v0 G) := by
  unfold s226
  exact Ref.go
theorem f226 {orc : FuncId → Bool} {e : Ex} (h : ExLe Q e (E orc)) (v0 : Value) (G : GS) : Ref (s226 true e v0 G) ((E orc).cl 226 [v0] G) :=
  fun r hr => cl_sxE_some Q orc (vs := [v0]) G Tryz.func226 (by kernel_rfl) (by kernel_rfl) (by kernel_rfl) (by kernel_rfl) (by kernel_rfl) (by kernel_rfl) (m226 h v0 G r hr)
/-- (coxswain/ready.seen).told -/
noncomputable def s227 (q : Bool) (e : Ex) (v0 v1 : Value) (G : GS) : Option (Value × GS) :=
  bS (bx q v0 G) fun x0 G1 =>
  bS (al Q q 44 z44 G1) fun x2 G3 =>
  bS (e.ev.cl 226 [v1] G3) fun x4 G5 =>
  bP (bn Q q .neq 33 (.tmp 9) (.const (.int .i64 0)) x4 (.int .i64 0)) fun x6 =>
  ifV x6 (
  bP (bd Q q 44 z44 [] []) fun x7 =>
  bP (st Q q 44 2 x2 x7 G5) fun G8 =>
  bP (lda Q q 44 2 x2 G8) fun x9 =>
  some (.tuple #[x9, x4], G8)) (
  bP (fa Q q 309 0 0 x0) fun x10 =>
  bP (lda Q q 44 2 x10 (G5.room 6)) fun x11 =>
  bP (fa Q q 309 1 2 x0) fun x12 =>
  bP (ld Q q 33 x12 (G5.room 6)) fun x13 =>
  bP (st Q q 44 2 x2 x11 (G5.room 6)) fun G14 =>
  chk ((sameO (ld Q q 33 x12 G14) x13 && true)) <|
  bP (lda Q q 44 2 x2 G14) fun x15 =>
  some (.tuple #[x15, x13], G14))
theorem m227 {e : Ex} {E : Ev} (h : ExLe Q e E) (v0 v1 : Value) (G : GS) : Ref (s227 true e v0 v1 G) (s227 false (Ex.of E) v0 v1 G) := by
  unfold s227
  exact Ref.go
theorem f227 {orc : FuncId → Bool} {e : Ex} (h : ExLe Q e (E orc)) (v0 v1 : Value) (G : GS) : Ref (s227 true e v0 v1 G) ((E orc).cl 227 [v0, v1] G) :=
  fun r hr => cl_sxE_some Q orc (vs := [v0, v1]) G Tryz.func227 (by kernel_rfl) (by kernel_rfl) (by kernel_rfl) (by kernel_rfl) (by kernel_rfl) (by kernel_rfl) (m227 h v0 v1 G r hr)
/-- coxswain/coxswainlaw19.filled -/
noncomputable def s229 (q : Bool) (e : Ex) (v0 v1 : Value) (G : GS) : Option (Value × GS) :=
  bS (bx q v0 G) fun x0 G1 =>
  bS (e.ev.cl 9 [v1] G1) fun x2 G3 =>
  bP (pExtract x2 0) fun x4 =>
  bP (pExtract x2 1) fun x5 =>
  bP (bn Q q .neq 33 (.tmp 12) (.const (.int .i64 0)) x5 (.int .i64 0)) fun x6 =>
  bS (gd x6 false (some (x4, G3)) G3) fun x7 G8 =>
  bS (gd x6 false (bP (ep Q q false 32 (.tmp 15) (.const (.pointer none)) x7 (.pointer none)) fun y => some (y, G8)) G8) fun x9 G10 =>
  bP (pickV x6 (.bool true) x9) fun x11 =>
  ifV x11 (
  some ((.pointer none), G10)) (
  bP (lda Q q 31 13 x0 G10) fun x12 =>
  bS (e.ev.cl 156 [x12, x4] G10) fun x13 G14 =>
  some (x4, G14))
theorem m229 {e : Ex} {E : Ev} (h : ExLe Q e E) (v0 v1 : Value) (G : GS) : Ref (s229 true e v0 v1 G) (s229 false (Ex.of E) v0 v1 G) := by
  unfold s229
  exact Ref.go
theorem f229 {orc : FuncId → Bool} {e : Ex} (h : ExLe Q e (E orc)) (v0 v1 : Value) (G : GS) : Ref (s229 true e v0 v1 G) ((E orc).cl 229 [v0, v1] G) :=
  fun r hr => cl_sxE_some Q orc (vs := [v0, v1]) G Tryz.func229 (by kernel_rfl) (by kernel_rfl) (by kernel_rfl) (by kernel_rfl) (by kernel_rfl) (by kernel_rfl) (m229 h v0 v1 G r hr)
noncomputable def b230_0 (q : Bool) (e : Ex) (lp : Env → GS → Option (Exit × Env × GS)) (τ : Env) (G : GS) : Option (Exit × Env × GS) :=
  bV q (τ 1) fun a1_ =>
  bV q (τ 14) fun a14_ =>
  bV q (τ 15) fun a15_ =>
  bP (bn Q q .lss 3 (.tmp 22) (.const (.int .i64 4000)) a15_ (.int .i64 4000)) fun x0 =>
  bS (gd x0 true (some (a14_, G)) G) fun x1 G2 =>
  bS (gd x0 true (some (a1_, G2)) G2) fun x3 G4 =>
  bS (gd x0 true (bS (e.ev.cl 289 [x1, x3] G4) fun y G => some (y, G)) G4) fun x5 G6 =>
  bS (gd x0 true (bP (un Q q .not x5) fun y => some (y, G6)) G6) fun x7 G8 =>
  bP (pickV x0 x7 (.bool false)) fun x9 =>
  ifV x9 (
  bP (bn Q q .add 3 (.tmp 30) (.const (.int .i64 1)) a15_ (.int .i64 1)) fun x10 =>
  lp (tu τ [(1, a1_), (14, a14_), (15, x10), (22, a15_), (23, x0), (24, x0), (25, x1), (26, x3), (27, x5), (28, x7), (29, x9), (30, a15_), (31, x10)]) G8) (
  some ((.exit 0), clq q 35 (tu τ [(1, a1_), (14, a14_), (15, a15_), (22, a15_), (23, x0), (24, x0), (25, x1), (26, x3), (27, x5), (28, x7), (29, x9)]), G8))
theorem mb230_0 {e : Ex} {E : Ev} (h : ExLe Q e E) {lp lp' : Env → GS → Option (Exit × Env × GS)} (hlp : LpLe lp lp') (τ : Env) (G : GS) : Ref (b230_0 true e lp τ G) (b230_0 false (Ex.of E) lp' τ G) := by
  unfold b230_0
  exact Ref.go
theorem l230_0 {orc : FuncId → Bool} {e : Ex} (h : ExLe Q e (E orc)) (lp : Env → GS → Option (Exit × Env × GS)) (hlp : ∀ τ G, Ref (lp τ G) (mapE ((E orc).lp (subAt [1, 1, 1, 0, 0, 0] (bodyOf Tryz.f230)) (lst 35 τ) G))) (T : List Value) (G : GS) (hT : T.length = 35) : Ref (b230_0 true e lp (nth undef T) G) (mapE ((E orc).lp (subAt [1, 1, 1, 0, 0, 0] (bodyOf Tryz.f230)) T G)) :=
  fun r hr => lp_sxM Q orc G hT (by kernel_rfl) (mb230_0 h ⟨hlp⟩ _ _ r hr)
/-- coxswain/coxswainlaw19.put -/
noncomputable def s230 (q : Bool) (e : Ex) (v0 v1 v2 v3 v4 v5 : Value) (G : GS) : Option (Value × GS) :=
  bS (bx q v0 G) fun x0 G1 =>
  bP (lda Q q 31 13 x0 G1) fun x2 =>
  bS (e.ev.cl 107 [x2, v2, v3, v4, v5] G1) fun x3 G4 =>
  bL q e 230 0 (subAt [1, 1, 1, 0, 0, 0] (bodyOf Tryz.f230)) 35 (tu (nth undef [v0, v1, v2, v3, v4, v5]) [(6, x0), (12, (.int .i64 0)), (13, (.int .i64 0)), (14, x3), (15, (.int .i64 1)), (16, x2), (17, v2), (18, v3), (19, v4), (20, v5), (21, x3)]) G4 fun e5 t6 G7 =>
  bV q (t6 14) fun t6x14_ =>
  bV q (t6 15) fun t6x15_ =>
  ifE e5 (.exit 0) (
  bS (e.ev.cl 115 [t6x14_] G7) fun x8 G9 =>
  some (.tuple #[x8, t6x15_], G9)) (none)
theorem m230 {e : Ex} {E : Ev} (h : ExLe Q e E) (v0 v1 v2 v3 v4 v5 : Value) (G : GS) : Ref (s230 true e v0 v1 v2 v3 v4 v5 G) (s230 false (Ex.of E) v0 v1 v2 v3 v4 v5 G) := by
  unfold s230
  exact Ref.go
theorem f230 {orc : FuncId → Bool} {e : Ex} (h : ExLe Q e (E orc)) (v0 v1 v2 v3 v4 v5 : Value) (G : GS) : Ref (s230 true e v0 v1 v2 v3 v4 v5 G) ((E orc).cl 230 [v0, v1, v2, v3, v4, v5] G) :=
  fun r hr => cl_sxE_some Q orc (vs := [v0, v1, v2, v3, v4, v5]) G Tryz.func230 (by kernel_rfl) (by kernel_rfl) (by kernel_rfl) (by kernel_rfl) (by kernel_rfl) (by kernel_rfl) (m230 h v0 v1 v2 v3 v4 v5 G r hr)
/-- (*coxswain/ready.Look).Step -/
noncomputable def s231 (q : Bool) (e : Ex) (v0 v1 : Value) (G : GS) : Option (Value × GS) :=
  bP (ep Q q false 84 (.tmp 5) (.const (.pointer none)) v0 (.pointer none)) fun x0 =>
  bS (gd x0 false (some (v0, G)) G) fun x1 G2 =>
  bS (gd x0 false (bP (pNil x1) fun y => some (y, G2)) G2) fun x3 G4 =>
  bS (gd x0 false (bP (fa Q q 318 0 0 x3) fun y => some (y, G4)) G4) fun x5 G6 =>
  bS (gd x0 false (some (v1, G6)) G6) fun x7 G8 =>
  bS (gd x0 false (bS (e.ev.cl 302 [x5, x7] G8) fun y G => some (y, G)) G8) fun x9 G10 =>
  bP (pickV x0 (.bool true) x9) fun x11 =>
  some (x11, G10)
theorem m231 {e : Ex} {E : Ev} (h : ExLe Q e E) (v0 v1 : Value) (G : GS) : Ref (s231 true e v0 v1 G) (s231 false (Ex.of E) v0 v1 G) := by
  unfold s231
  exact Ref.go
theorem f231 {orc : FuncId → Bool} {e : Ex} (h : ExLe Q e (E orc)) (v0 v1 : Value) (G : GS) : Ref (s231 true e v0 v1 G) ((E orc).cl 231 [v0, v1] G) :=
  fun r hr => cl_sxE_some Q orc (vs := [v0, v1]) G Tryz.func231 (by kernel_rfl) (by kernel_rfl) (by kernel_rfl) (by kernel_rfl) (by kernel_rfl) (by kernel_rfl) (m231 h v0 v1 G r hr)
noncomputable def b232_0 (q : Bool) (e : Ex) (lp : Env → GS → Option (Exit × Env × GS)) (τ : Env) (G : GS) : Option (Exit × Env × GS) :=
  bV q (τ 1) fun a1_ =>
  bV q (τ 8) fun a8_ =>
  bV q (τ 9) fun a9_ =>
  bP (bn Q q .lss 3 (.tmp 13) (.const (.int .i64 4000)) a9_ (.int .i64 4000)) fun x0 =>
  bS (gd x0 true (some (a8_, G)) G) fun x1 G2 =>
  bS (gd x0 true (some (a1_, G2)) G2) fun x3 G4 =>
  bS (gd x0 true (bS (e.ev.cl 303 [x1, x3] G4) fun y G => some (y, G)) G4) fun x5 G6 =>
  bS (gd x0 true (bP (un Q q .not x5) fun y => some (y, G6)) G6) fun x7 G8 =>
  bP (pickV x0 x7 (.bool false)) fun x9 =>
  ifV x9 (
  bS (e.ev.cl 21 [a1_] G8) fun x10 G11 =>
  bP (bn Q q .add 3 (.tmp 21) (.const (.int .i64 1)) a9_ (.int .i64 1)) fun x12 =>
  lp (tu τ [(1, a1_), (8, a8_), (9, x12), (13, a9_), (14, x0), (15, x0), (16, x1), (17, x3), (18, x5), (19, x7), (20, x9), (21, a9_), (22, x12), (23, a1_), (24, x10)]) G11) (
  some ((.exit 0), clq q 29 (tu τ [(1, a1_), (8, a8_), (9, a9_), (13, a9_), (14, x0), (15, x0), (16, x1), (17, x3), (18, x5), (19, x7), (20, x9)]), G8))
theorem mb232_0 {e : Ex} {E : Ev} (h : ExLe Q e E) {lp lp' : Env → GS → Option (Exit × Env × GS)} (hlp : LpLe lp lp') (τ : Env) (G : GS) : Ref (b232_0 true e lp τ G) (b232_0 false (Ex.of E) lp' τ G) := by
  unfold b232_0
  exact Ref.go
theorem l232_0 {orc : FuncId → Bool} {e : Ex} (h : ExLe Q e (E orc)) (lp : Env → GS → Option (Exit × Env × GS)) (hlp : ∀ τ G, Ref (lp τ G) (mapE ((E orc).lp (subAt [1, 1, 0, 1, 0, 0] (bodyOf Tryz.f232)) (lst 29 τ) G))) (T : List Value) (G : GS) (hT : T.length = 29) : Ref (b232_0 true e lp (nth undef T) G) (mapE ((E orc).lp (subAt [1, 1, 0, 1, 0, 0] (bodyOf Tryz.f232)) T G)) :=
  fun r hr => lp_sxM Q orc G hT (by kernel_rfl) (mb232_0 h ⟨hlp⟩ _ _ r hr)
/-- coxswain/coxswainlaw19.pick -/
noncomputable def s232 (q : Bool) (e : Ex) (v0 v1 v2 : Value) (G : GS) : Option (Value × GS) :=
  bS (bx q v0 G) fun x0 G1 =>
  bS (al Q q 44 z44 G1) fun x2 G3 =>
  bP (lda Q q 31 13 x0 G3) fun x4 =>
  bS (e.ev.cl 109 [x4, v2] G3) fun x5 G6 =>
  bL q e 232 0 (subAt [1, 1, 0, 1, 0, 0] (bodyOf Tryz.f232)) 29 (tu (nth undef [v0, v1, v2]) [(3, x0), (6, x2), (7, (.int .i64 0)), (8, x5), (9, (.int .i64 1)), (10, x4), (11, v2), (12, x5)]) G6 fun e7 t8 G9 =>
  bV q (t8 6) fun t8x6_ =>
  bV q (t8 8) fun t8x8_ =>
  ifE e7 (.exit 0) (
  bS (e.ev.cl 119 [t8x8_] G9) fun x10 G11 =>
  bP (pExtract x10 0) fun x12 =>
  bP (pExtract x10 1) fun x13 =>
  bP (st Q q 44 2 t8x6_ x12 G11) fun G14 =>
  bP (lda Q q 44 2 t8x6_ G14) fun x15 =>
  some (.tuple #[x15, x13], G14)) (none)
theorem m232 {e : Ex} {E : Ev} (h : ExLe Q e E) (v0 v1 v2 : Value) (G : GS) : Ref (s232 true e v0 v1 v2 G) (s232 false (Ex.of E) v0 v1 v2 G) := by
  unfold s232
  exact Ref.go
theorem f232 {orc : FuncId → Bool} {e : Ex} (h : ExLe Q e (E orc)) (v0 v1 v2 : Value) (G : GS) : Ref (s232 true e v0 v1 v2 G) ((E orc).cl 232 [v0, v1, v2] G) :=
  fun r hr => cl_sxE_some Q orc (vs := [v0, v1, v2]) G Tryz.func232 (by kernel_rfl) (by kernel_rfl) (by kernel_rfl) (by kernel_rfl) (by kernel_rfl) (by kernel_rfl) (m232 h v0 v1 v2 G r hr)
noncomputable def b246_0 (q : Bool) (e : Ex) (lp : Env → GS → Option (Exit × Env × GS)) (τ : Env) (G : GS) : Option (Exit × Env × GS) :=
  bV q (τ 1) fun a1_ =>
  bV q (τ 2) fun a2_ =>
  bV q (τ 13) fun a13_ =>
  bP (bn Q q .lss 3 (.tmp 13) (.const (.int .i64 3)) a13_ (.int .i64 3)) fun x0 =>
  ifV x0 (
  bP (lda Q q 29 10 a2_ G) fun x1 =>
  bS (e.ev.cl 321 [a13_, x1] G) fun x2 G3 =>
  bP (fd Q q 23 0 0 x2) fun x4 =>
  bS (e.ev.cl 45 [a1_, x4, (.int .u64 0)] G3) fun x5 G6 =>
  bP (bn Q q .add 3 (.tmp 13) (.const (.int .i64 1)) a13_ (.int .i64 1)) fun x7 =>
  lp (tu τ [(1, a1_), (2, a2_), (13, x7), (4, a13_), (14, x0), (15, a13_), (16, a1_), (17, a13_), (18, x1), (19, x2), (20, x4), (21, x5), (22, x7)]) G6) (
  some ((.exit 0), clq q 23 (tu τ [(1, a1_), (2, a2_), (13, a13_), (14, x0)]), G))
theorem mb246_0 {e : Ex} {E : Ev} (h : ExLe Q e E) {lp lp' : Env → GS → Option (Exit × Env × GS)} (hlp : LpLe lp lp') (τ : Env) (G : GS) : Ref (b246_0 true e lp τ G) (b246_0 false (Ex.of E) lp' τ G) := by
  unfold b246_0
  exact Ref.go
theorem l246_0 {orc : FuncId → Bool} {e : Ex} (h : ExLe Q e (E orc)) (lp : Env → GS → Option (Exit × Env × GS)) (hlp : ∀ τ G, Ref (lp τ G) (mapE ((E orc).lp (subAt [1, 1, 1, 1, 0, 0] (bodyOf Tryz.f246)) (lst 23 τ) G))) (T : List Value) (G : GS) (hT : T.length = 23) : Ref (b246_0 true e lp (nth undef T) G) (mapE ((E orc).lp (subAt [1, 1, 1, 1, 0, 0] (bodyOf Tryz.f246)) T G)) :=
  fun r hr => lp_sxM Q orc G hT (by kernel_rfl) (mb246_0 h ⟨hlp⟩ _ _ r hr)
/-- coxswain/limbo.Fill -/
noncomputable def s246 (q : Bool) (e : Ex) (v0 v1 : Value) (G : GS) : Option (Value × GS) :=
  bS (bx q v0 G) fun x0 G1 =>
  bP (fa Q q 29 0 0 x0) fun x2 =>
  bP (lda Q q 25 6 x2 G1) fun x3 =>
  bS (e.ev.cl 171 [x3, v1] G1) fun x4 G5 =>
  bP (fa Q q 29 1 6 x0) fun x6 =>
  bP (lda Q q 27 3 x6 G5) fun x7 =>
  bS (e.ev.cl 320 [x7, v1] G5) fun x8 G9 =>
  bL q e 246 0 (subAt [1, 1, 1, 1, 0, 0] (bodyOf Tryz.f246)) 23 (tu (nth undef [v0, v1]) [(2, x0), (5, x2), (6, x3), (7, v1), (8, x4), (9, x6), (10, x7), (11, v1), (12, x8), (13, (.int .i64 0))]) G9 fun e10 t11 G12 =>
  ifE e10 (.exit 0) (
  some (.tuple #[], G12)) (none)
theorem m246 {e : Ex} {E : Ev} (h : ExLe Q e E) (v0 v1 : Value) (G : GS) : Ref (s246 true e v0 v1 G) (s246 false (Ex.of E) v0 v1 G) := by
  unfold s246
  exact Ref.go
theorem f246 {orc : FuncId → Bool} {e : Ex} (h : ExLe Q e (E orc)) (v0 v1 : Value) (G : GS) : Ref (s246 true e v0 v1 G) ((E orc).cl 246 [v0, v1] G) :=
  fun r hr => cl_sxE_some Q orc (vs := [v0, v1]) G Tryz.func246 (by kernel_rfl) (by kernel_rfl) (by kernel_rfl) (by kernel_rfl) (by kernel_rfl) (by kernel_rfl) (m246 h v0 v1 G r hr)
/-- (*coxswain/cells.place).is -/
noncomputable def s248 (q : Bool) (e : Ex) (v0 : Value) (G : GS) : Option (Value × GS) :=
  bP (ep Q q true 243 (.tmp 3) (.const (.pointer none)) v0 (.pointer none)) fun x0 =>
  some (x0, G)
theorem m248 {e : Ex} {E : Ev} (h : ExLe Q e E) (v0 : Value) (G : GS) : Ref (s248 true e v0 G) (s248 false (Ex.of E) v0 G) := by
  unfold s248
  exact Ref.go
theorem f248 {orc : FuncId → Bool} {e : Ex} (h : ExLe Q e (E orc)) (v0 : Value) (G : GS) : Ref (s248 true e v0 G) ((E orc).cl 248 [v0] G) :=
  fun r hr => cl_sxE_some Q orc (vs := [v0]) G Tryz.func248 (by kernel_rfl) (by kernel_rfl) (by kernel_rfl) (by kernel_rfl) (by kernel_rfl) (by kernel_rfl) (m248 h v0 G r hr)
/-- coxswain/stack.sized -/
noncomputable def s254 (q : Bool) (e : Ex) (v0 : Value) (G : GS) : Option (Value × GS) :=
  bS (bx q v0 G) fun x0 G1 =>
  bP (fa Q q 23 2 2 x0) fun x2 =>
  bP (ld Q q 3 x2 G1) fun x3 =>
  bP (bn Q q .geq 3 (.tmp 4) (.const (.int .i64 1)) x3 (.int .i64 1)) fun x4 =>
  bS (gd x4 true (bP (fa Q q 23 2 2 x0) fun y => some (y, G1)) G1) fun x5 G6 =>
  bS (gd x4 true (bP (ld Q q 3 x5 G6) fun y => some (y, G6)) G6) fun x7 G8 =>
  bS (gd x4 true (bP (bn Q q .leq 3 (.tmp 8) (.const (.int .i64 4096)) x7 (.int .i64 4096)) fun y => some (y, G8)) G8) fun x9 G10 =>
  bP (pickV x4 x9 (.bool false)) fun x11 =>
  some (x11, G10)
theorem m254 {e : Ex} {E : Ev} (h : ExLe Q e E) (v0 : Value) (G : GS) : Ref (s254 true e v0 G) (s254 false (Ex.of E) v0 G) := by
  unfold s254
  exact Ref.go
theorem f254 {orc : FuncId → Bool} {e : Ex} (h : ExLe Q e (E orc)) (v0 : Value) (G : GS) : Ref (s254 true e v0 G) ((E orc).cl 254 [v0] G) :=
  fun r hr => cl_sxE_some Q orc (vs := [v0]) G Tryz.func254 (by kernel_rfl) (by kernel_rfl) (by kernel_rfl) (by kernel_rfl) (by kernel_rfl) (by kernel_rfl) (m254 h v0 G r hr)
/-- coxswain/arena.sized -/
noncomputable def s256 (q : Bool) (e : Ex) (v0 : Value) (G : GS) : Option (Value × GS) :=
  bS (bx q v0 G) fun x0 G1 =>
  bP (fa Q q 25 0 0 x0) fun x2 =>
  bP (fa Q q 23 2 2 x2) fun x3 =>
  bP (ld Q q 3 x3 G1) fun x4 =>
  bP (bn Q q .geq 3 (.tmp 5) (.const (.int .i64 1)) x4 (.int .i64 1)) fun x5 =>
  bS (gd x5 true (bP (fa Q q 25 0 0 x0) fun y => some (y, G1)) G1) fun x6 G7 =>
  bS (gd x5 true (bP (fa Q q 23 2 2 x6) fun y => some (y, G7)) G7) fun x8 G9 =>
  bS (gd x5 true (bP (ld Q q 3 x8 G9) fun y => some (y, G9)) G9) fun x10 G11 =>
  bS (gd x5 true (bP (bn Q q .leq 3 (.tmp 10) (.const (.int .i64 4096)) x10 (.int .i64 4096)) fun y => some (y, G11)) G11) fun x12 G13 =>
  bP (pickV x5 x12 (.bool false)) fun x14 =>
  some (x14, G13)
theorem m256 {e : Ex} {E : Ev} (h : ExLe Q e E) (v0 : Value) (G : GS) : Ref (s256 true e v0 G) (s256 false (Ex.of E) v0 G) := by
  unfold s256
  exact Ref.go
theorem f256 {orc : FuncId → Bool} {e : Ex} (h : ExLe Q e (E orc)) (v0 : Value) (G : GS) : Ref (s256 true e v0 G) ((E orc).cl 256 [v0] G) :=
  fun r hr => cl_sxE_some Q orc (vs := [v0]) G Tryz.func256 (by kernel_rfl) (by kernel_rfl) (by kernel_rfl) (by kernel_rfl) (by kernel_rfl) (by kernel_rfl) (m256 h v0 G r hr)
noncomputable def b257_0 (q : Bool) (e : Ex) (lp : Env → GS → Option (Exit × Env × GS)) (τ : Env) (G : GS) : Option (Exit × Env × GS) :=
  bV q (τ 1) fun a1_ =>
  bV q (τ 2) fun a2_ =>
  bV q (τ 15) fun a15_ =>
  bV q (τ 16) fun a16_ =>
  bP (bn Q q .lss 3 (.tmp 16) (.tmp 15) a16_ a15_) fun x0 =>
  ifV x0 (
  bP (bn Q q .add 3 (.tmp 19) (.const (.int .i64 1)) a16_ (.int .i64 1)) fun x1 =>
  bP (fa Q q 23 2 2 a2_) fun x2 =>
  bP (ld Q q 3 x2 G) fun x3 =>
  bP (bn Q q .eql 3 (.tmp 21) (.tmp 23) x1 x3) fun x4 =>
  ifV x4 (
  bP (fa Q q 23 1 1 a2_) fun x5 =>
  bP (ld Q q 3 x5 (G.room 8)) fun x6 =>
  bP (bn Q q .add 3 (.tmp 27) (.tmp 28) x6 a16_) fun x7 =>
  bS (e.ev.cl 334 [(.int .i64 (-1))] (G.room 8)) fun x9 G8 =>
  chk ((sameO (ld Q q 3 x5 G8) x6 && true)) <|
  bS (e.ev.cl 45 [a1_, x7, x9] G8) fun x11 G10 =>
  bP (bn Q q .add 3 (.tmp 16) (.const (.int .i64 1)) a16_ (.int .i64 1)) fun x12 =>
  lp (tu τ [(1, a1_), (2, a2_), (15, a15_), (16, x12), (4, a16_), (5, (.int .i64 (-1))), (17, x0), (18, a16_), (19, a16_), (20, x1), (21, x1), (22, x2), (23, x3), (24, x4), (25, a1_), (26, x5), (27, x6), (28, a16_), (29, x7), (30, (.int .i64 (-1))), (31, x9), (32, x11), (33, x12)]) G10) (
  bP (fa Q q 23 1 1 a2_) fun x13 =>
  bP (ld Q q 3 x13 (G.room 8)) fun x14 =>
  bP (bn Q q .add 3 (.tmp 27) (.tmp 28) x14 a16_) fun x15 =>
  bS (e.ev.cl 334 [x1] (G.room 8)) fun x17 G16 =>
  chk ((sameO (ld Q q 3 x13 G16) x14 && true)) <|
  bS (e.ev.cl 45 [a1_, x15, x17] G16) fun x19 G18 =>
  bP (bn Q q .add 3 (.tmp 16) (.const (.int .i64 1)) a16_ (.int .i64 1)) fun x20 =>
  lp (tu τ [(1, a1_), (2, a2_), (15, a15_), (16, x20), (4, a16_), (5, x1), (17, x0), (18, a16_), (19, a16_), (20, x1), (21, x1), (22, x2), (23, x3), (24, x4), (25, a1_), (26, x13), (27, x14), (28, a16_), (29, x15), (30, x1), (31, x17), (32, x19), (33, x20)]) G18)) (
  some ((.exit 0), clq q 34 (tu τ [(1, a1_), (2, a2_), (15, a15_), (16, a16_), (17, x0)]), G))
theorem mb257_0 {e : Ex} {E : Ev} (h : ExLe Q e E) {lp lp' : Env → GS → Option (Exit × Env × GS)} (hlp : LpLe lp lp') (τ : Env) (G : GS) : Ref (b257_0 true e lp τ G) (b257_0 false (Ex.of E) lp' τ G) := by
  unfold b257_0
  exact Ref.go
theorem l257_0 {orc : FuncId → Bool} {e : Ex} (h : ExLe Q e (E orc)) (lp : Env → GS → Option (Exit × Env × GS)) (hlp : ∀ τ G, Ref (lp τ G) (mapE ((E orc).lp (subAt [1, 1, 1, 1, 0, 0] (bodyOf Tryz.f257)) (lst 34 τ) G))) (T : List Value) (G : GS) (hT : T.length = 34) : Ref (b257_0 true e lp (nth undef T) G) (mapE ((E orc).lp (subAt [1, 1, 1, 1, 0, 0] (bodyOf Tryz.f257)) T G)) :=
  fun r hr => lp_sxM Q orc G hT (by kernel_rfl) (mb257_0 h ⟨hlp⟩ _ _ r hr)
/-- coxswain/stack.Fill -/
noncomputable def s257 (q : Bool) (e : Ex) (v0 v1 : Value) (G : GS) : Option (Value × GS) :=
  bS (bx q v0 G) fun x0 G1 =>
  bP (lda Q q 23 3 x0 G1) fun x2 =>
  bS (e.ev.cl 254 [x2] G1) fun x3 G4 =>
  bP (un Q q .not x3) fun x5 =>
  ifV x5 (
  some (.tuple #[], G4)) (
  bP (fa Q q 23 0 0 x0) fun x6 =>
  bP (ld Q q 3 x6 (G4.room 5)) fun x7 =>
  bS (e.ev.cl 334 [(.int .i64 0)] (G4.room 5)) fun x9 G8 =>
  chk ((sameO (ld Q q 3 x6 G8) x7 && true)) <|
  bS (e.ev.cl 45 [v1, x7, x9] G8) fun x11 G10 =>
  bP (fa Q q 23 2 2 x0) fun x12 =>
  bP (ld Q q 3 x12 G10) fun x13 =>
  bL q e 257 0 (subAt [1, 1, 1, 1, 0, 0] (bodyOf Tryz.f257)) 34 (tu (nth undef [v0, v1]) [(2, x0), (6, x2), (7, x3), (8, x5), (9, v1), (10, x6), (11, x7), (12, x9), (13, x11), (14, x12), (15, x13), (16, (.int .i64 0))]) G10 fun e14 t15 G16 =>
  ifE e14 (.exit 0) (
  some (.tuple #[], G16)) (none))
theorem m257 {e : Ex} {E : Ev} (h : ExLe Q e E) (v0 v1 : Value) (G : GS) : Ref (s257 true e v0 v1 G) (s257 false (Ex.of E) v0 v1 G) := by
  unfold s257
  exact Ref.go
theorem f257 {orc : FuncId → Bool} {e : Ex} (h : ExLe Q e (E orc)) (v0 v1 : Value) (G : GS) : Ref (s257 true e v0 v1 G) ((E orc).cl 257 [v0, v1] G) :=
  fun r hr => cl_sxE_some Q orc (vs := [v0, v1]) G Tryz.func257 (by kernel_rfl) (by kernel_rfl) (by kernel_rfl) (by kernel_rfl) (by kernel_rfl) (by kernel_rfl) (m257 h v0 v1 G r hr)
/-- coxswain/stack.NewPop -/
noncomputable def s258 (q : Bool) (e : Ex) (v0 : Value) (G : GS) : Option (Value × GS) :=
  bS (bx q v0 G) fun x0 G1 =>
  bP (lda Q q 23 3 x0 G1) fun x2 =>
  bP (bd Q q 486 z486 [(0, 0, 3), (4, 6, 1)] [x2, (.bool true)]) fun x3 =>
  bP (bd Q q 489 z489 [(0, 0, 9), (1, 9, 1)] [x3, (.func (.func 335) #[] #[])]) fun x4 =>
  bS (bx q x4 G1) fun x5 G6 =>
  some (x5, G6)
theorem m258 {e : Ex} {E : Ev} (h : ExLe Q e E) (v0 : Value) (G : GS) : Ref (s258 true e v0 G) (s258 false (Ex.of E) v0 G) := by
  unfold s258
  exact Ref.go
theorem f258 {orc : FuncId → Bool} {e : Ex} (h : ExLe Q e (E orc)) (v0 : Value) (G : GS) : Ref (s258 true e v0 G) ((E orc).cl 258 [v0] G) :=
  fun r hr => cl_sxE_some Q orc (vs := [v0]) G Tryz.func258 (by kernel_rfl) (by kernel_rfl) (by kernel_rfl) (by kernel_rfl) (by kernel_rfl) (by kernel_rfl) (m258 h v0 G r hr)
/-- (*coxswain/arena.Alloc).pop -/
noncomputable def s259 (q : Bool) (e : Ex) (v0 v1 : Value) (G : GS) : Option (Value × GS) :=
  bP (pNil v0) fun x0 =>
  bP (fa Q q 375 0 0 x0) fun x1 =>
  bP (ld Q q 371 x1 G) fun x2 =>
  bS (e.ev.cl 336 [x2, v1] G) fun x3 G4 =>
  bP (un Q q .not x3) fun x5 =>
  ifV x5 (
  some (.tuple #[], G4)) (
  bP (pNil v0) fun x6 =>
  bP (fa Q q 375 0 0 x6) fun x7 =>
  bP (ld Q q 371 x7 G4) fun x8 =>
  bS (e.ev.cl 337 [x8] G4) fun x9 G10 =>
  bP (pExtract x9 0) fun x11 =>
  bP (pExtract x9 1) fun x12 =>
  bP (pNil v0) fun x13 =>
  bP (fa Q q 375 4 9 x13) fun x14 =>
  bP (st Q q 3 1 x14 x11 G10) fun G15 =>
  bP (pNil v0) fun x16 =>
  bP (fa Q q 375 3 8 x16) fun x17 =>
  bP (st Q q 373 1 x17 (.func (.func 338) #[] #[]) G15) fun G18 =>
  bP (bn Q q .neq 33 (.tmp 28) (.const (.int .i64 0)) x12 (.int .i64 0)) fun x19 =>
  ifV x19 (
  bP (pNil v0) fun x20 =>
  bP (fa Q q 375 3 8 x20) fun x21 =>
  bP (st Q q 373 1 x21 (.func (.func 339) #[] #[]) G18) fun G22 =>
  some (.tuple #[], G22)) (
  some (.tuple #[], G18)))
theorem m259 {e : Ex} {E : Ev} (h : ExLe Q e E) (v0 v1 : Value) (G : GS) : Ref (s259 true e v0 v1 G) (s259 false (Ex.of E) v0 v1 G) := by
  unfold s259
  exact Ref.go
theorem f259 {orc : FuncId → Bool} {e : Ex} (h : ExLe Q e (E orc)) (v0 v1 : Value) (G : GS) : Ref (s259 true e v0 v1 G) ((E orc).cl 259 [v0, v1] G) :=
  fun r hr => cl_sxE_some Q orc (vs := [v0, v1]) G Tryz.func259 (by kernel_rfl) (by kernel_rfl) (by kernel_rfl) (by kernel_rfl) (by kernel_rfl) (by kernel_rfl) (m259 h v0 v1 G r hr)
/-- (coxswain/cells.deed).load -/
noncomputable def s260 (q : Bool) (e : Ex) (v0 : Value) (G : GS) : Option (Value × GS) :=
  bS (bx q v0 G) fun x0 G1 =>
  bP (fa Q q 246 0 0 x0) fun x2 =>
  bP (ld Q q 243 x2 G1) fun x3 =>
  bP (pNil x3) fun x4 =>
  bP (ld Q q 154 x4 G1) fun x5 =>
  some (.tuple #[x5, (.bool false)], G1)
theorem m260 {e : Ex} {E : Ev} (h : ExLe Q e E) (v0 : Value) (G : GS) : Ref (s260 true e v0 G) (s260 false (Ex.of E) v0 G) := by
  unfold s260
  exact Ref.go
theorem f260 {orc : FuncId → Bool} {e : Ex} (h : ExLe Q e (E orc)) (v0 : Value) (G : GS) : Ref (s260 true e v0 G) ((E orc).cl 260 [v0] G) :=
  fun r hr => cl_sxE_some Q orc (vs := [v0]) G Tryz.func260 (by kernel_rfl) (by kernel_rfl) (by kernel_rfl) (by kernel_rfl) (by kernel_rfl) (by kernel_rfl) (m260 h v0 G r hr)
/-- coxswain/stack.NewPush -/
noncomputable def s268 (q : Bool) (e : Ex) (v0 v1 : Value) (G : GS) : Option (Value × GS) :=
  bS (bx q v0 G) fun x0 G1 =>
  bP (lda Q q 23 3 x0 G1) fun x2 =>
  bP (bd Q q 486 z486 [(0, 0, 3), (2, 4, 1), (4, 6, 1)] [x2, v1, (.bool true)]) fun x3 =>
  bP (bd Q q 498 z498 [(0, 0, 9), (1, 9, 1)] [x3, (.func (.func 344) #[] #[])]) fun x4 =>
  bS (bx q x4 G1) fun x5 G6 =>
  bP (bn Q q .lss 3 (.tmp 11) (.const (.int .i64 0)) v1 (.int .i64 0)) fun x7 =>
  bS (gd x7 false (some (v1, G6)) G6) fun x8 G9 =>
  bS (gd x7 false (bP (fa Q q 23 2 2 x0) fun y => some (y, G9)) G9) fun x10 G11 =>
  bS (gd x7 false (bP (ld Q q 3 x10 G11) fun y => some (y, G11)) G11) fun x12 G13 =>
  bS (gd x7 false (bP (bn Q q .geq 3 (.tmp 14) (.tmp 16) x8 x12) fun y => some (y, G13)) G13) fun x14 G15 =>
  bP (pickV x7 (.bool true) x14) fun x16 =>
  ifV x16 (
  bP (pNil x5) fun x17 =>
  bP (fa Q q 498 0 0 x17) fun x18 =>
  bS (e.ev.cl 345 [x18, (.int .i64 3)] G15) fun x19 G20 =>
  some (x5, G20)) (
  some (x5, G15))
theorem m268 {e : Ex} {E : Ev} (h : ExLe Q e E) (v0 v1 : Value) (G : GS) : Ref (s268 true e v0 v1 G) (s268 false (Ex.of E) v0 v1 G) := by
  unfold s268
  exact Ref.go
theorem f268 {orc : FuncId → Bool} {e : Ex} (h : ExLe Q e (E orc)) (v0 v1 : Value) (G : GS) : Ref (s268 true e v0 v1 G) ((E orc).cl 268 [v0, v1] G) :=
  fun r hr => cl_sxE_some Q orc (vs := [v0, v1]) G Tryz.func268 (by kernel_rfl) (by kernel_rfl) (by kernel_rfl) (by kernel_rfl) (by kernel_rfl) (by kernel_rfl) (m268 h v0 v1 G r hr)
/-- (*coxswain/arena.Free).looks -/
noncomputable def s269 (q : Bool) (e : Ex) (v0 v1 : Value) (G : GS) : Option (Value × GS) :=
  bP (pNil v0) fun x0 =>
  bP (fa Q q 384 1 1 x0) fun x1 =>
  bP (fa Q q 25 1 3 x1) fun x2 =>
  bP (ld Q q 3 x2 (G.room 16)) fun x3 =>
  bP (pNil v0) fun x4 =>
  bP (fa Q q 384 4 9 x4) fun x5 =>
  bP (ld Q q 3 x5 (G.room 16)) fun x6 =>
  bP (bn Q q .add 3 (.tmp 10) (.tmp 14) x3 x6) fun x7 =>
  bS (e.ev.cl 177 [v1, x7] (G.room 16)) fun x9 G8 =>
  bP (pNil v0) fun x10 =>
  bP (fa Q q 384 5 10 x10) fun x11 =>
  bP (st Q q 41 1 x11 x9 G8) fun G12 =>
  bP (pNil v0) fun x13 =>
  bP (fa Q q 384 3 8 x13) fun x14 =>
  bP (st Q q 382 1 x14 (.func (.func 346) #[] #[]) G12) fun G15 =>
  bP (pNil v0) fun x16 =>
  bP (fa Q q 384 5 10 x16) fun x17 =>
  bP (ld Q q 41 x17 (G15.room 11)) fun x18 =>
  bS (e.ev.cl 347 [x18] (G15.room 11)) fun x20 G19 =>
  bP (pNil v0) fun x21 =>
  bP (fa Q q 384 1 1 x21) fun x22 =>
  bP (fa Q q 25 3 5 x22) fun x23 =>
  bP (ld Q q 3 x23 G19) fun x24 =>
  chk ((sameO (ld Q q 3 x23 (G15.room 11)) x24 && true)) <|
  bP (bn Q q .geq 3 (.tmp 26) (.tmp 31) x20 x24) fun x25 =>
  ifV x25 (
  bP (pNil v0) fun x26 =>
  bP (fa Q q 384 3 8 x26) fun x27 =>
  bP (st Q q 382 1 x27 (.func (.func 348) #[] #[]) G19) fun G28 =>
  some (.tuple #[], G28)) (
  some (.tuple #[], G19))
theorem m269 {e : Ex} {E : Ev} (h : ExLe Q e E) (v0 v1 : Value) (G : GS) : Ref (s269 true e v0 v1 G) (s269 false (Ex.of E) v0 v1 G) := by
  unfold s269
  exact Ref.go
theorem f269 {orc : FuncId → Bool} {e : Ex} (h : ExLe Q e (E orc)) (v0 v1 : Value) (G : GS) : Ref (s269 true e v0 v1 G) ((E orc).cl 269 [v0, v1] G) :=
  fun r hr => cl_sxE_some Q orc (vs := [v0, v1]) G Tryz.func269 (by kernel_rfl) (by kernel_rfl) (by kernel_rfl) (by kernel_rfl) (by kernel_rfl) (by kernel_rfl) (m269 h v0 v1 G r hr)
/-- coxswain/word.tops -/
noncomputable def s271 (q : Bool) (e : Ex) (G : GS) : Option (Value × GS) :=
  bS (al Q q 393 z393 G) fun x0 G1 =>
  bP (bd Q q 392 z392 [(0, 0, 1), (1, 1, 1)] [(.int .i64 0), (.int .i64 16)]) fun x2 =>
  bP (bd Q q 392 z392 [(0, 0, 1), (1, 1, 1)] [(.int .i64 16), (.int .i64 48)]) fun x3 =>
  bP (bd Q q 393 z393 [(0, 0, 2), (1, 2, 2)] [x2, x3]) fun x4 =>
  bP (st Q q 393 4 x0 x4 G1) fun G5 =>
  bP (lda Q q 393 4 x0 G5) fun x6 =>
  some (x6, G5)
theorem m271 {e : Ex} {E : Ev} (h : ExLe Q e E) (G : GS) : Ref (s271 true e  G) (s271 false (Ex.of E)  G) := by
  unfold s271
  exact Ref.go
theorem f271 {orc : FuncId → Bool} {e : Ex} (h : ExLe Q e (E orc)) (ho : orc 271 = false) (G : GS) : Ref (s271 true e  G) ((E orc).cl 271 [] G) :=
  fun r hr => cl_sxE_some Q orc (vs := []) G Tryz.func271 (by kernel_rfl) (by kernel_rfl) ho (by kernel_rfl) (by kernel_rfl) (by kernel_rfl) (m271 h  G r hr)
/-- (coxswain/word.raw).take -/
noncomputable def s272 (q : Bool) (e : Ex) (v0 v1 : Value) (G : GS) : Option (Value × GS) :=
  bS (bx q v1 G) fun x0 G1 =>
  bP (fa Q q 392 0 0 x0) fun x2 =>
  bP (ld Q q 3 x2 (G1.room 11)) fun x3 =>
  bP (bn Q q .shr 41 (.tmp 5) (.tmp 7) v0 x3) fun x4 =>
  bP (fa Q q 392 1 1 x0) fun x5 =>
  bP (ld Q q 3 x5 (G1.room 11)) fun x6 =>
  bP (bn Q q .shl 41 (.const (.int .u64 1)) (.tmp 10) (.int .u64 1) x6) fun x7 =>
  bP (bn Q q .sub 41 (.tmp 11) (.const (.int .u64 1)) x7 (.int .u64 1)) fun x8 =>
  bP (bn Q q .and 41 (.tmp 8) (.tmp 12) x4 x8) fun x9 =>
  bP (cv Q q 41 3 .u64 .i64 x9) fun x10 =>
  some (x10, (G1.room 11))
theorem m272 {e : Ex} {E : Ev} (h : ExLe Q e E) (v0 v1 : Value) (G : GS) : Ref (s272 true e v0 v1 G) (s272 false (Ex.of E) v0 v1 G) := by
  unfold s272
  exact Ref.go
theorem f272 {orc : FuncId → Bool} {e : Ex} (h : ExLe Q e (E orc)) (v0 v1 : Value) (G : GS) : Ref (s272 true e v0 v1 G) ((E orc).cl 272 [v0, v1] G) :=
  fun r hr => cl_sxE_some Q orc (vs := [v0, v1]) G Tryz.func272 (by kernel_rfl) (by kernel_rfl) (by kernel_rfl) (by kernel_rfl) (by kernel_rfl) (by kernel_rfl) (m272 h v0 v1 G r hr)
/-- (coxswain/tower.rows[coxswain/tower.node]).at -/
noncomputable def s273 (q : Bool) (e : Ex) (v0 v1 v2 : Value) (G : GS) : Option (Value × GS) :=
  bS (bx q v0 G) fun x0 G1 =>
  bP (bn Q q .lss 3 (.tmp 7) (.const (.int .i64 0)) v1 (.int .i64 0)) fun x2 =>
  bS (gd x2 false (some (v1, G1)) G1) fun x3 G4 =>
  bS (gd x2 false (bP (fa Q q 187 1 1 x0) fun y => some (y, G4)) G4) fun x5 G6 =>
  bS (gd x2 false (bP (ld Q q 3 x5 G6) fun y => some (y, G6)) G6) fun x7 G8 =>
  bS (gd x2 false (bP (bn Q q .geq 3 (.tmp 10) (.tmp 12) x3 x7) fun y => some (y, G8)) G8) fun x9 G10 =>
  bP (pickV x2 (.bool true) x9) fun x11 =>
  bS (gd x11 false (some (v2, G10)) G10) fun x12 G13 =>
  bS (gd x11 false (bP (bn Q q .lss 3 (.tmp 16) (.const (.int .i64 0)) x12 (.int .i64 0)) fun y => some (y, G13)) G13) fun x14 G15 =>
  bP (pickV x11 (.bool true) x14) fun x16 =>
  bS (gd x16 false (some (v2, G15)) G15) fun x17 G18 =>
  bS (gd x16 false (bP (fa Q q 187 2 2 x0) fun y => some (y, G18)) G18) fun x19 G20 =>
  bS (gd x16 false (bP (ld Q q 185 x19 G20) fun y => some (y, G20)) G20) fun x21 G22 =>
  bS (gd x16 false (bP (ifc Q q 185 x21) fun y => some (y, G22)) G22) fun x23 G24 =>
  bS (gd x16 false (bS (cInvoke Q e.ev x23 "coxswain/tower.cells" [] G24) fun y G => some (y, G)) G24) fun x25 G26 =>
  bS (gd x16 false (bP (bn Q q .geq 3 (.tmp 20) (.tmp 24) x17 x25) fun y => some (y, G26)) G26) fun x27 G28 =>
  bP (pickV x16 (.bool true) x27) fun x29 =>
  ifV x29 (
  some ((.int .i64 (-1)), G28)) (
  bP (fa Q q 187 0 0 x0) fun x30 =>
  bP (ld Q q 3 x30 (G28.room 12)) fun x31 =>
  bP (fa Q q 187 2 2 x0) fun x32 =>
  bP (ld Q q 185 x32 (G28.room 12)) fun x33 =>
  bP (ifc Q q 185 x33) fun x34 =>
  bS (cInvoke Q e.ev x34 "coxswain/tower.cells" [] (G28.room 12)) fun x36 G35 =>
  chk ((sameO (ld Q q 3 x30 G35) x31 && true)) <|
  bP (bn Q q .mul 3 (.tmp 29) (.tmp 33) v1 x36) fun x37 =>
  bP (bn Q q .add 3 (.tmp 28) (.tmp 34) x31 x37) fun x38 =>
  bP (bn Q q .add 3 (.tmp 35) (.tmp 36) x38 v2) fun x39 =>
  some (x39, G35))
theorem m273 {e : Ex} {E : Ev} (h : ExLe Q e E) (v0 v1 v2 : Value) (G : GS) : Ref (s273 true e v0 v1 v2 G) (s273 false (Ex.of E) v0 v1 v2 G) := by
  unfold s273
  exact Ref.go
theorem f273 {orc : FuncId → Bool} {e : Ex} (h : ExLe Q e (E orc)) (v0 v1 v2 : Value) (G : GS) : Ref (s273 true e v0 v1 v2 G) ((E orc).cl 273 [v0, v1, v2] G) :=
  fun r hr => cl_sxE_some Q orc (vs := [v0, v1, v2]) G Tryz.func273 (by kernel_rfl) (by kernel_rfl) (by kernel_rfl) (by kernel_rfl) (by kernel_rfl) (by kernel_rfl) (m273 h v0 v1 v2 G r hr)
/-- (coxswain/tower.rows[coxswain/tower.head]).at -/
noncomputable def s274 (q : Bool) (e : Ex) (v0 v1 v2 : Value) (G : GS) : Option (Value × GS) :=
  bS (bx q v0 G) fun x0 G1 =>
  bP (bn Q q .lss 3 (.tmp 7) (.const (.int .i64 0)) v1 (.int .i64 0)) fun x2 =>
  bS (gd x2 false (some (v1, G1)) G1) fun x3 G4 =>
  bS (gd x2 false (bP (fa Q q 192 1 1 x0) fun y => some (y, G4)) G4) fun x5 G6 =>
  bS (gd x2 false (bP (ld Q q 3 x5 G6) fun y => some (y, G6)) G6) fun x7 G8 =>
  bS (gd x2 false (bP (bn Q q .geq 3 (.tmp 10) (.tmp 12) x3 x7) fun y => some (y, G8)) G8) fun x9 G10 =>
  bP (pickV x2 (.bool true) x9) fun x11 =>
  bS (gd x11 false (some (v2, G10)) G10) fun x12 G13 =>
  bS (gd x11 false (bP (bn Q q .lss 3 (.tmp 16) (.const (.int .i64 0)) x12 (.int .i64 0)) fun y => some (y, G13)) G13) fun x14 G15 =>
  bP (pickV x11 (.bool true) x14) fun x16 =>
  bS (gd x16 false (some (v2, G15)) G15) fun x17 G18 =>
  bS (gd x16 false (bP (fa Q q 192 2 2 x0) fun y => some (y, G18)) G18) fun x19 G20 =>
  bS (gd x16 false (bP (ld Q q 190 x19 G20) fun y => some (y, G20)) G20) fun x21 G22 =>
  bS (gd x16 false (bP (ifc Q q 190 x21) fun y => some (y, G22)) G22) fun x23 G24 =>
  bS (gd x16 false (bS (cInvoke Q e.ev x23 "coxswain/tower.cells" [] G24) fun y G => some (y, G)) G24) fun x25 G26 =>
  bS (gd x16 false (bP (bn Q q .geq 3 (.tmp 20) (.tmp 24) x17 x25) fun y => some (y, G26)) G26) fun x27 G28 =>
  bP (pickV x16 (.bool true) x27) fun x29 =>
  ifV x29 (
  some ((.int .i64 (-1)), G28)) (
  bP (fa Q q 192 0 0 x0) fun x30 =>
  bP (ld Q q 3 x30 (G28.room 12)) fun x31 =>
  bP (fa Q q 192 2 2 x0) fun x32 =>
  bP (ld Q q 190 x32 (G28.room 12)) fun x33 =>
  bP (ifc Q q 190 x33) fun x34 =>
  bS (cInvoke Q e.ev x34 "coxswain/tower.cells" [] (G28.room 12)) fun x36 G35 =>
  chk ((sameO (ld Q q 3 x30 G35) x31 && true)) <|
  bP (bn Q q .mul 3 (.tmp 29) (.tmp 33) v1 x36) fun x37 =>
  bP (bn Q q .add 3 (.tmp 28) (.tmp 34) x31 x37) fun x38 =>
  bP (bn Q q .add 3 (.tmp 35) (.tmp 36) x38 v2) fun x39 =>
  some (x39, G35))
theorem m274 {e : Ex} {E : Ev} (h : ExLe Q e E) (v0 v1 v2 : Value) (G : GS) : Ref (s274 true e v0 v1 v2 G) (s274 false (Ex.of E) v0 v1 v2 G) := by
  unfold s274
  exact Ref.go
theorem f274 {orc : FuncId → Bool} {e : Ex} (h : ExLe Q e (E orc)) (v0 v1 v2 : Value) (G : GS) : Ref (s274 true e v0 v1 v2 G) ((E orc).cl 274 [v0, v1, v2] G) :=
  fun r hr => cl_sxE_some Q orc (vs := [v0, v1, v2]) G Tryz.func274 (by kernel_rfl) (by kernel_rfl) (by kernel_rfl) (by kernel_rfl) (by kernel_rfl) (by kernel_rfl) (m274 h v0 v1 v2 G r hr)
/-- (*coxswain/find.Find).begin -/
noncomputable def s275 (q : Bool) (e : Ex) (v0 v1 : Value) (G : GS) : Option (Value × GS) :=
  bS (bx q v0 G) fun x0 G1 =>
  bS (bx q v1 G1) fun x2 G3 =>
  bP (ld Q q 37 x0 (G3.room 10)) fun x4 =>
  bP (pNil x4) fun x5 =>
  bP (fa Q q 283 0 0 x5) fun x6 =>
  bP (fa Q q 31 2 2 x6) fun x7 =>
  bP (ld Q q 3 x7 (G3.room 10)) fun x8 =>
  bP (ld Q q 37 x0 (G3.room 10)) fun x9 =>
  bP (pNil x9) fun x10 =>
  bP (fa Q q 283 5 20 x10) fun x11 =>
  bP (ld Q q 281 x11 (G3.room 10)) fun x12 =>
  bS (e.ev.cl 349 [x8, x12] (G3.room 10)) fun x14 G13 =>
  bX (xRange e.ev x14 #[16, 17] (subAt [1, 0, 1, 0, 0] (bodyOf Tryz.f275)) (subAt [1, 0, 1, 0, 1] (bodyOf Tryz.f275)) (lst 31 (tu (nth undef [v0, v1]) [(2, x0), (3, x2), (6, x4), (7, x5), (8, x6), (9, x7), (10, x8), (11, x9), (12, x10), (13, x11), (14, x12), (15, x14)])) G13) fun e15 T16 G17 =>
  bV q (nth undef T16 2) fun T16x2_ =>
  ifE e15 .normal (
  bP (ld Q q 37 T16x2_ G17) fun x18 =>
  bP (pNil x18) fun x19 =>
  bP (fa Q q 283 2 14 x19) fun x20 =>
  bP (st Q q 3 1 x20 (.int .i64 9) G17) fun G21 =>
  some (.tuple #[], G21)) (ifE e15 .ret (
  some (.tuple #[], G17)) (none))
theorem m275 {e : Ex} {E : Ev} (h : ExLe Q e E) (v0 v1 : Value) (G : GS) : Ref (s275 true e v0 v1 G) (s275 false (Ex.of E) v0 v1 G) := by
  unfold s275
  exact Ref.go
theorem f275 {orc : FuncId → Bool} {e : Ex} (h : ExLe Q e (E orc)) (v0 v1 : Value) (G : GS) : Ref (s275 true e v0 v1 G) ((E orc).cl 275 [v0, v1] G) :=
  fun r hr => cl_sxE_some Q orc (vs := [v0, v1]) G Tryz.func275 (by kernel_rfl) (by kernel_rfl) (by kernel_rfl) (by kernel_rfl) (by kernel_rfl) (by kernel_rfl) (m275 h v0 v1 G r hr)
/-- (*coxswain/find.Find).index -/
noncomputable def s276 (q : Bool) (e : Ex) (v0 v1 : Value) (G : GS) : Option (Value × GS) :=
  bS (e.ev.cl 189 [v1] G) fun x0 G1 =>
  bP (pExtract x0 0) fun x2 =>
  bP (pExtract x0 1) fun x3 =>
  bS (al Q q 274 z274 G1) fun x4 G5 =>
  bP (st Q q 274 2 x4 x2 G5) fun G6 =>
  bP (fa Q q 274 0 0 x4) fun x7 =>
  bP (ld Q q 3 x7 (G6.room 11)) fun x8 =>
  bP (pNil v0) fun x9 =>
  bP (fa Q q 283 0 0 x9) fun x10 =>
  bP (fa Q q 31 3 3 x10) fun x11 =>
  bP (fa Q q 29 0 0 x11) fun x12 =>
  bP (fa Q q 25 0 0 x12) fun x13 =>
  bP (fa Q q 23 2 2 x13) fun x14 =>
  bP (ld Q q 3 x14 (G6.room 11)) fun x15 =>
  bP (bn Q q .geq 3 (.tmp 13) (.tmp 21) x8 x15) fun x16 =>
  ifV x16 (
  some ((.int .i64 (-1)), (G6.room 11))) (
  bP (fa Q q 274 0 0 x4) fun x17 =>
  bP (ld Q q 3 x17 (G6.room 11)) fun x18 =>
  some (x18, (G6.room 11)))
theorem m276 {e : Ex} {E : Ev} (h : ExLe Q e E) (v0 v1 : Value) (G : GS) : Ref (s276 true e v0 v1 G) (s276 false (Ex.of E) v0 v1 G) := by
  unfold s276
  exact Ref.go
theorem f276 {orc : FuncId → Bool} {e : Ex} (h : ExLe Q e (E orc)) (v0 v1 : Value) (G : GS) : Ref (s276 true e v0 v1 G) ((E orc).cl 276 [v0, v1] G) :=
  fun r hr => cl_sxE_some Q orc (vs := [v0, v1]) G Tryz.func276 (by kernel_rfl) (by kernel_rfl) (by kernel_rfl) (by kernel_rfl) (by kernel_rfl) (by kernel_rfl) (m276 h v0 v1 G r hr)
/-- (*coxswain/find.Find).done -/
noncomputable def s277 (q : Bool) (e : Ex) (v0 : Value) (G : GS) : Option (Value × GS) :=
  bP (pNil v0) fun x0 =>
  bP (fa Q q 283 5 20 x0) fun x1 =>
  bP (ld Q q 281 x1 (G.room 15)) fun x2 =>
  bP (pNil v0) fun x3 =>
  bP (fa Q q 283 3 15 x3) fun x4 =>
  bP (fa Q q 280 0 0 x4) fun x5 =>
  bP (ld Q q 3 x5 (G.room 15)) fun x6 =>
  bP (pNil v0) fun x7 =>
  bP (fa Q q 283 3 15 x7) fun x8 =>
  bP (lda Q q 280 4 x8 (G.room 15)) fun x9 =>
  bP (ias Q q 281 4 x2 x6) fun x10 =>
  bP (st Q q 280 4 x10 x9 (G.room 15)) fun G11 =>
  bP (pNil v0) fun x12 =>
  bP (fa Q q 283 3 15 x12) fun x13 =>
  bP (fa Q q 280 0 0 x13) fun x14 =>
  bP (ld Q q 3 x14 G11) fun x15 =>
  bP (bn Q q .sub 3 (.tmp 21) (.const (.int .i64 1)) x15 (.int .i64 1)) fun x16 =>
  bS (e.ev.cl 275 [v0, x16] G11) fun x17 G18 =>
  some (.tuple #[], G18)
theorem m277 {e : Ex} {E : Ev} (h : ExLe Q e E) (v0 : Value) (G : GS) : Ref (s277 true e v0 G) (s277 false (Ex.of E) v0 G) := by
  unfold s277
  exact Ref.go
theorem f277 {orc : FuncId → Bool} {e : Ex} (h : ExLe Q e (E orc)) (v0 : Value) (G : GS) : Ref (s277 true e v0 G) ((E orc).cl 277 [v0] G) :=
  fun r hr => cl_sxE_some Q orc (vs := [v0]) G Tryz.func277 (by kernel_rfl) (by kernel_rfl) (by kernel_rfl) (by kernel_rfl) (by kernel_rfl) (by kernel_rfl) (m277 h v0 G r hr)
/-- (*coxswain/find.Find).looks -/
noncomputable def s278 (q : Bool) (e : Ex) (v0 : Value) (G : GS) : Option (Value × GS) :=
  bP (pNil v0) fun x0 =>
  bP (fa Q q 283 2 14 x0) fun x1 =>
  bP (st Q q 3 1 x1 (.int .i64 2) G) fun G2 =>
  bP (pNil v0) fun x3 =>
  bP (fa Q q 283 3 15 x3) fun x4 =>
  bP (fa Q q 280 3 3 x4) fun x5 =>
  bP (ld Q q 41 x5 G2) fun x6 =>
  bS (e.ev.cl 276 [v0, x6] G2) fun x7 G8 =>
  bP (bn Q q .lss 3 (.tmp 11) (.const (.int .i64 0)) x7 (.int .i64 0)) fun x9 =>
  ifV x9 (
  bS (e.ev.cl 277 [v0] G8) fun x10 G11 =>
  some (.tuple #[], G11)) (
  some (.tuple #[], G8))
theorem m278 {e : Ex} {E : Ev} (h : ExLe Q e E) (v0 : Value) (G : GS) : Ref (s278 true e v0 G) (s278 false (Ex.of E) v0 G) := by
  unfold s278
  exact Ref.go
theorem f278 {orc : FuncId → Bool} {e : Ex} (h : ExLe Q e (E orc)) (v0 : Value) (G : GS) : Ref (s278 true e v0 G) ((E orc).cl 278 [v0] G) :=
  fun r hr => cl_sxE_some Q orc (vs := [v0]) G Tryz.func278 (by kernel_rfl) (by kernel_rfl) (by kernel_rfl) (by kernel_rfl) (by kernel_rfl) (by kernel_rfl) (m278 h v0 G r hr)
end Go.Proofs.YtdohlgkmaeipjaaGreat.LiftK
