/- the program's code, spelled out by a program of ours (lift2.lean) -/
import Derived.Test.YtdohlgkmaeipjaaGreatProg
import Derived.Test.YtdohlgkmaeipjaaGreatGhKO
import Derived.KernelRfl
namespace Go.Proofs.YtdohlgkmaeipjaaGreat.LiftK
open Go Go.Proofs.YtdohlgkmaeipjaaGreat.Gh Go.Proofs
set_option linter.unusedVariables false
set_option maxRecDepth 100000
@[reducible] noncomputable def Q : Program := Tryz.prog
@[reducible] noncomputable def E (orc : FuncId → Bool) : Ev := evL Tryz.prog orc
instance ilp26_0 : LpIs Q 26 0 (subAt [1, 1, 1, 0, 1, 0, 0] (bodyOf Tryz.f26)) 39 := ⟨by kernel_rfl, by kernel_rfl⟩
instance ilp53_0 : LpIs Q 53 0 (subAt [1, 1, 1, 0, 1, 0, 0] (bodyOf Tryz.f53)) 42 := ⟨by kernel_rfl, by kernel_rfl⟩
instance ilp96_0 : LpIs Q 96 0 (subAt [1, 0, 1, 0, 0] (bodyOf Tryz.f96)) 20 := ⟨by kernel_rfl, by kernel_rfl⟩
instance ilp156_0 : LpIs Q 156 0 (subAt [1, 1, 1, 1, 0, 0] (bodyOf Tryz.f156)) 24 := ⟨by kernel_rfl, by kernel_rfl⟩
instance ilp171_0 : LpIs Q 171 0 (subAt [1, 1, 1, 1, 1, 0, 0] (bodyOf Tryz.f171)) 29 := ⟨by kernel_rfl, by kernel_rfl⟩
instance ilp196_0 : LpIs Q 196 0 (subAt [1, 0, 1, 1, 1, 1, 1, 0, 0, 0] (bodyOf Tryz.f196)) 195 := ⟨by kernel_rfl, by kernel_rfl⟩
instance ilp205_0 : LpIs Q 205 0 (subAt [0, 1, 0, 0] (bodyOf Tryz.f205)) 74 := ⟨by kernel_rfl, by kernel_rfl⟩
instance ilp205_1 : LpIs Q 205 1 (subAt [1, 0, 1, 0, 0] (bodyOf Tryz.f205)) 74 := ⟨by kernel_rfl, by kernel_rfl⟩
instance ilp205_2 : LpIs Q 205 2 (subAt [1, 1, 1, 0, 0] (bodyOf Tryz.f205)) 74 := ⟨by kernel_rfl, by kernel_rfl⟩
instance ilp205_3 : LpIs Q 205 3 (subAt [1, 1, 1, 0, 0, 1, 1, 0, 0, 1, 1, 1, 1, 0, 0] (bodyOf Tryz.f205)) 74 := ⟨by kernel_rfl, by kernel_rfl⟩
instance ilp206_0 : LpIs Q 206 0 (subAt [1, 0, 1, 0, 0] (bodyOf Tryz.f206)) 26 := ⟨by kernel_rfl, by kernel_rfl⟩
instance ilp207_0 : LpIs Q 207 0 (subAt [1, 1, 0, 1, 0, 0] (bodyOf Tryz.f207)) 36 := ⟨by kernel_rfl, by kernel_rfl⟩
instance ilp209_0 : LpIs Q 209 0 (subAt [1, 0, 1, 0, 0] (bodyOf Tryz.f209)) 27 := ⟨by kernel_rfl, by kernel_rfl⟩
instance ilp210_0 : LpIs Q 210 0 (subAt [1, 0, 1, 0, 0] (bodyOf Tryz.f210)) 40 := ⟨by kernel_rfl, by kernel_rfl⟩
instance ilp212_0 : LpIs Q 212 0 (subAt [1, 1, 0, 1, 0, 0] (bodyOf Tryz.f212)) 29 := ⟨by kernel_rfl, by kernel_rfl⟩
instance ilp246_0 : LpIs Q 246 0 (subAt [1, 1, 1, 1, 0, 0] (bodyOf Tryz.f246)) 23 := ⟨by kernel_rfl, by kernel_rfl⟩
instance ilp257_0 : LpIs Q 257 0 (subAt [1, 1, 1, 1, 0, 0] (bodyOf Tryz.f257)) 34 := ⟨by kernel_rfl, by kernel_rfl⟩
instance ilp295_0 : LpIs Q 295 0 (subAt [1, 0, 1, 1, 1, 1, 1, 0, 0] (bodyOf Tryz.f295)) 91 := ⟨by kernel_rfl, by kernel_rfl⟩
instance ilp351_0 : LpIs Q 351 0 (subAt [1, 1, 0, 0] (bodyOf Tryz.f351)) 40 := ⟨by kernel_rfl, by kernel_rfl⟩
instance ilp355_0 : LpIs Q 355 0 (subAt [1, 1, 0, 0] (bodyOf Tryz.f355)) 35 := ⟨by kernel_rfl, by kernel_rfl⟩
instance ilp357_0 : LpIs Q 357 0 (subAt [1, 0, 1, 0, 0] (bodyOf Tryz.f357)) 24 := ⟨by kernel_rfl, by kernel_rfl⟩
instance ilp358_0 : LpIs Q 358 0 (subAt [1, 1, 0, 1, 0, 0] (bodyOf Tryz.f358)) 24 := ⟨by kernel_rfl, by kernel_rfl⟩
instance ilp359_0 : LpIs Q 359 0 (subAt [1, 0, 0] (bodyOf Tryz.f359)) 18 := ⟨by kernel_rfl, by kernel_rfl⟩
instance ilp397_0 : LpIs Q 397 0 (subAt [1, 1, 0, 0] (bodyOf Tryz.f397)) 25 := ⟨by kernel_rfl, by kernel_rfl⟩
instance ilp539_0 : LpIs Q 539 0 (subAt [1, 1, 0, 1, 0, 0] (bodyOf Tryz.f539)) 36 := ⟨by kernel_rfl, by kernel_rfl⟩
instance ilp545_0 : LpIs Q 545 0 (subAt [1, 0, 1, 1, 0, 1, 0, 0] (bodyOf Tryz.f545)) 66 := ⟨by kernel_rfl, by kernel_rfl⟩
instance ilp557_0 : LpIs Q 557 0 (subAt [1, 1, 0, 1, 0, 0] (bodyOf Tryz.f557)) 20 := ⟨by kernel_rfl, by kernel_rfl⟩
instance ilp563_0 : LpIs Q 563 0 (subAt [1, 1, 0, 1, 0, 0] (bodyOf Tryz.f563)) 20 := ⟨by kernel_rfl, by kernel_rfl⟩
instance ilp564_0 : LpIs Q 564 0 (subAt [1, 1, 0, 1, 0, 0] (bodyOf Tryz.f564)) 20 := ⟨by kernel_rfl, by kernel_rfl⟩
noncomputable abbrev z156 : List Value := (zs 4096 (.int .u64 0))
instance ial156 : AlOk Q 156 z156 := ⟨fun G => by kernel_rfl⟩
noncomputable abbrev z158 : List Value := [(.pointer none), (.int .i64 0), (.int .i64 0), (.int .i64 0), (.int .u64 0), (.int .u64 0), (.bool false), (.int .i64 0)]
instance ibd158_0_1 : BdOk Q 158 z158 [(0, 0, 1), (1, 1, 1)] := bd_ok Q (by kernel_rfl) (by kernel_rfl) (by kernel_rfl)
instance ilda31 : LdAOk Q 31 13 := ⟨fun b o s G => by kernel_rfl⟩
instance ifa68_1 : FaOk Q 68 1 1 := ⟨fun b o s => by kernel_rfl⟩
instance ild3 : LdOk Q 3 := ⟨fun b o s G => (show _ = loadOne b o G by kernel_rfl).trans (loadOne_eq b o G)⟩
noncomputable abbrev z3 : List Value := [(.int .i64 0)]
instance ial3 : AlOk Q 3 z3 := ⟨fun G => by kernel_rfl⟩
instance ifa31_3 : FaOk Q 31 3 3 := ⟨fun b o s => by kernel_rfl⟩
instance ifa29_0 : FaOk Q 29 0 0 := ⟨fun b o s => by kernel_rfl⟩
instance ifa25_0 : FaOk Q 25 0 0 := ⟨fun b o s => by kernel_rfl⟩
instance ifa23_2 : FaOk Q 23 2 2 := ⟨fun b o s => by kernel_rfl⟩
instance ist3 : StOk Q 3 1 := ⟨fun b o s v G => by kernel_rfl⟩
noncomputable abbrev z72 : List Value := [(.int .i64 0), (.int .i64 0), (.int .i64 0), (.int .i64 0), (.int .i64 0)]
instance ial72 : AlOk Q 72 z72 := ⟨fun G => by kernel_rfl⟩
instance ibd72_ : BdOk Q 72 z72 [] := bd_ok Q (by kernel_rfl) (by kernel_rfl) (by kernel_rfl)
instance ist72 : StOk Q 72 5 := ⟨fun b o s v G => by kernel_rfl⟩
noncomputable abbrev z174 : List Value := [(.int .i64 0), (.int .i64 0), (.int .i64 0), (.int .i64 0), (.int .i64 0), (.int .i64 0), (.int .i64 0), (.int .i64 0), (.int .i64 0), (.int .i64 0), (.int .i64 0), (.int .i64 0), (.int .i64 0), (.pointer none), (.slice none 0 0)]
instance ial174 : AlOk Q 174 z174 := ⟨fun G => by kernel_rfl⟩
instance ist174 : StOk Q 174 15 := ⟨fun b o s v G => by kernel_rfl⟩
instance ilda174 : LdAOk Q 174 15 := ⟨fun b o s G => by kernel_rfl⟩
instance ifa25_2 : FaOk Q 25 2 4 := ⟨fun b o s => by kernel_rfl⟩
instance icv3_41 : CvOk Q 3 41 .i64 .u64 := ⟨fun n => by kernel_rfl⟩
instance icv41_3 : CvOk Q 41 3 .u64 .i64 := ⟨fun n => by kernel_rfl⟩
instance ibd72_3 : BdOk Q 72 z72 [(3, 3, 1)] := bd_ok Q (by kernel_rfl) (by kernel_rfl) (by kernel_rfl)
instance ifa72_0 : FaOk Q 72 0 0 := ⟨fun b o s => by kernel_rfl⟩
instance ifa72_1 : FaOk Q 72 1 1 := ⟨fun b o s => by kernel_rfl⟩
instance ifa72_2 : FaOk Q 72 2 2 := ⟨fun b o s => by kernel_rfl⟩
instance ifa72_3 : FaOk Q 72 3 3 := ⟨fun b o s => by kernel_rfl⟩
instance ifa72_4 : FaOk Q 72 4 4 := ⟨fun b o s => by kernel_rfl⟩
instance ilda72 : LdAOk Q 72 5 := ⟨fun b o s G => by kernel_rfl⟩
noncomputable abbrev z181 : List Value := [.nilFunc]
instance ibs182_6_0_1_2_3_4_5 : BsOk Q 182 6 (rep z181 6) 1 [(0, 0, 1), (1, 1, 1), (2, 2, 1), (3, 3, 1), (4, 4, 1), (5, 5, 1)] := bs_ok Q (z0 := z181) (by kernel_rfl) rfl (by decide) (by kernel_rfl)
instance iln182 : LnOk Q 182 := ⟨fun a n c => by kernel_rfl⟩
instance iias182 : IasOk Q 182 1 := ⟨fun b o s n c k j => by kernel_rfl⟩
instance ild181 : LdOk Q 181 := ⟨fun b o s G => (show _ = loadOne b o G by kernel_rfl).trans (loadOne_eq b o G)⟩
instance iep32 : EpOk Q 32 := ⟨fun neg x y => by cases neg <;> kernel_rfl, fun neg x y a => by cases neg <;> kernel_rfl, fun neg x y a => by cases neg <;> kernel_rfl⟩
instance ibd72_0_1 : BdOk Q 72 z72 [(0, 0, 1), (1, 1, 1)] := bd_ok Q (by kernel_rfl) (by kernel_rfl) (by kernel_rfl)
noncomputable abbrev z246 : List Value := [(.pointer none), (.int .u64 0), (.int .u64 0)]
instance ibd246_0_1 : BdOk Q 246 z246 [(0, 0, 1), (1, 1, 1)] := bd_ok Q (by kernel_rfl) (by kernel_rfl) (by kernel_rfl)
instance ial246 : AlOk Q 246 z246 := ⟨fun G => by kernel_rfl⟩
instance ist246 : StOk Q 246 3 := ⟨fun b o s v G => by kernel_rfl⟩
instance ifa246_0 : FaOk Q 246 0 0 := ⟨fun b o s => by kernel_rfl⟩
instance ild243 : LdOk Q 243 := ⟨fun b o s G => (show _ = loadOne b o G by kernel_rfl).trans (loadOne_eq b o G)⟩
instance ilda246 : LdAOk Q 246 3 := ⟨fun b o s G => by kernel_rfl⟩
instance ifa158_0 : FaOk Q 158 0 0 := ⟨fun b o s => by kernel_rfl⟩
instance ild153 : LdOk Q 153 := ⟨fun b o s G => (show _ = loadOne b o G by kernel_rfl).trans (loadOne_eq b o G)⟩
instance iep153 : EpOk Q 153 := ⟨fun neg x y => by cases neg <;> kernel_rfl, fun neg x y a => by cases neg <;> kernel_rfl, fun neg x y a => by cases neg <;> kernel_rfl⟩
instance ifa158_1 : FaOk Q 158 1 1 := ⟨fun b o s => by kernel_rfl⟩
noncomputable abbrev z41 : List Value := [(.int .u64 0)]
instance imk111 : MkSlOk Q 111 1 8 z41 := ⟨fun k k' l c G => by kernel_rfl⟩
instance isla156 : SlAOk Q 156 4096 1 := ⟨fun a lo hi mx G => by kernel_rfl⟩
instance iln253 : LnOk Q 253 := ⟨fun a n c => by kernel_rfl⟩
instance iias253 : IasOk Q 253 1 := ⟨fun b o s n c k j => by kernel_rfl⟩
instance ild154 : LdOk Q 154 := ⟨fun b o s G => (show _ = loadOne b o G by kernel_rfl).trans (loadOne_eq b o G)⟩
instance iias111 : IasOk Q 111 1 := ⟨fun b o s n c k j => by kernel_rfl⟩
instance ist41 : StOk Q 41 1 := ⟨fun b o s v G => by kernel_rfl⟩
instance ibd246_0_1_2 : BdOk Q 246 z246 [(0, 0, 1), (1, 1, 1), (2, 2, 1)] := bd_ok Q (by kernel_rfl) (by kernel_rfl) (by kernel_rfl)
instance ifd68_4 : FdOk Q 68 4 4 := ⟨fun l => by kernel_rfl⟩
noncomputable abbrev z283 : List Value := [(.int .i64 0), (.int .i64 0), (.int .i64 0), (.int .i64 0), (.int .i64 0), (.int .i64 0), (.int .i64 0), (.int .i64 0), (.int .i64 0), (.int .i64 0), (.int .i64 0), (.int .i64 0), (.int .i64 0), (.int .u64 0), (.int .i64 0), (.int .i64 0), (.int .i64 0), (.int .u64 0), (.int .u64 0), (.int .u64 0), (.slice none 0 0), (.int .u64 0), (.bool false), (.int .i64 0)]
instance ibd283_0_1_7 : BdOk Q 283 z283 [(0, 0, 13), (1, 13, 1), (7, 22, 1)] := bd_ok Q (by kernel_rfl) (by kernel_rfl) (by kernel_rfl)
instance ifa283_2 : FaOk Q 283 2 14 := ⟨fun b o s => by kernel_rfl⟩
instance ifa283_8 : FaOk Q 283 8 23 := ⟨fun b o s => by kernel_rfl⟩
instance ist33 : StOk Q 33 1 := ⟨fun b o s v G => by kernel_rfl⟩
instance ifa31_2 : FaOk Q 31 2 2 := ⟨fun b o s => by kernel_rfl⟩
noncomputable abbrev z280 : List Value := [(.int .i64 0), (.int .i64 0), (.int .u64 0), (.int .u64 0)]
instance imk281 : MkSlOk Q 281 4 32 z280 := ⟨fun k k' l c G => by kernel_rfl⟩
instance ifa283_5 : FaOk Q 283 5 20 := ⟨fun b o s => by kernel_rfl⟩
instance ist281 : StOk Q 281 1 := ⟨fun b o s v G => by kernel_rfl⟩
instance ibd174_0_1_2 : BdOk Q 174 z174 [(0, 0, 13), (1, 13, 1), (2, 14, 1)] := bd_ok Q (by kernel_rfl) (by kernel_rfl) (by kernel_rfl)
noncomputable abbrev z289 : List Value := [(.int .i64 0), (.int .i64 0), (.bool false)]
instance ial289 : AlOk Q 289 z289 := ⟨fun G => by kernel_rfl⟩
instance ist289 : StOk Q 289 3 := ⟨fun b o s v G => by kernel_rfl⟩
instance ifa289_2 : FaOk Q 289 2 2 := ⟨fun b o s => by kernel_rfl⟩
instance ild4 : LdOk Q 4 := ⟨fun b o s G => (show _ = loadOne b o G by kernel_rfl).trans (loadOne_eq b o G)⟩
instance ifa289_0 : FaOk Q 289 0 0 := ⟨fun b o s => by kernel_rfl⟩
instance ifa289_1 : FaOk Q 289 1 1 := ⟨fun b o s => by kernel_rfl⟩
instance ifa174_0 : FaOk Q 174 0 0 := ⟨fun b o s => by kernel_rfl⟩
instance ifa25_1 : FaOk Q 25 1 3 := ⟨fun b o s => by kernel_rfl⟩
instance ifa174_2 : FaOk Q 174 2 14 := ⟨fun b o s => by kernel_rfl⟩
instance ild111 : LdOk Q 111 := ⟨fun b o s G => (show _ = loadOne b o G by kernel_rfl).trans (loadOne_eq b o G)⟩
instance iln111 : LnOk Q 111 := ⟨fun a n c => by kernel_rfl⟩
instance ild41 : LdOk Q 41 := ⟨fun b o s G => (show _ = loadOne b o G by kernel_rfl).trans (loadOne_eq b o G)⟩
noncomputable abbrev z180 : List Value := [.nilFunc]
instance ial180 : AlOk Q 180 z180 := ⟨fun G => by kernel_rfl⟩
instance ist180 : StOk Q 180 1 := ⟨fun b o s v G => by kernel_rfl⟩
instance ifa174_1 : FaOk Q 174 1 13 := ⟨fun b o s => by kernel_rfl⟩
instance ild32 : LdOk Q 32 := ⟨fun b o s G => (show _ = loadOne b o G by kernel_rfl).trans (loadOne_eq b o G)⟩
noncomputable abbrev z78 : List Value := [(.slice none 0 0)]
instance ial78 : AlOk Q 78 z78 := ⟨fun G => by kernel_rfl⟩
instance ist78 : StOk Q 78 1 := ⟨fun b o s v G => by kernel_rfl⟩
noncomputable abbrev z33 : List Value := [(.int .i64 0)]
instance ial33 : AlOk Q 33 z33 := ⟨fun G => by kernel_rfl⟩
noncomputable abbrev z4 : List Value := [(.bool false)]
instance imk256 : MkSlOk Q 256 1 1 z4 := ⟨fun k k' l c G => by kernel_rfl⟩
noncomputable abbrev z256 : List Value := [(.slice none 0 0)]
instance ial256 : AlOk Q 256 z256 := ⟨fun G => by kernel_rfl⟩
instance ist256 : StOk Q 256 1 := ⟨fun b o s v G => by kernel_rfl⟩
instance ild256 : LdOk Q 256 := ⟨fun b o s G => (show _ = loadOne b o G by kernel_rfl).trans (loadOne_eq b o G)⟩
instance iias256 : IasOk Q 256 1 := ⟨fun b o s n c k j => by kernel_rfl⟩
instance ist4 : StOk Q 4 1 := ⟨fun b o s v G => by kernel_rfl⟩
instance ild33 : LdOk Q 33 := ⟨fun b o s G => (show _ = loadOne b o G by kernel_rfl).trans (loadOne_eq b o G)⟩
instance ifa29_1 : FaOk Q 29 1 6 := ⟨fun b o s => by kernel_rfl⟩
instance ilda27 : LdAOk Q 27 3 := ⟨fun b o s G => by kernel_rfl⟩
instance iln78 : LnOk Q 78 := ⟨fun a n c => by kernel_rfl⟩
instance iias78 : IasOk Q 78 1 := ⟨fun b o s n c k j => by kernel_rfl⟩
instance ifd72_4 : FdOk Q 72 4 4 := ⟨fun l => by kernel_rfl⟩
noncomputable abbrev z31 : List Value := [(.int .i64 0), (.int .i64 0), (.int .i64 0), (.int .i64 0), (.int .i64 0), (.int .i64 0), (.int .i64 0), (.int .i64 0), (.int .i64 0), (.int .i64 0), (.int .i64 0), (.int .i64 0), (.int .i64 0)]
instance ial31 : AlOk Q 31 z31 := ⟨fun G => by kernel_rfl⟩
noncomputable abbrev z23 : List Value := [(.int .i64 0), (.int .i64 0), (.int .i64 0)]
instance ibd23_0_1_2 : BdOk Q 23 z23 [(0, 0, 1), (1, 1, 1), (2, 2, 1)] := bd_ok Q (by kernel_rfl) (by kernel_rfl) (by kernel_rfl)
noncomputable abbrev z25 : List Value := [(.int .i64 0), (.int .i64 0), (.int .i64 0), (.int .i64 0), (.int .i64 0), (.int .i64 0)]
instance ibd25_0_1_2_3 : BdOk Q 25 z25 [(0, 0, 3), (1, 3, 1), (2, 4, 1), (3, 5, 1)] := bd_ok Q (by kernel_rfl) (by kernel_rfl) (by kernel_rfl)
instance ial25 : AlOk Q 25 z25 := ⟨fun G => by kernel_rfl⟩
instance ist25 : StOk Q 25 6 := ⟨fun b o s v G => by kernel_rfl⟩
instance ilda25 : LdAOk Q 25 6 := ⟨fun b o s G => by kernel_rfl⟩
noncomputable abbrev z27 : List Value := [(.int .i64 0), (.int .i64 0), (.int .i64 0)]
instance ibd27_0_1_2 : BdOk Q 27 z27 [(0, 0, 1), (1, 1, 1), (2, 2, 1)] := bd_ok Q (by kernel_rfl) (by kernel_rfl) (by kernel_rfl)
noncomputable abbrev z29 : List Value := [(.int .i64 0), (.int .i64 0), (.int .i64 0), (.int .i64 0), (.int .i64 0), (.int .i64 0), (.int .i64 0), (.int .i64 0), (.int .i64 0), (.int .i64 0)]
instance ibd29_0_1_2 : BdOk Q 29 z29 [(0, 0, 6), (1, 6, 3), (2, 9, 1)] := bd_ok Q (by kernel_rfl) (by kernel_rfl) (by kernel_rfl)
instance ial29 : AlOk Q 29 z29 := ⟨fun G => by kernel_rfl⟩
instance ist29 : StOk Q 29 10 := ⟨fun b o s v G => by kernel_rfl⟩
instance ilda29 : LdAOk Q 29 10 := ⟨fun b o s G => by kernel_rfl⟩
instance ibd31_0_1_2_3 : BdOk Q 31 z31 [(0, 0, 1), (1, 1, 1), (2, 2, 1), (3, 3, 10)] := bd_ok Q (by kernel_rfl) (by kernel_rfl) (by kernel_rfl)
instance ist31 : StOk Q 31 13 := ⟨fun b o s v G => by kernel_rfl⟩
noncomputable abbrev z68 : List Value := [(.int .i64 0), (.int .i64 0), (.int .u64 0), (.int .u64 0), (.bool false)]
instance ibd68_0_1 : BdOk Q 68 z68 [(0, 0, 1), (1, 1, 1)] := bd_ok Q (by kernel_rfl) (by kernel_rfl) (by kernel_rfl)
instance ifa31_0 : FaOk Q 31 0 0 := ⟨fun b o s => by kernel_rfl⟩
instance ifa31_1 : FaOk Q 31 1 1 := ⟨fun b o s => by kernel_rfl⟩
noncomputable abbrev z187 : List Value := [(.int .i64 0), (.int .i64 0), (.int .i64 0)]
instance ial187 : AlOk Q 187 z187 := ⟨fun G => by kernel_rfl⟩
instance ibd187_0_1_2 : BdOk Q 187 z187 [(0, 0, 1), (1, 1, 1), (2, 2, 1)] := bd_ok Q (by kernel_rfl) (by kernel_rfl) (by kernel_rfl)
instance ist187 : StOk Q 187 3 := ⟨fun b o s v G => by kernel_rfl⟩
instance ilda187 : LdAOk Q 187 3 := ⟨fun b o s G => by kernel_rfl⟩
instance ifa187_0 : FaOk Q 187 0 0 := ⟨fun b o s => by kernel_rfl⟩
instance ifa187_1 : FaOk Q 187 1 1 := ⟨fun b o s => by kernel_rfl⟩
instance ifa187_2 : FaOk Q 187 2 2 := ⟨fun b o s => by kernel_rfl⟩
instance ild185 : LdOk Q 185 := ⟨fun b o s G => (show _ = loadOne b o G by kernel_rfl).trans (loadOne_eq b o G)⟩
instance iifc185 : IfcOk Q 185 := ⟨fun v => by kernel_rfl⟩
noncomputable abbrev z192 : List Value := [(.int .i64 0), (.int .i64 0), (.int .i64 0)]
instance ial192 : AlOk Q 192 z192 := ⟨fun G => by kernel_rfl⟩
instance ibd192_0_1_2 : BdOk Q 192 z192 [(0, 0, 1), (1, 1, 1), (2, 2, 1)] := bd_ok Q (by kernel_rfl) (by kernel_rfl) (by kernel_rfl)
instance ist192 : StOk Q 192 3 := ⟨fun b o s v G => by kernel_rfl⟩
instance ilda192 : LdAOk Q 192 3 := ⟨fun b o s G => by kernel_rfl⟩
instance ifa192_0 : FaOk Q 192 0 0 := ⟨fun b o s => by kernel_rfl⟩
instance ifa192_1 : FaOk Q 192 1 1 := ⟨fun b o s => by kernel_rfl⟩
instance ifa192_2 : FaOk Q 192 2 2 := ⟨fun b o s => by kernel_rfl⟩
instance ild190 : LdOk Q 190 := ⟨fun b o s G => (show _ = loadOne b o G by kernel_rfl).trans (loadOne_eq b o G)⟩
instance iifc190 : IfcOk Q 190 := ⟨fun v => by kernel_rfl⟩
noncomputable abbrev z303 : List Value := [(.int .i64 0), (.int .i64 0), (.int .i64 0), (.int .i64 0), (.int .i64 0), (.int .i64 0), (.int .i64 0), (.int .i64 0), (.int .i64 0), (.int .i64 0), (.int .i64 0), (.int .i64 0), (.int .i64 0), (.int .i64 0), (.bool false), (.int .i64 0), (.slice none 0 0), (.int .u64 0), (.int .i64 0), (.int .u64 0), (.int .i64 0), (.int .i64 0), (.int .i64 0), (.int .u64 0)]
instance ibd303_0_1_2_3 : BdOk Q 303 z303 [(0, 0, 19), (1, 19, 1), (2, 20, 1), (3, 21, 1)] := bd_ok Q (by kernel_rfl) (by kernel_rfl) (by kernel_rfl)
instance ifa303_0 : FaOk Q 303 0 0 := ⟨fun b o s => by kernel_rfl⟩
instance ifa300_6 : FaOk Q 300 6 18 := ⟨fun b o s => by kernel_rfl⟩
noncomputable abbrev z305 : List Value := [.nilIface]
instance ibs298_2_0_1 : BsOk Q 298 2 (rep z305 2) 1 [(0, 0, 1), (1, 1, 1)] := bs_ok Q (z0 := z305) (by kernel_rfl) rfl (by decide) (by kernel_rfl)
instance ifa300_4 : FaOk Q 300 4 16 := ⟨fun b o s => by kernel_rfl⟩
instance ist298 : StOk Q 298 1 := ⟨fun b o s v G => by kernel_rfl⟩
instance iep80 : EpOk Q 80 := ⟨fun neg x y => by cases neg <;> kernel_rfl, fun neg x y a => by cases neg <;> kernel_rfl, fun neg x y a => by cases neg <;> kernel_rfl⟩
instance iiaa156 : IaaOk Q 156 4096 1 := ⟨fun b o s k j => by kernel_rfl⟩
instance ial68 : AlOk Q 68 z68 := ⟨fun G => by kernel_rfl⟩
instance ibd68_ : BdOk Q 68 z68 [] := bd_ok Q (by kernel_rfl) (by kernel_rfl) (by kernel_rfl)
instance ist68 : StOk Q 68 5 := ⟨fun b o s v G => by kernel_rfl⟩
instance ifa158_3 : FaOk Q 158 3 7 := ⟨fun b o s => by kernel_rfl⟩
instance ifa158_2 : FaOk Q 158 2 2 := ⟨fun b o s => by kernel_rfl⟩
instance ifa68_2 : FaOk Q 68 2 2 := ⟨fun b o s => by kernel_rfl⟩
instance ifa68_3 : FaOk Q 68 3 3 := ⟨fun b o s => by kernel_rfl⟩
instance ifa68_4 : FaOk Q 68 4 4 := ⟨fun b o s => by kernel_rfl⟩
instance ist154 : StOk Q 154 1 := ⟨fun b o s v G => by kernel_rfl⟩
instance ilda68 : LdAOk Q 68 5 := ⟨fun b o s G => by kernel_rfl⟩
instance ifa246_1 : FaOk Q 246 1 1 := ⟨fun b o s => by kernel_rfl⟩
instance ilda23 : LdAOk Q 23 3 := ⟨fun b o s G => by kernel_rfl⟩
noncomputable abbrev z375 : List Value := [(.pointer none), (.int .i64 0), (.int .i64 0), (.int .i64 0), (.int .i64 0), (.int .i64 0), (.int .i64 0), (.bool false), .nilFunc, (.int .i64 0), (.int .u64 0), (.int .i64 0)]
instance ibd375_0_1_2_3 : BdOk Q 375 z375 [(0, 0, 1), (1, 1, 6), (2, 7, 1), (3, 8, 1)] := bd_ok Q (by kernel_rfl) (by kernel_rfl) (by kernel_rfl)
instance iep145 : EpOk Q 145 := ⟨fun neg x y => by cases neg <;> kernel_rfl, fun neg x y a => by cases neg <;> kernel_rfl, fun neg x y a => by cases neg <;> kernel_rfl⟩
instance ifa375_2 : FaOk Q 375 2 7 := ⟨fun b o s => by kernel_rfl⟩
instance ifa375_3 : FaOk Q 375 3 8 := ⟨fun b o s => by kernel_rfl⟩
instance ild373 : LdOk Q 373 := ⟨fun b o s G => (show _ = loadOne b o G by kernel_rfl).trans (loadOne_eq b o G)⟩
instance ief373 : EfOk Q 373 := ⟨fun neg x y => by cases neg <;> kernel_rfl, fun neg x y f a b => by cases neg <;> kernel_rfl⟩
instance ifa375_5 : FaOk Q 375 5 10 := ⟨fun b o s => by kernel_rfl⟩
instance ifa375_6 : FaOk Q 375 6 11 := ⟨fun b o s => by kernel_rfl⟩
instance ibd246_0 : BdOk Q 246 z246 [(0, 0, 1)] := bd_ok Q (by kernel_rfl) (by kernel_rfl) (by kernel_rfl)
instance ifd68_3 : FdOk Q 68 3 3 := ⟨fun l => by kernel_rfl⟩
noncomputable abbrev z274 : List Value := [(.int .i64 0), (.int .i64 0)]
instance ial274 : AlOk Q 274 z274 := ⟨fun G => by kernel_rfl⟩
noncomputable abbrev z393 : List Value := [(.int .i64 0), (.int .i64 0), (.int .i64 0), (.int .i64 0)]
instance ial393 : AlOk Q 393 z393 := ⟨fun G => by kernel_rfl⟩
instance ist393 : StOk Q 393 4 := ⟨fun b o s v G => by kernel_rfl⟩
instance iiaa393 : IaaOk Q 393 2 2 := ⟨fun b o s k j => by kernel_rfl⟩
instance ilda392 : LdAOk Q 392 2 := ⟨fun b o s G => by kernel_rfl⟩
instance ibd274_0_1 : BdOk Q 274 z274 [(0, 0, 1), (1, 1, 1)] := bd_ok Q (by kernel_rfl) (by kernel_rfl) (by kernel_rfl)
instance ist274 : StOk Q 274 2 := ⟨fun b o s v G => by kernel_rfl⟩
instance ilda274 : LdAOk Q 274 2 := ⟨fun b o s G => by kernel_rfl⟩
instance ifa246_2 : FaOk Q 246 2 2 := ⟨fun b o s => by kernel_rfl⟩
instance ifa283_0 : FaOk Q 283 0 0 := ⟨fun b o s => by kernel_rfl⟩
instance iep37 : EpOk Q 37 := ⟨fun neg x y => by cases neg <;> kernel_rfl, fun neg x y a => by cases neg <;> kernel_rfl, fun neg x y a => by cases neg <;> kernel_rfl⟩
instance ifa283_7 : FaOk Q 283 7 22 := ⟨fun b o s => by kernel_rfl⟩
instance ifa283_3 : FaOk Q 283 3 15 := ⟨fun b o s => by kernel_rfl⟩
instance ifa280_1 : FaOk Q 280 1 1 := ⟨fun b o s => by kernel_rfl⟩
instance ifa280_0 : FaOk Q 280 0 0 := ⟨fun b o s => by kernel_rfl⟩
instance ifa280_3 : FaOk Q 280 3 3 := ⟨fun b o s => by kernel_rfl⟩
instance ifa280_2 : FaOk Q 280 2 2 := ⟨fun b o s => by kernel_rfl⟩
instance ifa283_6 : FaOk Q 283 6 21 := ⟨fun b o s => by kernel_rfl⟩
instance ifa283_4 : FaOk Q 283 4 19 := ⟨fun b o s => by kernel_rfl⟩
instance ifa283_1 : FaOk Q 283 1 13 := ⟨fun b o s => by kernel_rfl⟩
instance ild78 : LdOk Q 78 := ⟨fun b o s G => (show _ = loadOne b o G by kernel_rfl).trans (loadOne_eq b o G)⟩
instance ibs78_1_0 : BsOk Q 78 1 (rep z3 1) 1 [(0, 0, 1)] := bs_ok Q (z0 := z3) (by kernel_rfl) rfl (by decide) (by kernel_rfl)
instance iap78_78 : ApOk Q 78 78 1 8 := ⟨fun s x G => by kernel_rfl⟩
instance ibd289_0_1_2 : BdOk Q 289 z289 [(0, 0, 1), (1, 1, 1), (2, 2, 1)] := bd_ok Q (by kernel_rfl) (by kernel_rfl) (by kernel_rfl)
instance ilda289 : LdAOk Q 289 3 := ⟨fun b o s G => by kernel_rfl⟩
instance ibd289_ : BdOk Q 289 z289 [] := bd_ok Q (by kernel_rfl) (by kernel_rfl) (by kernel_rfl)
instance ial23 : AlOk Q 23 z23 := ⟨fun G => by kernel_rfl⟩
instance ist23 : StOk Q 23 3 := ⟨fun b o s v G => by kernel_rfl⟩
instance ifa29_2 : FaOk Q 29 2 9 := ⟨fun b o s => by kernel_rfl⟩
instance ifa23_0 : FaOk Q 23 0 0 := ⟨fun b o s => by kernel_rfl⟩
instance ild180 : LdOk Q 180 := ⟨fun b o s G => (show _ = loadOne b o G by kernel_rfl).trans (loadOne_eq b o G)⟩
instance isl78 : SlOk Q 78 1 := ⟨fun a n c lo hi mx G => sl_eq Q (e := 3) (by kernel_rfl) (by kernel_rfl) a n c lo hi mx G⟩
noncomputable abbrev z111 : List Value := [(.slice none 0 0)]
instance ial111 : AlOk Q 111 z111 := ⟨fun G => by kernel_rfl⟩
instance ist111 : StOk Q 111 1 := ⟨fun b o s v G => by kernel_rfl⟩
instance icv41_415 : CvOk Q 41 415 .u64 .u32 := ⟨fun n => by kernel_rfl⟩
instance icv415_3 : CvOk Q 415 3 .u32 .i64 := ⟨fun n => by kernel_rfl⟩
noncomputable abbrev z300 : List Value := [(.int .i64 0), (.int .i64 0), (.int .i64 0), (.int .i64 0), (.int .i64 0), (.int .i64 0), (.int .i64 0), (.int .i64 0), (.int .i64 0), (.int .i64 0), (.int .i64 0), (.int .i64 0), (.int .i64 0), (.int .i64 0), (.bool false), (.int .i64 0), (.slice none 0 0), (.int .u64 0), (.int .i64 0)]
instance ial300 : AlOk Q 300 z300 := ⟨fun G => by kernel_rfl⟩
instance ibd300_0_1_2 : BdOk Q 300 z300 [(0, 0, 13), (1, 13, 1), (2, 14, 1)] := bd_ok Q (by kernel_rfl) (by kernel_rfl) (by kernel_rfl)
instance ist300 : StOk Q 300 19 := ⟨fun b o s v G => by kernel_rfl⟩
instance ifa27_2 : FaOk Q 27 2 2 := ⟨fun b o s => by kernel_rfl⟩
instance ilda300 : LdAOk Q 300 19 := ⟨fun b o s G => by kernel_rfl⟩
noncomputable abbrev z423 : List Value := [.nilFunc, .nilFunc, .nilFunc, (.pointer none), (.bool false)]
instance ibd423_0_2 : BdOk Q 423 z423 [(0, 0, 1), (2, 2, 1)] := bd_ok Q (by kernel_rfl) (by kernel_rfl) (by kernel_rfl)
instance iifc416 : IfcOk Q 416 := ⟨fun v => by kernel_rfl⟩
instance ild80 : LdOk Q 80 := ⟨fun b o s G => (show _ = loadOne b o G by kernel_rfl).trans (loadOne_eq b o G)⟩
noncomputable abbrev z429 : List Value := [.nilFunc, .nilFunc, .nilFunc, (.pointer none), (.bool false)]
instance ibd429_0_2 : BdOk Q 429 z429 [(0, 0, 1), (2, 2, 1)] := bd_ok Q (by kernel_rfl) (by kernel_rfl) (by kernel_rfl)
instance iifc424 : IfcOk Q 424 := ⟨fun v => by kernel_rfl⟩
noncomputable abbrev z438 : List Value := [.nilFunc, .nilFunc, .nilFunc, (.pointer none), (.bool false)]
instance ibd438_0 : BdOk Q 438 z438 [(0, 0, 1)] := bd_ok Q (by kernel_rfl) (by kernel_rfl) (by kernel_rfl)
instance iifc431 : IfcOk Q 431 := ⟨fun v => by kernel_rfl⟩
noncomputable abbrev z444 : List Value := [.nilFunc, .nilFunc, .nilFunc, (.pointer none), (.bool false)]
instance ibd444_0_2 : BdOk Q 444 z444 [(0, 0, 1), (2, 2, 1)] := bd_ok Q (by kernel_rfl) (by kernel_rfl) (by kernel_rfl)
instance iifc439 : IfcOk Q 439 := ⟨fun v => by kernel_rfl⟩
instance ifa300_2 : FaOk Q 300 2 14 := ⟨fun b o s => by kernel_rfl⟩
instance ild298 : LdOk Q 298 := ⟨fun b o s G => (show _ = loadOne b o G by kernel_rfl).trans (loadOne_eq b o G)⟩
instance iln298 : LnOk Q 298 := ⟨fun a n c => by kernel_rfl⟩
instance ifd23_0 : FdOk Q 23 0 0 := ⟨fun l => by kernel_rfl⟩
instance iep243 : EpOk Q 243 := ⟨fun neg x y => by cases neg <;> kernel_rfl, fun neg x y a => by cases neg <;> kernel_rfl, fun neg x y a => by cases neg <;> kernel_rfl⟩
instance ifa23_1 : FaOk Q 23 1 1 := ⟨fun b o s => by kernel_rfl⟩
noncomputable abbrev z486 : List Value := [(.int .i64 0), (.int .i64 0), (.int .i64 0), (.int .u64 0), (.int .i64 0), (.int .i64 0), (.bool false), (.bool false), (.int .i64 0)]
instance ibd486_0_4 : BdOk Q 486 z486 [(0, 0, 3), (4, 6, 1)] := bd_ok Q (by kernel_rfl) (by kernel_rfl) (by kernel_rfl)
noncomputable abbrev z489 : List Value := [(.int .i64 0), (.int .i64 0), (.int .i64 0), (.int .u64 0), (.int .i64 0), (.int .i64 0), (.bool false), (.bool false), (.int .i64 0), .nilFunc]
instance ibd489_0_1 : BdOk Q 489 z489 [(0, 0, 9), (1, 9, 1)] := bd_ok Q (by kernel_rfl) (by kernel_rfl) (by kernel_rfl)
instance ifa375_0 : FaOk Q 375 0 0 := ⟨fun b o s => by kernel_rfl⟩
instance ild371 : LdOk Q 371 := ⟨fun b o s G => (show _ = loadOne b o G by kernel_rfl).trans (loadOne_eq b o G)⟩
instance ifa375_4 : FaOk Q 375 4 9 := ⟨fun b o s => by kernel_rfl⟩
instance ist373 : StOk Q 373 1 := ⟨fun b o s v G => by kernel_rfl⟩
noncomputable abbrev z392 : List Value := [(.int .i64 0), (.int .i64 0)]
instance ibd392_0_1 : BdOk Q 392 z392 [(0, 0, 1), (1, 1, 1)] := bd_ok Q (by kernel_rfl) (by kernel_rfl) (by kernel_rfl)
instance ibd393_0_1 : BdOk Q 393 z393 [(0, 0, 2), (1, 2, 2)] := bd_ok Q (by kernel_rfl) (by kernel_rfl) (by kernel_rfl)
instance ilda393 : LdAOk Q 393 4 := ⟨fun b o s G => by kernel_rfl⟩
instance ifa392_0 : FaOk Q 392 0 0 := ⟨fun b o s => by kernel_rfl⟩
instance ifa392_1 : FaOk Q 392 1 1 := ⟨fun b o s => by kernel_rfl⟩
instance ild37 : LdOk Q 37 := ⟨fun b o s G => (show _ = loadOne b o G by kernel_rfl).trans (loadOne_eq b o G)⟩
instance ild281 : LdOk Q 281 := ⟨fun b o s G => (show _ = loadOne b o G by kernel_rfl).trans (loadOne_eq b o G)⟩
instance ial280 : AlOk Q 280 z280 := ⟨fun G => by kernel_rfl⟩
instance ist280 : StOk Q 280 4 := ⟨fun b o s v G => by kernel_rfl⟩
instance ilda280 : LdAOk Q 280 4 := ⟨fun b o s G => by kernel_rfl⟩
instance ifa274_0 : FaOk Q 274 0 0 := ⟨fun b o s => by kernel_rfl⟩
instance iias281 : IasOk Q 281 4 := ⟨fun b o s n c k j => by kernel_rfl⟩
noncomputable abbrev z505 : List Value := [(.int .i64 0), (.int .i64 0), (.int .i64 0)]
instance ibd505_0_1_2 : BdOk Q 505 z505 [(0, 0, 1), (1, 1, 1), (2, 2, 1)] := bd_ok Q (by kernel_rfl) (by kernel_rfl) (by kernel_rfl)
instance ibs538_2_0_1 : BsOk Q 538 2 (rep z505 2) 3 [(0, 0, 3), (1, 3, 3)] := bs_ok Q (z0 := z505) (by kernel_rfl) rfl (by decide) (by kernel_rfl)
instance isla393 : SlAOk Q 393 2 2 := ⟨fun a lo hi mx G => by kernel_rfl⟩
instance ibs78_2_0_1 : BsOk Q 78 2 (rep z3 2) 1 [(0, 0, 1), (1, 1, 1)] := bs_ok Q (z0 := z3) (by kernel_rfl) rfl (by decide) (by kernel_rfl)
instance ild334 : LdOk Q 334 := ⟨fun b o s G => (show _ = loadOne b o G by kernel_rfl).trans (loadOne_eq b o G)⟩
instance ifa300_0 : FaOk Q 300 0 0 := ⟨fun b o s => by kernel_rfl⟩
instance ifa300_1 : FaOk Q 300 1 13 := ⟨fun b o s => by kernel_rfl⟩
noncomputable abbrev z510 : List Value := [.nilFunc, .nilFunc, .nilFunc, (.int .i64 0), (.bool false), (.int .i64 0)]
instance ibd510_2 : BdOk Q 510 z510 [(2, 4, 1)] := bd_ok Q (by kernel_rfl) (by kernel_rfl) (by kernel_rfl)
noncomputable abbrev z512 : List Value := [.nilFunc, .nilFunc, .nilFunc, (.int .i64 0), (.bool false), (.int .i64 0), (.int .i64 0), (.int .i64 0), (.int .i64 0), (.int .i64 0), (.int .u32 0)]
instance ibd512_0_1 : BdOk Q 512 z512 [(0, 0, 6), (1, 6, 3)] := bd_ok Q (by kernel_rfl) (by kernel_rfl) (by kernel_rfl)
instance ifa512_0 : FaOk Q 512 0 0 := ⟨fun b o s => by kernel_rfl⟩
instance ifa27_1 : FaOk Q 27 1 1 := ⟨fun b o s => by kernel_rfl⟩
instance ifa512_2 : FaOk Q 512 2 9 := ⟨fun b o s => by kernel_rfl⟩
noncomputable abbrev z508 : List Value := [.nilFunc, .nilFunc, .nilFunc]
instance ibd508_0_1_2 : BdOk Q 508 z508 [(0, 0, 1), (1, 1, 1), (2, 2, 1)] := bd_ok Q (by kernel_rfl) (by kernel_rfl) (by kernel_rfl)
instance ifa510_0 : FaOk Q 510 0 0 := ⟨fun b o s => by kernel_rfl⟩
instance ist508 : StOk Q 508 3 := ⟨fun b o s v G => by kernel_rfl⟩
instance ifa300_3 : FaOk Q 300 3 15 := ⟨fun b o s => by kernel_rfl⟩
instance iep417 : EpOk Q 417 := ⟨fun neg x y => by cases neg <;> kernel_rfl, fun neg x y a => by cases neg <;> kernel_rfl, fun neg x y a => by cases neg <;> kernel_rfl⟩
instance ifa512_3 : FaOk Q 512 3 10 := ⟨fun b o s => by kernel_rfl⟩
instance ild415 : LdOk Q 415 := ⟨fun b o s G => (show _ = loadOne b o G by kernel_rfl).trans (loadOne_eq b o G)⟩
instance ifa303_5 : FaOk Q 303 5 23 := ⟨fun b o s => by kernel_rfl⟩
noncomputable abbrev z306 : List Value := [.nilFunc]
instance ibs514_3_0_1_2 : BsOk Q 514 3 (rep z306 3) 1 [(0, 0, 1), (1, 1, 1), (2, 2, 1)] := bs_ok Q (z0 := z306) (by kernel_rfl) rfl (by decide) (by kernel_rfl)
instance iln514 : LnOk Q 514 := ⟨fun a n c => by kernel_rfl⟩
instance iias514 : IasOk Q 514 1 := ⟨fun b o s n c k j => by kernel_rfl⟩
instance ild306 : LdOk Q 306 := ⟨fun b o s G => (show _ = loadOne b o G by kernel_rfl).trans (loadOne_eq b o G)⟩
instance ifa303_4 : FaOk Q 303 4 22 := ⟨fun b o s => by kernel_rfl⟩
instance ibs514_4_0_1_2_3 : BsOk Q 514 4 (rep z306 4) 1 [(0, 0, 1), (1, 1, 1), (2, 2, 1), (3, 3, 1)] := bs_ok Q (z0 := z306) (by kernel_rfl) rfl (by decide) (by kernel_rfl)
instance ibs298_1_0 : BsOk Q 298 1 (rep z305 1) 1 [(0, 0, 1)] := bs_ok Q (z0 := z305) (by kernel_rfl) rfl (by decide) (by kernel_rfl)
instance iap298_298 : ApOk Q 298 298 1 16 := ⟨fun s x G => by kernel_rfl⟩
noncomputable abbrev z518 : List Value := [.nilFunc, .nilFunc, .nilFunc, (.int .i64 0), (.bool false), (.int .i64 0), (.int .i64 0)]
instance ibd518_0_1 : BdOk Q 518 z518 [(0, 0, 6), (1, 6, 1)] := bd_ok Q (by kernel_rfl) (by kernel_rfl) (by kernel_rfl)
instance ifa518_0 : FaOk Q 518 0 0 := ⟨fun b o s => by kernel_rfl⟩
instance iiaa508 : IaaOk Q 508 3 1 := ⟨fun b o s k j => by kernel_rfl⟩
instance ist159 : StOk Q 159 1 := ⟨fun b o s v G => by kernel_rfl⟩
instance iias298 : IasOk Q 298 1 := ⟨fun b o s n c k j => by kernel_rfl⟩
instance ild305 : LdOk Q 305 := ⟨fun b o s G => (show _ = loadOne b o G by kernel_rfl).trans (loadOne_eq b o G)⟩
instance isl298 : SlOk Q 298 1 := ⟨fun a n c lo hi mx G => sl_eq Q (e := 305) (by kernel_rfl) (by kernel_rfl) a n c lo hi mx G⟩
instance ifa300_5 : FaOk Q 300 5 17 := ⟨fun b o s => by kernel_rfl⟩
instance ifa27_0 : FaOk Q 27 0 0 := ⟨fun b o s => by kernel_rfl⟩
instance ibd274_0 : BdOk Q 274 z274 [(0, 0, 1)] := bd_ok Q (by kernel_rfl) (by kernel_rfl) (by kernel_rfl)
instance ifa489_1 : FaOk Q 489 1 9 := ⟨fun b o s => by kernel_rfl⟩
instance ist487 : StOk Q 487 1 := ⟨fun b o s v G => by kernel_rfl⟩
instance ifa489_0 : FaOk Q 489 0 0 := ⟨fun b o s => by kernel_rfl⟩
instance ifa486_2 : FaOk Q 486 2 4 := ⟨fun b o s => by kernel_rfl⟩
instance iep371 : EpOk Q 371 := ⟨fun neg x y => by cases neg <;> kernel_rfl, fun neg x y a => by cases neg <;> kernel_rfl, fun neg x y a => by cases neg <;> kernel_rfl⟩
instance ild487 : LdOk Q 487 := ⟨fun b o s G => (show _ = loadOne b o G by kernel_rfl).trans (loadOne_eq b o G)⟩
instance ifa486_5 : FaOk Q 486 5 7 := ⟨fun b o s => by kernel_rfl⟩
instance ifa375_1 : FaOk Q 375 1 1 := ⟨fun b o s => by kernel_rfl⟩
instance ibd289_0_1 : BdOk Q 289 z289 [(0, 0, 1), (1, 1, 1)] := bd_ok Q (by kernel_rfl) (by kernel_rfl) (by kernel_rfl)
instance ifa486_6 : FaOk Q 486 6 8 := ⟨fun b o s => by kernel_rfl⟩
instance ild407 : LdOk Q 407 := ⟨fun b o s G => (show _ = loadOne b o G by kernel_rfl).trans (loadOne_eq b o G)⟩
instance iln407 : LnOk Q 407 := ⟨fun a n c => by kernel_rfl⟩
instance iias407 : IasOk Q 407 1 := ⟨fun b o s n c k j => by kernel_rfl⟩
instance iln538 : LnOk Q 538 := ⟨fun a n c => by kernel_rfl⟩
instance iias538 : IasOk Q 538 3 := ⟨fun b o s n c k j => by kernel_rfl⟩
instance ilda505 : LdAOk Q 505 3 := ⟨fun b o s G => by kernel_rfl⟩
instance ial505 : AlOk Q 505 z505 := ⟨fun G => by kernel_rfl⟩
instance ist505 : StOk Q 505 3 := ⟨fun b o s v G => by kernel_rfl⟩
instance ifa505_0 : FaOk Q 505 0 0 := ⟨fun b o s => by kernel_rfl⟩
instance ifa505_1 : FaOk Q 505 1 1 := ⟨fun b o s => by kernel_rfl⟩
instance ifa505_2 : FaOk Q 505 2 2 := ⟨fun b o s => by kernel_rfl⟩
instance iln507 : LnOk Q 507 := ⟨fun a n c => by kernel_rfl⟩
instance iias507 : IasOk Q 507 2 := ⟨fun b o s n c k j => by kernel_rfl⟩
instance ial392 : AlOk Q 392 z392 := ⟨fun G => by kernel_rfl⟩
instance ist392 : StOk Q 392 2 := ⟨fun b o s v G => by kernel_rfl⟩
instance ifa510_1 : FaOk Q 510 1 3 := ⟨fun b o s => by kernel_rfl⟩
instance ifa510_3 : FaOk Q 510 3 5 := ⟨fun b o s => by kernel_rfl⟩
instance ifa512_1 : FaOk Q 512 1 6 := ⟨fun b o s => by kernel_rfl⟩
instance ist415 : StOk Q 415 1 := ⟨fun b o s v G => by kernel_rfl⟩
instance icv415_41 : CvOk Q 415 41 .u32 .u64 := ⟨fun n => by kernel_rfl⟩
instance ifa510_2 : FaOk Q 510 2 4 := ⟨fun b o s => by kernel_rfl⟩
noncomputable abbrev z548 : List Value := [.nilFunc, .nilFunc, .nilFunc, (.pointer none), (.bool false)]
instance ibd548_0_1 : BdOk Q 548 z548 [(0, 0, 1), (1, 1, 1)] := bd_ok Q (by kernel_rfl) (by kernel_rfl) (by kernel_rfl)
instance iifc541 : IfcOk Q 541 := ⟨fun v => by kernel_rfl⟩
noncomputable abbrev z556 : List Value := [.nilFunc, .nilFunc, .nilFunc, (.pointer none), (.bool false)]
instance ibd556_0_1 : BdOk Q 556 z556 [(0, 0, 1), (1, 1, 1)] := bd_ok Q (by kernel_rfl) (by kernel_rfl) (by kernel_rfl)
instance iifc549 : IfcOk Q 549 := ⟨fun v => by kernel_rfl⟩
instance ifa518_1 : FaOk Q 518 1 6 := ⟨fun b o s => by kernel_rfl⟩
instance ifa274_1 : FaOk Q 274 1 1 := ⟨fun b o s => by kernel_rfl⟩
instance ifa486_0 : FaOk Q 486 0 0 := ⟨fun b o s => by kernel_rfl⟩
instance ifa486_3 : FaOk Q 486 3 5 := ⟨fun b o s => by kernel_rfl⟩
instance ifa486_1 : FaOk Q 486 1 3 := ⟨fun b o s => by kernel_rfl⟩
instance iep536 : EpOk Q 536 := ⟨fun neg x y => by cases neg <;> kernel_rfl, fun neg x y a => by cases neg <;> kernel_rfl, fun neg x y a => by cases neg <;> kernel_rfl⟩
instance ifa486_4 : FaOk Q 486 4 6 := ⟨fun b o s => by kernel_rfl⟩
instance ibd280_1 : BdOk Q 280 z280 [(1, 1, 1)] := bd_ok Q (by kernel_rfl) (by kernel_rfl) (by kernel_rfl)
instance ifa303_1 : FaOk Q 303 1 19 := ⟨fun b o s => by kernel_rfl⟩
instance ifa303_2 : FaOk Q 303 2 20 := ⟨fun b o s => by kernel_rfl⟩
instance ifa303_3 : FaOk Q 303 3 21 := ⟨fun b o s => by kernel_rfl⟩
noncomputable abbrev z566 : List Value := [(.bool false), (.int .u64 0), .nilFunc, .nilFunc, .nilFunc, .nilFunc, (.int .i64 0), (.int .i64 0)]
instance ibd566_0_1_4 : BdOk Q 566 z566 [(0, 0, 1), (1, 1, 1), (4, 7, 1)] := bd_ok Q (by kernel_rfl) (by kernel_rfl) (by kernel_rfl)
instance ifa566_4 : FaOk Q 566 4 7 := ⟨fun b o s => by kernel_rfl⟩
instance ifa566_3 : FaOk Q 566 3 6 := ⟨fun b o s => by kernel_rfl⟩
noncomputable abbrev z564 : List Value := [.nilFunc, .nilFunc, .nilFunc, .nilFunc]
instance ibd564_0_1_2_3 : BdOk Q 564 z564 [(0, 0, 1), (1, 1, 1), (2, 2, 1), (3, 3, 1)] := bd_ok Q (by kernel_rfl) (by kernel_rfl) (by kernel_rfl)
instance ifa566_2 : FaOk Q 566 2 2 := ⟨fun b o s => by kernel_rfl⟩
instance ist564 : StOk Q 564 4 := ⟨fun b o s v G => by kernel_rfl⟩
instance iep542 : EpOk Q 542 := ⟨fun neg x y => by cases neg <;> kernel_rfl, fun neg x y a => by cases neg <;> kernel_rfl, fun neg x y a => by cases neg <;> kernel_rfl⟩
instance ifa566_1 : FaOk Q 566 1 1 := ⟨fun b o s => by kernel_rfl⟩
noncomputable abbrev z571 : List Value := [(.int .i64 0), (.int .i64 0), (.int .i64 0), (.int .i64 0), (.int .i64 0), (.int .i64 0), (.int .i64 0), (.int .i64 0), (.int .i64 0), (.int .i64 0), (.int .i64 0), (.int .i64 0), (.int .i64 0), (.bool false), (.bool false), (.int .u64 0), (.int .u64 0), (.int .i64 0), (.int .i64 0), (.int .i64 0), (.int .i64 0), (.int .u64 0), (.pointer none), (.pointer none), (.int .u64 0), (.int .i64 0)]
instance ibd571_0_1_3_4_6_13 : BdOk Q 571 z571 [(0, 0, 13), (1, 13, 1), (3, 15, 1), (4, 16, 1), (6, 18, 1), (13, 25, 1)] := bd_ok Q (by kernel_rfl) (by kernel_rfl) (by kernel_rfl)
instance ifa571_13 : FaOk Q 571 13 25 := ⟨fun b o s => by kernel_rfl⟩
instance ifa571_5 : FaOk Q 571 5 17 := ⟨fun b o s => by kernel_rfl⟩
instance ifa571_7 : FaOk Q 571 7 19 := ⟨fun b o s => by kernel_rfl⟩
instance ist569 : StOk Q 569 1 := ⟨fun b o s v G => by kernel_rfl⟩
instance iep550 : EpOk Q 550 := ⟨fun neg x y => by cases neg <;> kernel_rfl, fun neg x y a => by cases neg <;> kernel_rfl, fun neg x y a => by cases neg <;> kernel_rfl⟩
instance ifa571_12 : FaOk Q 571 12 24 := ⟨fun b o s => by kernel_rfl⟩
instance ifa571_0 : FaOk Q 571 0 0 := ⟨fun b o s => by kernel_rfl⟩
instance ifa571_4 : FaOk Q 571 4 16 := ⟨fun b o s => by kernel_rfl⟩
instance ifa571_10 : FaOk Q 571 10 22 := ⟨fun b o s => by kernel_rfl⟩
instance ist37 : StOk Q 37 1 := ⟨fun b o s v G => by kernel_rfl⟩
instance ild159 : LdOk Q 159 := ⟨fun b o s G => (show _ = loadOne b o G by kernel_rfl).trans (loadOne_eq b o G)⟩
instance ifa423_4 : FaOk Q 423 4 4 := ⟨fun b o s => by kernel_rfl⟩
instance ifa423_0 : FaOk Q 423 0 0 := ⟨fun b o s => by kernel_rfl⟩
instance ild419 : LdOk Q 419 := ⟨fun b o s G => (show _ = loadOne b o G by kernel_rfl).trans (loadOne_eq b o G)⟩
instance ifa423_3 : FaOk Q 423 3 3 := ⟨fun b o s => by kernel_rfl⟩
instance ist417 : StOk Q 417 1 := ⟨fun b o s v G => by kernel_rfl⟩
instance ild417 : LdOk Q 417 := ⟨fun b o s G => (show _ = loadOne b o G by kernel_rfl).trans (loadOne_eq b o G)⟩
instance iifc417 : IfcOk Q 417 := ⟨fun v => by kernel_rfl⟩
instance ifa423_1 : FaOk Q 423 1 1 := ⟨fun b o s => by kernel_rfl⟩
instance ild421 : LdOk Q 421 := ⟨fun b o s G => (show _ = loadOne b o G by kernel_rfl).trans (loadOne_eq b o G)⟩
instance ief421 : EfOk Q 421 := ⟨fun neg x y => by cases neg <;> kernel_rfl, fun neg x y f a b => by cases neg <;> kernel_rfl⟩
instance ifa423_2 : FaOk Q 423 2 2 := ⟨fun b o s => by kernel_rfl⟩
instance ild420 : LdOk Q 420 := ⟨fun b o s G => (show _ = loadOne b o G by kernel_rfl).trans (loadOne_eq b o G)⟩
instance ief420 : EfOk Q 420 := ⟨fun neg x y => by cases neg <;> kernel_rfl, fun neg x y f a b => by cases neg <;> kernel_rfl⟩
instance ifa429_4 : FaOk Q 429 4 4 := ⟨fun b o s => by kernel_rfl⟩
instance ifa429_0 : FaOk Q 429 0 0 := ⟨fun b o s => by kernel_rfl⟩
instance ild425 : LdOk Q 425 := ⟨fun b o s G => (show _ = loadOne b o G by kernel_rfl).trans (loadOne_eq b o G)⟩
instance ifa429_3 : FaOk Q 429 3 3 := ⟨fun b o s => by kernel_rfl⟩
instance ist145 : StOk Q 145 1 := ⟨fun b o s v G => by kernel_rfl⟩
instance ild145 : LdOk Q 145 := ⟨fun b o s G => (show _ = loadOne b o G by kernel_rfl).trans (loadOne_eq b o G)⟩
instance iifc145 : IfcOk Q 145 := ⟨fun v => by kernel_rfl⟩
instance ifa429_1 : FaOk Q 429 1 1 := ⟨fun b o s => by kernel_rfl⟩
instance ild427 : LdOk Q 427 := ⟨fun b o s G => (show _ = loadOne b o G by kernel_rfl).trans (loadOne_eq b o G)⟩
instance ief427 : EfOk Q 427 := ⟨fun neg x y => by cases neg <;> kernel_rfl, fun neg x y f a b => by cases neg <;> kernel_rfl⟩
instance ifa429_2 : FaOk Q 429 2 2 := ⟨fun b o s => by kernel_rfl⟩
instance ild426 : LdOk Q 426 := ⟨fun b o s G => (show _ = loadOne b o G by kernel_rfl).trans (loadOne_eq b o G)⟩
instance ief426 : EfOk Q 426 := ⟨fun neg x y => by cases neg <;> kernel_rfl, fun neg x y f a b => by cases neg <;> kernel_rfl⟩
instance ifa438_4 : FaOk Q 438 4 4 := ⟨fun b o s => by kernel_rfl⟩
instance ifa438_0 : FaOk Q 438 0 0 := ⟨fun b o s => by kernel_rfl⟩
instance ild434 : LdOk Q 434 := ⟨fun b o s G => (show _ = loadOne b o G by kernel_rfl).trans (loadOne_eq b o G)⟩
instance ifa438_3 : FaOk Q 438 3 3 := ⟨fun b o s => by kernel_rfl⟩
instance ist432 : StOk Q 432 1 := ⟨fun b o s v G => by kernel_rfl⟩
instance ild432 : LdOk Q 432 := ⟨fun b o s G => (show _ = loadOne b o G by kernel_rfl).trans (loadOne_eq b o G)⟩
instance iifc432 : IfcOk Q 432 := ⟨fun v => by kernel_rfl⟩
instance ifa438_1 : FaOk Q 438 1 1 := ⟨fun b o s => by kernel_rfl⟩
instance ild435 : LdOk Q 435 := ⟨fun b o s G => (show _ = loadOne b o G by kernel_rfl).trans (loadOne_eq b o G)⟩
instance ief435 : EfOk Q 435 := ⟨fun neg x y => by cases neg <;> kernel_rfl, fun neg x y f a b => by cases neg <;> kernel_rfl⟩
instance ifa438_2 : FaOk Q 438 2 2 := ⟨fun b o s => by kernel_rfl⟩
instance ild436 : LdOk Q 436 := ⟨fun b o s G => (show _ = loadOne b o G by kernel_rfl).trans (loadOne_eq b o G)⟩
instance ief436 : EfOk Q 436 := ⟨fun neg x y => by cases neg <;> kernel_rfl, fun neg x y f a b => by cases neg <;> kernel_rfl⟩
instance iep432 : EpOk Q 432 := ⟨fun neg x y => by cases neg <;> kernel_rfl, fun neg x y a => by cases neg <;> kernel_rfl, fun neg x y a => by cases neg <;> kernel_rfl⟩
instance ifa548_4 : FaOk Q 548 4 4 := ⟨fun b o s => by kernel_rfl⟩
instance ifa548_0 : FaOk Q 548 0 0 := ⟨fun b o s => by kernel_rfl⟩
instance ild544 : LdOk Q 544 := ⟨fun b o s G => (show _ = loadOne b o G by kernel_rfl).trans (loadOne_eq b o G)⟩
instance ifa548_3 : FaOk Q 548 3 3 := ⟨fun b o s => by kernel_rfl⟩
instance ist542 : StOk Q 542 1 := ⟨fun b o s v G => by kernel_rfl⟩
instance ild542 : LdOk Q 542 := ⟨fun b o s G => (show _ = loadOne b o G by kernel_rfl).trans (loadOne_eq b o G)⟩
instance iifc542 : IfcOk Q 542 := ⟨fun v => by kernel_rfl⟩
instance ifa548_1 : FaOk Q 548 1 1 := ⟨fun b o s => by kernel_rfl⟩
instance ild545 : LdOk Q 545 := ⟨fun b o s G => (show _ = loadOne b o G by kernel_rfl).trans (loadOne_eq b o G)⟩
instance ief545 : EfOk Q 545 := ⟨fun neg x y => by cases neg <;> kernel_rfl, fun neg x y f a b => by cases neg <;> kernel_rfl⟩
instance ifa548_2 : FaOk Q 548 2 2 := ⟨fun b o s => by kernel_rfl⟩
instance ild546 : LdOk Q 546 := ⟨fun b o s G => (show _ = loadOne b o G by kernel_rfl).trans (loadOne_eq b o G)⟩
instance ief546 : EfOk Q 546 := ⟨fun neg x y => by cases neg <;> kernel_rfl, fun neg x y f a b => by cases neg <;> kernel_rfl⟩
instance ilda564 : LdAOk Q 564 4 := ⟨fun b o s G => by kernel_rfl⟩
instance iix564 : IxOk Q 564 4 := ⟨fun l k j => by kernel_rfl⟩
instance ifa566_0 : FaOk Q 566 0 0 := ⟨fun b o s => by kernel_rfl⟩
instance ifa556_4 : FaOk Q 556 4 4 := ⟨fun b o s => by kernel_rfl⟩
instance ifa556_0 : FaOk Q 556 0 0 := ⟨fun b o s => by kernel_rfl⟩
instance ild552 : LdOk Q 552 := ⟨fun b o s G => (show _ = loadOne b o G by kernel_rfl).trans (loadOne_eq b o G)⟩
instance ifa556_3 : FaOk Q 556 3 3 := ⟨fun b o s => by kernel_rfl⟩
instance ist550 : StOk Q 550 1 := ⟨fun b o s v G => by kernel_rfl⟩
instance ild550 : LdOk Q 550 := ⟨fun b o s G => (show _ = loadOne b o G by kernel_rfl).trans (loadOne_eq b o G)⟩
instance iifc550 : IfcOk Q 550 := ⟨fun v => by kernel_rfl⟩
instance ifa556_1 : FaOk Q 556 1 1 := ⟨fun b o s => by kernel_rfl⟩
instance ild553 : LdOk Q 553 := ⟨fun b o s G => (show _ = loadOne b o G by kernel_rfl).trans (loadOne_eq b o G)⟩
instance ief553 : EfOk Q 553 := ⟨fun neg x y => by cases neg <;> kernel_rfl, fun neg x y f a b => by cases neg <;> kernel_rfl⟩
instance ifa556_2 : FaOk Q 556 2 2 := ⟨fun b o s => by kernel_rfl⟩
instance ild554 : LdOk Q 554 := ⟨fun b o s G => (show _ = loadOne b o G by kernel_rfl).trans (loadOne_eq b o G)⟩
instance ief554 : EfOk Q 554 := ⟨fun neg x y => by cases neg <;> kernel_rfl, fun neg x y f a b => by cases neg <;> kernel_rfl⟩
instance ild569 : LdOk Q 569 := ⟨fun b o s G => (show _ = loadOne b o G by kernel_rfl).trans (loadOne_eq b o G)⟩
noncomputable abbrev z616 : List Value := [.nilFunc, .nilFunc, .nilFunc, .nilFunc, .nilFunc, .nilFunc, .nilFunc, .nilFunc, .nilFunc, .nilFunc, .nilFunc, .nilFunc, .nilFunc]
instance ial616 : AlOk Q 616 z616 := ⟨fun G => by kernel_rfl⟩
instance ist616 : StOk Q 616 13 := ⟨fun b o s v G => by kernel_rfl⟩
instance iiaa616 : IaaOk Q 616 13 1 := ⟨fun b o s k j => by kernel_rfl⟩
instance ild615 : LdOk Q 615 := ⟨fun b o s G => (show _ = loadOne b o G by kernel_rfl).trans (loadOne_eq b o G)⟩
instance ibd616_1_2_3_4_5_6_7_8_9_10_11_12 : BdOk Q 616 z616 [(1, 1, 1), (2, 2, 1), (3, 3, 1), (4, 4, 1), (5, 5, 1), (6, 6, 1), (7, 7, 1), (8, 8, 1), (9, 9, 1), (10, 10, 1), (11, 11, 1), (12, 12, 1)] := bd_ok Q (by kernel_rfl) (by kernel_rfl) (by kernel_rfl)
instance ilda616 : LdAOk Q 616 13 := ⟨fun b o s G => by kernel_rfl⟩
instance ifa571_8 : FaOk Q 571 8 20 := ⟨fun b o s => by kernel_rfl⟩
instance ifa571_3 : FaOk Q 571 3 15 := ⟨fun b o s => by kernel_rfl⟩
instance ifa571_6 : FaOk Q 571 6 18 := ⟨fun b o s => by kernel_rfl⟩
instance ifa571_2 : FaOk Q 571 2 14 := ⟨fun b o s => by kernel_rfl⟩
instance ifa571_9 : FaOk Q 571 9 21 := ⟨fun b o s => by kernel_rfl⟩
instance ifa571_11 : FaOk Q 571 11 23 := ⟨fun b o s => by kernel_rfl⟩
instance ist38 : StOk Q 38 1 := ⟨fun b o s v G => by kernel_rfl⟩
instance ild38 : LdOk Q 38 := ⟨fun b o s G => (show _ = loadOne b o G by kernel_rfl).trans (loadOne_eq b o G)⟩
instance iln281 : LnOk Q 281 := ⟨fun a n c => by kernel_rfl⟩
instance ibs111_1_0 : BsOk Q 111 1 (rep z41 1) 1 [(0, 0, 1)] := bs_ok Q (z0 := z41) (by kernel_rfl) rfl (by decide) (by kernel_rfl)
instance iap111_111 : ApOk Q 111 111 1 8 := ⟨fun s x G => by kernel_rfl⟩
/-- coxswain/cells.New -/
noncomputable def s9 (q : Bool) (e : Ex) (v0 : Value) (G : GS) : Option (Value × GS) :=
  bP (bn Q q .lss 3 (.tmp 4) (.const (.int .i64 1)) v0 (.int .i64 1)) fun x0 =>
  bS (gd x0 false (some (v0, G)) G) fun x1 G2 =>
  bS (gd x0 false (bP (bn Q q .gtr 3 (.tmp 7) (.const (.int .i64 4096)) x1 (.int .i64 4096)) fun y => some (y, G2)) G2) fun x3 G4 =>
  bP (pickV x0 (.bool true) x3) fun x5 =>
  ifV x5 (
  some (.tuple #[(.pointer none), (.int .i64 3)], G4)) (
  bS (al Q q 156 z156 G4) fun x6 G7 =>
  bP (bd Q q 158 z158 [(0, 0, 1), (1, 1, 1)] [x6, v0]) fun x8 =>
  bS (bx q x8 G7) fun x9 G10 =>
  some (.tuple #[x9, (.int .i64 0)], G10))
theorem m9 {e : Ex} {E : Ev} (h : ExLe Q e E) (v0 : Value) (G : GS) : Ref (s9 true e v0 G) (s9 false (Ex.of E) v0 G) := by
  unfold s9
  exact Ref.go
theorem f9 {orc : FuncId → Bool} {e : Ex} (h : ExLe Q e (E orc)) (v0 : Value) (G : GS) : Ref (s9 true e v0 G) ((E orc).cl 9 [v0] G) :=
  fun r hr => cl_sxE_some Q orc (vs := [v0]) G Tryz.func9 (by kernel_rfl) (by kernel_rfl) (by kernel_rfl) (by kernel_rfl) (by kernel_rfl) (by kernel_rfl) (m9 h v0 G r hr)
/-- coxswain/audit.Held -/
noncomputable def s23 (q : Bool) (e : Ex) (v0 v1 v2 v3 : Value) (G : GS) : Option (Value × GS) :=
  bS (bx q v0 G) fun x0 G1 =>
  bS (bx q v2 G1) fun x2 G3 =>
  bP (lda Q q 31 13 x0 G3) fun x4 =>
  bP (fa Q q 68 1 1 x2) fun x5 =>
  bP (ld Q q 3 x5 G3) fun x6 =>
  bS (e.ev.cl 28 [x4, x6] G3) fun x7 G8 =>
  bP (pExtract x7 0) fun x9 =>
  bP (pExtract x7 1) fun x10 =>
  bP (pExtract x7 2) fun x11 =>
  bP (un Q q .not x11) fun x12 =>
  bS (gd x12 false (some (x9, G8)) G8) fun x13 G14 =>
  bS (gd x12 false (bP (bn Q q .lss 3 (.tmp 23) (.const (.int .i64 0)) x13 (.int .i64 0)) fun y => some (y, G14)) G14) fun x15 G16 =>
  bP (pickV x12 (.bool true) x15) fun x17 =>
  bS (gd x17 false (bP (lda Q q 31 13 x0 G16) fun y => some (y, G16)) G16) fun x18 G19 =>
  bS (gd x17 false (some (v1, G19)) G19) fun x20 G21 =>
  bS (gd x17 false (bS (e.ev.cl 87 [x18, x20] G21) fun y G => some (y, G)) G21) fun x22 G23 =>
  bS (gd x17 false (some (v3, G23)) G23) fun x24 G25 =>
  bS (gd x17 false (some (x9, G25)) G25) fun x26 G27 =>
  bS (gd x17 false (bS (e.ev.cl 88 [x22, x24, x26] G27) fun y G => some (y, G)) G27) fun x28 G29 =>
  bP (pickV x17 (.bool true) x28) fun x30 =>
  some (x30, G29)
theorem m23 {e : Ex} {E : Ev} (h : ExLe Q e E) (v0 v1 v2 v3 : Value) (G : GS) : Ref (s23 true e v0 v1 v2 v3 G) (s23 false (Ex.of E) v0 v1 v2 v3 G) := by
  unfold s23
  exact Ref.go
theorem f23 {orc : FuncId → Bool} {e : Ex} (h : ExLe Q e (E orc)) (v0 v1 v2 v3 : Value) (G : GS) : Ref (s23 true e v0 v1 v2 v3 G) ((E orc).cl 23 [v0, v1, v2, v3] G) :=
  fun r hr => cl_sxE_some Q orc (vs := [v0, v1, v2, v3]) G Tryz.func23 (by kernel_rfl) (by kernel_rfl) (by kernel_rfl) (by kernel_rfl) (by kernel_rfl) (by kernel_rfl) (m23 h v0 v1 v2 v3 G r hr)
/-- coxswain/audit.Where -/
noncomputable def s24 (q : Bool) (e : Ex) (v0 v1 v2 : Value) (G : GS) : Option (Value × GS) :=
  bS (bx q v0 G) fun x0 G1 =>
  bS (bx q v2 G1) fun x2 G3 =>
  bS (al Q q 3 z3 G3) fun x4 G5 =>
  bP (lda Q q 31 13 x0 G5) fun x6 =>
  bS (e.ev.cl 89 [x6] G5) fun x7 G8 =>
  bP (un Q q .not x7) fun x9 =>
  bS (gd x9 false (bP (ld Q q 3 x2 G8) fun y => some (y, G8)) G8) fun x10 G11 =>
  bS (gd x9 false (bP (bn Q q .lss 3 (.tmp 13) (.const (.int .i64 0)) x10 (.int .i64 0)) fun y => some (y, G11)) G11) fun x12 G13 =>
  bP (pickV x9 (.bool true) x12) fun x14 =>
  bS (gd x14 false (bP (ld Q q 3 x2 G13) fun y => some (y, G13)) G13) fun x15 G16 =>
  bS (gd x14 false (bP (fa Q q 31 3 3 x0) fun y => some (y, G16)) G16) fun x17 G18 =>
  bS (gd x14 false (bP (fa Q q 29 0 0 x17) fun y => some (y, G18)) G18) fun x19 G20 =>
  bS (gd x14 false (bP (fa Q q 25 0 0 x19) fun y => some (y, G20)) G20) fun x21 G22 =>
  bS (gd x14 false (bP (fa Q q 23 2 2 x21) fun y => some (y, G22)) G22) fun x23 G24 =>
  bS (gd x14 false (bP (ld Q q 3 x23 G24) fun y => some (y, G24)) G24) fun x25 G26 =>
  bS (gd x14 false (bP (bn Q q .geq 3 (.tmp 17) (.tmp 22) x15 x25) fun y => some (y, G26)) G26) fun x27 G28 =>
  bP (pickV x14 (.bool true) x27) fun x29 =>
  ifV x29 (
  bP (st Q q 3 1 x4 (.int .i64 (-1)) G28) fun G30 =>
  bP (ld Q q 3 x4 G30) fun x31 =>
  some (x31, G30)) (
  bP (lda Q q 31 13 x0 G28) fun x32 =>
  bS (e.ev.cl 87 [x32, v1] G28) fun x33 G34 =>
  bS (e.ev.cl 90 [x33] G34) fun x35 G36 =>
  bX (xRange e.ev x35 #[29, 30] (subAt [1, 1, 0, 1, 0, 0] (bodyOf Tryz.f24)) (subAt [1, 1, 0, 1, 0, 1] (bodyOf Tryz.f24)) (lst 35 (tu (nth undef [v0, v1, v2]) [(3, x0), (5, x2), (6, x4), (9, x6), (10, x7), (11, x9), (12, x9), (13, x10), (14, x12), (15, x14), (16, x14), (17, x15), (18, x17), (19, x19), (20, x21), (21, x23), (22, x25), (23, x27), (24, x29), (25, x32), (26, v1), (27, x33), (28, x35)])) G36) fun e37 T38 G39 =>
  bV q (nth undef T38 6) fun T38x6_ =>
  ifE e37 .normal (
  bP (st Q q 3 1 T38x6_ (.int .i64 0) G39) fun G40 =>
  bP (ld Q q 3 T38x6_ G40) fun x41 =>
  some (x41, G40)) (ifE e37 .ret (
  bP (ld Q q 3 T38x6_ G39) fun x42 =>
  some (x42, G39)) (none)))
theorem m24 {e : Ex} {E : Ev} (h : ExLe Q e E) (v0 v1 v2 : Value) (G : GS) : Ref (s24 true e v0 v1 v2 G) (s24 false (Ex.of E) v0 v1 v2 G) := by
  unfold s24
  exact Ref.go
theorem f24 {orc : FuncId → Bool} {e : Ex} (h : ExLe Q e (E orc)) (v0 v1 v2 : Value) (G : GS) : Ref (s24 true e v0 v1 v2 G) ((E orc).cl 24 [v0, v1, v2] G) :=
  fun r hr => cl_sxE_some Q orc (vs := [v0, v1, v2]) G Tryz.func24 (by kernel_rfl) (by kernel_rfl) (by kernel_rfl) (by kernel_rfl) (by kernel_rfl) (by kernel_rfl) (m24 h v0 v1 v2 G r hr)
/-- coxswain/audit.Sums -/
noncomputable def s25 (q : Bool) (e : Ex) (v0 v1 : Value) (G : GS) : Option (Value × GS) :=
  bS (bx q v0 G) fun x0 G1 =>
  bS (al Q q 72 z72 G1) fun x2 G3 =>
  bP (lda Q q 31 13 x0 G3) fun x4 =>
  bS (e.ev.cl 89 [x4] G3) fun x5 G6 =>
  bP (un Q q .not x5) fun x7 =>
  ifV x7 (
  bP (bd Q q 72 z72 [] []) fun x8 =>
  bP (st Q q 72 5 x2 x8 G6) fun G9 =>
  bP (lda Q q 72 5 x2 G9) fun x10 =>
  some (x10, G9)) (
  bP (lda Q q 31 13 x0 G6) fun x11 =>
  bS (e.ev.cl 87 [x11, v1] G6) fun x12 G13 =>
  bS (al Q q 174 z174 G13) fun x14 G15 =>
  bP (st Q q 174 15 x14 x12 G15) fun G16 =>
  bP (fa Q q 31 3 3 x0) fun x17 =>
  bP (fa Q q 29 0 0 x17) fun x18 =>
  bP (fa Q q 25 0 0 x18) fun x19 =>
  bP (fa Q q 23 2 2 x19) fun x20 =>
  bP (ld Q q 3 x20 G16) fun x21 =>
  bP (lda Q q 174 15 x14 G16) fun x22 =>
  bP (fa Q q 31 3 3 x0) fun x23 =>
  bP (fa Q q 29 0 0 x23) fun x24 =>
  bP (fa Q q 25 2 4 x24) fun x25 =>
  bP (ld Q q 3 x25 G16) fun x26 =>
  bS (e.ev.cl 91 [x22, x26] G16) fun x27 G28 =>
  bP (cv Q q 3 41 .i64 .u64 x21) fun x29 =>
  bP (mn Q q #[41, 41] x27 x29) fun x30 =>
  bP (cv Q q 41 3 .u64 .i64 x30) fun x31 =>
  bP (bd Q q 72 z72 [(3, 3, 1)] [x31]) fun x32 =>
  bS (al Q q 72 z72 G28) fun x33 G34 =>
  bP (st Q q 72 5 x33 x32 G34) fun G35 =>
  bP (lda Q q 174 15 x14 G35) fun x36 =>
  bS (e.ev.cl 90 [x36] G35) fun x37 G38 =>
  bX (xRange e.ev x37 #[35, 36] (subAt [1, 1, 1, 1, 1, 0, 1, 0, 0] (bodyOf Tryz.f25)) (subAt [1, 1, 1, 1, 1, 0, 1, 0, 1] (bodyOf Tryz.f25)) (lst 69 (tu (nth undef [v0, v1]) [(2, x0), (4, x2), (5, x14), (6, x21), (7, x33), (10, x4), (11, x5), (12, x7), (14, x11), (15, v1), (16, x12), (17, x17), (18, x18), (19, x19), (20, x20), (21, x21), (22, x22), (23, x23), (24, x24), (25, x25), (26, x26), (27, x27), (28, x21), (29, x29), (30, x30), (31, x31), (32, x32), (33, x36), (34, x37)])) G38) fun e39 T40 G41 =>
  bV q (nth undef T40 4) fun T40x4_ =>
  bV q (nth undef T40 6) fun T40x6_ =>
  bV q (nth undef T40 7) fun T40x7_ =>
  ifE e39 .normal (
  bP (fa Q q 72 0 0 T40x7_) fun x42 =>
  bP (ld Q q 3 x42 G41) fun x43 =>
  bP (bn Q q .sub 3 (.tmp 54) (.tmp 56) T40x6_ x43) fun x44 =>
  bP (fa Q q 72 1 1 T40x7_) fun x45 =>
  bP (ld Q q 3 x45 G41) fun x46 =>
  bP (bn Q q .sub 3 (.tmp 57) (.tmp 59) x44 x46) fun x47 =>
  bP (fa Q q 72 2 2 T40x7_) fun x48 =>
  bP (ld Q q 3 x48 G41) fun x49 =>
  bP (bn Q q .sub 3 (.tmp 60) (.tmp 62) x47 x49) fun x50 =>
  bP (fa Q q 72 3 3 T40x7_) fun x51 =>
  bP (ld Q q 3 x51 G41) fun x52 =>
  bP (bn Q q .sub 3 (.tmp 63) (.tmp 65) x50 x52) fun x53 =>
  bP (fa Q q 72 4 4 T40x7_) fun x54 =>
  bP (st Q q 3 1 x54 x53 G41) fun G55 =>
  bP (lda Q q 72 5 T40x7_ G55) fun x56 =>
  bP (st Q q 72 5 T40x4_ x56 G55) fun G57 =>
  bP (lda Q q 72 5 T40x4_ G57) fun x58 =>
  some (x58, G57)) (none))
theorem m25 {e : Ex} {E : Ev} (h : ExLe Q e E) (v0 v1 : Value) (G : GS) : Ref (s25 true e v0 v1 G) (s25 false (Ex.of E) v0 v1 G) := by
  unfold s25
  exact Ref.go
theorem f25 {orc : FuncId → Bool} {e : Ex} (h : ExLe Q e (E orc)) (v0 v1 : Value) (G : GS) : Ref (s25 true e v0 v1 G) ((E orc).cl 25 [v0, v1] G) :=
  fun r hr => cl_sxE_some Q orc (vs := [v0, v1]) G Tryz.func25 (by kernel_rfl) (by kernel_rfl) (by kernel_rfl) (by kernel_rfl) (by kernel_rfl) (by kernel_rfl) (m25 h v0 v1 G r hr)
noncomputable def b26_0 (q : Bool) (e : Ex) (lp : Env → GS → Option (Exit × Env × GS)) (τ : Env) (G : GS) : Option (Exit × Env × GS) :=
  bV q (τ 27) fun a27_ =>
  bV q (τ 28) fun a28_ =>
  bV q (τ 29) fun a29_ =>
  bP (bn Q q .lss 3 (.tmp 29) (.tmp 28) a29_ a28_) fun x0 =>
  ifV x0 (
  bP (ias Q q 182 1 a27_ a29_) fun x1 =>
  bP (ld Q q 181 x1 G) fun x2 =>
  bS (cValue e.ev x2 [] G) fun x3 G4 =>
  bP (bn Q q .neq 33 (.tmp 35) (.const (.int .i64 0)) x3 (.int .i64 0)) fun x5 =>
  ifV x5 (
  some (.ret, clq q 39 (tu τ [(27, a27_), (28, a28_), (29, a29_), (4, x3), (7, x2), (8, x3), (30, x0), (31, x1), (32, x2), (33, x2), (34, x3), (35, x3), (36, x5), (37, x3)]), G4)) (
  bP (bn Q q .add 3 (.tmp 29) (.const (.int .i64 1)) a29_ (.int .i64 1)) fun x6 =>
  lp (tu τ [(27, a27_), (28, a28_), (29, x6), (7, x2), (8, x3), (30, x0), (31, x1), (32, x2), (33, x2), (34, x3), (35, x3), (36, x5), (38, x6)]) G4)) (
  some ((.exit 0), clq q 39 (tu τ [(27, a27_), (28, a28_), (29, a29_), (30, x0)]), G))
theorem mb26_0 {e : Ex} {E : Ev} (h : ExLe Q e E) {lp lp' : Env → GS → Option (Exit × Env × GS)} (hlp : LpLe lp lp') (τ : Env) (G : GS) : Ref (b26_0 true e lp τ G) (b26_0 false (Ex.of E) lp' τ G) := by
  unfold b26_0
  exact Ref.go
theorem l26_0 {orc : FuncId → Bool} {e : Ex} (h : ExLe Q e (E orc)) (lp : Env → GS → Option (Exit × Env × GS)) (hlp : ∀ τ G, Ref (lp τ G) (mapE ((E orc).lp (subAt [1, 1, 1, 0, 1, 0, 0] (bodyOf Tryz.f26)) (lst 39 τ) G))) (T : List Value) (G : GS) (hT : T.length = 39) : Ref (b26_0 true e lp (nth undef T) G) (mapE ((E orc).lp (subAt [1, 1, 1, 0, 1, 0, 0] (bodyOf Tryz.f26)) T G)) :=
  fun r hr => lp_sxM Q orc G hT (by kernel_rfl) (mb26_0 h ⟨hlp⟩ _ _ r hr)
/-- coxswain/audit.Whole -/
noncomputable def s26 (q : Bool) (e : Ex) (v0 v1 : Value) (G : GS) : Option (Value × GS) :=
  bS (bx q v0 G) fun x0 G1 =>
  bP (lda Q q 31 13 x0 G1) fun x2 =>
  bS (e.ev.cl 89 [x2] G1) fun x3 G4 =>
  bP (un Q q .not x3) fun x5 =>
  ifV x5 (
  some ((.int .i64 2), G4)) (
  bP (lda Q q 31 13 x0 G4) fun x6 =>
  bS (e.ev.cl 87 [x6, v1] G4) fun x7 G8 =>
  bS (al Q q 174 z174 G8) fun x9 G10 =>
  bP (st Q q 174 15 x9 x7 G10) fun G11 =>
  bP (lda Q q 174 15 x9 G11) fun x12 =>
  bP (lda Q q 174 15 x9 G11) fun x13 =>
  bP (lda Q q 174 15 x9 G11) fun x14 =>
  bP (lda Q q 174 15 x9 G11) fun x15 =>
  bP (lda Q q 174 15 x9 G11) fun x16 =>
  bP (lda Q q 174 15 x9 G11) fun x17 =>
  bS (bs Q q 182 6 (rep z181 6) 1 [(0, 0, 1), (1, 1, 1), (2, 2, 1), (3, 3, 1), (4, 4, 1), (5, 5, 1)] [(.func (.func 92) #[x12] #[]), (.func (.func 93) #[x13] #[]), (.func (.func 94) #[x14] #[]), (.func (.func 95) #[x15] #[]), (.func (.func 96) #[x16] #[]), (.func (.func 97) #[x17] #[])] G11) fun x18 G19 =>
  bP (ln Q q 182 x18) fun x20 =>
  bL q e 26 0 (subAt [1, 1, 1, 0, 1, 0, 0] (bodyOf Tryz.f26)) 39 (tu (nth undef [v0, v1]) [(2, x0), (4, (.int .i64 0)), (5, x9), (9, x2), (10, x3), (11, x5), (12, x6), (13, v1), (14, x7), (15, x12), (16, (.func (.func 92) #[x12] #[])), (17, x13), (18, (.func (.func 93) #[x13] #[])), (19, x14), (20, (.func (.func 94) #[x14] #[])), (21, x15), (22, (.func (.func 95) #[x15] #[])), (23, x16), (24, (.func (.func 96) #[x16] #[])), (25, x17), (26, (.func (.func 97) #[x17] #[])), (27, x18), (28, x20), (29, (.int .i64 0))]) G19 fun e21 t22 G23 =>
  bV q (t22 4) fun t22x4_ =>
  ifE e21 (.exit 0) (
  some ((.int .i64 0), G23)) (ifE e21 .ret (
  some (t22x4_, G23)) (none)))
theorem m26 {e : Ex} {E : Ev} (h : ExLe Q e E) (v0 v1 : Value) (G : GS) : Ref (s26 true e v0 v1 G) (s26 false (Ex.of E) v0 v1 G) := by
  unfold s26
  exact Ref.go
theorem f26 {orc : FuncId → Bool} {e : Ex} (h : ExLe Q e (E orc)) (v0 v1 : Value) (G : GS) : Ref (s26 true e v0 v1 G) ((E orc).cl 26 [v0, v1] G) :=
  fun r hr => cl_sxE_some Q orc (vs := [v0, v1]) G Tryz.func26 (by kernel_rfl) (by kernel_rfl) (by kernel_rfl) (by kernel_rfl) (by kernel_rfl) (by kernel_rfl) (m26 h v0 v1 G r hr)
/-- coxswain/coxswainlaw20.awake -/
noncomputable def s27 (q : Bool) (e : Ex) (G : GS) : Option (Value × GS) :=
  bS (e.ev.cl 98 [] G) fun x0 G1 =>
  bP (ep Q q true 32 (.tmp 3) (.const (.pointer none)) x0 (.pointer none)) fun x2 =>
  bS (gd x2 true (bS (e.ev.cl 99 [] G1) fun y G => some (y, G)) G1) fun x3 G4 =>
  bS (gd x2 true (some (x0, G4)) G4) fun x5 G6 =>
  bS (gd x2 true (bS (e.ev.cl 26 [x3, x5] G6) fun y G => some (y, G)) G6) fun x7 G8 =>
  bS (gd x2 true (bP (bn Q q .eql 33 (.tmp 8) (.const (.int .i64 0)) x7 (.int .i64 0)) fun y => some (y, G8)) G8) fun x9 G10 =>
  bP (pickV x2 x9 (.bool false)) fun x11 =>
  bS (gd x11 true (bS (e.ev.cl 99 [] G10) fun y G => some (y, G)) G10) fun x12 G13 =>
  bS (gd x11 true (some (x0, G13)) G13) fun x14 G15 =>
  bS (gd x11 true (bS (e.ev.cl 25 [x12, x14] G15) fun y G => some (y, G)) G15) fun x16 G17 =>
  bS (gd x11 true (bP (bd Q q 72 z72 [(0, 0, 1), (1, 1, 1)] [(.int .i64 1), (.int .i64 2)]) fun y => some (y, G17)) G17) fun x18 G19 =>
  bS (gd x11 true (bP (bn Q q .eql 72 (.tmp 14) (.tmp 15) x16 x18) fun y => some (y, G19)) G19) fun x20 G21 =>
  bP (pickV x11 x20 (.bool false)) fun x22 =>
  bS (gd x22 true (bS (e.ev.cl 99 [] G21) fun y G => some (y, G)) G21) fun x23 G24 =>
  bS (gd x22 true (some (x0, G24)) G24) fun x25 G26 =>
  bS (gd x22 true (bS (e.ev.cl 24 [x23, x25, (.int .i64 0)] G26) fun y G => some (y, G)) G26) fun x27 G28 =>
  bS (gd x22 true (bP (bn Q q .eql 3 (.tmp 21) (.const (.int .i64 2)) x27 (.int .i64 2)) fun y => some (y, G28)) G28) fun x29 G30 =>
  bP (pickV x22 x29 (.bool false)) fun x31 =>
  bS (gd x31 true (some (x0, G30)) G30) fun x32 G33 =>
  bS (gd x31 true (bS (e.ev.cl 100 [x32, (.int .i64 16), (.int .u64 65537)] G33) fun y G => some (y, G)) G33) fun x34 G35 =>
  bP (pickV x31 x34 (.bool false)) fun x36 =>
  bS (gd x36 true (some (x0, G35)) G35) fun x37 G38 =>
  bS (gd x36 true (bS (e.ev.cl 100 [x37, (.int .i64 16), (.int .u64 131073)] G38) fun y G => some (y, G)) G38) fun x39 G40 =>
  bS (gd x36 true (bP (un Q q .not x39) fun y => some (y, G40)) G40) fun x41 G42 =>
  bP (pickV x36 x41 (.bool false)) fun x43 =>
  bS (gd x43 true (bS (e.ev.cl 101 [(.int .i64 16), (.int .u64 3)] G42) fun y G => some (y, G)) G42) fun x44 G45 =>
  bS (gd x43 true (bP (bn Q q .eql 33 (.tmp 34) (.const (.int .i64 9)) x44 (.int .i64 9)) fun y => some (y, G45)) G45) fun x46 G47 =>
  bP (pickV x43 x46 (.bool false)) fun x48 =>
  some (x48, G47)
theorem m27 {e : Ex} {E : Ev} (h : ExLe Q e E) (G : GS) : Ref (s27 true e  G) (s27 false (Ex.of E)  G) := by
  unfold s27
  exact Ref.go
theorem f27 {orc : FuncId → Bool} {e : Ex} (h : ExLe Q e (E orc)) (ho : orc 27 = false) (G : GS) : Ref (s27 true e  G) ((E orc).cl 27 [] G) :=
  fun r hr => cl_sxE_some Q orc (vs := []) G Tryz.func27 (by kernel_rfl) (by kernel_rfl) ho (by kernel_rfl) (by kernel_rfl) (by kernel_rfl) (m27 h  G r hr)
/-- coxswain/tower.Whose -/
noncomputable def s28 (q : Bool) (e : Ex) (v0 v1 : Value) (G : GS) : Option (Value × GS) :=
  bS (bx q v0 G) fun x0 G1 =>
  bP (lda Q q 31 13 x0 G1) fun x2 =>
  bS (e.ev.cl 102 [x2] G1) fun x3 G4 =>
  bP (un Q q .not x3) fun x5 =>
  ifV x5 (
  some (.tuple #[(.int .i64 0), (.int .i64 0), (.bool false)], G4)) (
  bP (lda Q q 31 13 x0 G4) fun x6 =>
  bS (e.ev.cl 103 [x6] G4) fun x7 G8 =>
  bS (e.ev.cl 104 [x7, v1] G8) fun x9 G10 =>
  bP (pExtract x9 0) fun x11 =>
  bP (pExtract x9 1) fun x12 =>
  bP (pExtract x9 2) fun x13 =>
  ifV x13 (
  some (.tuple #[x11, x12, (.bool true)], G10)) (
  bP (lda Q q 31 13 x0 G10) fun x14 =>
  bS (e.ev.cl 105 [x14] G10) fun x15 G16 =>
  bS (e.ev.cl 106 [x15, v1] G16) fun x17 G18 =>
  bP (pExtract x17 0) fun x19 =>
  bP (pExtract x17 1) fun x20 =>
  bP (pExtract x17 2) fun x21 =>
  ifV x21 (
  bP (bn Q q .add 3 (.const (.int .i64 4)) (.tmp 36) (.int .i64 4) x20) fun x22 =>
  some (.tuple #[(.int .i64 (-1)), x22, (.bool true)], G18)) (
  some (.tuple #[(.int .i64 0), (.int .i64 0), (.bool false)], G18))))
theorem m28 {e : Ex} {E : Ev} (h : ExLe Q e E) (v0 v1 : Value) (G : GS) : Ref (s28 true e v0 v1 G) (s28 false (Ex.of E) v0 v1 G) := by
  unfold s28
  exact Ref.go
theorem f28 {orc : FuncId → Bool} {e : Ex} (h : ExLe Q e (E orc)) (v0 v1 : Value) (G : GS) : Ref (s28 true e v0 v1 G) ((E orc).cl 28 [v0, v1] G) :=
  fun r hr => cl_sxE_some Q orc (vs := [v0, v1]) G Tryz.func28 (by kernel_rfl) (by kernel_rfl) (by kernel_rfl) (by kernel_rfl) (by kernel_rfl) (by kernel_rfl) (m28 h v0 v1 G r hr)
/-- (*coxswain/cells.Mem).Store -/
noncomputable def s45 (q : Bool) (e : Ex) (v0 v1 v2 : Value) (G : GS) : Option (Value × GS) :=
  bS (e.ev.cl 158 [v0, v1] G) fun x0 G1 =>
  bP (bd Q q 246 z246 [(0, 0, 1), (1, 1, 1)] [x0, v2]) fun x2 =>
  bS (al Q q 246 z246 G1) fun x3 G4 =>
  bP (st Q q 246 3 x3 x2 G4) fun G5 =>
  bP (fa Q q 246 0 0 x3) fun x6 =>
  bP (ld Q q 243 x6 G5) fun x7 =>
  bP (lda Q q 246 3 x3 G5) fun x8 =>
  bS (e.ev.cl 159 [v0, (.int .i64 2), v1, x7, (.func (.func 160) #[x8] #[])] G5) fun x9 G10 =>
  some (.tuple #[], G10)
theorem m45 {e : Ex} {E : Ev} (h : ExLe Q e E) (v0 v1 v2 : Value) (G : GS) : Ref (s45 true e v0 v1 v2 G) (s45 false (Ex.of E) v0 v1 v2 G) := by
  unfold s45
  exact Ref.go
theorem f45 {orc : FuncId → Bool} {e : Ex} (h : ExLe Q e (E orc)) (v0 v1 v2 : Value) (G : GS) : Ref (s45 true e v0 v1 v2 G) ((E orc).cl 45 [v0, v1, v2] G) :=
  fun r hr => cl_sxE_some Q orc (vs := [v0, v1, v2]) G Tryz.func45 (by kernel_rfl) (by kernel_rfl) (by kernel_rfl) (by kernel_rfl) (by kernel_rfl) (by kernel_rfl) (m45 h v0 v1 v2 G r hr)
noncomputable def b53_0 (q : Bool) (e : Ex) (lp : Env → GS → Option (Exit × Env × GS)) (τ : Env) (G : GS) : Option (Exit × Env × GS) :=
  bV q (τ 3) fun a3_ =>
  bV q (τ 29) fun a29_ =>
  bV q (τ 30) fun a30_ =>
  bV q (τ 31) fun a31_ =>
  bP (bn Q q .lss 3 (.tmp 31) (.tmp 30) a31_ a30_) fun x0 =>
  ifV x0 (
  bP (ias Q q 253 1 a29_ a31_) fun x1 =>
  bP (ld Q q 154 x1 G) fun x2 =>
  bP (ias Q q 111 1 a3_ a31_) fun x3 =>
  bP (st Q q 41 1 x3 x2 G) fun G4 =>
  bP (bn Q q .add 3 (.tmp 31) (.const (.int .i64 1)) a31_ (.int .i64 1)) fun x5 =>
  lp (tu τ [(3, a3_), (29, a29_), (30, a30_), (31, x5), (4, a31_), (5, x2), (32, x0), (33, a31_), (34, x1), (35, x2), (36, a3_), (37, a31_), (38, x2), (39, x3), (40, x5)]) G4) (
  some ((.exit 0), clq q 42 (tu τ [(3, a3_), (29, a29_), (30, a30_), (31, a31_), (32, x0)]), G))
theorem mb53_0 {e : Ex} {E : Ev} (h : ExLe Q e E) {lp lp' : Env → GS → Option (Exit × Env × GS)} (hlp : LpLe lp lp') (τ : Env) (G : GS) : Ref (b53_0 true e lp τ G) (b53_0 false (Ex.of E) lp' τ G) := by
  unfold b53_0
  exact Ref.go
theorem l53_0 {orc : FuncId → Bool} {e : Ex} (h : ExLe Q e (E orc)) (lp : Env → GS → Option (Exit × Env × GS)) (hlp : ∀ τ G, Ref (lp τ G) (mapE ((E orc).lp (subAt [1, 1, 1, 0, 1, 0, 0] (bodyOf Tryz.f53)) (lst 42 τ) G))) (T : List Value) (G : GS) (hT : T.length = 42) : Ref (b53_0 true e lp (nth undef T) G) (mapE ((E orc).lp (subAt [1, 1, 1, 0, 1, 0, 0] (bodyOf Tryz.f53)) T G)) :=
  fun r hr => lp_sxM Q orc G hT (by kernel_rfl) (mb53_0 h ⟨hlp⟩ _ _ r hr)
/-- (*coxswain/cells.Mem).Words -/
noncomputable def s53 (q : Bool) (e : Ex) (v0 : Value) (G : GS) : Option (Value × GS) :=
  bP (ep Q q false 32 (.tmp 6) (.const (.pointer none)) v0 (.pointer none)) fun x0 =>
  bS (gd x0 false (some (v0, G)) G) fun x1 G2 =>
  bS (gd x0 false (bP (pNil x1) fun y => some (y, G2)) G2) fun x3 G4 =>
  bS (gd x0 false (bP (fa Q q 158 0 0 x3) fun y => some (y, G4)) G4) fun x5 G6 =>
  bS (gd x0 false (bP (ld Q q 153 x5 G6) fun y => some (y, G6)) G6) fun x7 G8 =>
  bS (gd x0 false (bP (ep Q q false 153 (.tmp 12) (.const (.pointer none)) x7 (.pointer none)) fun y => some (y, G8)) G8) fun x9 G10 =>
  bP (pickV x0 (.bool true) x9) fun x11 =>
  ifV x11 (
  some ((.slice none 0 0), G10)) (
  bP (pNil v0) fun x12 =>
  bP (fa Q q 158 1 1 x12) fun x13 =>
  bP (ld Q q 3 x13 G10) fun x14 =>
  bS (mk Q q 111 1 8 z41 x14 x14 G10) fun x15 G16 =>
  bP (pNil v0) fun x17 =>
  bP (fa Q q 158 0 0 x17) fun x18 =>
  bP (ld Q q 153 x18 (G16.room 12)) fun x19 =>
  bP (pNil x19) fun x20 =>
  bP (pNil v0) fun x21 =>
  bP (fa Q q 158 1 1 x21) fun x22 =>
  bP (ld Q q 3 x22 (G16.room 12)) fun x23 =>
  bP (sla Q q 156 4096 1 x20 none (some x23) none (G16.room 12)) fun x24 =>
  bP (ln Q q 253 x24) fun x25 =>
  bL q e 53 0 (subAt [1, 1, 1, 0, 1, 0, 0] (bodyOf Tryz.f53)) 42 (tu (nth undef [v0]) [(2, (.slice none 0 0)), (3, x15), (6, v0), (7, x0), (8, x0), (9, x1), (10, x3), (11, x5), (12, x7), (13, x9), (14, x11), (15, v0), (16, x12), (17, x13), (18, x14), (19, x15), (20, v0), (21, x17), (22, x18), (23, x19), (24, x20), (25, v0), (26, x21), (27, x22), (28, x23), (29, x24), (30, x25), (31, (.int .i64 0))]) (G16.room 12) fun e26 t27 G28 =>
  bV q (t27 3) fun t27x3_ =>
  ifE e26 (.exit 0) (
  some (t27x3_, G28)) (none))
theorem m53 {e : Ex} {E : Ev} (h : ExLe Q e E) (v0 : Value) (G : GS) : Ref (s53 true e v0 G) (s53 false (Ex.of E) v0 G) := by
  unfold s53
  exact Ref.go
theorem f53 {orc : FuncId → Bool} {e : Ex} (h : ExLe Q e (E orc)) (v0 : Value) (G : GS) : Ref (s53 true e v0 G) ((E orc).cl 53 [v0] G) :=
  fun r hr => cl_sxE_some Q orc (vs := [v0]) G Tryz.func53 (by kernel_rfl) (by kernel_rfl) (by kernel_rfl) (by kernel_rfl) (by kernel_rfl) (by kernel_rfl) (m53 h v0 G r hr)
/-- (*coxswain/cells.Mem).CAS -/
noncomputable def s68 (q : Bool) (e : Ex) (v0 v1 v2 v3 : Value) (G : GS) : Option (Value × GS) :=
  bS (e.ev.cl 158 [v0, v1] G) fun x0 G1 =>
  bP (bd Q q 246 z246 [(0, 0, 1), (1, 1, 1), (2, 2, 1)] [x0, v2, v3]) fun x2 =>
  bS (al Q q 246 z246 G1) fun x3 G4 =>
  bP (st Q q 246 3 x3 x2 G4) fun G5 =>
  bP (fa Q q 246 0 0 x3) fun x6 =>
  bP (ld Q q 243 x6 G5) fun x7 =>
  bP (lda Q q 246 3 x3 G5) fun x8 =>
  bS (e.ev.cl 159 [v0, (.int .i64 3), v1, x7, (.func (.func 193) #[x8] #[])] G5) fun x9 G10 =>
  bP (fd Q q 68 4 4 x9) fun x11 =>
  some (x11, G10)
theorem m68 {e : Ex} {E : Ev} (h : ExLe Q e E) (v0 v1 v2 v3 : Value) (G : GS) : Ref (s68 true e v0 v1 v2 v3 G) (s68 false (Ex.of E) v0 v1 v2 v3 G) := by
  unfold s68
  exact Ref.go
theorem f68 {orc : FuncId → Bool} {e : Ex} (h : ExLe Q e (E orc)) (v0 v1 v2 v3 : Value) (G : GS) : Ref (s68 true e v0 v1 v2 v3 G) ((E orc).cl 68 [v0, v1, v2, v3] G) :=
  fun r hr => cl_sxE_some Q orc (vs := [v0, v1, v2, v3]) G Tryz.func68 (by kernel_rfl) (by kernel_rfl) (by kernel_rfl) (by kernel_rfl) (by kernel_rfl) (by kernel_rfl) (m68 h v0 v1 v2 v3 G r hr)
/-- coxswain/tower.Next -/
noncomputable def s69 (q : Bool) (e : Ex) (v0 v1 v2 : Value) (G : GS) : Option (Value × GS) :=
  bS (bx q v0 G) fun x0 G1 =>
  bP (bn Q q .lss 3 (.tmp 7) (.const (.int .i64 0)) v2 (.int .i64 0)) fun x2 =>
  bS (gd x2 false (some (v2, G1)) G1) fun x3 G4 =>
  bS (gd x2 false (bP (bn Q q .geq 3 (.tmp 10) (.const (.int .i64 4)) x3 (.int .i64 4)) fun y => some (y, G4)) G4) fun x5 G6 =>
  bP (pickV x2 (.bool true) x5) fun x7 =>
  ifV x7 (
  some ((.int .i64 (-1)), G6)) (
  bP (lda Q q 31 13 x0 G6) fun x8 =>
  bP (bn Q q .add 3 (.const (.int .i64 4)) (.tmp 15) (.int .i64 4) v2) fun x9 =>
  bS (e.ev.cl 191 [x8, v1, x9] G6) fun x10 G11 =>
  some (x10, G11))
theorem m69 {e : Ex} {E : Ev} (h : ExLe Q e E) (v0 v1 v2 : Value) (G : GS) : Ref (s69 true e v0 v1 v2 G) (s69 false (Ex.of E) v0 v1 v2 G) := by
  unfold s69
  exact Ref.go
theorem f69 {orc : FuncId → Bool} {e : Ex} (h : ExLe Q e (E orc)) (v0 v1 v2 : Value) (G : GS) : Ref (s69 true e v0 v1 v2 G) ((E orc).cl 69 [v0, v1, v2] G) :=
  fun r hr => cl_sxE_some Q orc (vs := [v0, v1, v2]) G Tryz.func69 (by kernel_rfl) (by kernel_rfl) (by kernel_rfl) (by kernel_rfl) (by kernel_rfl) (by kernel_rfl) (m69 h v0 v1 v2 G r hr)
/-- coxswain/find.NewFind -/
noncomputable def s72 (q : Bool) (e : Ex) (v0 v1 : Value) (G : GS) : Option (Value × GS) :=
  bS (bx q v0 G) fun x0 G1 =>
  bP (lda Q q 31 13 x0 G1) fun x2 =>
  bP (bd Q q 283 z283 [(0, 0, 13), (1, 13, 1), (7, 22, 1)] [x2, v1, (.bool true)]) fun x3 =>
  bS (bx q x3 G1) fun x4 G5 =>
  bP (lda Q q 31 13 x0 G5) fun x6 =>
  bS (e.ev.cl 69 [x6, (.int .i64 (-1)), (.int .i64 0)] G5) fun x7 G8 =>
  bP (bn Q q .lss 3 (.tmp 11) (.const (.int .i64 0)) x7 (.int .i64 0)) fun x9 =>
  ifV x9 (
  bP (pNil x4) fun x10 =>
  bP (fa Q q 283 2 14 x10) fun x11 =>
  bP (st Q q 3 1 x11 (.int .i64 9) G8) fun G12 =>
  bP (pNil x4) fun x13 =>
  bP (fa Q q 283 8 23 x13) fun x14 =>
  bP (st Q q 33 1 x14 (.int .i64 2) G12) fun G15 =>
  some (x4, G15)) (
  bP (fa Q q 31 2 2 x0) fun x16 =>
  bP (ld Q q 3 x16 G8) fun x17 =>
  bS (mk Q q 281 4 32 z280 x17 x17 G8) fun x18 G19 =>
  bP (pNil x4) fun x20 =>
  bP (fa Q q 283 5 20 x20) fun x21 =>
  bP (st Q q 281 1 x21 x18 G19) fun G22 =>
  bS (e.ev.cl 195 [x4] G22) fun x23 G24 =>
  some (x4, G24))
theorem m72 {e : Ex} {E : Ev} (h : ExLe Q e E) (v0 v1 : Value) (G : GS) : Ref (s72 true e v0 v1 G) (s72 false (Ex.of E) v0 v1 G) := by
  unfold s72
  exact Ref.go
theorem f72 {orc : FuncId → Bool} {e : Ex} (h : ExLe Q e (E orc)) (v0 v1 : Value) (G : GS) : Ref (s72 true e v0 v1 G) ((E orc).cl 72 [v0, v1] G) :=
  fun r hr => cl_sxE_some Q orc (vs := [v0, v1]) G Tryz.func72 (by kernel_rfl) (by kernel_rfl) (by kernel_rfl) (by kernel_rfl) (by kernel_rfl) (by kernel_rfl) (m72 h v0 v1 G r hr)
/-- coxswain/audit.of -/
noncomputable def s87 (q : Bool) (e : Ex) (v0 v1 : Value) (G : GS) : Option (Value × GS) :=
  bS (bx q v0 G) fun x0 G1 =>
  bS (al Q q 174 z174 G1) fun x2 G3 =>
  bP (lda Q q 31 13 x0 (G3.room 6)) fun x4 =>
  bS (e.ev.cl 53 [v1] (G3.room 6)) fun x6 G5 =>
  chk ((sameO (lda Q q 31 13 x0 G5) x4 && true)) <|
  bP (bd Q q 174 z174 [(0, 0, 13), (1, 13, 1), (2, 14, 1)] [x4, v1, x6]) fun x7 =>
  bP (st Q q 174 15 x2 x7 G5) fun G8 =>
  bP (lda Q q 174 15 x2 G8) fun x9 =>
  some (x9, G8)
theorem m87 {e : Ex} {E : Ev} (h : ExLe Q e E) (v0 v1 : Value) (G : GS) : Ref (s87 true e v0 v1 G) (s87 false (Ex.of E) v0 v1 G) := by
  unfold s87
  exact Ref.go
theorem f87 {orc : FuncId → Bool} {e : Ex} (h : ExLe Q e (E orc)) (v0 v1 : Value) (G : GS) : Ref (s87 true e v0 v1 G) ((E orc).cl 87 [v0, v1] G) :=
  fun r hr => cl_sxE_some Q orc (vs := [v0, v1]) G Tryz.func87 (by kernel_rfl) (by kernel_rfl) (by kernel_rfl) (by kernel_rfl) (by kernel_rfl) (by kernel_rfl) (m87 h v0 v1 G r hr)
/-- (coxswain/audit.whole).right -/
noncomputable def s88 (q : Bool) (e : Ex) (v0 v1 v2 : Value) (G : GS) : Option (Value × GS) :=
  bS (bx q v0 G) fun x0 G1 =>
  bS (e.ev.cl 203 [v1] G1) fun x2 G3 =>
  bP (pExtract x2 0) fun x4 =>
  bP (pExtract x2 1) fun x5 =>
  bS (al Q q 289 z289 G3) fun x6 G7 =>
  bP (st Q q 289 3 x6 x4 G7) fun G8 =>
  bP (bn Q q .eql 33 (.tmp 14) (.const (.int .i64 0)) x5 (.int .i64 0)) fun x9 =>
  bS (gd x9 true (bP (fa Q q 289 2 2 x6) fun y => some (y, (G8.room 30))) (G8.room 30)) fun x10 _ =>
  bS (gd x9 true (bP (ld Q q 4 x10 (G8.room 30)) fun y => some (y, (G8.room 30))) (G8.room 30)) fun x11 _ =>
  bS (gd x9 true (bP (un Q q .not x11) fun y => some (y, (G8.room 30))) (G8.room 30)) fun x12 _ =>
  bP (pickV x9 x12 (.bool false)) fun x13 =>
  bS (gd x13 true (bP (fa Q q 289 0 0 x6) fun y => some (y, (G8.room 30))) (G8.room 30)) fun x14 _ =>
  bS (gd x13 true (bP (ld Q q 3 x14 (G8.room 30)) fun y => some (y, (G8.room 30))) (G8.room 30)) fun x15 _ =>
  bS (gd x13 true (some (v2, (G8.room 30))) (G8.room 30)) fun x16 _ =>
  bS (gd x13 true (bP (bn Q q .eql 3 (.tmp 23) (.tmp 24) x15 x16) fun y => some (y, (G8.room 30))) (G8.room 30)) fun x17 _ =>
  bP (pickV x13 x17 (.bool false)) fun x18 =>
  bS (gd x18 true (bP (fa Q q 289 1 1 x6) fun y => some (y, (G8.room 30))) (G8.room 30)) fun x19 _ =>
  bS (gd x18 true (bP (ld Q q 3 x19 (G8.room 30)) fun y => some (y, (G8.room 30))) (G8.room 30)) fun x20 _ =>
  bS (gd x18 true (bP (cv Q q 3 41 .i64 .u64 x20) fun y => some (y, (G8.room 30))) (G8.room 30)) fun x21 _ =>
  bS (gd x18 true (bP (fa Q q 174 0 0 x0) fun y => some (y, (G8.room 30))) (G8.room 30)) fun x22 _ =>
  bS (gd x18 true (bP (fa Q q 31 3 3 x22) fun y => some (y, (G8.room 30))) (G8.room 30)) fun x23 _ =>
  bS (gd x18 true (bP (fa Q q 29 0 0 x23) fun y => some (y, (G8.room 30))) (G8.room 30)) fun x24 _ =>
  bS (gd x18 true (bP (fa Q q 25 1 3 x24) fun y => some (y, (G8.room 30))) (G8.room 30)) fun x25 _ =>
  bS (gd x18 true (bP (ld Q q 3 x25 (G8.room 30)) fun y => some (y, (G8.room 30))) (G8.room 30)) fun x26 _ =>
  bS (gd x18 true (some (v2, (G8.room 30))) (G8.room 30)) fun x27 _ =>
  bS (gd x18 true (bP (bn Q q .add 3 (.tmp 35) (.tmp 36) x26 x27) fun y => some (y, (G8.room 30))) (G8.room 30)) fun x28 _ =>
  bS (gd x18 true (bP (lda Q q 174 15 x0 (G8.room 30)) fun y => some (y, (G8.room 30))) (G8.room 30)) fun x29 _ =>
  bS (gd x18 true (some ((.func (.func 91) #[x29] #[]), (G8.room 30))) (G8.room 30)) fun x30 _ =>
  bS (gd x18 true (bS (e.ev.cl 204 [x28, x30, (.int .u64 4294967296)] (G8.room 30)) fun y G => some (y, G)) (G8.room 30)) fun x32 G31 =>
  chk (((!(gB x18 true) || (!(gB x18 true) || sameO (ld Q q 3 x19 G31) x20)) && true)) <|
  bS (gd x18 true (bP (bn Q q .eql 41 (.tmp 30) (.tmp 40) x21 x32) fun y => some (y, G31)) G31) fun x33 _ =>
  bP (pickV x18 x33 (.bool false)) fun x34 =>
  some (x34, G31)
theorem m88 {e : Ex} {E : Ev} (h : ExLe Q e E) (v0 v1 v2 : Value) (G : GS) : Ref (s88 true e v0 v1 v2 G) (s88 false (Ex.of E) v0 v1 v2 G) := by
  unfold s88
  exact Ref.go
theorem f88 {orc : FuncId → Bool} {e : Ex} (h : ExLe Q e (E orc)) (v0 v1 v2 : Value) (G : GS) : Ref (s88 true e v0 v1 v2 G) ((E orc).cl 88 [v0, v1, v2] G) :=
  fun r hr => cl_sxE_some Q orc (vs := [v0, v1, v2]) G Tryz.func88 (by kernel_rfl) (by kernel_rfl) (by kernel_rfl) (by kernel_rfl) (by kernel_rfl) (by kernel_rfl) (m88 h v0 v1 v2 G r hr)
/-- coxswain/audit.sound -/
noncomputable def s89 (q : Bool) (e : Ex) (v0 : Value) (G : GS) : Option (Value × GS) :=
  bS (bx q v0 G) fun x0 G1 =>
  bP (lda Q q 31 13 x0 G1) fun x2 =>
  bS (e.ev.cl 69 [x2, (.int .i64 (-1)), (.int .i64 0)] G1) fun x3 G4 =>
  bP (bn Q q .geq 3 (.tmp 4) (.const (.int .i64 0)) x3 (.int .i64 0)) fun x5 =>
  some (x5, G4)
theorem m89 {e : Ex} {E : Ev} (h : ExLe Q e E) (v0 : Value) (G : GS) : Ref (s89 true e v0 G) (s89 false (Ex.of E) v0 G) := by
  unfold s89
  exact Ref.go
theorem f89 {orc : FuncId → Bool} {e : Ex} (h : ExLe Q e (E orc)) (v0 : Value) (G : GS) : Ref (s89 true e v0 G) ((E orc).cl 89 [v0] G) :=
  fun r hr => cl_sxE_some Q orc (vs := [v0]) G Tryz.func89 (by kernel_rfl) (by kernel_rfl) (by kernel_rfl) (by kernel_rfl) (by kernel_rfl) (by kernel_rfl) (m89 h v0 G r hr)
/-- (coxswain/audit.whole).places -/
noncomputable def s90 (q : Bool) (e : Ex) (v0 : Value) (G : GS) : Option (Value × GS) :=
  bS (bx q v0 G) fun x0 G1 =>
  some ((.func (.func 205) #[] #[x0]), G1)
theorem m90 {e : Ex} {E : Ev} (h : ExLe Q e E) (v0 : Value) (G : GS) : Ref (s90 true e v0 G) (s90 false (Ex.of E) v0 G) := by
  unfold s90
  exact Ref.go
theorem f90 {orc : FuncId → Bool} {e : Ex} (h : ExLe Q e (E orc)) (v0 : Value) (G : GS) : Ref (s90 true e v0 G) ((E orc).cl 90 [v0] G) :=
  fun r hr => cl_sxE_some Q orc (vs := [v0]) G Tryz.func90 (by kernel_rfl) (by kernel_rfl) (by kernel_rfl) (by kernel_rfl) (by kernel_rfl) (by kernel_rfl) (m90 h v0 G r hr)
/-- (coxswain/audit.whole).at -/
noncomputable def s91 (q : Bool) (e : Ex) (v0 v1 : Value) (G : GS) : Option (Value × GS) :=
  bS (bx q v0 G) fun x0 G1 =>
  bP (bn Q q .lss 3 (.tmp 5) (.const (.int .i64 0)) v1 (.int .i64 0)) fun x2 =>
  bS (gd x2 false (some (v1, G1)) G1) fun x3 G4 =>
  bS (gd x2 false (bP (fa Q q 174 2 14 x0) fun y => some (y, G4)) G4) fun x5 G6 =>
  bS (gd x2 false (bP (ld Q q 111 x5 G6) fun y => some (y, G6)) G6) fun x7 G8 =>
  bS (gd x2 false (bP (ln Q q 111 x7) fun y => some (y, G8)) G8) fun x9 G10 =>
  bS (gd x2 false (bP (bn Q q .geq 3 (.tmp 8) (.tmp 11) x3 x9) fun y => some (y, G10)) G10) fun x11 G12 =>
  bP (pickV x2 (.bool true) x11) fun x13 =>
  ifV x13 (
  some ((.int .u64 0), G12)) (
  bP (fa Q q 174 2 14 x0) fun x14 =>
  bP (ld Q q 111 x14 G12) fun x15 =>
  bP (ias Q q 111 1 x15 v1) fun x16 =>
  bP (ld Q q 41 x16 G12) fun x17 =>
  some (x17, G12))
theorem m91 {e : Ex} {E : Ev} (h : ExLe Q e E) (v0 v1 : Value) (G : GS) : Ref (s91 true e v0 v1 G) (s91 false (Ex.of E) v0 v1 G) := by
  unfold s91
  exact Ref.go
theorem f91 {orc : FuncId → Bool} {e : Ex} (h : ExLe Q e (E orc)) (v0 v1 : Value) (G : GS) : Ref (s91 true e v0 v1 G) ((E orc).cl 91 [v0, v1] G) :=
  fun r hr => cl_sxE_some Q orc (vs := [v0, v1]) G Tryz.func91 (by kernel_rfl) (by kernel_rfl) (by kernel_rfl) (by kernel_rfl) (by kernel_rfl) (by kernel_rfl) (m91 h v0 v1 G r hr)
/-- (coxswain/audit.whole).linked -/
noncomputable def s92 (q : Bool) (e : Ex) (v0 : Value) (G : GS) : Option (Value × GS) :=
  bS (bx q v0 G) fun x0 G1 =>
  bP (lda Q q 174 15 x0 G1) fun x2 =>
  bS (e.ev.cl 206 [x2, (.int .i64 0), (.func (.func 207) #[] #[x0])] G1) fun x3 G4 =>
  bP (un Q q .not x3) fun x5 =>
  ifV x5 (
  some ((.int .i64 5), G4)) (
  some ((.int .i64 0), G4))
theorem m92 {e : Ex} {E : Ev} (h : ExLe Q e E) (v0 : Value) (G : GS) : Ref (s92 true e v0 G) (s92 false (Ex.of E) v0 G) := by
  unfold s92
  exact Ref.go
theorem f92 {orc : FuncId → Bool} {e : Ex} (h : ExLe Q e (E orc)) (v0 : Value) (G : GS) : Ref (s92 true e v0 G) ((E orc).cl 92 [v0] G) :=
  fun r hr => cl_sxE_some Q orc (vs := [v0]) G Tryz.func92 (by kernel_rfl) (by kernel_rfl) (by kernel_rfl) (by kernel_rfl) (by kernel_rfl) (by kernel_rfl) (m92 h v0 G r hr)
/-- (coxswain/audit.whole).rises -/
noncomputable def s93 (q : Bool) (e : Ex) (v0 : Value) (G : GS) : Option (Value × GS) :=
  bS (bx q v0 G) fun x0 G1 =>
  bS (al Q q 180 z180 G1) fun x2 G3 =>
  bP (st Q q 180 1 x2 (.func (.func 208) #[] #[x0]) G3) fun G4 =>
  bP (lda Q q 174 15 x0 G4) fun x5 =>
  bS (e.ev.cl 206 [x5, (.int .i64 0), (.func (.func 209) #[] #[x2])] G4) fun x6 G7 =>
  bP (un Q q .not x6) fun x8 =>
  ifV x8 (
  some ((.int .i64 9), G7)) (
  some ((.int .i64 0), G7))
theorem m93 {e : Ex} {E : Ev} (h : ExLe Q e E) (v0 : Value) (G : GS) : Ref (s93 true e v0 G) (s93 false (Ex.of E) v0 G) := by
  unfold s93
  exact Ref.go
theorem f93 {orc : FuncId → Bool} {e : Ex} (h : ExLe Q e (E orc)) (v0 : Value) (G : GS) : Ref (s93 true e v0 G) ((E orc).cl 93 [v0] G) :=
  fun r hr => cl_sxE_some Q orc (vs := [v0]) G Tryz.func93 (by kernel_rfl) (by kernel_rfl) (by kernel_rfl) (by kernel_rfl) (by kernel_rfl) (by kernel_rfl) (m93 h v0 G r hr)
/-- (coxswain/audit.whole).stands -/
noncomputable def s94 (q : Bool) (e : Ex) (v0 : Value) (G : GS) : Option (Value × GS) :=
  bS (bx q v0 G) fun x0 G1 =>
  bP (fa Q q 174 0 0 x0) fun x2 =>
  bP (lda Q q 31 13 x2 G1) fun x3 =>
  bP (fa Q q 174 1 13 x0) fun x4 =>
  bP (ld Q q 32 x4 G1) fun x5 =>
  bS (e.ev.cl 201 [x3, (.int .i64 0), x5] G1) fun x6 G7 =>
  bS (al Q q 78 z78 G7) fun x8 G9 =>
  bP (st Q q 78 1 x8 x6 G9) fun G10 =>
  bP (lda Q q 174 15 x0 G10) fun x11 =>
  bS (e.ev.cl 206 [x11, (.int .i64 1), (.func (.func 210) #[] #[x8, x0])] G10) fun x12 G13 =>
  bP (un Q q .not x12) fun x14 =>
  ifV x14 (
  some ((.int .i64 11), G13)) (
  some ((.int .i64 0), G13))
theorem m94 {e : Ex} {E : Ev} (h : ExLe Q e E) (v0 : Value) (G : GS) : Ref (s94 true e v0 G) (s94 false (Ex.of E) v0 G) := by
  unfold s94
  exact Ref.go
theorem f94 {orc : FuncId → Bool} {e : Ex} (h : ExLe Q e (E orc)) (v0 : Value) (G : GS) : Ref (s94 true e v0 G) ((E orc).cl 94 [v0] G) :=
  fun r hr => cl_sxE_some Q orc (vs := [v0]) G Tryz.func94 (by kernel_rfl) (by kernel_rfl) (by kernel_rfl) (by kernel_rfl) (by kernel_rfl) (by kernel_rfl) (m94 h v0 G r hr)
/-- (coxswain/audit.whole).once -/
noncomputable def s95 (q : Bool) (e : Ex) (v0 : Value) (G : GS) : Option (Value × GS) :=
  bS (bx q v0 G) fun x0 G1 =>
  bS (al Q q 33 z33 G1) fun x2 G3 =>
  bP (fa Q q 174 0 0 x0) fun x4 =>
  bP (fa Q q 31 3 3 x4) fun x5 =>
  bP (fa Q q 29 0 0 x5) fun x6 =>
  bP (fa Q q 25 0 0 x6) fun x7 =>
  bP (fa Q q 23 2 2 x7) fun x8 =>
  bP (ld Q q 3 x8 G3) fun x9 =>
  bS (mk Q q 256 1 1 z4 x9 x9 G3) fun x10 G11 =>
  bS (al Q q 256 z256 G11) fun x12 G13 =>
  bP (st Q q 256 1 x12 x10 G13) fun G14 =>
  bP (lda Q q 174 15 x0 G14) fun x15 =>
  bS (e.ev.cl 90 [x15] G14) fun x16 G17 =>
  bX (xRange e.ev x16 #[14, 15] (subAt [1, 1, 0, 1, 0, 0] (bodyOf Tryz.f95)) (subAt [1, 1, 0, 1, 0, 1] (bodyOf Tryz.f95)) (lst 23 (tu (nth undef [v0]) [(1, x0), (2, x2), (3, x12), (5, x4), (6, x5), (7, x6), (8, x7), (9, x8), (10, x9), (11, x10), (12, x15), (13, x16)])) G17) fun e18 T19 G20 =>
  bV q (nth undef T19 2) fun T19x2_ =>
  ifE e18 .normal (
  bP (st Q q 33 1 T19x2_ (.int .i64 0) G20) fun G21 =>
  bP (ld Q q 33 T19x2_ G21) fun x22 =>
  some (x22, G21)) (ifE e18 .ret (
  bP (ld Q q 33 T19x2_ G20) fun x23 =>
  some (x23, G20)) (none))
theorem m95 {e : Ex} {E : Ev} (h : ExLe Q e E) (v0 : Value) (G : GS) : Ref (s95 true e v0 G) (s95 false (Ex.of E) v0 G) := by
  unfold s95
  exact Ref.go
theorem f95 {orc : FuncId → Bool} {e : Ex} (h : ExLe Q e (E orc)) (v0 : Value) (G : GS) : Ref (s95 true e v0 G) ((E orc).cl 95 [v0] G) :=
  fun r hr => cl_sxE_some Q orc (vs := [v0]) G Tryz.func95 (by kernel_rfl) (by kernel_rfl) (by kernel_rfl) (by kernel_rfl) (by kernel_rfl) (by kernel_rfl) (m95 h v0 G r hr)
noncomputable def b96_0 (q : Bool) (e : Ex) (lp : Env → GS → Option (Exit × Env × GS)) (τ : Env) (G : GS) : Option (Exit × Env × GS) :=
  bV q (τ 11) fun a11_ =>
  bV q (τ 12) fun a12_ =>
  bV q (τ 13) fun a13_ =>
  bP (bn Q q .lss 3 (.tmp 13) (.tmp 12) a13_ a12_) fun x0 =>
  ifV x0 (
  bP (ias Q q 78 1 a11_ a13_) fun x1 =>
  bP (ld Q q 3 x1 G) fun x2 =>
  bP (bn Q q .geq 3 (.tmp 17) (.const (.int .i64 0)) x2 (.int .i64 0)) fun x3 =>
  ifV x3 (
  some (.ret, clq q 20 (tu τ [(11, a11_), (12, a12_), (13, a13_), (2, (.int .i64 14)), (4, x2), (14, x0), (15, x1), (16, x2), (17, x2), (18, x3)]), G)) (
  bP (bn Q q .add 3 (.tmp 13) (.const (.int .i64 1)) a13_ (.int .i64 1)) fun x4 =>
  lp (tu τ [(11, a11_), (12, a12_), (13, x4), (4, x2), (14, x0), (15, x1), (16, x2), (17, x2), (18, x3), (19, x4)]) G)) (
  some ((.exit 0), clq q 20 (tu τ [(11, a11_), (12, a12_), (13, a13_), (14, x0)]), G))
theorem mb96_0 {e : Ex} {E : Ev} (h : ExLe Q e E) {lp lp' : Env → GS → Option (Exit × Env × GS)} (hlp : LpLe lp lp') (τ : Env) (G : GS) : Ref (b96_0 true e lp τ G) (b96_0 false (Ex.of E) lp' τ G) := by
  unfold b96_0
  exact Ref.go
theorem l96_0 {orc : FuncId → Bool} {e : Ex} (h : ExLe Q e (E orc)) (lp : Env → GS → Option (Exit × Env × GS)) (hlp : ∀ τ G, Ref (lp τ G) (mapE ((E orc).lp (subAt [1, 0, 1, 0, 0] (bodyOf Tryz.f96)) (lst 20 τ) G))) (T : List Value) (G : GS) (hT : T.length = 20) : Ref (b96_0 true e lp (nth undef T) G) (mapE ((E orc).lp (subAt [1, 0, 1, 0, 0] (bodyOf Tryz.f96)) T G)) :=
  fun r hr => lp_sxM Q orc G hT (by kernel_rfl) (mb96_0 h ⟨hlp⟩ _ _ r hr)
/-- (coxswain/audit.whole).idle -/
noncomputable def s96 (q : Bool) (e : Ex) (v0 : Value) (G : GS) : Option (Value × GS) :=
  bS (bx q v0 G) fun x0 G1 =>
  bP (fa Q q 174 0 0 x0) fun x2 =>
  bP (fa Q q 31 3 3 x2) fun x3 =>
  bP (fa Q q 29 1 6 x3) fun x4 =>
  bP (lda Q q 27 3 x4 G1) fun x5 =>
  bP (fa Q q 174 1 13 x0) fun x6 =>
  bP (ld Q q 32 x6 G1) fun x7 =>
  bS (e.ev.cl 211 [x5, x7] G1) fun x8 G9 =>
  bP (ln Q q 78 x8) fun x10 =>
  bL q e 96 0 (subAt [1, 0, 1, 0, 0] (bodyOf Tryz.f96)) 20 (tu (nth undef [v0]) [(1, x0), (2, (.int .i64 0)), (5, x2), (6, x3), (7, x4), (8, x5), (9, x6), (10, x7), (11, x8), (12, x10), (13, (.int .i64 0))]) G9 fun e11 t12 G13 =>
  bV q (t12 2) fun t12x2_ =>
  ifE e11 (.exit 0) (
  some ((.int .i64 0), G13)) (ifE e11 .ret (
  some (t12x2_, G13)) (none))
theorem m96 {e : Ex} {E : Ev} (h : ExLe Q e E) (v0 : Value) (G : GS) : Ref (s96 true e v0 G) (s96 false (Ex.of E) v0 G) := by
  unfold s96
  exact Ref.go
theorem f96 {orc : FuncId → Bool} {e : Ex} (h : ExLe Q e (E orc)) (v0 : Value) (G : GS) : Ref (s96 true e v0 G) ((E orc).cl 96 [v0] G) :=
  fun r hr => cl_sxE_some Q orc (vs := [v0]) G Tryz.func96 (by kernel_rfl) (by kernel_rfl) (by kernel_rfl) (by kernel_rfl) (by kernel_rfl) (by kernel_rfl) (m96 h v0 G r hr)
/-- (coxswain/audit.whole).all -/
noncomputable def s97 (q : Bool) (e : Ex) (v0 : Value) (G : GS) : Option (Value × GS) :=
  bS (bx q v0 G) fun x0 G1 =>
  bP (fa Q q 174 0 0 x0) fun x2 =>
  bP (lda Q q 31 13 x2 G1) fun x3 =>
  bP (fa Q q 174 1 13 x0) fun x4 =>
  bP (ld Q q 32 x4 G1) fun x5 =>
  bS (e.ev.cl 25 [x3, x5] G1) fun x6 G7 =>
  bP (fd Q q 72 4 4 x6) fun x8 =>
  bP (bn Q q .neq 3 (.tmp 8) (.const (.int .i64 0)) x8 (.int .i64 0)) fun x9 =>
  ifV x9 (
  some ((.int .i64 10), G7)) (
  some ((.int .i64 0), G7))
theorem m97 {e : Ex} {E : Ev} (h : ExLe Q e E) (v0 : Value) (G : GS) : Ref (s97 true e v0 G) (s97 false (Ex.of E) v0 G) := by
  unfold s97
  exact Ref.go
theorem f97 {orc : FuncId → Bool} {e : Ex} (h : ExLe Q e (E orc)) (v0 : Value) (G : GS) : Ref (s97 true e v0 G) ((E orc).cl 97 [v0] G) :=
  fun r hr => cl_sxE_some Q orc (vs := [v0]) G Tryz.func97 (by kernel_rfl) (by kernel_rfl) (by kernel_rfl) (by kernel_rfl) (by kernel_rfl) (by kernel_rfl) (m97 h v0 G r hr)
/-- coxswain/coxswainlaw20.put -/
noncomputable def s98 (q : Bool) (e : Ex) (G : GS) : Option (Value × GS) :=
  bS (e.ev.cl 9 [(.int .i64 34)] G) fun x0 G1 =>
  bP (pExtract x0 0) fun x2 =>
  bP (pExtract x0 1) fun x3 =>
  bP (bn Q q .neq 33 (.tmp 7) (.const (.int .i64 0)) x3 (.int .i64 0)) fun x4 =>
  bS (gd x4 false (some (x2, G1)) G1) fun x5 G6 =>
  bS (gd x4 false (bP (ep Q q false 32 (.tmp 10) (.const (.pointer none)) x5 (.pointer none)) fun y => some (y, G6)) G6) fun x7 G8 =>
  bP (pickV x4 (.bool true) x7) fun x9 =>
  ifV x9 (
  some ((.pointer none), G8)) (
  bS (e.ev.cl 99 [] G8) fun x10 G11 =>
  bS (e.ev.cl 156 [x10, x2] G11) fun x12 G13 =>
  bS (e.ev.cl 212 [x2, (.int .u64 9), (.int .i64 5)] G13) fun x14 G15 =>
  bP (un Q q .not x14) fun x16 =>
  bS (gd x16 false (some (x2, G15)) G15) fun x17 G18 =>
  bS (gd x16 false (bS (e.ev.cl 212 [x17, (.int .u64 4), (.int .i64 6)] G18) fun y G => some (y, G)) G18) fun x19 G20 =>
  bS (gd x16 false (bP (un Q q .not x19) fun y => some (y, G20)) G20) fun x21 G22 =>
  bP (pickV x16 (.bool true) x21) fun x23 =>
  ifV x23 (
  some ((.pointer none), G22)) (
  some (x2, G22)))
theorem m98 {e : Ex} {E : Ev} (h : ExLe Q e E) (G : GS) : Ref (s98 true e  G) (s98 false (Ex.of E)  G) := by
  unfold s98
  exact Ref.go
theorem f98 {orc : FuncId → Bool} {e : Ex} (h : ExLe Q e (E orc)) (ho : orc 98 = false) (G : GS) : Ref (s98 true e  G) ((E orc).cl 98 [] G) :=
  fun r hr => cl_sxE_some Q orc (vs := []) G Tryz.func98 (by kernel_rfl) (by kernel_rfl) ho (by kernel_rfl) (by kernel_rfl) (by kernel_rfl) (m98 h  G r hr)
/-- coxswain/coxswainlaw20.chapter -/
noncomputable def s99 (q : Bool) (e : Ex) (G : GS) : Option (Value × GS) :=
  bS (al Q q 31 z31 G) fun x0 G1 =>
  bP (bd Q q 23 z23 [(0, 0, 1), (1, 1, 1), (2, 2, 1)] [(.int .i64 0), (.int .i64 1), (.int .i64 3)]) fun x2 =>
  bP (bd Q q 25 z25 [(0, 0, 3), (1, 3, 1), (2, 4, 1), (3, 5, 1)] [x2, (.int .i64 4), (.int .i64 7), (.int .i64 9)]) fun x3 =>
  bS (al Q q 25 z25 G1) fun x4 G5 =>
  bP (st Q q 25 6 x4 x3 G5) fun G6 =>
  bP (lda Q q 25 6 x4 G6) fun x7 =>
  bP (bd Q q 27 z27 [(0, 0, 1), (1, 1, 1), (2, 2, 1)] [(.int .i64 8), (.int .i64 9), (.int .i64 2)]) fun x8 =>
  bP (bd Q q 29 z29 [(0, 0, 6), (1, 6, 3), (2, 9, 1)] [x7, x8, (.int .i64 11)]) fun x9 =>
  bS (al Q q 29 z29 G6) fun x10 G11 =>
  bP (st Q q 29 10 x10 x9 G11) fun G12 =>
  bP (lda Q q 29 10 x10 G12) fun x13 =>
  bP (bd Q q 31 z31 [(0, 0, 1), (1, 1, 1), (2, 2, 1), (3, 3, 10)] [(.int .i64 16), (.int .i64 14), (.int .i64 2), x13]) fun x14 =>
  bP (st Q q 31 13 x0 x14 G12) fun G15 =>
  bP (lda Q q 31 13 x0 G15) fun x16 =>
  some (x16, G15)
theorem m99 {e : Ex} {E : Ev} (h : ExLe Q e E) (G : GS) : Ref (s99 true e  G) (s99 false (Ex.of E)  G) := by
  unfold s99
  exact Ref.go
theorem f99 {orc : FuncId → Bool} {e : Ex} (h : ExLe Q e (E orc)) (ho : orc 99 = false) (G : GS) : Ref (s99 true e  G) ((E orc).cl 99 [] G) :=
  fun r hr => cl_sxE_some Q orc (vs := []) G Tryz.func99 (by kernel_rfl) (by kernel_rfl) ho (by kernel_rfl) (by kernel_rfl) (by kernel_rfl) (m99 h  G r hr)
/-- coxswain/coxswainlaw20.held -/
noncomputable def s100 (q : Bool) (e : Ex) (v0 v1 v2 : Value) (G : GS) : Option (Value × GS) :=
  bS (e.ev.cl 99 [] G) fun x0 G1 =>
  bP (bd Q q 68 z68 [(0, 0, 1), (1, 1, 1)] [(.int .i64 1), v1]) fun x2 =>
  bS (e.ev.cl 23 [x0, v0, x2, v2] G1) fun x3 G4 =>
  some (x3, G4)
theorem m100 {e : Ex} {E : Ev} (h : ExLe Q e E) (v0 v1 v2 : Value) (G : GS) : Ref (s100 true e v0 v1 v2 G) (s100 false (Ex.of E) v0 v1 v2 G) := by
  unfold s100
  exact Ref.go
theorem f100 {orc : FuncId → Bool} {e : Ex} (h : ExLe Q e (E orc)) (v0 v1 v2 : Value) (G : GS) : Ref (s100 true e v0 v1 v2 G) ((E orc).cl 100 [v0, v1, v2] G) :=
  fun r hr => cl_sxE_some Q orc (vs := [v0, v1, v2]) G Tryz.func100 (by kernel_rfl) (by kernel_rfl) (by kernel_rfl) (by kernel_rfl) (by kernel_rfl) (by kernel_rfl) (m100 h v0 v1 v2 G r hr)
/-- coxswain/coxswainlaw20.spoilt -/
noncomputable def s101 (q : Bool) (e : Ex) (v0 v1 : Value) (G : GS) : Option (Value × GS) :=
  bS (e.ev.cl 98 [] G) fun x0 G1 =>
  bP (ep Q q false 32 (.tmp 7) (.const (.pointer none)) x0 (.pointer none)) fun x2 =>
  ifV x2 (
  some ((.int .i64 0), G1)) (
  bS (e.ev.cl 45 [x0, v0, v1] G1) fun x3 G4 =>
  bS (e.ev.cl 99 [] G4) fun x5 G6 =>
  bS (e.ev.cl 26 [x5, x0] G6) fun x7 G8 =>
  some (x7, G8))
theorem m101 {e : Ex} {E : Ev} (h : ExLe Q e E) (v0 v1 : Value) (G : GS) : Ref (s101 true e v0 v1 G) (s101 false (Ex.of E) v0 v1 G) := by
  unfold s101
  exact Ref.go
theorem f101 {orc : FuncId → Bool} {e : Ex} (h : ExLe Q e (E orc)) (v0 v1 : Value) (G : GS) : Ref (s101 true e v0 v1 G) ((E orc).cl 101 [v0, v1] G) :=
  fun r hr => cl_sxE_some Q orc (vs := [v0, v1]) G Tryz.func101 (by kernel_rfl) (by kernel_rfl) (by kernel_rfl) (by kernel_rfl) (by kernel_rfl) (by kernel_rfl) (m101 h v0 v1 G r hr)
/-- coxswain/tower.sound -/
noncomputable def s102 (q : Bool) (e : Ex) (v0 : Value) (G : GS) : Option (Value × GS) :=
  bS (bx q v0 G) fun x0 G1 =>
  bP (fa Q q 31 3 3 x0) fun x2 =>
  bP (fa Q q 29 0 0 x2) fun x3 =>
  bP (fa Q q 25 0 0 x3) fun x4 =>
  bP (fa Q q 23 2 2 x4) fun x5 =>
  bP (ld Q q 3 x5 G1) fun x6 =>
  bP (fa Q q 31 2 2 x0) fun x7 =>
  bP (ld Q q 3 x7 G1) fun x8 =>
  bP (bn Q q .geq 3 (.tmp 10) (.const (.int .i64 1)) x8 (.int .i64 1)) fun x9 =>
  bS (gd x9 true (bP (fa Q q 31 2 2 x0) fun y => some (y, G1)) G1) fun x10 G11 =>
  bS (gd x9 true (bP (ld Q q 3 x10 G11) fun y => some (y, G11)) G11) fun x12 G13 =>
  bS (gd x9 true (bP (bn Q q .leq 3 (.tmp 14) (.const (.int .i64 4)) x12 (.int .i64 4)) fun y => some (y, G13)) G13) fun x14 G15 =>
  bP (pickV x9 x14 (.bool false)) fun x16 =>
  bS (gd x16 true (some (x6, G15)) G15) fun x17 G18 =>
  bS (gd x16 true (bP (bn Q q .geq 3 (.tmp 18) (.const (.int .i64 1)) x17 (.int .i64 1)) fun y => some (y, G18)) G18) fun x19 G20 =>
  bP (pickV x16 x19 (.bool false)) fun x21 =>
  bS (gd x21 true (some (x6, G20)) G20) fun x22 G23 =>
  bS (gd x21 true (bP (bn Q q .leq 3 (.tmp 22) (.const (.int .i64 128)) x22 (.int .i64 128)) fun y => some (y, G23)) G23) fun x24 G25 =>
  bP (pickV x21 x24 (.bool false)) fun x26 =>
  bS (gd x26 true (bP (fa Q q 31 0 0 x0) fun y => some (y, G25)) G25) fun x27 G28 =>
  bS (gd x26 true (bP (ld Q q 3 x27 G28) fun y => some (y, G28)) G28) fun x29 G30 =>
  bS (gd x26 true (bP (bn Q q .geq 3 (.tmp 27) (.const (.int .i64 0)) x29 (.int .i64 0)) fun y => some (y, G30)) G30) fun x31 G32 =>
  bP (pickV x26 x31 (.bool false)) fun x33 =>
  bS (gd x33 true (bP (fa Q q 31 0 0 x0) fun y => some (y, G32)) G32) fun x34 G35 =>
  bS (gd x33 true (bP (ld Q q 3 x34 G35) fun y => some (y, G35)) G35) fun x36 G37 =>
  bS (gd x33 true (bP (bn Q q .lss 3 (.tmp 32) (.const (.int .i64 4096)) x36 (.int .i64 4096)) fun y => some (y, G37)) G37) fun x38 G39 =>
  bP (pickV x33 x38 (.bool false)) fun x40 =>
  bS (gd x40 true (bP (fa Q q 31 1 1 x0) fun y => some (y, G39)) G39) fun x41 G42 =>
  bS (gd x40 true (bP (ld Q q 3 x41 G42) fun y => some (y, G42)) G42) fun x43 G44 =>
  bS (gd x40 true (bP (bn Q q .geq 3 (.tmp 37) (.const (.int .i64 0)) x43 (.int .i64 0)) fun y => some (y, G44)) G44) fun x45 G46 =>
  bP (pickV x40 x45 (.bool false)) fun x47 =>
  bS (gd x47 true (bP (fa Q q 31 1 1 x0) fun y => some (y, G46)) G46) fun x48 G49 =>
  bS (gd x47 true (bP (ld Q q 3 x48 G49) fun y => some (y, G49)) G49) fun x50 G51 =>
  bS (gd x47 true (bP (bn Q q .lss 3 (.tmp 42) (.const (.int .i64 4096)) x50 (.int .i64 4096)) fun y => some (y, G51)) G51) fun x52 G53 =>
  bP (pickV x47 x52 (.bool false)) fun x54 =>
  some (x54, G53)
theorem m102 {e : Ex} {E : Ev} (h : ExLe Q e E) (v0 : Value) (G : GS) : Ref (s102 true e v0 G) (s102 false (Ex.of E) v0 G) := by
  unfold s102
  exact Ref.go
theorem f102 {orc : FuncId → Bool} {e : Ex} (h : ExLe Q e (E orc)) (v0 : Value) (G : GS) : Ref (s102 true e v0 G) ((E orc).cl 102 [v0] G) :=
  fun r hr => cl_sxE_some Q orc (vs := [v0]) G Tryz.func102 (by kernel_rfl) (by kernel_rfl) (by kernel_rfl) (by kernel_rfl) (by kernel_rfl) (by kernel_rfl) (m102 h v0 G r hr)
/-- coxswain/tower.nodes -/
noncomputable def s103 (q : Bool) (e : Ex) (v0 : Value) (G : GS) : Option (Value × GS) :=
  bS (bx q v0 G) fun x0 G1 =>
  bS (al Q q 187 z187 G1) fun x2 G3 =>
  bP (fa Q q 31 0 0 x0) fun x4 =>
  bP (ld Q q 3 x4 G3) fun x5 =>
  bP (fa Q q 31 3 3 x0) fun x6 =>
  bP (fa Q q 29 0 0 x6) fun x7 =>
  bP (fa Q q 25 0 0 x7) fun x8 =>
  bP (fa Q q 23 2 2 x8) fun x9 =>
  bP (ld Q q 3 x9 G3) fun x10 =>
  bP (fa Q q 31 2 2 x0) fun x11 =>
  bP (ld Q q 3 x11 G3) fun x12 =>
  bP (bd Q q 187 z187 [(0, 0, 1), (1, 1, 1), (2, 2, 1)] [x5, x10, x12]) fun x13 =>
  bP (st Q q 187 3 x2 x13 G3) fun G14 =>
  bP (lda Q q 187 3 x2 G14) fun x15 =>
  some (x15, G14)
theorem m103 {e : Ex} {E : Ev} (h : ExLe Q e E) (v0 : Value) (G : GS) : Ref (s103 true e v0 G) (s103 false (Ex.of E) v0 G) := by
  unfold s103
  exact Ref.go
theorem f103 {orc : FuncId → Bool} {e : Ex} (h : ExLe Q e (E orc)) (v0 : Value) (G : GS) : Ref (s103 true e v0 G) ((E orc).cl 103 [v0] G) :=
  fun r hr => cl_sxE_some Q orc (vs := [v0]) G Tryz.func103 (by kernel_rfl) (by kernel_rfl) (by kernel_rfl) (by kernel_rfl) (by kernel_rfl) (by kernel_rfl) (m103 h v0 G r hr)
/-- (coxswain/tower.rows[coxswain/tower.node]).whose -/
noncomputable def s104 (q : Bool) (e : Ex) (v0 v1 : Value) (G : GS) : Option (Value × GS) :=
  bS (bx q v0 G) fun x0 G1 =>
  bP (fa Q q 187 0 0 x0) fun x2 =>
  bP (ld Q q 3 x2 (G1.room 18)) fun x3 =>
  bP (bn Q q .lss 3 (.tmp 7) (.tmp 9) v1 x3) fun x4 =>
  bS (gd x4 false (some (v1, (G1.room 18))) (G1.room 18)) fun x5 _ =>
  bS (gd x4 false (bP (fa Q q 187 0 0 x0) fun y => some (y, (G1.room 18))) (G1.room 18)) fun x6 _ =>
  bS (gd x4 false (bP (ld Q q 3 x6 (G1.room 18)) fun y => some (y, (G1.room 18))) (G1.room 18)) fun x7 _ =>
  bS (gd x4 false (bP (fa Q q 187 1 1 x0) fun y => some (y, (G1.room 18))) (G1.room 18)) fun x8 _ =>
  bS (gd x4 false (bP (ld Q q 3 x8 (G1.room 18)) fun y => some (y, (G1.room 18))) (G1.room 18)) fun x9 _ =>
  bS (gd x4 false (bP (fa Q q 187 2 2 x0) fun y => some (y, (G1.room 18))) (G1.room 18)) fun x10 _ =>
  bS (gd x4 false (bP (ld Q q 185 x10 (G1.room 18)) fun y => some (y, (G1.room 18))) (G1.room 18)) fun x11 _ =>
  bS (gd x4 false (bP (ifc Q q 185 x11) fun y => some (y, (G1.room 18))) (G1.room 18)) fun x12 _ =>
  bS (gd x4 false (bS (cInvoke Q e.ev x12 "coxswain/tower.cells" [] (G1.room 18)) fun y G => some (y, G)) (G1.room 18)) fun x14 G13 =>
  chk (((!(gB x4 false) || (!(gB x4 false) || sameO (ld Q q 3 x8 G13) x9)) && ((!(gB x4 false) || (!(gB x4 false) || sameO (ld Q q 3 x6 G13) x7)) && true))) <|
  bS (gd x4 false (bP (bn Q q .mul 3 (.tmp 16) (.tmp 20) x9 x14) fun y => some (y, G13)) G13) fun x15 _ =>
  bS (gd x4 false (bP (bn Q q .add 3 (.tmp 14) (.tmp 21) x7 x15) fun y => some (y, G13)) G13) fun x16 _ =>
  bS (gd x4 false (bP (bn Q q .geq 3 (.tmp 12) (.tmp 22) x5 x16) fun y => some (y, G13)) G13) fun x17 _ =>
  bP (pickV x4 (.bool true) x17) fun x18 =>
  ifV x18 (
  some (.tuple #[(.int .i64 0), (.int .i64 0), (.bool false)], G13)) (
  bP (fa Q q 187 0 0 x0) fun x19 =>
  bP (ld Q q 3 x19 (G13.room 21)) fun x20 =>
  bP (bn Q q .sub 3 (.tmp 25) (.tmp 27) v1 x20) fun x21 =>
  bP (fa Q q 187 2 2 x0) fun x22 =>
  bP (ld Q q 185 x22 (G13.room 21)) fun x23 =>
  bP (ifc Q q 185 x23) fun x24 =>
  bS (cInvoke Q e.ev x24 "coxswain/tower.cells" [] (G13.room 21)) fun x26 G25 =>
  chk ((sameO (ld Q q 3 x19 G25) x20 && true)) <|
  bP (bn Q q .quo 3 (.tmp 28) (.tmp 32) x21 x26) fun x27 =>
  bP (fa Q q 187 0 0 x0) fun x28 =>
  bP (ld Q q 3 x28 G25) fun x29 =>
  chk ((sameO (ld Q q 3 x28 (G13.room 21)) x29 && true)) <|
  bP (bn Q q .sub 3 (.tmp 34) (.tmp 36) v1 x29) fun x30 =>
  bP (fa Q q 187 2 2 x0) fun x31 =>
  bP (ld Q q 185 x31 G25) fun x32 =>
  chk ((sameO (ld Q q 185 x31 (G13.room 21)) x32 && true)) <|
  bP (ifc Q q 185 x32) fun x33 =>
  bS (cInvoke Q e.ev x33 "coxswain/tower.cells" [] G25) fun x35 G34 =>
  chk ((sameO (ld Q q 3 x28 G34) x29 && (sameO (ld Q q 3 x19 G34) x20 && true))) <|
  bP (bn Q q .rem 3 (.tmp 37) (.tmp 41) x30 x35) fun x36 =>
  some (.tuple #[x27, x36, (.bool true)], G34))
theorem m104 {e : Ex} {E : Ev} (h : ExLe Q e E) (v0 v1 : Value) (G : GS) : Ref (s104 true e v0 v1 G) (s104 false (Ex.of E) v0 v1 G) := by
  unfold s104
  exact Ref.go
theorem f104 {orc : FuncId → Bool} {e : Ex} (h : ExLe Q e (E orc)) (v0 v1 : Value) (G : GS) : Ref (s104 true e v0 v1 G) ((E orc).cl 104 [v0, v1] G) :=
  fun r hr => cl_sxE_some Q orc (vs := [v0, v1]) G Tryz.func104 (by kernel_rfl) (by kernel_rfl) (by kernel_rfl) (by kernel_rfl) (by kernel_rfl) (by kernel_rfl) (m104 h v0 v1 G r hr)
/-- coxswain/tower.heads -/
noncomputable def s105 (q : Bool) (e : Ex) (v0 : Value) (G : GS) : Option (Value × GS) :=
  bS (bx q v0 G) fun x0 G1 =>
  bS (al Q q 192 z192 G1) fun x2 G3 =>
  bP (fa Q q 31 1 1 x0) fun x4 =>
  bP (ld Q q 3 x4 G3) fun x5 =>
  bP (fa Q q 31 2 2 x0) fun x6 =>
  bP (ld Q q 3 x6 G3) fun x7 =>
  bP (bd Q q 192 z192 [(0, 0, 1), (1, 1, 1), (2, 2, 1)] [x5, (.int .i64 1), x7]) fun x8 =>
  bP (st Q q 192 3 x2 x8 G3) fun G9 =>
  bP (lda Q q 192 3 x2 G9) fun x10 =>
  some (x10, G9)
theorem m105 {e : Ex} {E : Ev} (h : ExLe Q e E) (v0 : Value) (G : GS) : Ref (s105 true e v0 G) (s105 false (Ex.of E) v0 G) := by
  unfold s105
  exact Ref.go
theorem f105 {orc : FuncId → Bool} {e : Ex} (h : ExLe Q e (E orc)) (v0 : Value) (G : GS) : Ref (s105 true e v0 G) ((E orc).cl 105 [v0] G) :=
  fun r hr => cl_sxE_some Q orc (vs := [v0]) G Tryz.func105 (by kernel_rfl) (by kernel_rfl) (by kernel_rfl) (by kernel_rfl) (by kernel_rfl) (by kernel_rfl) (m105 h v0 G r hr)
/-- (coxswain/tower.rows[coxswain/tower.head]).whose -/
noncomputable def s106 (q : Bool) (e : Ex) (v0 v1 : Value) (G : GS) : Option (Value × GS) :=
  bS (bx q v0 G) fun x0 G1 =>
  bP (fa Q q 192 0 0 x0) fun x2 =>
  bP (ld Q q 3 x2 (G1.room 18)) fun x3 =>
  bP (bn Q q .lss 3 (.tmp 7) (.tmp 9) v1 x3) fun x4 =>
  bS (gd x4 false (some (v1, (G1.room 18))) (G1.room 18)) fun x5 _ =>
  bS (gd x4 false (bP (fa Q q 192 0 0 x0) fun y => some (y, (G1.room 18))) (G1.room 18)) fun x6 _ =>
  bS (gd x4 false (bP (ld Q q 3 x6 (G1.room 18)) fun y => some (y, (G1.room 18))) (G1.room 18)) fun x7 _ =>
  bS (gd x4 false (bP (fa Q q 192 1 1 x0) fun y => some (y, (G1.room 18))) (G1.room 18)) fun x8 _ =>
  bS (gd x4 false (bP (ld Q q 3 x8 (G1.room 18)) fun y => some (y, (G1.room 18))) (G1.room 18)) fun x9 _ =>
  bS (gd x4 false (bP (fa Q q 192 2 2 x0) fun y => some (y, (G1.room 18))) (G1.room 18)) fun x10 _ =>
  bS (gd x4 false (bP (ld Q q 190 x10 (G1.room 18)) fun y => some (y, (G1.room 18))) (G1.room 18)) fun x11 _ =>
  bS (gd x4 false (bP (ifc Q q 190 x11) fun y => some (y, (G1.room 18))) (G1.room 18)) fun x12 _ =>
  bS (gd x4 false (bS (cInvoke Q e.ev x12 "coxswain/tower.cells" [] (G1.room 18)) fun y G => some (y, G)) (G1.room 18)) fun x14 G13 =>
  chk (((!(gB x4 false) || (!(gB x4 false) || sameO (ld Q q 3 x8 G13) x9)) && ((!(gB x4 false) || (!(gB x4 false) || sameO (ld Q q 3 x6 G13) x7)) && true))) <|
  bS (gd x4 false (bP (bn Q q .mul 3 (.tmp 16) (.tmp 20) x9 x14) fun y => some (y, G13)) G13) fun x15 _ =>
  bS (gd x4 false (bP (bn Q q .add 3 (.tmp 14) (.tmp 21) x7 x15) fun y => some (y, G13)) G13) fun x16 _ =>
  bS (gd x4 false (bP (bn Q q .geq 3 (.tmp 12) (.tmp 22) x5 x16) fun y => some (y, G13)) G13) fun x17 _ =>
  bP (pickV x4 (.bool true) x17) fun x18 =>
  ifV x18 (
  some (.tuple #[(.int .i64 0), (.int .i64 0), (.bool false)], G13)) (
  bP (fa Q q 192 0 0 x0) fun x19 =>
  bP (ld Q q 3 x19 (G13.room 21)) fun x20 =>
  bP (bn Q q .sub 3 (.tmp 25) (.tmp 27) v1 x20) fun x21 =>
  bP (fa Q q 192 2 2 x0) fun x22 =>
  bP (ld Q q 190 x22 (G13.room 21)) fun x23 =>
  bP (ifc Q q 190 x23) fun x24 =>
  bS (cInvoke Q e.ev x24 "coxswain/tower.cells" [] (G13.room 21)) fun x26 G25 =>
  chk ((sameO (ld Q q 3 x19 G25) x20 && true)) <|
  bP (bn Q q .quo 3 (.tmp 28) (.tmp 32) x21 x26) fun x27 =>
  bP (fa Q q 192 0 0 x0) fun x28 =>
  bP (ld Q q 3 x28 G25) fun x29 =>
  chk ((sameO (ld Q q 3 x28 (G13.room 21)) x29 && true)) <|
  bP (bn Q q .sub 3 (.tmp 34) (.tmp 36) v1 x29) fun x30 =>
  bP (fa Q q 192 2 2 x0) fun x31 =>
  bP (ld Q q 190 x31 G25) fun x32 =>
  chk ((sameO (ld Q q 190 x31 (G13.room 21)) x32 && true)) <|
  bP (ifc Q q 190 x32) fun x33 =>
  bS (cInvoke Q e.ev x33 "coxswain/tower.cells" [] G25) fun x35 G34 =>
  chk ((sameO (ld Q q 3 x28 G34) x29 && (sameO (ld Q q 3 x19 G34) x20 && true))) <|
  bP (bn Q q .rem 3 (.tmp 37) (.tmp 41) x30 x35) fun x36 =>
  some (.tuple #[x27, x36, (.bool true)], G34))
theorem m106 {e : Ex} {E : Ev} (h : ExLe Q e E) (v0 v1 : Value) (G : GS) : Ref (s106 true e v0 v1 G) (s106 false (Ex.of E) v0 v1 G) := by
  unfold s106
  exact Ref.go
theorem f106 {orc : FuncId → Bool} {e : Ex} (h : ExLe Q e (E orc)) (v0 v1 : Value) (G : GS) : Ref (s106 true e v0 v1 G) ((E orc).cl 106 [v0, v1] G) :=
  fun r hr => cl_sxE_some Q orc (vs := [v0, v1]) G Tryz.func106 (by kernel_rfl) (by kernel_rfl) (by kernel_rfl) (by kernel_rfl) (by kernel_rfl) (by kernel_rfl) (m106 h v0 v1 G r hr)
/-- coxswain/ready.NewPut -/
noncomputable def s107 (q : Bool) (e : Ex) (v0 v1 v2 v3 v4 : Value) (G : GS) : Option (Value × GS) :=
  bS (bx q v0 G) fun x0 G1 =>
  bP (lda Q q 31 13 x0 G1) fun x2 =>
  bS (e.ev.cl 213 [x2, v1] G1) fun x3 G4 =>
  bP (bd Q q 303 z303 [(0, 0, 19), (1, 19, 1), (2, 20, 1), (3, 21, 1)] [x3, v2, v3, v4]) fun x5 =>
  bS (bx q x5 G4) fun x6 G7 =>
  bP (pNil x6) fun x8 =>
  bP (fa Q q 303 0 0 x8) fun x9 =>
  bP (fa Q q 300 6 18 x9) fun x10 =>
  bP (ld Q q 33 x10 G7) fun x11 =>
  bP (bn Q q .eql 33 (.tmp 24) (.const (.int .i64 0)) x11 (.int .i64 0)) fun x12 =>
  bS (gd x12 true (some (v2, G7)) G7) fun x13 G14 =>
  bS (gd x12 true (bP (bn Q q .eql 41 (.tmp 27) (.const (.int .u64 18446744073709551615)) x13 (.int .u64 18446744073709551615)) fun y => some (y, G14)) G14) fun x15 G16 =>
  bS (gd x12 true (some (x15, G16)) G16) fun x17 G18 =>
  bS (gd x17 false (some (v3, G18)) G18) fun x19 G20 =>
  bS (gd x17 false (bP (bn Q q .lss 3 (.tmp 30) (.const (.int .i64 0)) x19 (.int .i64 0)) fun y => some (y, G20)) G20) fun x21 G22 =>
  bS (gd x12 true (bP (pickV x17 (.bool true) x21) fun y => some (y, G22)) G22) fun x23 G24 =>
  bS (gd x12 true (some (x23, G24)) G24) fun x25 G26 =>
  bS (gd x25 false (some (v3, G26)) G26) fun x27 G28 =>
  bS (gd x25 false (bP (bn Q q .gtr 3 (.tmp 34) (.const (.int .i64 65534)) x27 (.int .i64 65534)) fun y => some (y, G28)) G28) fun x29 G30 =>
  bS (gd x12 true (bP (pickV x25 (.bool true) x29) fun y => some (y, G30)) G30) fun x31 G32 =>
  bS (gd x12 true (some (x31, G32)) G32) fun x33 G34 =>
  bS (gd x33 false (some (v4, G34)) G34) fun x35 G36 =>
  bS (gd x33 false (bP (bn Q q .lss 3 (.tmp 38) (.const (.int .i64 1)) x35 (.int .i64 1)) fun y => some (y, G36)) G36) fun x37 G38 =>
  bS (gd x12 true (bP (pickV x33 (.bool true) x37) fun y => some (y, G38)) G38) fun x39 G40 =>
  bS (gd x12 true (some (x39, G40)) G40) fun x41 G42 =>
  bS (gd x41 false (some (v4, G42)) G42) fun x43 G44 =>
  bS (gd x41 false (bP (fa Q q 31 2 2 x0) fun y => some (y, G44)) G44) fun x45 G46 =>
  bS (gd x41 false (bP (ld Q q 3 x45 G46) fun y => some (y, G46)) G46) fun x47 G48 =>
  bS (gd x41 false (bP (bn Q q .gtr 3 (.tmp 42) (.tmp 44) x43 x47) fun y => some (y, G48)) G48) fun x49 G50 =>
  bS (gd x12 true (bP (pickV x41 (.bool true) x49) fun y => some (y, G50)) G50) fun x51 G52 =>
  bP (pickV x12 x51 (.bool false)) fun x53 =>
  ifV x53 (
  bP (pNil x6) fun x54 =>
  bP (fa Q q 303 0 0 x54) fun x55 =>
  bP (fa Q q 300 6 18 x55) fun x56 =>
  bP (st Q q 33 1 x56 (.int .i64 3) G52) fun G57 =>
  bP (pNil x6) fun x58 =>
  bP (fa Q q 303 0 0 x58) fun x59 =>
  bP (fa Q q 300 6 18 x59) fun x60 =>
  bP (ld Q q 33 x60 G57) fun x61 =>
  bP (bn Q q .eql 33 (.tmp 56) (.const (.int .i64 0)) x61 (.int .i64 0)) fun x62 =>
  ifV x62 (
  bP (pNil x6) fun x63 =>
  bP (fa Q q 303 0 0 x63) fun x64 =>
  bS (e.ev.cl 214 [x64] G57) fun x65 G66 =>
  bS (e.ev.cl 215 [x6] G66) fun x67 G68 =>
  bS (bs Q q 298 2 (rep z305 2) 1 [(0, 0, 1), (1, 1, 1)] [x65, x67] G68) fun x69 G70 =>
  bP (pNil x6) fun x71 =>
  bP (fa Q q 303 0 0 x71) fun x72 =>
  bP (fa Q q 300 4 16 x72) fun x73 =>
  bP (st Q q 298 1 x73 x69 G70) fun G74 =>
  some (x6, G74)) (
  some (x6, G57))) (
  bP (pNil x6) fun x75 =>
  bP (fa Q q 303 0 0 x75) fun x76 =>
  bP (fa Q q 300 6 18 x76) fun x77 =>
  bP (ld Q q 33 x77 G52) fun x78 =>
  bP (bn Q q .eql 33 (.tmp 56) (.const (.int .i64 0)) x78 (.int .i64 0)) fun x79 =>
  ifV x79 (
  bP (pNil x6) fun x80 =>
  bP (fa Q q 303 0 0 x80) fun x81 =>
  bS (e.ev.cl 214 [x81] G52) fun x82 G83 =>
  bS (e.ev.cl 215 [x6] G83) fun x84 G85 =>
  bS (bs Q q 298 2 (rep z305 2) 1 [(0, 0, 1), (1, 1, 1)] [x82, x84] G85) fun x86 G87 =>
  bP (pNil x6) fun x88 =>
  bP (fa Q q 303 0 0 x88) fun x89 =>
  bP (fa Q q 300 4 16 x89) fun x90 =>
  bP (st Q q 298 1 x90 x86 G87) fun G91 =>
  some (x6, G91)) (
  some (x6, G52)))
theorem m107 {e : Ex} {E : Ev} (h : ExLe Q e E) (v0 v1 v2 v3 v4 : Value) (G : GS) : Ref (s107 true e v0 v1 v2 v3 v4 G) (s107 false (Ex.of E) v0 v1 v2 v3 v4 G) := by
  unfold s107
  exact Ref.go
theorem f107 {orc : FuncId → Bool} {e : Ex} (h : ExLe Q e (E orc)) (v0 v1 v2 v3 v4 : Value) (G : GS) : Ref (s107 true e v0 v1 v2 v3 v4 G) ((E orc).cl 107 [v0, v1, v2, v3, v4] G) :=
  fun r hr => cl_sxE_some Q orc (vs := [v0, v1, v2, v3, v4]) G Tryz.func107 (by kernel_rfl) (by kernel_rfl) (by kernel_rfl) (by kernel_rfl) (by kernel_rfl) (by kernel_rfl) (m107 h v0 v1 v2 v3 v4 G r hr)
/-- (*coxswain/ready.Put).Err -/
noncomputable def s115 (q : Bool) (e : Ex) (v0 : Value) (G : GS) : Option (Value × GS) :=
  bP (ep Q q false 80 (.tmp 3) (.const (.pointer none)) v0 (.pointer none)) fun x0 =>
  ifV x0 (
  some ((.int .i64 1), G)) (
  bP (pNil v0) fun x1 =>
  bP (fa Q q 303 0 0 x1) fun x2 =>
  bS (e.ev.cl 226 [x2] G) fun x3 G4 =>
  some (x3, G4))
theorem m115 {e : Ex} {E : Ev} (h : ExLe Q e E) (v0 : Value) (G : GS) : Ref (s115 true e v0 G) (s115 false (Ex.of E) v0 G) := by
  unfold s115
  exact Ref.go
theorem f115 {orc : FuncId → Bool} {e : Ex} (h : ExLe Q e (E orc)) (v0 : Value) (G : GS) : Ref (s115 true e v0 G) ((E orc).cl 115 [v0] G) :=
  fun r hr => cl_sxE_some Q orc (vs := [v0]) G Tryz.func115 (by kernel_rfl) (by kernel_rfl) (by kernel_rfl) (by kernel_rfl) (by kernel_rfl) (by kernel_rfl) (m115 h v0 G r hr)
noncomputable def b156_0 (q : Bool) (e : Ex) (lp : Env → GS → Option (Exit × Env × GS)) (τ : Env) (G : GS) : Option (Exit × Env × GS) :=
  bV q (τ 1) fun a1_ =>
  bV q (τ 2) fun a2_ =>
  bV q (τ 13) fun a13_ =>
  bV q (τ 14) fun a14_ =>
  bP (bn Q q .lss 3 (.tmp 14) (.tmp 13) a14_ a13_) fun x0 =>
  ifV x0 (
  bP (fa Q q 31 1 1 a2_) fun x1 =>
  bP (ld Q q 3 x1 G) fun x2 =>
  bP (bn Q q .add 3 (.tmp 19) (.tmp 20) x2 a14_) fun x3 =>
  bS (e.ev.cl 45 [a1_, x3, (.int .u64 0)] G) fun x4 G5 =>
  bP (bn Q q .add 3 (.tmp 14) (.const (.int .i64 1)) a14_ (.int .i64 1)) fun x6 =>
  lp (tu τ [(1, a1_), (2, a2_), (13, a13_), (14, x6), (4, a14_), (15, x0), (16, a14_), (17, a1_), (18, x1), (19, x2), (20, a14_), (21, x3), (22, x4), (23, x6)]) G5) (
  some ((.exit 0), clq q 24 (tu τ [(1, a1_), (2, a2_), (13, a13_), (14, a14_), (15, x0)]), G))
theorem mb156_0 {e : Ex} {E : Ev} (h : ExLe Q e E) {lp lp' : Env → GS → Option (Exit × Env × GS)} (hlp : LpLe lp lp') (τ : Env) (G : GS) : Ref (b156_0 true e lp τ G) (b156_0 false (Ex.of E) lp' τ G) := by
  unfold b156_0
  exact Ref.go
theorem l156_0 {orc : FuncId → Bool} {e : Ex} (h : ExLe Q e (E orc)) (lp : Env → GS → Option (Exit × Env × GS)) (hlp : ∀ τ G, Ref (lp τ G) (mapE ((E orc).lp (subAt [1, 1, 1, 1, 0, 0] (bodyOf Tryz.f156)) (lst 24 τ) G))) (T : List Value) (G : GS) (hT : T.length = 24) : Ref (b156_0 true e lp (nth undef T) G) (mapE ((E orc).lp (subAt [1, 1, 1, 1, 0, 0] (bodyOf Tryz.f156)) T G)) :=
  fun r hr => lp_sxM Q orc G hT (by kernel_rfl) (mb156_0 h ⟨hlp⟩ _ _ r hr)
/-- coxswain/tower.Fill -/
noncomputable def s156 (q : Bool) (e : Ex) (v0 v1 : Value) (G : GS) : Option (Value × GS) :=
  bS (bx q v0 G) fun x0 G1 =>
  bP (lda Q q 31 13 x0 G1) fun x2 =>
  bS (e.ev.cl 102 [x2] G1) fun x3 G4 =>
  bP (un Q q .not x3) fun x5 =>
  ifV x5 (
  some (.tuple #[], G4)) (
  bP (fa Q q 31 3 3 x0) fun x6 =>
  bP (lda Q q 29 10 x6 G4) fun x7 =>
  bS (e.ev.cl 246 [x7, v1] G4) fun x8 G9 =>
  bP (fa Q q 31 2 2 x0) fun x10 =>
  bP (ld Q q 3 x10 G9) fun x11 =>
  bL q e 156 0 (subAt [1, 1, 1, 1, 0, 0] (bodyOf Tryz.f156)) 24 (tu (nth undef [v0, v1]) [(2, x0), (5, x2), (6, x3), (7, x5), (8, x6), (9, x7), (10, v1), (11, x8), (12, x10), (13, x11), (14, (.int .i64 0))]) G9 fun e12 t13 G14 =>
  ifE e12 (.exit 0) (
  some (.tuple #[], G14)) (none))
theorem m156 {e : Ex} {E : Ev} (h : ExLe Q e E) (v0 v1 : Value) (G : GS) : Ref (s156 true e v0 v1 G) (s156 false (Ex.of E) v0 v1 G) := by
  unfold s156
  exact Ref.go
theorem f156 {orc : FuncId → Bool} {e : Ex} (h : ExLe Q e (E orc)) (v0 v1 : Value) (G : GS) : Ref (s156 true e v0 v1 G) ((E orc).cl 156 [v0, v1] G) :=
  fun r hr => cl_sxE_some Q orc (vs := [v0, v1]) G Tryz.func156 (by kernel_rfl) (by kernel_rfl) (by kernel_rfl) (by kernel_rfl) (by kernel_rfl) (by kernel_rfl) (m156 h v0 v1 G r hr)
/-- (*coxswain/cells.Mem).cell -/
noncomputable def s158 (q : Bool) (e : Ex) (v0 v1 : Value) (G : GS) : Option (Value × GS) :=
  bP (ep Q q false 32 (.tmp 5) (.const (.pointer none)) v0 (.pointer none)) fun x0 =>
  bS (gd x0 false (some (v0, G)) G) fun x1 G2 =>
  bS (gd x0 false (bP (pNil x1) fun y => some (y, G2)) G2) fun x3 G4 =>
  bS (gd x0 false (bP (fa Q q 158 0 0 x3) fun y => some (y, G4)) G4) fun x5 G6 =>
  bS (gd x0 false (bP (ld Q q 153 x5 G6) fun y => some (y, G6)) G6) fun x7 G8 =>
  bS (gd x0 false (bP (ep Q q false 153 (.tmp 11) (.const (.pointer none)) x7 (.pointer none)) fun y => some (y, G8)) G8) fun x9 G10 =>
  bP (pickV x0 (.bool true) x9) fun x11 =>
  bS (gd x11 false (some (v1, G10)) G10) fun x12 G13 =>
  bS (gd x11 false (bP (bn Q q .lss 3 (.tmp 15) (.const (.int .i64 0)) x12 (.int .i64 0)) fun y => some (y, G13)) G13) fun x14 G15 =>
  bP (pickV x11 (.bool true) x14) fun x16 =>
  bS (gd x16 false (some (v1, G15)) G15) fun x17 G18 =>
  bS (gd x16 false (some (v0, G18)) G18) fun x19 G20 =>
  bS (gd x16 false (bP (pNil x19) fun y => some (y, G20)) G20) fun x21 G22 =>
  bS (gd x16 false (bP (fa Q q 158 1 1 x21) fun y => some (y, G22)) G22) fun x23 G24 =>
  bS (gd x16 false (bP (ld Q q 3 x23 G24) fun y => some (y, G24)) G24) fun x25 G26 =>
  bS (gd x16 false (bP (bn Q q .geq 3 (.tmp 19) (.tmp 23) x17 x25) fun y => some (y, G26)) G26) fun x27 G28 =>
  bP (pickV x16 (.bool true) x27) fun x29 =>
  ifV x29 (
  some ((.pointer none), G28)) (
  bP (pNil v0) fun x30 =>
  bP (fa Q q 158 0 0 x30) fun x31 =>
  bP (ld Q q 153 x31 G28) fun x32 =>
  bP (pNil x32) fun x33 =>
  bP (iaa Q q 156 4096 1 x33 v1) fun x34 =>
  some (x34, G28))
theorem m158 {e : Ex} {E : Ev} (h : ExLe Q e E) (v0 v1 : Value) (G : GS) : Ref (s158 true e v0 v1 G) (s158 false (Ex.of E) v0 v1 G) := by
  unfold s158
  exact Ref.go
theorem f158 {orc : FuncId → Bool} {e : Ex} (h : ExLe Q e (E orc)) (v0 v1 : Value) (G : GS) : Ref (s158 true e v0 v1 G) ((E orc).cl 158 [v0, v1] G) :=
  fun r hr => cl_sxE_some Q orc (vs := [v0, v1]) G Tryz.func158 (by kernel_rfl) (by kernel_rfl) (by kernel_rfl) (by kernel_rfl) (by kernel_rfl) (by kernel_rfl) (m158 h v0 v1 G r hr)
/-- (*coxswain/cells.Mem).do -/
noncomputable def s159 (q : Bool) (e : Ex) (v0 v1 v2 v3 v4 : Value) (G : GS) : Option (Value × GS) :=
  bS (al Q q 68 z68 G) fun x0 G1 =>
  bP (ep Q q false 32 (.tmp 13) (.const (.pointer none)) v0 (.pointer none)) fun x2 =>
  bS (gd x2 false (some (v0, G1)) G1) fun x3 G4 =>
  bS (gd x2 false (bP (pNil x3) fun y => some (y, G4)) G4) fun x5 G6 =>
  bS (gd x2 false (bP (fa Q q 158 0 0 x5) fun y => some (y, G6)) G6) fun x7 G8 =>
  bS (gd x2 false (bP (ld Q q 153 x7 G8) fun y => some (y, G8)) G8) fun x9 G10 =>
  bS (gd x2 false (bP (ep Q q false 153 (.tmp 19) (.const (.pointer none)) x9 (.pointer none)) fun y => some (y, G10)) G10) fun x11 G12 =>
  bP (pickV x2 (.bool true) x11) fun x13 =>
  ifV x13 (
  bP (bd Q q 68 z68 [] []) fun x14 =>
  bP (st Q q 68 5 x0 x14 G12) fun G15 =>
  bP (lda Q q 68 5 x0 G15) fun x16 =>
  some (x16, G15)) (
  bP (pNil v0) fun x17 =>
  bP (fa Q q 158 3 7 x17) fun x18 =>
  bP (ld Q q 3 x18 G12) fun x19 =>
  bP (bn Q q .add 3 (.tmp 26) (.const (.int .i64 1)) x19 (.int .i64 1)) fun x20 =>
  bP (pNil v0) fun x21 =>
  bP (fa Q q 158 3 7 x21) fun x22 =>
  bP (st Q q 3 1 x22 x20 G12) fun G23 =>
  bP (bd Q q 68 z68 [(0, 0, 1), (1, 1, 1)] [v1, v2]) fun x24 =>
  bP (pNil v0) fun x25 =>
  bP (fa Q q 158 2 2 x25) fun x26 =>
  bP (st Q q 68 5 x26 x24 G23) fun G27 =>
  bS (e.ev.cl 248 [v3] G27) fun x28 G29 =>
  ifV x28 (
  bS (cValue e.ev v4 [] G29) fun x30 G31 =>
  bP (pExtract x30 0) fun x32 =>
  bP (pExtract x30 1) fun x33 =>
  bP (pNil v3) fun x34 =>
  bP (ld Q q 154 x34 G31) fun x35 =>
  bP (pNil v0) fun x36 =>
  bP (fa Q q 158 2 2 x36) fun x37 =>
  bP (fa Q q 68 2 2 x37) fun x38 =>
  bP (st Q q 41 1 x38 x35 G31) fun G39 =>
  bP (pNil v0) fun x40 =>
  bP (fa Q q 158 2 2 x40) fun x41 =>
  bP (fa Q q 68 3 3 x41) fun x42 =>
  bP (st Q q 41 1 x42 x32 G39) fun G43 =>
  bP (pNil v0) fun x44 =>
  bP (fa Q q 158 2 2 x44) fun x45 =>
  bP (fa Q q 68 4 4 x45) fun x46 =>
  bP (st Q q 4 1 x46 x33 G43) fun G47 =>
  bP (pNil v3) fun x48 =>
  bP (st Q q 154 1 x48 x32 G47) fun G49 =>
  bP (pNil v0) fun x50 =>
  bP (fa Q q 158 2 2 x50) fun x51 =>
  bP (lda Q q 68 5 x51 G49) fun x52 =>
  bP (st Q q 68 5 x0 x52 G49) fun G53 =>
  bP (lda Q q 68 5 x0 G53) fun x54 =>
  some (x54, G53)) (
  bP (pNil v0) fun x55 =>
  bP (fa Q q 158 2 2 x55) fun x56 =>
  bP (lda Q q 68 5 x56 G29) fun x57 =>
  bP (st Q q 68 5 x0 x57 G29) fun G58 =>
  bP (lda Q q 68 5 x0 G58) fun x59 =>
  some (x59, G58)))
theorem m159 {e : Ex} {E : Ev} (h : ExLe Q e E) (v0 v1 v2 v3 v4 : Value) (G : GS) : Ref (s159 true e v0 v1 v2 v3 v4 G) (s159 false (Ex.of E) v0 v1 v2 v3 v4 G) := by
  unfold s159
  exact Ref.go
theorem f159 {orc : FuncId → Bool} {e : Ex} (h : ExLe Q e (E orc)) (v0 v1 v2 v3 v4 : Value) (G : GS) : Ref (s159 true e v0 v1 v2 v3 v4 G) ((E orc).cl 159 [v0, v1, v2, v3, v4] G) :=
  fun r hr => cl_sxE_some Q orc (vs := [v0, v1, v2, v3, v4]) G Tryz.func159 (by kernel_rfl) (by kernel_rfl) (by kernel_rfl) (by kernel_rfl) (by kernel_rfl) (by kernel_rfl) (m159 h v0 v1 v2 v3 v4 G r hr)
/-- (coxswain/cells.deed).store -/
noncomputable def s160 (q : Bool) (e : Ex) (v0 : Value) (G : GS) : Option (Value × GS) :=
  bS (bx q v0 G) fun x0 G1 =>
  bP (fa Q q 246 1 1 x0) fun x2 =>
  bP (ld Q q 41 x2 G1) fun x3 =>
  some (.tuple #[x3, (.bool true)], G1)
theorem m160 {e : Ex} {E : Ev} (h : ExLe Q e E) (v0 : Value) (G : GS) : Ref (s160 true e v0 G) (s160 false (Ex.of E) v0 G) := by
  unfold s160
  exact Ref.go
theorem f160 {orc : FuncId → Bool} {e : Ex} (h : ExLe Q e (E orc)) (v0 : Value) (G : GS) : Ref (s160 true e v0 G) ((E orc).cl 160 [v0] G) :=
  fun r hr => cl_sxE_some Q orc (vs := [v0]) G Tryz.func160 (by kernel_rfl) (by kernel_rfl) (by kernel_rfl) (by kernel_rfl) (by kernel_rfl) (by kernel_rfl) (m160 h v0 G r hr)
noncomputable def b171_0 (q : Bool) (e : Ex) (lp : Env → GS → Option (Exit × Env × GS)) (τ : Env) (G : GS) : Option (Exit × Env × GS) :=
  bV q (τ 1) fun a1_ =>
  bV q (τ 2) fun a2_ =>
  bV q (τ 18) fun a18_ =>
  bV q (τ 19) fun a19_ =>
  bP (bn Q q .lss 3 (.tmp 19) (.tmp 18) a19_ a18_) fun x0 =>
  ifV x0 (
  bP (fa Q q 25 1 3 a2_) fun x1 =>
  bP (ld Q q 3 x1 G) fun x2 =>
  bP (bn Q q .add 3 (.tmp 24) (.tmp 25) x2 a19_) fun x3 =>
  bS (e.ev.cl 45 [a1_, x3, (.int .u64 1)] G) fun x4 G5 =>
  bP (bn Q q .add 3 (.tmp 19) (.const (.int .i64 1)) a19_ (.int .i64 1)) fun x6 =>
  lp (tu τ [(1, a1_), (2, a2_), (18, a18_), (19, x6), (4, a19_), (20, x0), (21, a19_), (22, a1_), (23, x1), (24, x2), (25, a19_), (26, x3), (27, x4), (28, x6)]) G5) (
  some ((.exit 0), clq q 29 (tu τ [(1, a1_), (2, a2_), (18, a18_), (19, a19_), (20, x0)]), G))
theorem mb171_0 {e : Ex} {E : Ev} (h : ExLe Q e E) {lp lp' : Env → GS → Option (Exit × Env × GS)} (hlp : LpLe lp lp') (τ : Env) (G : GS) : Ref (b171_0 true e lp τ G) (b171_0 false (Ex.of E) lp' τ G) := by
  unfold b171_0
  exact Ref.go
theorem l171_0 {orc : FuncId → Bool} {e : Ex} (h : ExLe Q e (E orc)) (lp : Env → GS → Option (Exit × Env × GS)) (hlp : ∀ τ G, Ref (lp τ G) (mapE ((E orc).lp (subAt [1, 1, 1, 1, 1, 0, 0] (bodyOf Tryz.f171)) (lst 29 τ) G))) (T : List Value) (G : GS) (hT : T.length = 29) : Ref (b171_0 true e lp (nth undef T) G) (mapE ((E orc).lp (subAt [1, 1, 1, 1, 1, 0, 0] (bodyOf Tryz.f171)) T G)) :=
  fun r hr => lp_sxM Q orc G hT (by kernel_rfl) (mb171_0 h ⟨hlp⟩ _ _ r hr)
/-- coxswain/arena.Fill -/
noncomputable def s171 (q : Bool) (e : Ex) (v0 v1 : Value) (G : GS) : Option (Value × GS) :=
  bS (bx q v0 G) fun x0 G1 =>
  bP (lda Q q 25 6 x0 G1) fun x2 =>
  bS (e.ev.cl 256 [x2] G1) fun x3 G4 =>
  bP (un Q q .not x3) fun x5 =>
  ifV x5 (
  some (.tuple #[], G4)) (
  bP (fa Q q 25 0 0 x0) fun x6 =>
  bP (lda Q q 23 3 x6 G4) fun x7 =>
  bS (e.ev.cl 257 [x7, v1] G4) fun x8 G9 =>
  bP (fa Q q 25 2 4 x0) fun x10 =>
  bP (ld Q q 3 x10 G9) fun x11 =>
  bS (e.ev.cl 45 [v1, x11, (.int .u64 0)] G9) fun x12 G13 =>
  bP (fa Q q 25 0 0 x0) fun x14 =>
  bP (fa Q q 23 2 2 x14) fun x15 =>
  bP (ld Q q 3 x15 G13) fun x16 =>
  bL q e 171 0 (subAt [1, 1, 1, 1, 1, 0, 0] (bodyOf Tryz.f171)) 29 (tu (nth undef [v0, v1]) [(2, x0), (5, x2), (6, x3), (7, x5), (8, x6), (9, x7), (10, v1), (11, x8), (12, v1), (13, x10), (14, x11), (15, x12), (16, x14), (17, x15), (18, x16), (19, (.int .i64 0))]) G13 fun e17 t18 G19 =>
  ifE e17 (.exit 0) (
  some (.tuple #[], G19)) (none))
theorem m171 {e : Ex} {E : Ev} (h : ExLe Q e E) (v0 v1 : Value) (G : GS) : Ref (s171 true e v0 v1 G) (s171 false (Ex.of E) v0 v1 G) := by
  unfold s171
  exact Ref.go
theorem f171 {orc : FuncId → Bool} {e : Ex} (h : ExLe Q e (E orc)) (v0 v1 : Value) (G : GS) : Ref (s171 true e v0 v1 G) ((E orc).cl 171 [v0, v1] G) :=
  fun r hr => cl_sxE_some Q orc (vs := [v0, v1]) G Tryz.func171 (by kernel_rfl) (by kernel_rfl) (by kernel_rfl) (by kernel_rfl) (by kernel_rfl) (by kernel_rfl) (m171 h v0 v1 G r hr)
/-- coxswain/arena.NewAlloc -/
noncomputable def s173 (q : Bool) (e : Ex) (v0 : Value) (G : GS) : Option (Value × GS) :=
  bS (bx q v0 G) fun x0 G1 =>
  bP (fa Q q 25 0 0 x0) fun x2 =>
  bP (lda Q q 23 3 x2 (G1.room 7)) fun x3 =>
  bS (e.ev.cl 258 [x3] (G1.room 7)) fun x5 G4 =>
  bP (lda Q q 25 6 x0 G4) fun x6 =>
  chk ((sameO (lda Q q 25 6 x0 (G1.room 7)) x6 && true)) <|
  bP (bd Q q 375 z375 [(0, 0, 1), (1, 1, 6), (2, 7, 1), (3, 8, 1)] [x5, x6, (.bool true), (.func (.func 259) #[] #[])]) fun x7 =>
  bS (bx q x7 (G4.at' (G1.nx + 5))) fun x8 G9 =>
  some (x8, (G9.back G4))
theorem m173 {e : Ex} {E : Ev} (h : ExLe Q e E) (v0 : Value) (G : GS) : Ref (s173 true e v0 G) (s173 false (Ex.of E) v0 G) := by
  unfold s173
  exact Ref.go
theorem f173 {orc : FuncId → Bool} {e : Ex} (h : ExLe Q e (E orc)) (v0 : Value) (G : GS) : Ref (s173 true e v0 G) ((E orc).cl 173 [v0] G) :=
  fun r hr => cl_sxE_some Q orc (vs := [v0]) G Tryz.func173 (by kernel_rfl) (by kernel_rfl) (by kernel_rfl) (by kernel_rfl) (by kernel_rfl) (by kernel_rfl) (m173 h v0 G r hr)
/-- (*coxswain/arena.Alloc).Ref -/
noncomputable def s174 (q : Bool) (e : Ex) (v0 : Value) (G : GS) : Option (Value × GS) :=
  bP (ep Q q false 145 (.tmp 5) (.const (.pointer none)) v0 (.pointer none)) fun x0 =>
  bS (gd x0 false (some (v0, G)) G) fun x1 G2 =>
  bS (gd x0 false (bP (pNil x1) fun y => some (y, G2)) G2) fun x3 G4 =>
  bS (gd x0 false (bP (fa Q q 375 2 7 x3) fun y => some (y, G4)) G4) fun x5 G6 =>
  bS (gd x0 false (bP (ld Q q 4 x5 G6) fun y => some (y, G6)) G6) fun x7 G8 =>
  bS (gd x0 false (bP (un Q q .not x7) fun y => some (y, G8)) G8) fun x9 G10 =>
  bP (pickV x0 (.bool true) x9) fun x11 =>
  ifV x11 (
  some (.tuple #[(.int .u64 0), (.int .i64 1)], G10)) (
  bP (pNil v0) fun x12 =>
  bP (fa Q q 375 3 8 x12) fun x13 =>
  bP (ld Q q 373 x13 G10) fun x14 =>
  bP (ef Q q true 373 (.tmp 18) (.const .nilFunc) x14 .nilFunc) fun x15 =>
  ifV x15 (
  some (.tuple #[(.int .u64 0), (.int .i64 14)], G10)) (
  bP (pNil v0) fun x16 =>
  bP (fa Q q 375 5 10 x16) fun x17 =>
  bP (ld Q q 41 x17 (G10.room 10)) fun x18 =>
  bP (pNil v0) fun x19 =>
  bP (fa Q q 375 6 11 x19) fun x20 =>
  bP (ld Q q 33 x20 (G10.room 10)) fun x21 =>
  some (.tuple #[x18, x21], (G10.room 10))))
theorem m174 {e : Ex} {E : Ev} (h : ExLe Q e E) (v0 : Value) (G : GS) : Ref (s174 true e v0 G) (s174 false (Ex.of E) v0 G) := by
  unfold s174
  exact Ref.go
theorem f174 {orc : FuncId → Bool} {e : Ex} (h : ExLe Q e (E orc)) (v0 : Value) (G : GS) : Ref (s174 true e v0 G) ((E orc).cl 174 [v0] G) :=
  fun r hr => cl_sxE_some Q orc (vs := [v0]) G Tryz.func174 (by kernel_rfl) (by kernel_rfl) (by kernel_rfl) (by kernel_rfl) (by kernel_rfl) (by kernel_rfl) (m174 h v0 G r hr)
/-- (*coxswain/cells.Mem).Load -/
noncomputable def s177 (q : Bool) (e : Ex) (v0 v1 : Value) (G : GS) : Option (Value × GS) :=
  bS (e.ev.cl 158 [v0, v1] G) fun x0 G1 =>
  bP (bd Q q 246 z246 [(0, 0, 1)] [x0]) fun x2 =>
  bS (al Q q 246 z246 G1) fun x3 G4 =>
  bP (st Q q 246 3 x3 x2 G4) fun G5 =>
  bP (fa Q q 246 0 0 x3) fun x6 =>
  bP (ld Q q 243 x6 G5) fun x7 =>
  bP (lda Q q 246 3 x3 G5) fun x8 =>
  bS (e.ev.cl 159 [v0, (.int .i64 1), v1, x7, (.func (.func 260) #[x8] #[])] G5) fun x9 G10 =>
  bP (fd Q q 68 3 3 x9) fun x11 =>
  some (x11, G10)
theorem m177 {e : Ex} {E : Ev} (h : ExLe Q e E) (v0 v1 : Value) (G : GS) : Ref (s177 true e v0 v1 G) (s177 false (Ex.of E) v0 v1 G) := by
  unfold s177
  exact Ref.go
theorem f177 {orc : FuncId → Bool} {e : Ex} (h : ExLe Q e (E orc)) (v0 v1 : Value) (G : GS) : Ref (s177 true e v0 v1 G) ((E orc).cl 177 [v0, v1] G) :=
  fun r hr => cl_sxE_some Q orc (vs := [v0, v1]) G Tryz.func177 (by kernel_rfl) (by kernel_rfl) (by kernel_rfl) (by kernel_rfl) (by kernel_rfl) (by kernel_rfl) (m177 h v0 v1 G r hr)
/-- (*coxswain/arena.Alloc).Step -/
noncomputable def s179 (q : Bool) (e : Ex) (v0 v1 : Value) (G : GS) : Option (Value × GS) :=
  bP (ep Q q false 145 (.tmp 5) (.const (.pointer none)) v0 (.pointer none)) fun x0 =>
  bS (gd x0 false (some (v0, G)) G) fun x1 G2 =>
  bS (gd x0 false (bP (pNil x1) fun y => some (y, G2)) G2) fun x3 G4 =>
  bS (gd x0 false (bP (fa Q q 375 3 8 x3) fun y => some (y, G4)) G4) fun x5 G6 =>
  bS (gd x0 false (bP (ld Q q 373 x5 G6) fun y => some (y, G6)) G6) fun x7 G8 =>
  bS (gd x0 false (bP (ef Q q false 373 (.tmp 11) (.const .nilFunc) x7 .nilFunc) fun y => some (y, G8)) G8) fun x9 G10 =>
  bP (pickV x0 (.bool true) x9) fun x11 =>
  ifV x11 (
  some ((.bool true), G10)) (
  bP (pNil v0) fun x12 =>
  bP (fa Q q 375 3 8 x12) fun x13 =>
  bP (ld Q q 373 x13 G10) fun x14 =>
  bS (cValue e.ev x14 [v0, v1] G10) fun x15 G16 =>
  bP (pNil v0) fun x17 =>
  bP (fa Q q 375 3 8 x17) fun x18 =>
  bP (ld Q q 373 x18 G16) fun x19 =>
  bP (ef Q q false 373 (.tmp 24) (.const .nilFunc) x19 .nilFunc) fun x20 =>
  some (x20, G16))
theorem m179 {e : Ex} {E : Ev} (h : ExLe Q e E) (v0 v1 : Value) (G : GS) : Ref (s179 true e v0 v1 G) (s179 false (Ex.of E) v0 v1 G) := by
  unfold s179
  exact Ref.go
theorem f179 {orc : FuncId → Bool} {e : Ex} (h : ExLe Q e (E orc)) (v0 v1 : Value) (G : GS) : Ref (s179 true e v0 v1 G) ((E orc).cl 179 [v0, v1] G) :=
  fun r hr => cl_sxE_some Q orc (vs := [v0, v1]) G Tryz.func179 (by kernel_rfl) (by kernel_rfl) (by kernel_rfl) (by kernel_rfl) (by kernel_rfl) (by kernel_rfl) (m179 h v0 v1 G r hr)
/-- coxswain/word.GetTop -/
noncomputable def s189 (q : Bool) (e : Ex) (v0 : Value) (G : GS) : Option (Value × GS) :=
  bS (al Q q 274 z274 G) fun x0 G1 =>
  bS (e.ev.cl 271 [] G1) fun x2 G3 =>
  bS (al Q q 393 z393 G3) fun x4 G5 =>
  bP (st Q q 393 4 x4 x2 G5) fun G6 =>
  bP (iaa Q q 393 2 2 x4 (.int .i64 0)) fun x7 =>
  bP (lda Q q 392 2 x7 (G6.room 12)) fun x8 =>
  bS (e.ev.cl 272 [v0, x8] (G6.room 12)) fun x10 G9 =>
  bP (bn Q q .sub 3 (.tmp 9) (.const (.int .i64 1)) x10 (.int .i64 1)) fun x11 =>
  bP (iaa Q q 393 2 2 x4 (.int .i64 1)) fun x12 =>
  bP (lda Q q 392 2 x12 G9) fun x13 =>
  chk ((sameO (lda Q q 392 2 x12 (G6.room 12)) x13 && true)) <|
  bS (e.ev.cl 272 [v0, x13] G9) fun x15 G14 =>
  bP (bd Q q 274 z274 [(0, 0, 1), (1, 1, 1)] [x11, x15]) fun x16 =>
  bP (st Q q 274 2 x0 x16 G14) fun G17 =>
  bP (lda Q q 274 2 x0 G17) fun x18 =>
  some (.tuple #[x18, (.int .i64 0)], G17)
theorem m189 {e : Ex} {E : Ev} (h : ExLe Q e E) (v0 : Value) (G : GS) : Ref (s189 true e v0 G) (s189 false (Ex.of E) v0 G) := by
  unfold s189
  exact Ref.go
theorem f189 {orc : FuncId → Bool} {e : Ex} (h : ExLe Q e (E orc)) (v0 : Value) (G : GS) : Ref (s189 true e v0 G) ((E orc).cl 189 [v0] G) :=
  fun r hr => cl_sxE_some Q orc (vs := [v0]) G Tryz.func189 (by kernel_rfl) (by kernel_rfl) (by kernel_rfl) (by kernel_rfl) (by kernel_rfl) (by kernel_rfl) (m189 h v0 G r hr)
/-- coxswain/tower.At -/
noncomputable def s191 (q : Bool) (e : Ex) (v0 v1 v2 : Value) (G : GS) : Option (Value × GS) :=
  bS (bx q v0 G) fun x0 G1 =>
  bP (lda Q q 31 13 x0 G1) fun x2 =>
  bS (e.ev.cl 102 [x2] G1) fun x3 G4 =>
  bP (un Q q .not x3) fun x5 =>
  ifV x5 (
  some ((.int .i64 (-1)), G4)) (
  bP (bn Q q .neq 3 (.tmp 12) (.const (.int .i64 (-1))) v1 (.int .i64 (-1))) fun x6 =>
  ifV x6 (
  bP (lda Q q 31 13 x0 G4) fun x7 =>
  bS (e.ev.cl 103 [x7] G4) fun x8 G9 =>
  bS (e.ev.cl 273 [x8, v1, v2] G9) fun x10 G11 =>
  some (x10, G11)) (
  bP (bn Q q .lss 3 (.tmp 20) (.const (.int .i64 4)) v2 (.int .i64 4)) fun x12 =>
  bS (gd x12 false (some (v2, G4)) G4) fun x13 G14 =>
  bS (gd x12 false (bP (fa Q q 31 2 2 x0) fun y => some (y, G14)) G14) fun x15 G16 =>
  bS (gd x12 false (bP (ld Q q 3 x15 G16) fun y => some (y, G16)) G16) fun x17 G18 =>
  bS (gd x12 false (bP (bn Q q .add 3 (.const (.int .i64 4)) (.tmp 25) (.int .i64 4) x17) fun y => some (y, G18)) G18) fun x19 G20 =>
  bS (gd x12 false (bP (bn Q q .geq 3 (.tmp 23) (.tmp 26) x13 x19) fun y => some (y, G20)) G20) fun x21 G22 =>
  bP (pickV x12 (.bool true) x21) fun x23 =>
  ifV x23 (
  some ((.int .i64 (-1)), G22)) (
  bP (lda Q q 31 13 x0 G22) fun x24 =>
  bS (e.ev.cl 105 [x24] G22) fun x25 G26 =>
  bP (bn Q q .sub 3 (.tmp 31) (.const (.int .i64 4)) v2 (.int .i64 4)) fun x27 =>
  bS (e.ev.cl 274 [x25, (.int .i64 0), x27] G26) fun x28 G29 =>
  some (x28, G29))))
theorem m191 {e : Ex} {E : Ev} (h : ExLe Q e E) (v0 v1 v2 : Value) (G : GS) : Ref (s191 true e v0 v1 v2 G) (s191 false (Ex.of E) v0 v1 v2 G) := by
  unfold s191
  exact Ref.go
theorem f191 {orc : FuncId → Bool} {e : Ex} (h : ExLe Q e (E orc)) (v0 v1 v2 : Value) (G : GS) : Ref (s191 true e v0 v1 v2 G) ((E orc).cl 191 [v0, v1, v2] G) :=
  fun r hr => cl_sxE_some Q orc (vs := [v0, v1, v2]) G Tryz.func191 (by kernel_rfl) (by kernel_rfl) (by kernel_rfl) (by kernel_rfl) (by kernel_rfl) (by kernel_rfl) (m191 h v0 v1 v2 G r hr)
/-- coxswain/word.Marked -/
noncomputable def s192 (q : Bool) (e : Ex) (v0 : Value) (G : GS) : Option (Value × GS) :=
  bP (bn Q q .shr 41 (.tmp 3) (.const (.int .u64 63)) v0 (.int .u64 63)) fun x0 =>
  bP (bn Q q .eql 41 (.tmp 4) (.const (.int .u64 1)) x0 (.int .u64 1)) fun x1 =>
  some (x1, G)
theorem m192 {e : Ex} {E : Ev} (h : ExLe Q e E) (v0 : Value) (G : GS) : Ref (s192 true e v0 G) (s192 false (Ex.of E) v0 G) := by
  unfold s192
  exact Ref.go
theorem f192 {orc : FuncId → Bool} {e : Ex} (h : ExLe Q e (E orc)) (v0 : Value) (G : GS) : Ref (s192 true e v0 G) ((E orc).cl 192 [v0] G) :=
  fun r hr => cl_sxE_some Q orc (vs := [v0]) G Tryz.func192 (by kernel_rfl) (by kernel_rfl) (by kernel_rfl) (by kernel_rfl) (by kernel_rfl) (by kernel_rfl) (m192 h v0 G r hr)
/-- (coxswain/cells.deed).swap -/
noncomputable def s193 (q : Bool) (e : Ex) (v0 : Value) (G : GS) : Option (Value × GS) :=
  bS (bx q v0 G) fun x0 G1 =>
  bP (fa Q q 246 0 0 x0) fun x2 =>
  bP (ld Q q 243 x2 (G1.room 7)) fun x3 =>
  bP (pNil x3) fun x4 =>
  bP (ld Q q 154 x4 (G1.room 7)) fun x5 =>
  bP (fa Q q 246 1 1 x0) fun x6 =>
  bP (ld Q q 41 x6 (G1.room 7)) fun x7 =>
  bP (bn Q q .neq 41 (.tmp 7) (.tmp 9) x5 x7) fun x8 =>
  ifV x8 (
  bP (fa Q q 246 0 0 x0) fun x9 =>
  bP (ld Q q 243 x9 (G1.room 7)) fun x10 =>
  bP (pNil x10) fun x11 =>
  bP (ld Q q 154 x11 (G1.room 7)) fun x12 =>
  some (.tuple #[x12, (.bool false)], (G1.room 7))) (
  bP (fa Q q 246 2 2 x0) fun x13 =>
  bP (ld Q q 41 x13 (G1.room 7)) fun x14 =>
  some (.tuple #[x14, (.bool true)], (G1.room 7)))
theorem m193 {e : Ex} {E : Ev} (h : ExLe Q e E) (v0 : Value) (G : GS) : Ref (s193 true e v0 G) (s193 false (Ex.of E) v0 G) := by
  unfold s193
  exact Ref.go
theorem f193 {orc : FuncId → Bool} {e : Ex} (h : ExLe Q e (E orc)) (v0 : Value) (G : GS) : Ref (s193 true e v0 G) ((E orc).cl 193 [v0] G) :=
  fun r hr => cl_sxE_some Q orc (vs := [v0]) G Tryz.func193 (by kernel_rfl) (by kernel_rfl) (by kernel_rfl) (by kernel_rfl) (by kernel_rfl) (by kernel_rfl) (m193 h v0 G r hr)
/-- coxswain/word.Marks -/
noncomputable def s194 (q : Bool) (e : Ex) (v0 v1 : Value) (G : GS) : Option (Value × GS) :=
  ifV v1 (
  bP (bn Q q .or 41 (.tmp 6) (.const (.int .u64 9223372036854775808)) v0 (.int .u64 9223372036854775808)) fun x0 =>
  some (x0, G)) (
  bP (bn Q q .andNot 41 (.tmp 8) (.const (.int .u64 9223372036854775808)) v0 (.int .u64 9223372036854775808)) fun x1 =>
  some (x1, G))
theorem m194 {e : Ex} {E : Ev} (h : ExLe Q e E) (v0 v1 : Value) (G : GS) : Ref (s194 true e v0 v1 G) (s194 false (Ex.of E) v0 v1 G) := by
  unfold s194
  exact Ref.go
theorem f194 {orc : FuncId → Bool} {e : Ex} (h : ExLe Q e (E orc)) (v0 v1 : Value) (G : GS) : Ref (s194 true e v0 v1 G) ((E orc).cl 194 [v0, v1] G) :=
  fun r hr => cl_sxE_some Q orc (vs := [v0, v1]) G Tryz.func194 (by kernel_rfl) (by kernel_rfl) (by kernel_rfl) (by kernel_rfl) (by kernel_rfl) (by kernel_rfl) (m194 h v0 v1 G r hr)
/-- (*coxswain/find.Find).anew -/
noncomputable def s195 (q : Bool) (e : Ex) (v0 : Value) (G : GS) : Option (Value × GS) :=
  bP (pNil v0) fun x0 =>
  bP (fa Q q 283 0 0 x0) fun x1 =>
  bP (fa Q q 31 2 2 x1) fun x2 =>
  bP (ld Q q 3 x2 G) fun x3 =>
  bP (bn Q q .sub 3 (.tmp 7) (.const (.int .i64 1)) x3 (.int .i64 1)) fun x4 =>
  bS (e.ev.cl 275 [v0, x4] G) fun x5 G6 =>
  some (.tuple #[], G6)
theorem m195 {e : Ex} {E : Ev} (h : ExLe Q e E) (v0 : Value) (G : GS) : Ref (s195 true e v0 G) (s195 false (Ex.of E) v0 G) := by
  unfold s195
  exact Ref.go
theorem f195 {orc : FuncId → Bool} {e : Ex} (h : ExLe Q e (E orc)) (v0 : Value) (G : GS) : Ref (s195 true e v0 G) ((E orc).cl 195 [v0] G) :=
  fun r hr => cl_sxE_some Q orc (vs := [v0]) G Tryz.func195 (by kernel_rfl) (by kernel_rfl) (by kernel_rfl) (by kernel_rfl) (by kernel_rfl) (by kernel_rfl) (m195 h v0 G r hr)
noncomputable def b196_0 (q : Bool) (e : Ex) (lp : Env → GS → Option (Exit × Env × GS)) (τ : Env) (G : GS) : Option (Exit × Env × GS) :=
  bV q (τ 0) fun a0_ =>
  bV q (τ 1) fun a1_ =>
  bV q (τ 5) fun a5_ =>
  bV q (τ 6) fun a6_ =>
  bP (pNil a0_) fun x0 =>
  bP (fa Q q 283 2 14 x0) fun x1 =>
  bP (ld Q q 3 x1 G) fun x2 =>
  bP (bn Q q .eql 3 (.tmp 56) (.const (.int .i64 1)) x2 (.int .i64 1)) fun x3 =>
  ifV x3 (
  bS (e.ev.cl 177 [a1_, a5_] G) fun x4 G5 =>
  bP (pNil a0_) fun x6 =>
  bP (fa Q q 283 3 15 x6) fun x7 =>
  bP (fa Q q 280 3 3 x7) fun x8 =>
  bP (st Q q 41 1 x8 x4 G5) fun G9 =>
  bP (pNil a0_) fun x10 =>
  bP (fa Q q 283 3 15 x10) fun x11 =>
  bP (fa Q q 280 3 3 x11) fun x12 =>
  bP (ld Q q 41 x12 G9) fun x13 =>
  bS (e.ev.cl 192 [x13] G9) fun x14 G15 =>
  ifV x14 (
  bS (e.ev.cl 195 [a0_] G15) fun x16 G17 =>
  some ((.exit 0), clq q 195 (tu τ [(0, a0_), (1, a1_), (5, a5_), (6, a6_), (53, a0_), (54, x0), (55, x1), (56, x2), (60, x3), (61, x3), (62, a0_), (63, a1_), (64, a5_), (65, x4), (66, x6), (67, x7), (68, x8), (69, a0_), (70, x10), (71, x11), (72, x12), (73, x13), (74, x14), (75, a0_), (76, x16)]), G17)) (
  bS (e.ev.cl 278 [a0_] G15) fun x18 G19 =>
  some ((.exit 0), clq q 195 (tu τ [(0, a0_), (1, a1_), (5, a5_), (6, a6_), (53, a0_), (54, x0), (55, x1), (56, x2), (60, x3), (61, x3), (62, a0_), (63, a1_), (64, a5_), (65, x4), (66, x6), (67, x7), (68, x8), (69, a0_), (70, x10), (71, x11), (72, x12), (73, x13), (74, x14), (188, a0_), (189, x18)]), G19))) (
  bP (bn Q q .eql 3 (.tmp 56) (.const (.int .i64 2)) x2 (.int .i64 2)) fun x20 =>
  ifV x20 (
  bP (pNil a0_) fun x21 =>
  bP (fa Q q 283 3 15 x21) fun x22 =>
  bP (fa Q q 280 3 3 x22) fun x23 =>
  bP (ld Q q 41 x23 G) fun x24 =>
  bP (pNil a0_) fun x25 =>
  bP (fa Q q 283 6 21 x25) fun x26 =>
  bP (st Q q 41 1 x26 x24 G) fun G27 =>
  bP (pNil a0_) fun x28 =>
  bP (fa Q q 283 0 0 x28) fun x29 =>
  bP (lda Q q 31 13 x29 (G27.room 17)) fun x30 =>
  bP (pNil a0_) fun x31 =>
  bP (fa Q q 283 3 15 x31) fun x32 =>
  bP (fa Q q 280 0 0 x32) fun x33 =>
  bP (ld Q q 3 x33 (G27.room 17)) fun x34 =>
  bS (e.ev.cl 69 [x30, a6_, x34] (G27.room 17)) fun x36 G35 =>
  bS (e.ev.cl 177 [a1_, x36] G35) fun x38 G37 =>
  bP (pNil a0_) fun x39 =>
  bP (fa Q q 283 4 19 x39) fun x40 =>
  bP (st Q q 41 1 x40 x38 G37) fun G41 =>
  bP (pNil a0_) fun x42 =>
  bP (fa Q q 283 2 14 x42) fun x43 =>
  bP (st Q q 3 1 x43 (.int .i64 4) G41) fun G44 =>
  bP (pNil a0_) fun x45 =>
  bP (fa Q q 283 4 19 x45) fun x46 =>
  bP (ld Q q 41 x46 G44) fun x47 =>
  bS (e.ev.cl 192 [x47] G44) fun x48 G49 =>
  ifV x48 (
  bP (pNil a0_) fun x50 =>
  bP (fa Q q 283 2 14 x50) fun x51 =>
  bP (st Q q 3 1 x51 (.int .i64 3) G49) fun G52 =>
  some ((.exit 0), clq q 195 (tu τ [(0, a0_), (1, a1_), (5, a5_), (6, a6_), (53, a0_), (54, x0), (55, x1), (56, x2), (60, x3), (61, x3), (77, x20), (78, x20), (79, a0_), (80, a0_), (81, x21), (82, x22), (83, x23), (84, x24), (85, x25), (86, x26), (87, a0_), (88, a1_), (89, a0_), (90, x28), (91, x29), (92, x30), (93, a6_), (94, a0_), (95, x31), (96, x32), (97, x33), (98, x34), (99, x36), (100, x38), (101, x39), (102, x40), (103, a0_), (104, x42), (105, x43), (106, a0_), (107, x45), (108, x46), (109, x47), (110, x48), (111, a0_), (112, x50), (113, x51)]), G52)) (
  some ((.exit 0), clq q 195 (tu τ [(0, a0_), (1, a1_), (5, a5_), (6, a6_), (53, a0_), (54, x0), (55, x1), (56, x2), (60, x3), (61, x3), (77, x20), (78, x20), (79, a0_), (80, a0_), (81, x21), (82, x22), (83, x23), (84, x24), (85, x25), (86, x26), (87, a0_), (88, a1_), (89, a0_), (90, x28), (91, x29), (92, x30), (93, a6_), (94, a0_), (95, x31), (96, x32), (97, x33), (98, x34), (99, x36), (100, x38), (101, x39), (102, x40), (103, a0_), (104, x42), (105, x43), (106, a0_), (107, x45), (108, x46), (109, x47), (110, x48)]), G49))) (
  bP (bn Q q .eql 3 (.tmp 56) (.const (.int .i64 3)) x2 (.int .i64 3)) fun x53 =>
  ifV x53 (
  bP (pNil a0_) fun x54 =>
  bP (fa Q q 283 3 15 x54) fun x55 =>
  bP (fa Q q 280 3 3 x55) fun x56 =>
  bP (ld Q q 41 x56 (G.room 14)) fun x57 =>
  bP (pNil a0_) fun x58 =>
  bP (fa Q q 283 4 19 x58) fun x59 =>
  bP (ld Q q 41 x59 (G.room 14)) fun x60 =>
  bS (e.ev.cl 194 [x60, (.bool false)] (G.room 14)) fun x62 G61 =>
  chk ((sameO (ld Q q 41 x56 G61) x57 && true)) <|
  bS (e.ev.cl 68 [a1_, a5_, x57, x62] G61) fun x64 G63 =>
  bP (un Q q .not x64) fun x65 =>
  ifV x65 (
  bS (e.ev.cl 195 [a0_] G63) fun x66 G67 =>
  some ((.exit 0), clq q 195 (tu τ [(0, a0_), (1, a1_), (5, a5_), (6, a6_), (53, a0_), (54, x0), (55, x1), (56, x2), (60, x3), (61, x3), (77, x20), (78, x20), (114, x53), (115, x53), (116, a1_), (117, a5_), (118, a0_), (119, x54), (120, x55), (121, x56), (122, x57), (123, a0_), (124, x58), (125, x59), (126, x60), (127, x62), (128, x64), (129, x65), (130, a0_), (131, x66)]), G67)) (
  bP (pNil a0_) fun x68 =>
  bP (fa Q q 283 4 19 x68) fun x69 =>
  bP (ld Q q 41 x69 G63) fun x70 =>
  bS (e.ev.cl 194 [x70, (.bool false)] G63) fun x71 G72 =>
  bP (pNil a0_) fun x73 =>
  bP (fa Q q 283 3 15 x73) fun x74 =>
  bP (fa Q q 280 3 3 x74) fun x75 =>
  bP (st Q q 41 1 x75 x71 G72) fun G76 =>
  bS (e.ev.cl 278 [a0_] G76) fun x77 G78 =>
  some ((.exit 0), clq q 195 (tu τ [(0, a0_), (1, a1_), (5, a5_), (6, a6_), (53, a0_), (54, x0), (55, x1), (56, x2), (60, x3), (61, x3), (77, x20), (78, x20), (114, x53), (115, x53), (116, a1_), (117, a5_), (118, a0_), (119, x54), (120, x55), (121, x56), (122, x57), (123, a0_), (124, x58), (125, x59), (126, x60), (127, x62), (128, x64), (129, x65), (132, a0_), (133, a0_), (134, x68), (135, x69), (136, x70), (137, x71), (138, x73), (139, x74), (140, x75), (188, a0_), (189, x77)]), G78))) (
  bP (bn Q q .eql 3 (.tmp 56) (.const (.int .i64 4)) x2 (.int .i64 4)) fun x79 =>
  ifV x79 (
  bP (pNil a0_) fun x80 =>
  bP (fa Q q 283 3 15 x80) fun x81 =>
  bP (fa Q q 280 3 3 x81) fun x82 =>
  bP (ld Q q 41 x82 G) fun x83 =>
  bP (pNil a0_) fun x84 =>
  bP (fa Q q 283 6 21 x84) fun x85 =>
  bP (st Q q 41 1 x85 x83 G) fun G86 =>
  bP (pNil a0_) fun x87 =>
  bP (fa Q q 283 0 0 x87) fun x88 =>
  bP (lda Q q 31 13 x88 (G86.room 13)) fun x89 =>
  bS (e.ev.cl 191 [x89, a6_, (.int .i64 0)] (G86.room 13)) fun x91 G90 =>
  bS (e.ev.cl 177 [a1_, x91] G90) fun x93 G92 =>
  bP (pNil a0_) fun x94 =>
  bP (fa Q q 283 1 13 x94) fun x95 =>
  bP (ld Q q 41 x95 G92) fun x96 =>
  chk ((sameO (ld Q q 41 x95 G90) x96 && (sameO (ld Q q 41 x95 (G86.room 13)) x96 && true))) <|
  bP (bn Q q .geq 41 (.tmp 158) (.tmp 162) x93 x96) fun x97 =>
  ifV x97 (
  bS (e.ev.cl 277 [a0_] G92) fun x98 G99 =>
  some ((.exit 0), clq q 195 (tu τ [(0, a0_), (1, a1_), (5, a5_), (6, a6_), (53, a0_), (54, x0), (55, x1), (56, x2), (60, x3), (61, x3), (77, x20), (78, x20), (114, x53), (115, x53), (141, x79), (142, x79), (143, a0_), (144, a0_), (145, x80), (146, x81), (147, x82), (148, x83), (149, x84), (150, x85), (151, a1_), (152, a0_), (153, x87), (154, x88), (155, x89), (156, a6_), (157, x91), (158, x93), (159, a0_), (160, x94), (161, x95), (162, x96), (163, x97), (164, a0_), (165, x98)]), G99)) (
  bP (pNil a0_) fun x100 =>
  bP (fa Q q 283 3 15 x100) fun x101 =>
  bP (fa Q q 280 3 3 x101) fun x102 =>
  bP (ld Q q 41 x102 (G92.room 25)) fun x103 =>
  bP (pNil a0_) fun x104 =>
  bP (fa Q q 283 4 19 x104) fun x105 =>
  bP (ld Q q 41 x105 (G92.room 25)) fun x106 =>
  bP (pNil a0_) fun x107 =>
  bP (fa Q q 283 3 15 x107) fun x108 =>
  bP (fa Q q 280 1 1 x108) fun x109 =>
  bP (st Q q 3 1 x109 a6_ (G92.room 25)) fun G110 =>
  bP (pNil a0_) fun x111 =>
  bP (fa Q q 283 3 15 x111) fun x112 =>
  bP (fa Q q 280 2 2 x112) fun x113 =>
  bP (st Q q 41 1 x113 x103 G110) fun G114 =>
  bP (pNil a0_) fun x115 =>
  bP (fa Q q 283 3 15 x115) fun x116 =>
  bP (fa Q q 280 3 3 x116) fun x117 =>
  bP (st Q q 41 1 x117 x106 G114) fun G118 =>
  bS (e.ev.cl 278 [a0_] G118) fun x119 G120 =>
  some ((.exit 0), clq q 195 (tu τ [(0, a0_), (1, a1_), (5, a5_), (6, a6_), (53, a0_), (54, x0), (55, x1), (56, x2), (60, x3), (61, x3), (77, x20), (78, x20), (114, x53), (115, x53), (141, x79), (142, x79), (143, a0_), (144, a0_), (145, x80), (146, x81), (147, x82), (148, x83), (149, x84), (150, x85), (151, a1_), (152, a0_), (153, x87), (154, x88), (155, x89), (156, a6_), (157, x91), (158, x93), (159, a0_), (160, x94), (161, x95), (162, x96), (163, x97), (166, a0_), (167, a0_), (168, a0_), (169, a6_), (170, a0_), (171, x100), (172, x101), (173, x102), (174, x103), (175, a0_), (176, x104), (177, x105), (178, x106), (179, x107), (180, x108), (181, x109), (182, x111), (183, x112), (184, x113), (185, x115), (186, x116), (187, x117), (188, a0_), (189, x119)]), G120))) (
  bP (pNil a0_) fun x121 =>
  bP (fa Q q 283 2 14 x121) fun x122 =>
  bP (st Q q 3 1 x122 (.int .i64 1) G) fun G123 =>
  lp (tu τ [(0, a0_), (1, a1_), (5, a5_), (6, a6_), (53, a0_), (54, x0), (55, x1), (56, x2), (57, a0_), (58, x121), (59, x122), (60, x3), (61, x3), (77, x20), (78, x20), (114, x53), (115, x53), (141, x79), (142, x79)]) G123))))
theorem mb196_0 {e : Ex} {E : Ev} (h : ExLe Q e E) {lp lp' : Env → GS → Option (Exit × Env × GS)} (hlp : LpLe lp lp') (τ : Env) (G : GS) : Ref (b196_0 true e lp τ G) (b196_0 false (Ex.of E) lp' τ G) := by
  unfold b196_0
  exact Ref.go
set_option maxHeartbeats 8000000 in
theorem l196_0 {orc : FuncId → Bool} {e : Ex} (h : ExLe Q e (E orc)) (lp : Env → GS → Option (Exit × Env × GS)) (hlp : ∀ τ G, Ref (lp τ G) (mapE ((E orc).lp (subAt [1, 0, 1, 1, 1, 1, 1, 0, 0, 0] (bodyOf Tryz.f196)) (lst 195 τ) G))) (T : List Value) (G : GS) (hT : T.length = 195) : Ref (b196_0 true e lp (nth undef T) G) (mapE ((E orc).lp (subAt [1, 0, 1, 1, 1, 1, 1, 0, 0, 0] (bodyOf Tryz.f196)) T G)) :=
  fun r hr => lp_sxM Q orc G hT (by kernel_rfl) (mb196_0 h ⟨hlp⟩ _ _ r hr)
/-- (*coxswain/find.Find).Step -/
noncomputable def s196 (q : Bool) (e : Ex) (v0 v1 : Value) (G : GS) : Option (Value × GS) :=
  bP (ep Q q false 37 (.tmp 7) (.const (.pointer none)) v0 (.pointer none)) fun x0 =>
  bS (gd x0 false (some (v0, G)) G) fun x1 G2 =>
  bS (gd x0 false (bP (pNil x1) fun y => some (y, G2)) G2) fun x3 G4 =>
  bS (gd x0 false (bP (fa Q q 283 7 22 x3) fun y => some (y, G4)) G4) fun x5 G6 =>
  bS (gd x0 false (bP (ld Q q 4 x5 G6) fun y => some (y, G6)) G6) fun x7 G8 =>
  bS (gd x0 false (bP (un Q q .not x7) fun y => some (y, G8)) G8) fun x9 G10 =>
  bP (pickV x0 (.bool true) x9) fun x11 =>
  bS (gd x11 false (some (v0, G10)) G10) fun x12 G13 =>
  bS (gd x11 false (bP (pNil x12) fun y => some (y, G13)) G13) fun x14 G15 =>
  bS (gd x11 false (bP (fa Q q 283 2 14 x14) fun y => some (y, G15)) G15) fun x16 G17 =>
  bS (gd x11 false (bP (ld Q q 3 x16 G17) fun y => some (y, G17)) G17) fun x18 G19 =>
  bS (gd x11 false (bP (bn Q q .eql 3 (.tmp 20) (.const (.int .i64 9)) x18 (.int .i64 9)) fun y => some (y, G19)) G19) fun x20 G21 =>
  bP (pickV x11 (.bool true) x20) fun x22 =>
  ifV x22 (
  some ((.bool true), G21)) (
  bP (pNil v0) fun x23 =>
  bP (fa Q q 283 0 0 x23) fun x24 =>
  bP (lda Q q 31 13 x24 (G21.room 16)) fun x25 =>
  bP (pNil v0) fun x26 =>
  bP (fa Q q 283 3 15 x26) fun x27 =>
  bP (fa Q q 280 1 1 x27) fun x28 =>
  bP (ld Q q 3 x28 (G21.room 16)) fun x29 =>
  bP (pNil v0) fun x30 =>
  bP (fa Q q 283 3 15 x30) fun x31 =>
  bP (fa Q q 280 0 0 x31) fun x32 =>
  bP (ld Q q 3 x32 (G21.room 16)) fun x33 =>
  bS (e.ev.cl 69 [x25, x29, x33] (G21.room 16)) fun x35 G34 =>
  bP (pNil v0) fun x36 =>
  bP (fa Q q 283 3 15 x36) fun x37 =>
  bP (fa Q q 280 3 3 x37) fun x38 =>
  bP (ld Q q 41 x38 G34) fun x39 =>
  bS (e.ev.cl 276 [v0, x39] G34) fun x40 G41 =>
  bP (pNil v0) fun x42 =>
  bP (fa Q q 283 3 15 x42) fun x43 =>
  bP (fa Q q 280 2 2 x43) fun x44 =>
  bP (ld Q q 41 x44 G41) fun x45 =>
  bP (pNil v0) fun x46 =>
  bP (fa Q q 283 6 21 x46) fun x47 =>
  bP (st Q q 41 1 x47 x45 G41) fun G48 =>
  bL q e 196 0 (subAt [1, 0, 1, 1, 1, 1, 1, 0, 0, 0] (bodyOf Tryz.f196)) 195 (tu (nth undef [v0, v1]) [(4, (.bool false)), (5, x35), (6, x40), (7, v0), (8, x0), (9, x0), (10, x1), (11, x3), (12, x5), (13, x7), (14, x9), (15, x11), (16, x11), (17, x12), (18, x14), (19, x16), (20, x18), (21, x20), (22, x22), (23, v0), (24, x23), (25, x24), (26, x25), (27, v0), (28, x26), (29, x27), (30, x28), (31, x29), (32, v0), (33, x30), (34, x31), (35, x32), (36, x33), (37, x35), (38, v0), (39, v0), (40, x36), (41, x37), (42, x38), (43, x39), (44, x40), (45, v0), (46, v0), (47, x42), (48, x43), (49, x44), (50, x45), (51, x46), (52, x47)]) G48 fun e49 t50 G51 =>
  bV q (t50 0) fun t50x0_ =>
  ifE e49 (.exit 0) (
  bP (pNil t50x0_) fun x52 =>
  bP (fa Q q 283 2 14 x52) fun x53 =>
  bP (ld Q q 3 x53 G51) fun x54 =>
  bP (bn Q q .eql 3 (.tmp 193) (.const (.int .i64 9)) x54 (.int .i64 9)) fun x55 =>
  some (x55, G51)) (none))
theorem m196 {e : Ex} {E : Ev} (h : ExLe Q e E) (v0 v1 : Value) (G : GS) : Ref (s196 true e v0 v1 G) (s196 false (Ex.of E) v0 v1 G) := by
  unfold s196
  exact Ref.go
set_option maxHeartbeats 8000000 in
theorem f196 {orc : FuncId → Bool} {e : Ex} (h : ExLe Q e (E orc)) (v0 v1 : Value) (G : GS) : Ref (s196 true e v0 v1 G) ((E orc).cl 196 [v0, v1] G) :=
  fun r hr => cl_sxE_some Q orc (vs := [v0, v1]) G Tryz.func196 (by kernel_rfl) (by kernel_rfl) (by kernel_rfl) (by kernel_rfl) (by kernel_rfl) (by kernel_rfl) (m196 h v0 v1 G r hr)
/-- (*coxswain/find.Find).By -/
noncomputable def s197 (q : Bool) (e : Ex) (v0 : Value) (G : GS) : Option (Value × GS) :=
  bP (ep Q q false 37 (.tmp 3) (.const (.pointer none)) v0 (.pointer none)) fun x0 =>
  ifV x0 (
  some ((.int .u64 0), G)) (
  bP (pNil v0) fun x1 =>
  bP (fa Q q 283 6 21 x1) fun x2 =>
  bP (ld Q q 41 x2 G) fun x3 =>
  some (x3, G))
theorem m197 {e : Ex} {E : Ev} (h : ExLe Q e E) (v0 : Value) (G : GS) : Ref (s197 true e v0 G) (s197 false (Ex.of E) v0 G) := by
  unfold s197
  exact Ref.go
theorem f197 {orc : FuncId → Bool} {e : Ex} (h : ExLe Q e (E orc)) (v0 : Value) (G : GS) : Ref (s197 true e v0 G) ((E orc).cl 197 [v0] G) :=
  fun r hr => cl_sxE_some Q orc (vs := [v0]) G Tryz.func197 (by kernel_rfl) (by kernel_rfl) (by kernel_rfl) (by kernel_rfl) (by kernel_rfl) (by kernel_rfl) (m197 h v0 G r hr)
/-- (*coxswain/cells.Mem).Add -/
noncomputable def s198 (q : Bool) (e : Ex) (v0 v1 v2 : Value) (G : GS) : Option (Value × GS) :=
  bS (e.ev.cl 158 [v0, v1] G) fun x0 G1 =>
  bP (bd Q q 246 z246 [(0, 0, 1), (1, 1, 1)] [x0, v2]) fun x2 =>
  bS (al Q q 246 z246 G1) fun x3 G4 =>
  bP (st Q q 246 3 x3 x2 G4) fun G5 =>
  bP (fa Q q 246 0 0 x3) fun x6 =>
  bP (ld Q q 243 x6 G5) fun x7 =>
  bP (lda Q q 246 3 x3 G5) fun x8 =>
  bS (e.ev.cl 159 [v0, (.int .i64 4), v1, x7, (.func (.func 279) #[x8] #[])] G5) fun x9 G10 =>
  bP (fd Q q 68 3 3 x9) fun x11 =>
  some (x11, G10)
theorem m198 {e : Ex} {E : Ev} (h : ExLe Q e E) (v0 v1 v2 : Value) (G : GS) : Ref (s198 true e v0 v1 v2 G) (s198 false (Ex.of E) v0 v1 v2 G) := by
  unfold s198
  exact Ref.go
theorem f198 {orc : FuncId → Bool} {e : Ex} (h : ExLe Q e (E orc)) (v0 v1 v2 : Value) (G : GS) : Ref (s198 true e v0 v1 v2 G) ((E orc).cl 198 [v0, v1, v2] G) :=
  fun r hr => cl_sxE_some Q orc (vs := [v0, v1, v2]) G Tryz.func198 (by kernel_rfl) (by kernel_rfl) (by kernel_rfl) (by kernel_rfl) (by kernel_rfl) (by kernel_rfl) (m198 h v0 v1 v2 G r hr)
/-- coxswain/tower.Level -/
noncomputable def s201 (q : Bool) (e : Ex) (v0 v1 v2 : Value) (G : GS) : Option (Value × GS) :=
  bS (bx q v0 G) fun x0 G1 =>
  bS (al Q q 78 z78 G1) fun x2 G3 =>
  bP (lda Q q 31 13 x0 G3) fun x4 =>
  bS (e.ev.cl 69 [x4, (.int .i64 (-1)), v1] G3) fun x5 G6 =>
  bP (bn Q q .lss 3 (.tmp 11) (.const (.int .i64 0)) x5 (.int .i64 0)) fun x7 =>
  ifV x7 (
  bP (ld Q q 78 x2 G6) fun x8 =>
  some (x8, G6)) (
  bS (e.ev.cl 53 [v2] (G6.room 5)) fun x10 G9 =>
  bP (lda Q q 31 13 x0 G9) fun x11 =>
  chk ((sameO (lda Q q 31 13 x0 (G6.room 5)) x11 && true)) <|
  bS (e.ev.cl 282 [x10, x11, v1] G9) fun x13 G12 =>
  bX (xRange e.ev x13 #[19] (subAt [1, 1, 1, 0, 1, 0, 0] (bodyOf Tryz.f201)) (subAt [1, 1, 1, 0, 1, 0, 1] (bodyOf Tryz.f201)) (lst 25 (tu (nth undef [v0, v1, v2]) [(3, x0), (6, (.slice none 0 0)), (7, x2), (9, x4), (10, v1), (11, x5), (12, x7), (14, v2), (15, x10), (16, x11), (17, v1), (18, x13)])) G12) fun e14 T15 G16 =>
  bV q (nth undef T15 7) fun T15x7_ =>
  ifE e14 .normal (
  bP (ld Q q 78 T15x7_ G16) fun x17 =>
  some (x17, G16)) (none))
theorem m201 {e : Ex} {E : Ev} (h : ExLe Q e E) (v0 v1 v2 : Value) (G : GS) : Ref (s201 true e v0 v1 v2 G) (s201 false (Ex.of E) v0 v1 v2 G) := by
  unfold s201
  exact Ref.go
theorem f201 {orc : FuncId → Bool} {e : Ex} (h : ExLe Q e (E orc)) (v0 v1 v2 : Value) (G : GS) : Ref (s201 true e v0 v1 v2 G) ((E orc).cl 201 [v0, v1, v2] G) :=
  fun r hr => cl_sxE_some Q orc (vs := [v0, v1, v2]) G Tryz.func201 (by kernel_rfl) (by kernel_rfl) (by kernel_rfl) (by kernel_rfl) (by kernel_rfl) (by kernel_rfl) (m201 h v0 v1 v2 G r hr)
/-- coxswain/stack.Chain -/
noncomputable def s202 (q : Bool) (e : Ex) (v0 v1 : Value) (G : GS) : Option (Value × GS) :=
  bS (bx q v0 G) fun x0 G1 =>
  bS (al Q q 78 z78 G1) fun x2 G3 =>
  bP (lda Q q 23 3 x0 (G3.room 4)) fun x4 =>
  bS (e.ev.cl 53 [v1] (G3.room 4)) fun x6 G5 =>
  chk ((sameO (lda Q q 23 3 x0 G5) x4 && true)) <|
  bS (e.ev.cl 283 [x4, x6] G5) fun x8 G7 =>
  bX (xRange e.ev x8 #[11] (subAt [1, 1, 0, 1, 0, 0] (bodyOf Tryz.f202)) (subAt [1, 1, 0, 1, 0, 1] (bodyOf Tryz.f202)) (lst 17 (tu (nth undef [v0, v1]) [(2, x0), (4, (.slice none 0 0)), (5, x2), (7, x4), (8, v1), (9, x6), (10, x8)])) G7) fun e9 T10 G11 =>
  bV q (nth undef T10 5) fun T10x5_ =>
  ifE e9 .normal (
  bP (ld Q q 78 T10x5_ G11) fun x12 =>
  some (x12, G11)) (none)
theorem m202 {e : Ex} {E : Ev} (h : ExLe Q e E) (v0 v1 : Value) (G : GS) : Ref (s202 true e v0 v1 G) (s202 false (Ex.of E) v0 v1 G) := by
  unfold s202
  exact Ref.go
theorem f202 {orc : FuncId → Bool} {e : Ex} (h : ExLe Q e (E orc)) (v0 v1 : Value) (G : GS) : Ref (s202 true e v0 v1 G) ((E orc).cl 202 [v0, v1] G) :=
  fun r hr => cl_sxE_some Q orc (vs := [v0, v1]) G Tryz.func202 (by kernel_rfl) (by kernel_rfl) (by kernel_rfl) (by kernel_rfl) (by kernel_rfl) (by kernel_rfl) (m202 h v0 v1 G r hr)
/-- coxswain/word.GetRef -/
noncomputable def s203 (q : Bool) (e : Ex) (v0 : Value) (G : GS) : Option (Value × GS) :=
  bS (al Q q 289 z289 G) fun x0 G1 =>
  bS (e.ev.cl 284 [] G1) fun x2 G3 =>
  bS (al Q q 393 z393 G3) fun x4 G5 =>
  bP (st Q q 393 4 x4 x2 G5) fun G6 =>
  bP (iaa Q q 393 2 2 x4 (.int .i64 0)) fun x7 =>
  bP (lda Q q 392 2 x7 (G6.room 14)) fun x8 =>
  bS (e.ev.cl 272 [v0, x8] (G6.room 14)) fun x10 G9 =>
  bP (bn Q q .sub 3 (.tmp 12) (.const (.int .i64 1)) x10 (.int .i64 1)) fun x11 =>
  bP (iaa Q q 393 2 2 x4 (.int .i64 1)) fun x12 =>
  bP (lda Q q 392 2 x12 G9) fun x13 =>
  chk ((sameO (lda Q q 392 2 x12 (G6.room 14)) x13 && true)) <|
  bS (e.ev.cl 272 [v0, x13] G9) fun x15 G14 =>
  bS (e.ev.cl 192 [v0] G14) fun x17 G16 =>
  bP (bd Q q 289 z289 [(0, 0, 1), (1, 1, 1), (2, 2, 1)] [x11, x15, x17]) fun x18 =>
  bS (al Q q 289 z289 (G16.at' (G6.nx + 12))) fun x19 G20 =>
  bP (st Q q 289 3 x19 x18 (G20.back G16)) fun G21 =>
  bP (lda Q q 289 3 x19 G21) fun x22 =>
  bS (e.ev.cl 285 [x22] G21) fun x23 G24 =>
  bP (pExtract x23 0) fun x25 =>
  bP (pExtract x23 1) fun x26 =>
  bP (bn Q q .neq 33 (.tmp 26) (.const (.int .i64 0)) x26 (.int .i64 0)) fun x27 =>
  bS (gd x27 false (some (x25, G24)) G24) fun x28 G29 =>
  bS (gd x27 false (some (v0, G29)) G29) fun x30 G31 =>
  bS (gd x27 false (bP (bn Q q .neq 41 (.tmp 29) (.tmp 30) x28 x30) fun y => some (y, G31)) G31) fun x32 G33 =>
  bP (pickV x27 (.bool true) x32) fun x34 =>
  ifV x34 (
  bP (bd Q q 289 z289 [] []) fun x35 =>
  bP (st Q q 289 3 x0 x35 G33) fun G36 =>
  bP (lda Q q 289 3 x0 G36) fun x37 =>
  some (.tuple #[x37, (.int .i64 5)], G36)) (
  bP (lda Q q 289 3 x19 G33) fun x38 =>
  bP (st Q q 289 3 x0 x38 G33) fun G39 =>
  bP (lda Q q 289 3 x0 G39) fun x40 =>
  some (.tuple #[x40, (.int .i64 0)], G39))
theorem m203 {e : Ex} {E : Ev} (h : ExLe Q e E) (v0 : Value) (G : GS) : Ref (s203 true e v0 G) (s203 false (Ex.of E) v0 G) := by
  unfold s203
  exact Ref.go
theorem f203 {orc : FuncId → Bool} {e : Ex} (h : ExLe Q e (E orc)) (v0 : Value) (G : GS) : Ref (s203 true e v0 G) ((E orc).cl 203 [v0] G) :=
  fun r hr => cl_sxE_some Q orc (vs := [v0]) G Tryz.func203 (by kernel_rfl) (by kernel_rfl) (by kernel_rfl) (by kernel_rfl) (by kernel_rfl) (by kernel_rfl) (m203 h v0 G r hr)
/-- coxswain/audit.low[int] -/
noncomputable def s204 (q : Bool) (e : Ex) (v0 v1 v2 : Value) (G : GS) : Option (Value × GS) :=
  bS (cValue e.ev v1 [v0] G) fun x0 G1 =>
  bP (bn Q q .sub 41 (.tmp 10) (.const (.int .u64 1)) v2 (.int .u64 1)) fun x2 =>
  bP (bn Q q .and 41 (.tmp 9) (.tmp 11) x0 x2) fun x3 =>
  some (x3, G1)
theorem m204 {e : Ex} {E : Ev} (h : ExLe Q e E) (v0 v1 v2 : Value) (G : GS) : Ref (s204 true e v0 v1 v2 G) (s204 false (Ex.of E) v0 v1 v2 G) := by
  unfold s204
  exact Ref.go
theorem f204 {orc : FuncId → Bool} {e : Ex} (h : ExLe Q e (E orc)) (v0 v1 v2 : Value) (G : GS) : Ref (s204 true e v0 v1 v2 G) ((E orc).cl 204 [v0, v1, v2] G) :=
  fun r hr => cl_sxE_some Q orc (vs := [v0, v1, v2]) G Tryz.func204 (by kernel_rfl) (by kernel_rfl) (by kernel_rfl) (by kernel_rfl) (by kernel_rfl) (by kernel_rfl) (m204 h v0 v1 v2 G r hr)
noncomputable def b205_0 (q : Bool) (e : Ex) (lp : Env → GS → Option (Exit × Env × GS)) (τ : Env) (G : GS) : Option (Exit × Env × GS) :=
  bV q (τ 0) fun a0_ =>
  bV q (τ 18) fun a18_ =>
  bV q (τ 19) fun a19_ =>
  bV q (τ 20) fun a20_ =>
  bP (bn Q q .lss 3 (.tmp 20) (.tmp 19) a20_ a19_) fun x0 =>
  ifV x0 (
  bP (ias Q q 78 1 a18_ a20_) fun x1 =>
  bP (ld Q q 3 x1 G) fun x2 =>
  bS (cValue e.ev a0_ [x2, (.int .i64 1)] G) fun x3 G4 =>
  bP (un Q q .not x3) fun x5 =>
  ifV x5 (
  some (.ret, clq q 74 (tu τ [(0, a0_), (18, a18_), (19, a19_), (20, a20_), (4, x2), (21, x0), (22, x1), (23, x2), (24, a0_), (25, x2), (26, x3), (27, x5)]), G4)) (
  bP (bn Q q .add 3 (.tmp 20) (.const (.int .i64 1)) a20_ (.int .i64 1)) fun x6 =>
  lp (tu τ [(0, a0_), (18, a18_), (19, a19_), (20, x6), (4, x2), (21, x0), (22, x1), (23, x2), (24, a0_), (25, x2), (26, x3), (27, x5), (28, x6)]) G4)) (
  some ((.exit 0), clq q 74 (tu τ [(0, a0_), (18, a18_), (19, a19_), (20, a20_), (21, x0)]), G))
theorem mb205_0 {e : Ex} {E : Ev} (h : ExLe Q e E) {lp lp' : Env → GS → Option (Exit × Env × GS)} (hlp : LpLe lp lp') (τ : Env) (G : GS) : Ref (b205_0 true e lp τ G) (b205_0 false (Ex.of E) lp' τ G) := by
  unfold b205_0
  exact Ref.go
theorem l205_0 {orc : FuncId → Bool} {e : Ex} (h : ExLe Q e (E orc)) (lp : Env → GS → Option (Exit × Env × GS)) (hlp : ∀ τ G, Ref (lp τ G) (mapE ((E orc).lp (subAt [0, 1, 0, 0] (bodyOf Tryz.f205)) (lst 74 τ) G))) (T : List Value) (G : GS) (hT : T.length = 74) : Ref (b205_0 true e lp (nth undef T) G) (mapE ((E orc).lp (subAt [0, 1, 0, 0] (bodyOf Tryz.f205)) T G)) :=
  fun r hr => lp_sxM Q orc G hT (by kernel_rfl) (mb205_0 h ⟨hlp⟩ _ _ r hr)
noncomputable def b205_1 (q : Bool) (e : Ex) (lp : Env → GS → Option (Exit × Env × GS)) (τ : Env) (G : GS) : Option (Exit × Env × GS) :=
  bV q (τ 0) fun a0_ =>
  bV q (τ 33) fun a33_ =>
  bV q (τ 34) fun a34_ =>
  bV q (τ 35) fun a35_ =>
  bP (bn Q q .lss 3 (.tmp 35) (.tmp 34) a35_ a34_) fun x0 =>
  ifV x0 (
  bP (ias Q q 78 1 a33_ a35_) fun x1 =>
  bP (ld Q q 3 x1 G) fun x2 =>
  bS (cValue e.ev a0_ [x2, (.int .i64 2)] G) fun x3 G4 =>
  bP (un Q q .not x3) fun x5 =>
  ifV x5 (
  some (.ret, clq q 74 (tu τ [(0, a0_), (33, a33_), (34, a34_), (35, a35_), (6, x2), (36, x0), (37, x1), (38, x2), (39, a0_), (40, x2), (41, x3), (42, x5)]), G4)) (
  bP (bn Q q .add 3 (.tmp 35) (.const (.int .i64 1)) a35_ (.int .i64 1)) fun x6 =>
  lp (tu τ [(0, a0_), (33, a33_), (34, a34_), (35, x6), (6, x2), (36, x0), (37, x1), (38, x2), (39, a0_), (40, x2), (41, x3), (42, x5), (43, x6)]) G4)) (
  some ((.exit 2), clq q 74 (tu τ [(0, a0_), (33, a33_), (34, a34_), (35, a35_), (36, x0)]), G))
theorem mb205_1 {e : Ex} {E : Ev} (h : ExLe Q e E) {lp lp' : Env → GS → Option (Exit × Env × GS)} (hlp : LpLe lp lp') (τ : Env) (G : GS) : Ref (b205_1 true e lp τ G) (b205_1 false (Ex.of E) lp' τ G) := by
  unfold b205_1
  exact Ref.go
theorem l205_1 {orc : FuncId → Bool} {e : Ex} (h : ExLe Q e (E orc)) (lp : Env → GS → Option (Exit × Env × GS)) (hlp : ∀ τ G, Ref (lp τ G) (mapE ((E orc).lp (subAt [1, 0, 1, 0, 0] (bodyOf Tryz.f205)) (lst 74 τ) G))) (T : List Value) (G : GS) (hT : T.length = 74) : Ref (b205_1 true e lp (nth undef T) G) (mapE ((E orc).lp (subAt [1, 0, 1, 0, 0] (bodyOf Tryz.f205)) T G)) :=
  fun r hr => lp_sxM Q orc G hT (by kernel_rfl) (mb205_1 h ⟨hlp⟩ _ _ r hr)
noncomputable def b205_2 (q : Bool) (e : Ex) (lp : Env → GS → Option (Exit × Env × GS)) (τ : Env) (G : GS) : Option (Exit × Env × GS) :=
  bV q (τ 1) fun a1_ =>
  bV q (τ 44) fun a44_ =>
  bP (bn Q q .lss 3 (.tmp 44) (.const (.int .i64 3)) a44_ (.int .i64 3)) fun x0 =>
  ifV x0 (
  bP (fa Q q 174 0 0 a1_) fun x1 =>
  bP (fa Q q 31 3 3 x1) fun x2 =>
  bP (fa Q q 29 0 0 x2) fun x3 =>
  bP (fa Q q 25 0 0 x3) fun x4 =>
  bP (lda Q q 23 3 x4 G) fun x5 =>
  bS (al Q q 23 z23 G) fun x6 G7 =>
  bP (st Q q 23 3 x6 x5 G7) fun G8 =>
  bP (fa Q q 174 0 0 a1_) fun x9 =>
  bP (fa Q q 31 3 3 x9) fun x10 =>
  bP (fa Q q 29 2 9 x10) fun x11 =>
  bP (ld Q q 3 x11 G8) fun x12 =>
  bP (bn Q q .add 3 (.tmp 55) (.tmp 56) x12 a44_) fun x13 =>
  bP (fa Q q 23 0 0 x6) fun x14 =>
  bP (st Q q 3 1 x14 x13 G8) fun G15 =>
  bP (lda Q q 23 3 x6 G15) fun x16 =>
  bP (fa Q q 174 1 13 a1_) fun x17 =>
  bP (ld Q q 32 x17 G15) fun x18 =>
  bS (e.ev.cl 202 [x16, x18] G15) fun x19 G20 =>
  bP (ln Q q 78 x19) fun x21 =>
  bL q e 205 3 (subAt [1, 1, 1, 0, 0, 1, 1, 0, 0, 1, 1, 1, 1, 0, 0] (bodyOf Tryz.f205)) 74 (tu τ [(7, a44_), (8, x6), (45, x0), (46, a44_), (47, x1), (48, x2), (49, x3), (50, x4), (51, x5), (52, x9), (53, x10), (54, x11), (55, x12), (56, a44_), (57, x13), (58, x14), (59, x16), (60, x17), (61, x18), (62, x19), (63, x21), (64, (.int .i64 0))]) G20 fun e22 t23 G24 =>
  bV q (t23 1) fun t23x1_ =>
  bV q (t23 44) fun t23x44_ =>
  ifE e22 (.exit 6) (
  bP (bn Q q .add 3 (.tmp 44) (.const (.int .i64 1)) t23x44_ (.int .i64 1)) fun x25 =>
  lp (tu t23 [(1, t23x1_), (44, x25), (73, x25)]) G24) (ifE e22 .ret (
  some (.ret, clq q 74 (tu t23 [(1, t23x1_), (44, t23x44_)]), G24)) (none))) (
  some ((.exit 4), clq q 74 (tu τ [(1, a1_), (44, a44_), (45, x0)]), G))
theorem mb205_2 {e : Ex} {E : Ev} (h : ExLe Q e E) {lp lp' : Env → GS → Option (Exit × Env × GS)} (hlp : LpLe lp lp') (τ : Env) (G : GS) : Ref (b205_2 true e lp τ G) (b205_2 false (Ex.of E) lp' τ G) := by
  unfold b205_2
  exact Ref.go
theorem l205_2 {orc : FuncId → Bool} {e : Ex} (h : ExLe Q e (E orc)) (lp : Env → GS → Option (Exit × Env × GS)) (hlp : ∀ τ G, Ref (lp τ G) (mapE ((E orc).lp (subAt [1, 1, 1, 0, 0] (bodyOf Tryz.f205)) (lst 74 τ) G))) (T : List Value) (G : GS) (hT : T.length = 74) : Ref (b205_2 true e lp (nth undef T) G) (mapE ((E orc).lp (subAt [1, 1, 1, 0, 0] (bodyOf Tryz.f205)) T G)) :=
  fun r hr => lp_sxM Q orc G hT (by kernel_rfl) (mb205_2 h ⟨hlp⟩ _ _ r hr)
noncomputable def b205_3 (q : Bool) (e : Ex) (lp : Env → GS → Option (Exit × Env × GS)) (τ : Env) (G : GS) : Option (Exit × Env × GS) :=
  bV q (τ 0) fun a0_ =>
  bV q (τ 62) fun a62_ =>
  bV q (τ 63) fun a63_ =>
  bV q (τ 64) fun a64_ =>
  bP (bn Q q .lss 3 (.tmp 64) (.tmp 63) a64_ a63_) fun x0 =>
  ifV x0 (
  bP (ias Q q 78 1 a62_ a64_) fun x1 =>
  bP (ld Q q 3 x1 G) fun x2 =>
  bS (cValue e.ev a0_ [x2, (.int .i64 3)] G) fun x3 G4 =>
  bP (un Q q .not x3) fun x5 =>
  ifV x5 (
  some (.ret, clq q 74 (tu τ [(0, a0_), (62, a62_), (63, a63_), (64, a64_), (10, x2), (65, x0), (66, x1), (67, x2), (68, a0_), (69, x2), (70, x3), (71, x5)]), G4)) (
  bP (bn Q q .add 3 (.tmp 64) (.const (.int .i64 1)) a64_ (.int .i64 1)) fun x6 =>
  lp (tu τ [(0, a0_), (62, a62_), (63, a63_), (64, x6), (10, x2), (65, x0), (66, x1), (67, x2), (68, a0_), (69, x2), (70, x3), (71, x5), (72, x6)]) G4)) (
  some ((.exit 6), clq q 74 (tu τ [(0, a0_), (62, a62_), (63, a63_), (64, a64_), (65, x0)]), G))
theorem mb205_3 {e : Ex} {E : Ev} (h : ExLe Q e E) {lp lp' : Env → GS → Option (Exit × Env × GS)} (hlp : LpLe lp lp') (τ : Env) (G : GS) : Ref (b205_3 true e lp τ G) (b205_3 false (Ex.of E) lp' τ G) := by
  unfold b205_3
  exact Ref.go
theorem l205_3 {orc : FuncId → Bool} {e : Ex} (h : ExLe Q e (E orc)) (lp : Env → GS → Option (Exit × Env × GS)) (hlp : ∀ τ G, Ref (lp τ G) (mapE ((E orc).lp (subAt [1, 1, 1, 0, 0, 1, 1, 0, 0, 1, 1, 1, 1, 0, 0] (bodyOf Tryz.f205)) (lst 74 τ) G))) (T : List Value) (G : GS) (hT : T.length = 74) : Ref (b205_3 true e lp (nth undef T) G) (mapE ((E orc).lp (subAt [1, 1, 1, 0, 0, 1, 1, 0, 0, 1, 1, 1, 1, 0, 0] (bodyOf Tryz.f205)) T G)) :=
  fun r hr => lp_sxM Q orc G hT (by kernel_rfl) (mb205_3 h ⟨hlp⟩ _ _ r hr)
/-- (coxswain/audit.whole).places$1 -/
noncomputable def s205 (q : Bool) (e : Ex) (v0 v1 : Value) (G : GS) : Option (Value × GS) :=
  bP (fa Q q 174 0 0 v1) fun x0 =>
  bP (fa Q q 31 3 3 x0) fun x1 =>
  bP (fa Q q 29 0 0 x1) fun x2 =>
  bP (fa Q q 25 0 0 x2) fun x3 =>
  bP (lda Q q 23 3 x3 G) fun x4 =>
  bP (fa Q q 174 1 13 v1) fun x5 =>
  bP (ld Q q 32 x5 G) fun x6 =>
  bS (e.ev.cl 202 [x4, x6] G) fun x7 G8 =>
  bP (ln Q q 78 x7) fun x9 =>
  bL q e 205 0 (subAt [0, 1, 0, 0] (bodyOf Tryz.f205)) 74 (tu (nth undef [v0, v1]) [(11, x0), (12, x1), (13, x2), (14, x3), (15, x4), (16, x5), (17, x6), (18, x7), (19, x9), (20, (.int .i64 0))]) G8 fun e10 t11 G12 =>
  bV q (t11 1) fun t11x1_ =>
  ifE e10 (.exit 0) (
  bP (fa Q q 174 0 0 t11x1_) fun x13 =>
  bP (lda Q q 31 13 x13 G12) fun x14 =>
  bP (fa Q q 174 1 13 t11x1_) fun x15 =>
  bP (ld Q q 32 x15 G12) fun x16 =>
  bS (e.ev.cl 201 [x14, (.int .i64 0), x16] G12) fun x17 G18 =>
  bP (ln Q q 78 x17) fun x19 =>
  bL q e 205 1 (subAt [1, 0, 1, 0, 0] (bodyOf Tryz.f205)) 74 (tu t11 [(29, x13), (30, x14), (31, x15), (32, x16), (33, x17), (34, x19), (35, (.int .i64 0))]) G18 fun e20 t21 G22 =>
  ifE e20 (.exit 2) (
  bL q e 205 2 (subAt [1, 1, 1, 0, 0] (bodyOf Tryz.f205)) 74 (tu t21 [(44, (.int .i64 0))]) G22 fun e23 t24 G25 =>
  ifE e23 (.exit 4) (
  some (.tuple #[], G25)) (ifE e23 .ret (
  some (.tuple #[], G25)) (none))) (ifE e20 .ret (
  some (.tuple #[], G22)) (none))) (ifE e10 .ret (
  some (.tuple #[], G12)) (none))
theorem m205 {e : Ex} {E : Ev} (h : ExLe Q e E) (v0 v1 : Value) (G : GS) : Ref (s205 true e v0 v1 G) (s205 false (Ex.of E) v0 v1 G) := by
  unfold s205
  exact Ref.go
theorem f205 {orc : FuncId → Bool} {e : Ex} (h : ExLe Q e (E orc)) (v0 v1 : Value) (G : GS) : Ref (s205 true e v0 v1 G) ((E orc).cl 205 [v0, v1] G) :=
  fun r hr => cl_sxE_some Q orc (vs := [v0, v1]) G Tryz.func205 (by kernel_rfl) (by kernel_rfl) (by kernel_rfl) (by kernel_rfl) (by kernel_rfl) (by kernel_rfl) (m205 h v0 v1 G r hr)
noncomputable def b206_0 (q : Bool) (e : Ex) (lp : Env → GS → Option (Exit × Env × GS)) (τ : Env) (G : GS) : Option (Exit × Env × GS) :=
  bV q (τ 2) fun a2_ =>
  bV q (τ 3) fun a3_ =>
  bV q (τ 7) fun a7_ =>
  bP (fa Q q 174 0 0 a3_) fun x0 =>
  bP (fa Q q 31 2 2 x0) fun x1 =>
  bP (ld Q q 3 x1 G) fun x2 =>
  bP (bn Q q .lss 3 (.tmp 9) (.tmp 12) a7_ x2) fun x3 =>
  ifV x3 (
  bP (fa Q q 174 0 0 a3_) fun x4 =>
  bP (lda Q q 31 13 x4 G) fun x5 =>
  bP (fa Q q 174 1 13 a3_) fun x6 =>
  bP (ld Q q 32 x6 G) fun x7 =>
  bS (e.ev.cl 201 [x5, a7_, x7] G) fun x8 G9 =>
  bS (cValue e.ev a2_ [a7_, x8] G9) fun x10 G11 =>
  bP (un Q q .not x10) fun x12 =>
  ifV x12 (
  some (.ret, clq q 26 (tu τ [(2, a2_), (3, a3_), (7, a7_), (6, (.bool false)), (9, a7_), (10, x0), (11, x1), (12, x2), (13, x3), (16, a2_), (17, a7_), (18, x4), (19, x5), (20, a7_), (21, x6), (22, x7), (23, x8), (24, x10), (25, x12)]), G11)) (
  bP (bn Q q .add 3 (.tmp 14) (.const (.int .i64 1)) a7_ (.int .i64 1)) fun x13 =>
  lp (tu τ [(2, a2_), (3, a3_), (7, x13), (9, a7_), (10, x0), (11, x1), (12, x2), (13, x3), (14, a7_), (15, x13), (16, a2_), (17, a7_), (18, x4), (19, x5), (20, a7_), (21, x6), (22, x7), (23, x8), (24, x10), (25, x12)]) G11)) (
  some ((.exit 0), clq q 26 (tu τ [(2, a2_), (3, a3_), (7, a7_), (9, a7_), (10, x0), (11, x1), (12, x2), (13, x3)]), G))
theorem mb206_0 {e : Ex} {E : Ev} (h : ExLe Q e E) {lp lp' : Env → GS → Option (Exit × Env × GS)} (hlp : LpLe lp lp') (τ : Env) (G : GS) : Ref (b206_0 true e lp τ G) (b206_0 false (Ex.of E) lp' τ G) := by
  unfold b206_0
  exact Ref.go
theorem l206_0 {orc : FuncId → Bool} {e : Ex} (h : ExLe Q e (E orc)) (lp : Env → GS → Option (Exit × Env × GS)) (hlp : ∀ τ G, Ref (lp τ G) (mapE ((E orc).lp (subAt [1, 0, 1, 0, 0] (bodyOf Tryz.f206)) (lst 26 τ) G))) (T : List Value) (G : GS) (hT : T.length = 26) : Ref (b206_0 true e lp (nth undef T) G) (mapE ((E orc).lp (subAt [1, 0, 1, 0, 0] (bodyOf Tryz.f206)) T G)) :=
  fun r hr => lp_sxM Q orc G hT (by kernel_rfl) (mb206_0 h ⟨hlp⟩ _ _ r hr)
/-- (coxswain/audit.whole).levels -/
noncomputable def s206 (q : Bool) (e : Ex) (v0 v1 v2 : Value) (G : GS) : Option (Value × GS) :=
  bS (bx q v0 G) fun x0 G1 =>
  bL q e 206 0 (subAt [1, 0, 1, 0, 0] (bodyOf Tryz.f206)) 26 (tu (nth undef [v0, v1, v2]) [(3, x0), (6, (.bool false)), (7, v1), (8, v1)]) G1 fun e2 t3 G4 =>
  bV q (t3 6) fun t3x6_ =>
  ifE e2 (.exit 0) (
  some ((.bool true), G4)) (ifE e2 .ret (
  some (t3x6_, G4)) (none))
theorem m206 {e : Ex} {E : Ev} (h : ExLe Q e E) (v0 v1 v2 : Value) (G : GS) : Ref (s206 true e v0 v1 v2 G) (s206 false (Ex.of E) v0 v1 v2 G) := by
  unfold s206
  exact Ref.go
theorem f206 {orc : FuncId → Bool} {e : Ex} (h : ExLe Q e (E orc)) (v0 v1 v2 : Value) (G : GS) : Ref (s206 true e v0 v1 v2 G) ((E orc).cl 206 [v0, v1, v2] G) :=
  fun r hr => cl_sxE_some Q orc (vs := [v0, v1, v2]) G Tryz.func206 (by kernel_rfl) (by kernel_rfl) (by kernel_rfl) (by kernel_rfl) (by kernel_rfl) (by kernel_rfl) (m206 h v0 v1 v2 G r hr)
noncomputable def b207_0 (q : Bool) (e : Ex) (lp : Env → GS → Option (Exit × Env × GS)) (τ : Env) (G : GS) : Option (Exit × Env × GS) :=
  bV q (τ 0) fun a0_ =>
  bV q (τ 2) fun a2_ =>
  bV q (τ 6) fun a6_ =>
  bV q (τ 9) fun a9_ =>
  bV q (τ 10) fun a10_ =>
  bV q (τ 11) fun a11_ =>
  bP (bn Q q .lss 3 (.tmp 11) (.tmp 10) a11_ a10_) fun x0 =>
  ifV x0 (
  bP (ias Q q 78 1 a9_ a11_) fun x1 =>
  bP (ld Q q 3 x1 G) fun x2 =>
  bP (lda Q q 174 15 a2_ (G.room 11)) fun x3 =>
  bP (lda Q q 174 15 a2_ (G.room 11)) fun x4 =>
  bP (fa Q q 174 0 0 a2_) fun x5 =>
  bP (lda Q q 31 13 x5 (G.room 11)) fun x6 =>
  bS (e.ev.cl 69 [x6, a6_, a0_] (G.room 11)) fun x8 G7 =>
  chk ((sameO (lda Q q 174 15 a2_ G7) x4 && (sameO (lda Q q 174 15 a2_ G7) x3 && true))) <|
  bS (e.ev.cl 91 [x4, x8] G7) fun x10 G9 =>
  chk ((sameO (lda Q q 174 15 a2_ G9) x3 && true)) <|
  bS (e.ev.cl 88 [x3, x10, x2] G9) fun x12 G11 =>
  bP (un Q q .not x12) fun x13 =>
  ifV x13 (
  some (.ret, clq q 36 (tu τ [(0, a0_), (2, a2_), (6, a6_), (9, a9_), (10, a10_), (11, a11_), (5, (.bool false)), (8, x2), (12, x0), (13, x1), (14, x2), (15, x3), (16, x4), (17, x5), (18, x6), (19, a6_), (20, a0_), (21, x8), (22, x10), (23, x2), (24, x12), (25, x13)]), G11)) (
  bP (bn Q q .add 3 (.tmp 11) (.const (.int .i64 1)) a11_ (.int .i64 1)) fun x14 =>
  lp (tu τ [(0, a0_), (2, a2_), (6, x2), (9, a9_), (10, a10_), (11, x14), (8, x2), (12, x0), (13, x1), (14, x2), (15, x3), (16, x4), (17, x5), (18, x6), (19, a6_), (20, a0_), (21, x8), (22, x10), (23, x2), (24, x12), (25, x13), (26, x2), (27, x14)]) G11)) (
  some ((.exit 0), clq q 36 (tu τ [(0, a0_), (2, a2_), (6, a6_), (9, a9_), (10, a10_), (11, a11_), (12, x0)]), G))
theorem mb207_0 {e : Ex} {E : Ev} (h : ExLe Q e E) {lp lp' : Env → GS → Option (Exit × Env × GS)} (hlp : LpLe lp lp') (τ : Env) (G : GS) : Ref (b207_0 true e lp τ G) (b207_0 false (Ex.of E) lp' τ G) := by
  unfold b207_0
  exact Ref.go
theorem l207_0 {orc : FuncId → Bool} {e : Ex} (h : ExLe Q e (E orc)) (lp : Env → GS → Option (Exit × Env × GS)) (hlp : ∀ τ G, Ref (lp τ G) (mapE ((E orc).lp (subAt [1, 1, 0, 1, 0, 0] (bodyOf Tryz.f207)) (lst 36 τ) G))) (T : List Value) (G : GS) (hT : T.length = 36) : Ref (b207_0 true e lp (nth undef T) G) (mapE ((E orc).lp (subAt [1, 1, 0, 1, 0, 0] (bodyOf Tryz.f207)) T G)) :=
  fun r hr => lp_sxM Q orc G hT (by kernel_rfl) (mb207_0 h ⟨hlp⟩ _ _ r hr)
/-- (coxswain/audit.whole).linked$1 -/
noncomputable def s207 (q : Bool) (e : Ex) (v0 v1 v2 : Value) (G : GS) : Option (Value × GS) :=
  bP (ln Q q 78 v1) fun x0 =>
  bL q e 207 0 (subAt [1, 1, 0, 1, 0, 0] (bodyOf Tryz.f207)) 36 (tu (nth undef [v0, v1, v2]) [(5, (.bool false)), (6, (.int .i64 (-1))), (9, v1), (10, x0), (11, (.int .i64 0))]) G fun e1 t2 G3 =>
  bV q (t2 0) fun t2x0_ =>
  bV q (t2 2) fun t2x2_ =>
  bV q (t2 5) fun t2x5_ =>
  bV q (t2 6) fun t2x6_ =>
  ifE e1 (.exit 0) (
  bP (lda Q q 174 15 t2x2_ (G3.room 9)) fun x4 =>
  bP (fa Q q 174 0 0 t2x2_) fun x5 =>
  bP (lda Q q 31 13 x5 (G3.room 9)) fun x6 =>
  bS (e.ev.cl 69 [x6, t2x6_, t2x0_] (G3.room 9)) fun x8 G7 =>
  chk ((sameO (lda Q q 174 15 t2x2_ G7) x4 && true)) <|
  bS (e.ev.cl 91 [x4, x8] G7) fun x10 G9 =>
  bP (bn Q q .eql 41 (.tmp 34) (.const (.int .u64 0)) x10 (.int .u64 0)) fun x11 =>
  some (x11, G9)) (ifE e1 .ret (
  some (t2x5_, G3)) (none))
theorem m207 {e : Ex} {E : Ev} (h : ExLe Q e E) (v0 v1 v2 : Value) (G : GS) : Ref (s207 true e v0 v1 v2 G) (s207 false (Ex.of E) v0 v1 v2 G) := by
  unfold s207
  exact Ref.go
theorem f207 {orc : FuncId → Bool} {e : Ex} (h : ExLe Q e (E orc)) (v0 v1 v2 : Value) (G : GS) : Ref (s207 true e v0 v1 v2 G) ((E orc).cl 207 [v0, v1, v2] G) :=
  fun r hr => cl_sxE_some Q orc (vs := [v0, v1, v2]) G Tryz.func207 (by kernel_rfl) (by kernel_rfl) (by kernel_rfl) (by kernel_rfl) (by kernel_rfl) (by kernel_rfl) (m207 h v0 v1 v2 G r hr)
/-- (coxswain/audit.whole).rises$1 -/
noncomputable def s208 (q : Bool) (e : Ex) (v0 v1 : Value) (G : GS) : Option (Value × GS) :=
  bP (lda Q q 174 15 v1 (G.room 7)) fun x0 =>
  bP (fa Q q 174 0 0 v1) fun x1 =>
  bP (lda Q q 31 13 x1 (G.room 7)) fun x2 =>
  bS (e.ev.cl 191 [x2, v0, (.int .i64 0)] (G.room 7)) fun x4 G3 =>
  chk ((sameO (lda Q q 174 15 v1 G3) x0 && true)) <|
  bS (e.ev.cl 91 [x0, x4] G3) fun x6 G5 =>
  some (x6, G5)
theorem m208 {e : Ex} {E : Ev} (h : ExLe Q e E) (v0 v1 : Value) (G : GS) : Ref (s208 true e v0 v1 G) (s208 false (Ex.of E) v0 v1 G) := by
  unfold s208
  exact Ref.go
theorem f208 {orc : FuncId → Bool} {e : Ex} (h : ExLe Q e (E orc)) (v0 v1 : Value) (G : GS) : Ref (s208 true e v0 v1 G) ((E orc).cl 208 [v0, v1] G) :=
  fun r hr => cl_sxE_some Q orc (vs := [v0, v1]) G Tryz.func208 (by kernel_rfl) (by kernel_rfl) (by kernel_rfl) (by kernel_rfl) (by kernel_rfl) (by kernel_rfl) (m208 h v0 v1 G r hr)
noncomputable def b209_0 (q : Bool) (e : Ex) (lp : Env → GS → Option (Exit × Env × GS)) (τ : Env) (G : GS) : Option (Exit × Env × GS) :=
  bV q (τ 1) fun a1_ =>
  bV q (τ 2) fun a2_ =>
  bV q (τ 6) fun a6_ =>
  bP (ln Q q 78 a1_) fun x0 =>
  bP (bn Q q .lss 3 (.tmp 7) (.tmp 9) a6_ x0) fun x1 =>
  ifV x1 (
  bP (ld Q q 180 a2_ (G.room 14)) fun x2 =>
  bP (ias Q q 78 1 a1_ a6_) fun x3 =>
  bP (ld Q q 3 x3 (G.room 14)) fun x4 =>
  bS (cValue e.ev x2 [x4] (G.room 14)) fun x6 G5 =>
  bP (ld Q q 180 a2_ G5) fun x7 =>
  chk ((sameO (ld Q q 180 a2_ (G.room 14)) x7 && true)) <|
  bP (bn Q q .sub 3 (.tmp 21) (.const (.int .i64 1)) a6_ (.int .i64 1)) fun x8 =>
  bP (ias Q q 78 1 a1_ x8) fun x9 =>
  bP (ld Q q 3 x9 G5) fun x10 =>
  chk ((sameO (ld Q q 3 x9 (G.room 14)) x10 && true)) <|
  bS (cValue e.ev x7 [x10] G5) fun x12 G11 =>
  bP (bn Q q .leq 41 (.tmp 18) (.tmp 25) x6 x12) fun x13 =>
  ifV x13 (
  some (.ret, clq q 27 (tu τ [(1, a1_), (2, a2_), (6, a6_), (5, (.bool false)), (7, a6_), (8, a1_), (9, x0), (10, x1), (13, x2), (14, a1_), (15, a6_), (16, x3), (17, x4), (18, x6), (19, x7), (20, a1_), (21, a6_), (22, x8), (23, x9), (24, x10), (25, x12), (26, x13)]), G11)) (
  bP (bn Q q .add 3 (.tmp 11) (.const (.int .i64 1)) a6_ (.int .i64 1)) fun x14 =>
  lp (tu τ [(1, a1_), (2, a2_), (6, x14), (7, a6_), (8, a1_), (9, x0), (10, x1), (11, a6_), (12, x14), (13, x2), (14, a1_), (15, a6_), (16, x3), (17, x4), (18, x6), (19, x7), (20, a1_), (21, a6_), (22, x8), (23, x9), (24, x10), (25, x12), (26, x13)]) G11)) (
  some ((.exit 0), clq q 27 (tu τ [(1, a1_), (2, a2_), (6, a6_), (7, a6_), (8, a1_), (9, x0), (10, x1)]), G))
theorem mb209_0 {e : Ex} {E : Ev} (h : ExLe Q e E) {lp lp' : Env → GS → Option (Exit × Env × GS)} (hlp : LpLe lp lp') (τ : Env) (G : GS) : Ref (b209_0 true e lp τ G) (b209_0 false (Ex.of E) lp' τ G) := by
  unfold b209_0
  exact Ref.go
theorem l209_0 {orc : FuncId → Bool} {e : Ex} (h : ExLe Q e (E orc)) (lp : Env → GS → Option (Exit × Env × GS)) (hlp : ∀ τ G, Ref (lp τ G) (mapE ((E orc).lp (subAt [1, 0, 1, 0, 0] (bodyOf Tryz.f209)) (lst 27 τ) G))) (T : List Value) (G : GS) (hT : T.length = 27) : Ref (b209_0 true e lp (nth undef T) G) (mapE ((E orc).lp (subAt [1, 0, 1, 0, 0] (bodyOf Tryz.f209)) T G)) :=
  fun r hr => lp_sxM Q orc G hT (by kernel_rfl) (mb209_0 h ⟨hlp⟩ _ _ r hr)
/-- (coxswain/audit.whole).rises$2 -/
noncomputable def s209 (q : Bool) (e : Ex) (v0 v1 v2 : Value) (G : GS) : Option (Value × GS) :=
  bL q e 209 0 (subAt [1, 0, 1, 0, 0] (bodyOf Tryz.f209)) 27 (tu (nth undef [v0, v1, v2]) [(5, (.bool false)), (6, (.int .i64 1))]) G fun e0 t1 G2 =>
  bV q (t1 5) fun t1x5_ =>
  ifE e0 (.exit 0) (
  some ((.bool true), G2)) (ifE e0 .ret (
  some (t1x5_, G2)) (none))
theorem m209 {e : Ex} {E : Ev} (h : ExLe Q e E) (v0 v1 v2 : Value) (G : GS) : Ref (s209 true e v0 v1 v2 G) (s209 false (Ex.of E) v0 v1 v2 G) := by
  unfold s209
  exact Ref.go
theorem f209 {orc : FuncId → Bool} {e : Ex} (h : ExLe Q e (E orc)) (v0 v1 v2 : Value) (G : GS) : Ref (s209 true e v0 v1 v2 G) ((E orc).cl 209 [v0, v1, v2] G) :=
  fun r hr => cl_sxE_some Q orc (vs := [v0, v1, v2]) G Tryz.func209 (by kernel_rfl) (by kernel_rfl) (by kernel_rfl) (by kernel_rfl) (by kernel_rfl) (by kernel_rfl) (m209 h v0 v1 v2 G r hr)
noncomputable def b210_0 (q : Bool) (e : Ex) (lp : Env → GS → Option (Exit × Env × GS)) (τ : Env) (G : GS) : Option (Exit × Env × GS) :=
  bV q (τ 0) fun a0_ =>
  bV q (τ 1) fun a1_ =>
  bV q (τ 3) fun a3_ =>
  bV q (τ 9) fun a9_ =>
  bV q (τ 10) fun a10_ =>
  bV q (τ 11) fun a11_ =>
  bP (bn Q q .lss 3 (.tmp 11) (.tmp 10) a11_ a10_) fun x0 =>
  ifV x0 (
  bP (ias Q q 78 1 a9_ a11_) fun x1 =>
  bP (ld Q q 3 x1 G) fun x2 =>
  bP (lda Q q 174 15 a3_ (G.room 9)) fun x3 =>
  bP (fa Q q 174 0 0 a3_) fun x4 =>
  bP (lda Q q 31 13 x4 (G.room 9)) fun x5 =>
  bS (e.ev.cl 191 [x5, x2, (.int .i64 2)] (G.room 9)) fun x7 G6 =>
  chk ((sameO (lda Q q 174 15 a3_ G6) x3 && true)) <|
  bS (e.ev.cl 91 [x3, x7] G6) fun x9 G8 =>
  bP (cv Q q 3 41 .i64 .u64 a0_) fun x10 =>
  bP (bn Q q .leq 41 (.tmp 20) (.tmp 22) x9 x10) fun x11 =>
  ifV x11 (
  bP (bn Q q .add 3 (.tmp 11) (.const (.int .i64 1)) a11_ (.int .i64 1)) fun x12 =>
  lp (tu τ [(0, a0_), (1, a1_), (3, a3_), (9, a9_), (10, a10_), (11, x12), (8, x2), (12, x0), (13, x1), (14, x2), (15, x3), (16, x4), (17, x5), (18, x2), (19, x7), (20, x9), (21, a0_), (22, x10), (23, x11), (36, x12)]) G8) (
  bP (ln Q q 78 a1_) fun x13 =>
  bP (bn Q q .eql 3 (.tmp 25) (.const (.int .i64 0)) x13 (.int .i64 0)) fun x14 =>
  bS (gd x14 false (some (a1_, G8)) G8) fun x15 G16 =>
  bS (gd x14 false (bP (ias Q q 78 1 x15 (.int .i64 0)) fun y => some (y, G16)) G16) fun x17 G18 =>
  bS (gd x14 false (bP (ld Q q 3 x17 G18) fun y => some (y, G18)) G18) fun x19 G20 =>
  bS (gd x14 false (some (x2, G20)) G20) fun x21 G22 =>
  bS (gd x14 false (bP (bn Q q .neq 3 (.tmp 30) (.tmp 31) x19 x21) fun y => some (y, G22)) G22) fun x23 G24 =>
  bP (pickV x14 (.bool true) x23) fun x25 =>
  ifV x25 (
  some (.ret, clq q 40 (tu τ [(0, a0_), (1, a1_), (3, a3_), (9, a9_), (10, a10_), (11, a11_), (6, (.bool false)), (8, x2), (12, x0), (13, x1), (14, x2), (15, x3), (16, x4), (17, x5), (18, x2), (19, x7), (20, x9), (21, a0_), (22, x10), (23, x11), (24, a1_), (25, x13), (26, x14), (27, x14), (28, x15), (29, x17), (30, x19), (31, x21), (32, x23), (33, x25)]), G24)) (
  bP (sl Q q 78 1 a1_ (some (.int .i64 1)) none none G24) fun x26 =>
  bP (bn Q q .add 3 (.tmp 11) (.const (.int .i64 1)) a11_ (.int .i64 1)) fun x27 =>
  lp (tu τ [(0, a0_), (1, x26), (3, a3_), (9, a9_), (10, a10_), (11, x27), (8, x2), (12, x0), (13, x1), (14, x2), (15, x3), (16, x4), (17, x5), (18, x2), (19, x7), (20, x9), (21, a0_), (22, x10), (23, x11), (24, a1_), (25, x13), (26, x14), (27, x14), (28, x15), (29, x17), (30, x19), (31, x21), (32, x23), (33, x25), (34, a1_), (35, x26), (36, x27)]) G24))) (
  some ((.exit 0), clq q 40 (tu τ [(0, a0_), (1, a1_), (3, a3_), (9, a9_), (10, a10_), (11, a11_), (12, x0)]), G))
theorem mb210_0 {e : Ex} {E : Ev} (h : ExLe Q e E) {lp lp' : Env → GS → Option (Exit × Env × GS)} (hlp : LpLe lp lp') (τ : Env) (G : GS) : Ref (b210_0 true e lp τ G) (b210_0 false (Ex.of E) lp' τ G) := by
  unfold b210_0
  exact Ref.go
theorem l210_0 {orc : FuncId → Bool} {e : Ex} (h : ExLe Q e (E orc)) (lp : Env → GS → Option (Exit × Env × GS)) (hlp : ∀ τ G, Ref (lp τ G) (mapE ((E orc).lp (subAt [1, 0, 1, 0, 0] (bodyOf Tryz.f210)) (lst 40 τ) G))) (T : List Value) (G : GS) (hT : T.length = 40) : Ref (b210_0 true e lp (nth undef T) G) (mapE ((E orc).lp (subAt [1, 0, 1, 0, 0] (bodyOf Tryz.f210)) T G)) :=
  fun r hr => lp_sxM Q orc G hT (by kernel_rfl) (mb210_0 h ⟨hlp⟩ _ _ r hr)
/-- (coxswain/audit.whole).stands$1 -/
noncomputable def s210 (q : Bool) (e : Ex) (v0 v1 v2 v3 : Value) (G : GS) : Option (Value × GS) :=
  bP (ld Q q 78 v2 G) fun x0 =>
  bP (ln Q q 78 x0) fun x1 =>
  bL q e 210 0 (subAt [1, 0, 1, 0, 0] (bodyOf Tryz.f210)) 40 (tu (nth undef [v0, v1, v2, v3]) [(6, (.bool false)), (9, x0), (10, x1), (11, (.int .i64 0))]) G fun e2 t3 G4 =>
  bV q (t3 1) fun t3x1_ =>
  bV q (t3 6) fun t3x6_ =>
  ifE e2 (.exit 0) (
  bP (ln Q q 78 t3x1_) fun x5 =>
  bP (bn Q q .eql 3 (.tmp 38) (.const (.int .i64 0)) x5 (.int .i64 0)) fun x6 =>
  some (x6, G4)) (ifE e2 .ret (
  some (t3x6_, G4)) (none))
theorem m210 {e : Ex} {E : Ev} (h : ExLe Q e E) (v0 v1 v2 v3 : Value) (G : GS) : Ref (s210 true e v0 v1 v2 v3 G) (s210 false (Ex.of E) v0 v1 v2 v3 G) := by
  unfold s210
  exact Ref.go
theorem f210 {orc : FuncId → Bool} {e : Ex} (h : ExLe Q e (E orc)) (v0 v1 v2 v3 : Value) (G : GS) : Ref (s210 true e v0 v1 v2 v3 G) ((E orc).cl 210 [v0, v1, v2, v3] G) :=
  fun r hr => cl_sxE_some Q orc (vs := [v0, v1, v2, v3]) G Tryz.func210 (by kernel_rfl) (by kernel_rfl) (by kernel_rfl) (by kernel_rfl) (by kernel_rfl) (by kernel_rfl) (m210 h v0 v1 v2 v3 G r hr)
/-- coxswain/epoch.Pinned -/
noncomputable def s211 (q : Bool) (e : Ex) (v0 v1 : Value) (G : GS) : Option (Value × GS) :=
  bS (bx q v0 G) fun x0 G1 =>
  bP (lda Q q 27 3 x0 G1) fun x2 =>
  bS (e.ev.cl 286 [x2] G1) fun x3 G4 =>
  bP (un Q q .not x3) fun x5 =>
  ifV x5 (
  some ((.slice none 0 0), G4)) (
  bS (al Q q 78 z78 G4) fun x6 G7 =>
  bS (e.ev.cl 53 [v1] G7) fun x8 G9 =>
  bS (al Q q 111 z111 G9) fun x10 G11 =>
  bP (st Q q 111 1 x10 x8 G11) fun G12 =>
  bP (lda Q q 27 3 x0 G12) fun x13 =>
  bS (e.ev.cl 287 [x13] G12) fun x14 G15 =>
  bX (xRange e.ev x14 #[18, 19] (subAt [1, 1, 1, 1, 0, 1, 0, 0] (bodyOf Tryz.f211)) (subAt [1, 1, 1, 1, 0, 1, 0, 1] (bodyOf Tryz.f211)) (lst 34 (tu (nth undef [v0, v1]) [(2, x0), (4, (.slice none 0 0)), (5, x6), (6, x10), (11, x2), (12, x3), (13, x5), (14, v1), (15, x8), (16, x13), (17, x14)])) G15) fun e16 T17 G18 =>
  bV q (nth undef T17 5) fun T17x5_ =>
  ifE e16 .normal (
  bP (ld Q q 78 T17x5_ G18) fun x19 =>
  some (x19, G18)) (none))
theorem m211 {e : Ex} {E : Ev} (h : ExLe Q e E) (v0 v1 : Value) (G : GS) : Ref (s211 true e v0 v1 G) (s211 false (Ex.of E) v0 v1 G) := by
  unfold s211
  exact Ref.go
theorem f211 {orc : FuncId → Bool} {e : Ex} (h : ExLe Q e (E orc)) (v0 v1 : Value) (G : GS) : Ref (s211 true e v0 v1 G) ((E orc).cl 211 [v0, v1] G) :=
  fun r hr => cl_sxE_some Q orc (vs := [v0, v1]) G Tryz.func211 (by kernel_rfl) (by kernel_rfl) (by kernel_rfl) (by kernel_rfl) (by kernel_rfl) (by kernel_rfl) (m211 h v0 v1 G r hr)
noncomputable def b212_0 (q : Bool) (e : Ex) (lp : Env → GS → Option (Exit × Env × GS)) (τ : Env) (G : GS) : Option (Exit × Env × GS) :=
  bV q (τ 0) fun a0_ =>
  bV q (τ 7) fun a7_ =>
  bV q (τ 8) fun a8_ =>
  bP (bn Q q .lss 3 (.tmp 13) (.const (.int .i64 200)) a8_ (.int .i64 200)) fun x0 =>
  bS (gd x0 true (some (a7_, G)) G) fun x1 G2 =>
  bS (gd x0 true (some (a0_, G2)) G2) fun x3 G4 =>
  bS (gd x0 true (bS (e.ev.cl 289 [x1, x3] G4) fun y G => some (y, G)) G4) fun x5 G6 =>
  bS (gd x0 true (bP (un Q q .not x5) fun y => some (y, G6)) G6) fun x7 G8 =>
  bP (pickV x0 x7 (.bool false)) fun x9 =>
  ifV x9 (
  bS (e.ev.cl 115 [a7_] G8) fun x10 G11 =>
  bP (bn Q q .neq 33 (.tmp 24) (.const (.int .i64 14)) x10 (.int .i64 14)) fun x12 =>
  ifV x12 (
  some (.ret, clq q 29 (tu τ [(0, a0_), (7, a7_), (8, a8_), (6, (.bool false)), (13, a8_), (14, x0), (15, x0), (16, x1), (17, x3), (18, x5), (19, x7), (20, x9), (23, a7_), (24, x10), (25, x12)]), G11)) (
  bP (bn Q q .add 3 (.tmp 21) (.const (.int .i64 1)) a8_ (.int .i64 1)) fun x13 =>
  lp (tu τ [(0, a0_), (7, a7_), (8, x13), (13, a8_), (14, x0), (15, x0), (16, x1), (17, x3), (18, x5), (19, x7), (20, x9), (21, a8_), (22, x13), (23, a7_), (24, x10), (25, x12)]) G11)) (
  some ((.exit 0), clq q 29 (tu τ [(0, a0_), (7, a7_), (8, a8_), (13, a8_), (14, x0), (15, x0), (16, x1), (17, x3), (18, x5), (19, x7), (20, x9)]), G8))
theorem mb212_0 {e : Ex} {E : Ev} (h : ExLe Q e E) {lp lp' : Env → GS → Option (Exit × Env × GS)} (hlp : LpLe lp lp') (τ : Env) (G : GS) : Ref (b212_0 true e lp τ G) (b212_0 false (Ex.of E) lp' τ G) := by
  unfold b212_0
  exact Ref.go
theorem l212_0 {orc : FuncId → Bool} {e : Ex} (h : ExLe Q e (E orc)) (lp : Env → GS → Option (Exit × Env × GS)) (hlp : ∀ τ G, Ref (lp τ G) (mapE ((E orc).lp (subAt [1, 1, 0, 1, 0, 0] (bodyOf Tryz.f212)) (lst 29 τ) G))) (T : List Value) (G : GS) (hT : T.length = 29) : Ref (b212_0 true e lp (nth undef T) G) (mapE ((E orc).lp (subAt [1, 1, 0, 1, 0, 0] (bodyOf Tryz.f212)) T G)) :=
  fun r hr => lp_sxM Q orc G hT (by kernel_rfl) (mb212_0 h ⟨hlp⟩ _ _ r hr)
/-- coxswain/coxswainlaw20.puts -/
noncomputable def s212 (q : Bool) (e : Ex) (v0 v1 v2 : Value) (G : GS) : Option (Value × GS) :=
  bS (e.ev.cl 99 [] G) fun x0 G1 =>
  bS (e.ev.cl 107 [x0, (.int .i64 0), v1, v2, (.int .i64 1)] G1) fun x2 G3 =>
  bL q e 212 0 (subAt [1, 1, 0, 1, 0, 0] (bodyOf Tryz.f212)) 29 (tu (nth undef [v0, v1, v2]) [(6, (.bool false)), (7, x2), (8, (.int .i64 0)), (9, x0), (10, v1), (11, v2), (12, x2)]) G3 fun e4 t5 G6 =>
  bV q (t5 6) fun t5x6_ =>
  bV q (t5 7) fun t5x7_ =>
  ifE e4 (.exit 0) (
  bS (e.ev.cl 115 [t5x7_] G6) fun x7 G8 =>
  bP (bn Q q .eql 33 (.tmp 27) (.const (.int .i64 0)) x7 (.int .i64 0)) fun x9 =>
  some (x9, G8)) (ifE e4 .ret (
  some (t5x6_, G6)) (none))
theorem m212 {e : Ex} {E : Ev} (h : ExLe Q e E) (v0 v1 v2 : Value) (G : GS) : Ref (s212 true e v0 v1 v2 G) (s212 false (Ex.of E) v0 v1 v2 G) := by
  unfold s212
  exact Ref.go
theorem f212 {orc : FuncId → Bool} {e : Ex} (h : ExLe Q e (E orc)) (v0 v1 v2 : Value) (G : GS) : Ref (s212 true e v0 v1 v2 G) ((E orc).cl 212 [v0, v1, v2] G) :=
  fun r hr => cl_sxE_some Q orc (vs := [v0, v1, v2]) G Tryz.func212 (by kernel_rfl) (by kernel_rfl) (by kernel_rfl) (by kernel_rfl) (by kernel_rfl) (by kernel_rfl) (m212 h v0 v1 v2 G r hr)
/-- coxswain/ready.begun -/
noncomputable def s213 (q : Bool) (e : Ex) (v0 v1 : Value) (G : GS) : Option (Value × GS) :=
  bS (bx q v0 G) fun x0 G1 =>
  bS (al Q q 300 z300 G1) fun x2 G3 =>
  bP (lda Q q 31 13 x0 G3) fun x4 =>
  bP (bd Q q 300 z300 [(0, 0, 13), (1, 13, 1), (2, 14, 1)] [x4, v1, (.bool true)]) fun x5 =>
  bS (al Q q 300 z300 G3) fun x6 G7 =>
  bP (st Q q 300 19 x6 x5 G7) fun G8 =>
  bP (lda Q q 31 13 x0 G8) fun x9 =>
  bS (e.ev.cl 191 [x9, (.int .i64 0), (.int .i64 0)] G8) fun x10 G11 =>
  bP (bn Q q .lss 3 (.tmp 11) (.const (.int .i64 0)) x10 (.int .i64 0)) fun x12 =>
  ifV x12 (
  bP (fa Q q 300 6 18 x6) fun x13 =>
  bP (st Q q 33 1 x13 (.int .i64 2) G11) fun G14 =>
  bP (lda Q q 300 19 x6 G14) fun x15 =>
  bP (st Q q 300 19 x2 x15 G14) fun G16 =>
  bP (lda Q q 300 19 x2 G16) fun x17 =>
  some (x17, G16)) (
  bP (bn Q q .lss 3 (.tmp 15) (.const (.int .i64 0)) v1 (.int .i64 0)) fun x18 =>
  bS (gd x18 false (some (v1, G11)) G11) fun x19 G20 =>
  bS (gd x18 false (bP (fa Q q 31 3 3 x0) fun y => some (y, G20)) G20) fun x21 G22 =>
  bS (gd x18 false (bP (fa Q q 29 1 6 x21) fun y => some (y, G22)) G22) fun x23 G24 =>
  bS (gd x18 false (bP (fa Q q 27 2 2 x23) fun y => some (y, G24)) G24) fun x25 G26 =>
  bS (gd x18 false (bP (ld Q q 3 x25 G26) fun y => some (y, G26)) G26) fun x27 G28 =>
  bS (gd x18 false (bP (bn Q q .geq 3 (.tmp 18) (.tmp 22) x19 x27) fun y => some (y, G28)) G28) fun x29 G30 =>
  bP (pickV x18 (.bool true) x29) fun x31 =>
  ifV x31 (
  bP (fa Q q 300 6 18 x6) fun x32 =>
  bP (st Q q 33 1 x32 (.int .i64 3) G30) fun G33 =>
  bP (lda Q q 300 19 x6 G33) fun x34 =>
  bP (st Q q 300 19 x2 x34 G33) fun G35 =>
  bP (lda Q q 300 19 x2 G35) fun x36 =>
  some (x36, G35)) (
  bP (lda Q q 300 19 x6 G30) fun x37 =>
  bP (st Q q 300 19 x2 x37 G30) fun G38 =>
  bP (lda Q q 300 19 x2 G38) fun x39 =>
  some (x39, G38)))
theorem m213 {e : Ex} {E : Ev} (h : ExLe Q e E) (v0 v1 : Value) (G : GS) : Ref (s213 true e v0 v1 G) (s213 false (Ex.of E) v0 v1 G) := by
  unfold s213
  exact Ref.go
theorem f213 {orc : FuncId → Bool} {e : Ex} (h : ExLe Q e (E orc)) (v0 v1 : Value) (G : GS) : Ref (s213 true e v0 v1 G) ((E orc).cl 213 [v0, v1] G) :=
  fun r hr => cl_sxE_some Q orc (vs := [v0, v1]) G Tryz.func213 (by kernel_rfl) (by kernel_rfl) (by kernel_rfl) (by kernel_rfl) (by kernel_rfl) (by kernel_rfl) (m213 h v0 v1 G r hr)
/-- (*coxswain/ready.work).pin -/
noncomputable def s214 (q : Bool) (e : Ex) (v0 : Value) (G : GS) : Option (Value × GS) :=
  bS (bx q v0 G) fun x0 G1 =>
  bP (bd Q q 423 z423 [(0, 0, 1), (2, 2, 1)] [(.func (.func 290) #[] #[x0]), (.func (.func 292) #[] #[x0])]) fun x2 =>
  bS (bx q x2 G1) fun x3 G4 =>
  bP (ifc Q q 416 x3) fun x5 =>
  some (x5, G4)
theorem m214 {e : Ex} {E : Ev} (h : ExLe Q e E) (v0 : Value) (G : GS) : Ref (s214 true e v0 G) (s214 false (Ex.of E) v0 G) := by
  unfold s214
  exact Ref.go
theorem f214 {orc : FuncId → Bool} {e : Ex} (h : ExLe Q e (E orc)) (v0 : Value) (G : GS) : Ref (s214 true e v0 G) ((E orc).cl 214 [v0] G) :=
  fun r hr => cl_sxE_some Q orc (vs := [v0]) G Tryz.func214 (by kernel_rfl) (by kernel_rfl) (by kernel_rfl) (by kernel_rfl) (by kernel_rfl) (by kernel_rfl) (m214 h v0 G r hr)
/-- (*coxswain/ready.Put).alloc -/
noncomputable def s215 (q : Bool) (e : Ex) (v0 : Value) (G : GS) : Option (Value × GS) :=
  bS (bx q v0 G) fun x0 G1 =>
  bP (ld Q q 80 x0 G1) fun x2 =>
  bP (bd Q q 429 z429 [(0, 0, 1), (2, 2, 1)] [(.func (.func 294) #[] #[x0]), (.func (.func 295) #[x2] #[])]) fun x3 =>
  bS (bx q x3 G1) fun x4 G5 =>
  bP (ifc Q q 424 x4) fun x6 =>
  some (x6, G5)
theorem m215 {e : Ex} {E : Ev} (h : ExLe Q e E) (v0 : Value) (G : GS) : Ref (s215 true e v0 G) (s215 false (Ex.of E) v0 G) := by
  unfold s215
  exact Ref.go
theorem f215 {orc : FuncId → Bool} {e : Ex} (h : ExLe Q e (E orc)) (v0 : Value) (G : GS) : Ref (s215 true e v0 G) ((E orc).cl 215 [v0] G) :=
  fun r hr => cl_sxE_some Q orc (vs := [v0]) G Tryz.func215 (by kernel_rfl) (by kernel_rfl) (by kernel_rfl) (by kernel_rfl) (by kernel_rfl) (by kernel_rfl) (m215 h v0 G r hr)
/-- (*coxswain/ready.work).unpin -/
noncomputable def s220 (q : Bool) (e : Ex) (v0 : Value) (G : GS) : Option (Value × GS) :=
  bS (bx q v0 G) fun x0 G1 =>
  bP (bd Q q 438 z438 [(0, 0, 1)] [(.func (.func 297) #[] #[x0])]) fun x2 =>
  bS (bx q x2 G1) fun x3 G4 =>
  bP (ifc Q q 431 x3) fun x5 =>
  some (x5, G4)
theorem m220 {e : Ex} {E : Ev} (h : ExLe Q e E) (v0 : Value) (G : GS) : Ref (s220 true e v0 G) (s220 false (Ex.of E) v0 G) := by
  unfold s220
  exact Ref.go
theorem f220 {orc : FuncId → Bool} {e : Ex} (h : ExLe Q e (E orc)) (v0 : Value) (G : GS) : Ref (s220 true e v0 G) ((E orc).cl 220 [v0] G) :=
  fun r hr => cl_sxE_some Q orc (vs := [v0]) G Tryz.func220 (by kernel_rfl) (by kernel_rfl) (by kernel_rfl) (by kernel_rfl) (by kernel_rfl) (by kernel_rfl) (m220 h v0 G r hr)
/-- (*coxswain/ready.work).collect -/
noncomputable def s223 (q : Bool) (e : Ex) (v0 v1 : Value) (G : GS) : Option (Value × GS) :=
  bS (bx q v0 G) fun x0 G1 =>
  bP (bd Q q 444 z444 [(0, 0, 1), (2, 2, 1)] [(.func (.func 299) #[] #[x0]), v1]) fun x2 =>
  bS (bx q x2 G1) fun x3 G4 =>
  bP (ifc Q q 439 x3) fun x5 =>
  some (x5, G4)
theorem m223 {e : Ex} {E : Ev} (h : ExLe Q e E) (v0 v1 : Value) (G : GS) : Ref (s223 true e v0 v1 G) (s223 false (Ex.of E) v0 v1 G) := by
  unfold s223
  exact Ref.go
theorem f223 {orc : FuncId → Bool} {e : Ex} (h : ExLe Q e (E orc)) (v0 v1 : Value) (G : GS) : Ref (s223 true e v0 v1 G) ((E orc).cl 223 [v0, v1] G) :=
  fun r hr => cl_sxE_some Q orc (vs := [v0, v1]) G Tryz.func223 (by kernel_rfl) (by kernel_rfl) (by kernel_rfl) (by kernel_rfl) (by kernel_rfl) (by kernel_rfl) (m223 h v0 v1 G r hr)
/-- (*coxswain/ready.work).told -/
noncomputable def s226 (q : Bool) (e : Ex) (v0 : Value) (G : GS) : Option (Value × GS) :=
  bP (pNil v0) fun x0 =>
  bP (fa Q q 300 2 14 x0) fun x1 =>
  bP (ld Q q 4 x1 G) fun x2 =>
  bP (un Q q .not x2) fun x3 =>
  ifV x3 (
  some ((.int .i64 1), G)) (
  bP (pNil v0) fun x4 =>
  bP (fa Q q 300 4 16 x4) fun x5 =>
  bP (ld Q q 298 x5 G) fun x6 =>
  bP (ln Q q 298 x6) fun x7 =>
  bP (bn Q q .gtr 3 (.tmp 14) (.const (.int .i64 0)) x7 (.int .i64 0)) fun x8 =>
  ifV x8 (
  some ((.int .i64 14), G)) (
  bP (pNil v0) fun x9 =>
  bP (fa Q q 300 6 18 x9) fun x10 =>
  bP (ld Q q 33 x10 G) fun x11 =>
  some (x11, G)))
theorem m226 {e : Ex} {E : Ev} (h : ExLe Q e E) (v0 : Value) (G : GS) : Ref (s226 true e v0 G) (s226 false (Ex.of E) v0 G) := by
  unfold s226
  exact Ref.go
theorem f226 {orc : FuncId → Bool} {e : Ex} (h : ExLe Q e (E orc)) (v0 : Value) (G : GS) : Ref (s226 true e v0 G) ((E orc).cl 226 [v0] G) :=
  fun r hr => cl_sxE_some Q orc (vs := [v0]) G Tryz.func226 (by kernel_rfl) (by kernel_rfl) (by kernel_rfl) (by kernel_rfl) (by kernel_rfl) (by kernel_rfl) (m226 h v0 G r hr)
noncomputable def b246_0 (q : Bool) (e : Ex) (lp : Env → GS → Option (Exit × Env × GS)) (τ : Env) (G : GS) : Option (Exit × Env × GS) :=
  bV q (τ 1) fun a1_ =>
  bV q (τ 2) fun a2_ =>
  bV q (τ 13) fun a13_ =>
  bP (bn Q q .lss 3 (.tmp 13) (.const (.int .i64 3)) a13_ (.int .i64 3)) fun x0 =>
  ifV x0 (
  bP (lda Q q 29 10 a2_ G) fun x1 =>
  bS (e.ev.cl 321 [a13_, x1] G) fun x2 G3 =>
  bP (fd Q q 23 0 0 x2) fun x4 =>
  bS (e.ev.cl 45 [a1_, x4, (.int .u64 0)] G3) fun x5 G6 =>
  bP (bn Q q .add 3 (.tmp 13) (.const (.int .i64 1)) a13_ (.int .i64 1)) fun x7 =>
  lp (tu τ [(1, a1_), (2, a2_), (13, x7), (4, a13_), (14, x0), (15, a13_), (16, a1_), (17, a13_), (18, x1), (19, x2), (20, x4), (21, x5), (22, x7)]) G6) (
  some ((.exit 0), clq q 23 (tu τ [(1, a1_), (2, a2_), (13, a13_), (14, x0)]), G))
theorem mb246_0 {e : Ex} {E : Ev} (h : ExLe Q e E) {lp lp' : Env → GS → Option (Exit × Env × GS)} (hlp : LpLe lp lp') (τ : Env) (G : GS) : Ref (b246_0 true e lp τ G) (b246_0 false (Ex.of E) lp' τ G) := by
  unfold b246_0
  exact Ref.go
theorem l246_0 {orc : FuncId → Bool} {e : Ex} (h : ExLe Q e (E orc)) (lp : Env → GS → Option (Exit × Env × GS)) (hlp : ∀ τ G, Ref (lp τ G) (mapE ((E orc).lp (subAt [1, 1, 1, 1, 0, 0] (bodyOf Tryz.f246)) (lst 23 τ) G))) (T : List Value) (G : GS) (hT : T.length = 23) : Ref (b246_0 true e lp (nth undef T) G) (mapE ((E orc).lp (subAt [1, 1, 1, 1, 0, 0] (bodyOf Tryz.f246)) T G)) :=
  fun r hr => lp_sxM Q orc G hT (by kernel_rfl) (mb246_0 h ⟨hlp⟩ _ _ r hr)
/-- coxswain/limbo.Fill -/
noncomputable def s246 (q : Bool) (e : Ex) (v0 v1 : Value) (G : GS) : Option (Value × GS) :=
  bS (bx q v0 G) fun x0 G1 =>
  bP (fa Q q 29 0 0 x0) fun x2 =>
  bP (lda Q q 25 6 x2 G1) fun x3 =>
  bS (e.ev.cl 171 [x3, v1] G1) fun x4 G5 =>
  bP (fa Q q 29 1 6 x0) fun x6 =>
  bP (lda Q q 27 3 x6 G5) fun x7 =>
  bS (e.ev.cl 320 [x7, v1] G5) fun x8 G9 =>
  bL q e 246 0 (subAt [1, 1, 1, 1, 0, 0] (bodyOf Tryz.f246)) 23 (tu (nth undef [v0, v1]) [(2, x0), (5, x2), (6, x3), (7, v1), (8, x4), (9, x6), (10, x7), (11, v1), (12, x8), (13, (.int .i64 0))]) G9 fun e10 t11 G12 =>
  ifE e10 (.exit 0) (
  some (.tuple #[], G12)) (none)
theorem m246 {e : Ex} {E : Ev} (h : ExLe Q e E) (v0 v1 : Value) (G : GS) : Ref (s246 true e v0 v1 G) (s246 false (Ex.of E) v0 v1 G) := by
  unfold s246
  exact Ref.go
theorem f246 {orc : FuncId → Bool} {e : Ex} (h : ExLe Q e (E orc)) (v0 v1 : Value) (G : GS) : Ref (s246 true e v0 v1 G) ((E orc).cl 246 [v0, v1] G) :=
  fun r hr => cl_sxE_some Q orc (vs := [v0, v1]) G Tryz.func246 (by kernel_rfl) (by kernel_rfl) (by kernel_rfl) (by kernel_rfl) (by kernel_rfl) (by kernel_rfl) (m246 h v0 v1 G r hr)
/-- (*coxswain/cells.place).is -/
noncomputable def s248 (q : Bool) (e : Ex) (v0 : Value) (G : GS) : Option (Value × GS) :=
  bP (ep Q q true 243 (.tmp 3) (.const (.pointer none)) v0 (.pointer none)) fun x0 =>
  some (x0, G)
theorem m248 {e : Ex} {E : Ev} (h : ExLe Q e E) (v0 : Value) (G : GS) : Ref (s248 true e v0 G) (s248 false (Ex.of E) v0 G) := by
  unfold s248
  exact Ref.go
theorem f248 {orc : FuncId → Bool} {e : Ex} (h : ExLe Q e (E orc)) (v0 : Value) (G : GS) : Ref (s248 true e v0 G) ((E orc).cl 248 [v0] G) :=
  fun r hr => cl_sxE_some Q orc (vs := [v0]) G Tryz.func248 (by kernel_rfl) (by kernel_rfl) (by kernel_rfl) (by kernel_rfl) (by kernel_rfl) (by kernel_rfl) (m248 h v0 G r hr)
/-- coxswain/stack.sized -/
noncomputable def s254 (q : Bool) (e : Ex) (v0 : Value) (G : GS) : Option (Value × GS) :=
  bS (bx q v0 G) fun x0 G1 =>
  bP (fa Q q 23 2 2 x0) fun x2 =>
  bP (ld Q q 3 x2 G1) fun x3 =>
  bP (bn Q q .geq 3 (.tmp 4) (.const (.int .i64 1)) x3 (.int .i64 1)) fun x4 =>
  bS (gd x4 true (bP (fa Q q 23 2 2 x0) fun y => some (y, G1)) G1) fun x5 G6 =>
  bS (gd x4 true (bP (ld Q q 3 x5 G6) fun y => some (y, G6)) G6) fun x7 G8 =>
  bS (gd x4 true (bP (bn Q q .leq 3 (.tmp 8) (.const (.int .i64 4096)) x7 (.int .i64 4096)) fun y => some (y, G8)) G8) fun x9 G10 =>
  bP (pickV x4 x9 (.bool false)) fun x11 =>
  some (x11, G10)
theorem m254 {e : Ex} {E : Ev} (h : ExLe Q e E) (v0 : Value) (G : GS) : Ref (s254 true e v0 G) (s254 false (Ex.of E) v0 G) := by
  unfold s254
  exact Ref.go
theorem f254 {orc : FuncId → Bool} {e : Ex} (h : ExLe Q e (E orc)) (v0 : Value) (G : GS) : Ref (s254 true e v0 G) ((E orc).cl 254 [v0] G) :=
  fun r hr => cl_sxE_some Q orc (vs := [v0]) G Tryz.func254 (by kernel_rfl) (by kernel_rfl) (by kernel_rfl) (by kernel_rfl) (by kernel_rfl) (by kernel_rfl) (m254 h v0 G r hr)
/-- coxswain/arena.sized -/
noncomputable def s256 (q : Bool) (e : Ex) (v0 : Value) (G : GS) : Option (Value × GS) :=
  bS (bx q v0 G) fun x0 G1 =>
  bP (fa Q q 25 0 0 x0) fun x2 =>
  bP (fa Q q 23 2 2 x2) fun x3 =>
  bP (ld Q q 3 x3 G1) fun x4 =>
  bP (bn Q q .geq 3 (.tmp 5) (.const (.int .i64 1)) x4 (.int .i64 1)) fun x5 =>
  bS (gd x5 true (bP (fa Q q 25 0 0 x0) fun y => some (y, G1)) G1) fun x6 G7 =>
  bS (gd x5 true (bP (fa Q q 23 2 2 x6) fun y => some (y, G7)) G7) fun x8 G9 =>
  bS (gd x5 true (bP (ld Q q 3 x8 G9) fun y => some (y, G9)) G9) fun x10 G11 =>
  bS (gd x5 true (bP (bn Q q .leq 3 (.tmp 10) (.const (.int .i64 4096)) x10 (.int .i64 4096)) fun y => some (y, G11)) G11) fun x12 G13 =>
  bP (pickV x5 x12 (.bool false)) fun x14 =>
  some (x14, G13)
theorem m256 {e : Ex} {E : Ev} (h : ExLe Q e E) (v0 : Value) (G : GS) : Ref (s256 true e v0 G) (s256 false (Ex.of E) v0 G) := by
  unfold s256
  exact Ref.go
theorem f256 {orc : FuncId → Bool} {e : Ex} (h : ExLe Q e (E orc)) (v0 : Value) (G : GS) : Ref (s256 true e v0 G) ((E orc).cl 256 [v0] G) :=
  fun r hr => cl_sxE_some Q orc (vs := [v0]) G Tryz.func256 (by kernel_rfl) (by kernel_rfl) (by kernel_rfl) (by kernel_rfl) (by kernel_rfl) (by kernel_rfl) (m256 h v0 G r hr)
noncomputable def b257_0 (q : Bool) (e : Ex) (lp : Env → GS → Option (Exit × Env × GS)) (τ : Env) (G : GS) : Option (Exit × Env × GS) :=
  bV q (τ 1) fun a1_ =>
  bV q (τ 2) fun a2_ =>
  bV q (τ 15) fun a15_ =>
  bV q (τ 16) fun a16_ =>
  bP (bn Q q .lss 3 (.tmp 16) (.tmp 15) a16_ a15_) fun x0 =>
  ifV x0 (
  bP (bn Q q .add 3 (.tmp 19) (.const (.int .i64 1)) a16_ (.int .i64 1)) fun x1 =>
  bP (fa Q q 23 2 2 a2_) fun x2 =>
  bP (ld Q q 3 x2 G) fun x3 =>
  bP (bn Q q .eql 3 (.tmp 21) (.tmp 23) x1 x3) fun x4 =>
  ifV x4 (
  bP (fa Q q 23 1 1 a2_) fun x5 =>
  bP (ld Q q 3 x5 (G.room 8)) fun x6 =>
  bP (bn Q q .add 3 (.tmp 27) (.tmp 28) x6 a16_) fun x7 =>
  bS (e.ev.cl 334 [(.int .i64 (-1))] (G.room 8)) fun x9 G8 =>
  chk ((sameO (ld Q q 3 x5 G8) x6 && true)) <|
  bS (e.ev.cl 45 [a1_, x7, x9] G8) fun x11 G10 =>
  bP (bn Q q .add 3 (.tmp 16) (.const (.int .i64 1)) a16_ (.int .i64 1)) fun x12 =>
  lp (tu τ [(1, a1_), (2, a2_), (15, a15_), (16, x12), (4, a16_), (5, (.int .i64 (-1))), (17, x0), (18, a16_), (19, a16_), (20, x1), (21, x1), (22, x2), (23, x3), (24, x4), (25, a1_), (26, x5), (27, x6), (28, a16_), (29, x7), (30, (.int .i64 (-1))), (31, x9), (32, x11), (33, x12)]) G10) (
  bP (fa Q q 23 1 1 a2_) fun x13 =>
  bP (ld Q q 3 x13 (G.room 8)) fun x14 =>
  bP (bn Q q .add 3 (.tmp 27) (.tmp 28) x14 a16_) fun x15 =>
  bS (e.ev.cl 334 [x1] (G.room 8)) fun x17 G16 =>
  chk ((sameO (ld Q q 3 x13 G16) x14 && true)) <|
  bS (e.ev.cl 45 [a1_, x15, x17] G16) fun x19 G18 =>
  bP (bn Q q .add 3 (.tmp 16) (.const (.int .i64 1)) a16_ (.int .i64 1)) fun x20 =>
  lp (tu τ [(1, a1_), (2, a2_), (15, a15_), (16, x20), (4, a16_), (5, x1), (17, x0), (18, a16_), (19, a16_), (20, x1), (21, x1), (22, x2), (23, x3), (24, x4), (25, a1_), (26, x13), (27, x14), (28, a16_), (29, x15), (30, x1), (31, x17), (32, x19), (33, x20)]) G18)) (
  some ((.exit 0), clq q 34 (tu τ [(1, a1_), (2, a2_), (15, a15_), (16, a16_), (17, x0)]), G))
theorem mb257_0 {e : Ex} {E : Ev} (h : ExLe Q e E) {lp lp' : Env → GS → Option (Exit × Env × GS)} (hlp : LpLe lp lp') (τ : Env) (G : GS) : Ref (b257_0 true e lp τ G) (b257_0 false (Ex.of E) lp' τ G) := by
  unfold b257_0
  exact Ref.go
theorem l257_0 {orc : FuncId → Bool} {e : Ex} (h : ExLe Q e (E orc)) (lp : Env → GS → Option (Exit × Env × GS)) (hlp : ∀ τ G, Ref (lp τ G) (mapE ((E orc).lp (subAt [1, 1, 1, 1, 0, 0] (bodyOf Tryz.f257)) (lst 34 τ) G))) (T : List Value) (G : GS) (hT : T.length = 34) : Ref (b257_0 true e lp (nth undef T) G) (mapE ((E orc).lp (subAt [1, 1, 1, 1, 0, 0] (bodyOf Tryz.f257)) T G)) :=
  fun r hr => lp_sxM Q orc G hT (by kernel_rfl) (mb257_0 h ⟨hlp⟩ _ _ r hr)
/-- coxswain/stack.Fill -/
noncomputable def s257 (q : Bool) (e : Ex) (v0 v1 : Value) (G : GS) : Option (Value × GS) :=
  bS (bx q v0 G) fun x0 G1 =>
  bP (lda Q q 23 3 x0 G1) fun x2 =>
  bS (e.ev.cl 254 [x2] G1) fun x3 G4 =>
  bP (un Q q .not x3) fun x5 =>
  ifV x5 (
  some (.tuple #[], G4)) (
  bP (fa Q q 23 0 0 x0) fun x6 =>
  bP (ld Q q 3 x6 (G4.room 5)) fun x7 =>
  bS (e.ev.cl 334 [(.int .i64 0)] (G4.room 5)) fun x9 G8 =>
  chk ((sameO (ld Q q 3 x6 G8) x7 && true)) <|
  bS (e.ev.cl 45 [v1, x7, x9] G8) fun x11 G10 =>
  bP (fa Q q 23 2 2 x0) fun x12 =>
  bP (ld Q q 3 x12 G10) fun x13 =>
  bL q e 257 0 (subAt [1, 1, 1, 1, 0, 0] (bodyOf Tryz.f257)) 34 (tu (nth undef [v0, v1]) [(2, x0), (6, x2), (7, x3), (8, x5), (9, v1), (10, x6), (11, x7), (12, x9), (13, x11), (14, x12), (15, x13), (16, (.int .i64 0))]) G10 fun e14 t15 G16 =>
  ifE e14 (.exit 0) (
  some (.tuple #[], G16)) (none))
theorem m257 {e : Ex} {E : Ev} (h : ExLe Q e E) (v0 v1 : Value) (G : GS) : Ref (s257 true e v0 v1 G) (s257 false (Ex.of E) v0 v1 G) := by
  unfold s257
  exact Ref.go
theorem f257 {orc : FuncId → Bool} {e : Ex} (h : ExLe Q e (E orc)) (v0 v1 : Value) (G : GS) : Ref (s257 true e v0 v1 G) ((E orc).cl 257 [v0, v1] G) :=
  fun r hr => cl_sxE_some Q orc (vs := [v0, v1]) G Tryz.func257 (by kernel_rfl) (by kernel_rfl) (by kernel_rfl) (by kernel_rfl) (by kernel_rfl) (by kernel_rfl) (m257 h v0 v1 G r hr)
/-- coxswain/stack.NewPop -/
noncomputable def s258 (q : Bool) (e : Ex) (v0 : Value) (G : GS) : Option (Value × GS) :=
  bS (bx q v0 G) fun x0 G1 =>
  bP (lda Q q 23 3 x0 G1) fun x2 =>
  bP (bd Q q 486 z486 [(0, 0, 3), (4, 6, 1)] [x2, (.bool true)]) fun x3 =>
  bP (bd Q q 489 z489 [(0, 0, 9), (1, 9, 1)] [x3, (.func (.func 335) #[] #[])]) fun x4 =>
  bS (bx q x4 G1) fun x5 G6 =>
  some (x5, G6)
theorem m258 {e : Ex} {E : Ev} (h : ExLe Q e E) (v0 : Value) (G : GS) : Ref (s258 true e v0 G) (s258 false (Ex.of E) v0 G) := by
  unfold s258
  exact Ref.go
theorem f258 {orc : FuncId → Bool} {e : Ex} (h : ExLe Q e (E orc)) (v0 : Value) (G : GS) : Ref (s258 true e v0 G) ((E orc).cl 258 [v0] G) :=
  fun r hr => cl_sxE_some Q orc (vs := [v0]) G Tryz.func258 (by kernel_rfl) (by kernel_rfl) (by kernel_rfl) (by kernel_rfl) (by kernel_rfl) (by kernel_rfl) (m258 h v0 G r hr)
/-- (*coxswain/arena.Alloc).pop -/
noncomputable def s259 (q : Bool) (e : Ex) (v0 v1 : Value) (G : GS) : Option (Value × GS) :=
  bP (pNil v0) fun x0 =>
  bP (fa Q q 375 0 0 x0) fun x1 =>
  bP (ld Q q 371 x1 G) fun x2 =>
  bS (e.ev.cl 336 [x2, v1] G) fun x3 G4 =>
  bP (un Q q .not x3) fun x5 =>
  ifV x5 (
  some (.tuple #[], G4)) (
  bP (pNil v0) fun x6 =>
  bP (fa Q q 375 0 0 x6) fun x7 =>
  bP (ld Q q 371 x7 G4) fun x8 =>
  bS (e.ev.cl 337 [x8] G4) fun x9 G10 =>
  bP (pExtract x9 0) fun x11 =>
  bP (pExtract x9 1) fun x12 =>
  bP (pNil v0) fun x13 =>
  bP (fa Q q 375 4 9 x13) fun x14 =>
  bP (st Q q 3 1 x14 x11 G10) fun G15 =>
  bP (pNil v0) fun x16 =>
  bP (fa Q q 375 3 8 x16) fun x17 =>
  bP (st Q q 373 1 x17 (.func (.func 338) #[] #[]) G15) fun G18 =>
  bP (bn Q q .neq 33 (.tmp 28) (.const (.int .i64 0)) x12 (.int .i64 0)) fun x19 =>
  ifV x19 (
  bP (pNil v0) fun x20 =>
  bP (fa Q q 375 3 8 x20) fun x21 =>
  bP (st Q q 373 1 x21 (.func (.func 339) #[] #[]) G18) fun G22 =>
  some (.tuple #[], G22)) (
  some (.tuple #[], G18)))
theorem m259 {e : Ex} {E : Ev} (h : ExLe Q e E) (v0 v1 : Value) (G : GS) : Ref (s259 true e v0 v1 G) (s259 false (Ex.of E) v0 v1 G) := by
  unfold s259
  exact Ref.go
theorem f259 {orc : FuncId → Bool} {e : Ex} (h : ExLe Q e (E orc)) (v0 v1 : Value) (G : GS) : Ref (s259 true e v0 v1 G) ((E orc).cl 259 [v0, v1] G) :=
  fun r hr => cl_sxE_some Q orc (vs := [v0, v1]) G Tryz.func259 (by kernel_rfl) (by kernel_rfl) (by kernel_rfl) (by kernel_rfl) (by kernel_rfl) (by kernel_rfl) (m259 h v0 v1 G r hr)
/-- (coxswain/cells.deed).load -/
noncomputable def s260 (q : Bool) (e : Ex) (v0 : Value) (G : GS) : Option (Value × GS) :=
  bS (bx q v0 G) fun x0 G1 =>
  bP (fa Q q 246 0 0 x0) fun x2 =>
  bP (ld Q q 243 x2 G1) fun x3 =>
  bP (pNil x3) fun x4 =>
  bP (ld Q q 154 x4 G1) fun x5 =>
  some (.tuple #[x5, (.bool false)], G1)
theorem m260 {e : Ex} {E : Ev} (h : ExLe Q e E) (v0 : Value) (G : GS) : Ref (s260 true e v0 G) (s260 false (Ex.of E) v0 G) := by
  unfold s260
  exact Ref.go
theorem f260 {orc : FuncId → Bool} {e : Ex} (h : ExLe Q e (E orc)) (v0 : Value) (G : GS) : Ref (s260 true e v0 G) ((E orc).cl 260 [v0] G) :=
  fun r hr => cl_sxE_some Q orc (vs := [v0]) G Tryz.func260 (by kernel_rfl) (by kernel_rfl) (by kernel_rfl) (by kernel_rfl) (by kernel_rfl) (by kernel_rfl) (m260 h v0 G r hr)
/-- coxswain/word.tops -/
noncomputable def s271 (q : Bool) (e : Ex) (G : GS) : Option (Value × GS) :=
  bS (al Q q 393 z393 G) fun x0 G1 =>
  bP (bd Q q 392 z392 [(0, 0, 1), (1, 1, 1)] [(.int .i64 0), (.int .i64 16)]) fun x2 =>
  bP (bd Q q 392 z392 [(0, 0, 1), (1, 1, 1)] [(.int .i64 16), (.int .i64 48)]) fun x3 =>
  bP (bd Q q 393 z393 [(0, 0, 2), (1, 2, 2)] [x2, x3]) fun x4 =>
  bP (st Q q 393 4 x0 x4 G1) fun G5 =>
  bP (lda Q q 393 4 x0 G5) fun x6 =>
  some (x6, G5)
theorem m271 {e : Ex} {E : Ev} (h : ExLe Q e E) (G : GS) : Ref (s271 true e  G) (s271 false (Ex.of E)  G) := by
  unfold s271
  exact Ref.go
theorem f271 {orc : FuncId → Bool} {e : Ex} (h : ExLe Q e (E orc)) (ho : orc 271 = false) (G : GS) : Ref (s271 true e  G) ((E orc).cl 271 [] G) :=
  fun r hr => cl_sxE_some Q orc (vs := []) G Tryz.func271 (by kernel_rfl) (by kernel_rfl) ho (by kernel_rfl) (by kernel_rfl) (by kernel_rfl) (m271 h  G r hr)
/-- (coxswain/word.raw).take -/
noncomputable def s272 (q : Bool) (e : Ex) (v0 v1 : Value) (G : GS) : Option (Value × GS) :=
  bS (bx q v1 G) fun x0 G1 =>
  bP (fa Q q 392 0 0 x0) fun x2 =>
  bP (ld Q q 3 x2 (G1.room 11)) fun x3 =>
  bP (bn Q q .shr 41 (.tmp 5) (.tmp 7) v0 x3) fun x4 =>
  bP (fa Q q 392 1 1 x0) fun x5 =>
  bP (ld Q q 3 x5 (G1.room 11)) fun x6 =>
  bP (bn Q q .shl 41 (.const (.int .u64 1)) (.tmp 10) (.int .u64 1) x6) fun x7 =>
  bP (bn Q q .sub 41 (.tmp 11) (.const (.int .u64 1)) x7 (.int .u64 1)) fun x8 =>
  bP (bn Q q .and 41 (.tmp 8) (.tmp 12) x4 x8) fun x9 =>
  bP (cv Q q 41 3 .u64 .i64 x9) fun x10 =>
  some (x10, (G1.room 11))
theorem m272 {e : Ex} {E : Ev} (h : ExLe Q e E) (v0 v1 : Value) (G : GS) : Ref (s272 true e v0 v1 G) (s272 false (Ex.of E) v0 v1 G) := by
  unfold s272
  exact Ref.go
theorem f272 {orc : FuncId → Bool} {e : Ex} (h : ExLe Q e (E orc)) (v0 v1 : Value) (G : GS) : Ref (s272 true e v0 v1 G) ((E orc).cl 272 [v0, v1] G) :=
  fun r hr => cl_sxE_some Q orc (vs := [v0, v1]) G Tryz.func272 (by kernel_rfl) (by kernel_rfl) (by kernel_rfl) (by kernel_rfl) (by kernel_rfl) (by kernel_rfl) (m272 h v0 v1 G r hr)
/-- (coxswain/tower.rows[coxswain/tower.node]).at -/
noncomputable def s273 (q : Bool) (e : Ex) (v0 v1 v2 : Value) (G : GS) : Option (Value × GS) :=
  bS (bx q v0 G) fun x0 G1 =>
  bP (bn Q q .lss 3 (.tmp 7) (.const (.int .i64 0)) v1 (.int .i64 0)) fun x2 =>
  bS (gd x2 false (some (v1, G1)) G1) fun x3 G4 =>
  bS (gd x2 false (bP (fa Q q 187 1 1 x0) fun y => some (y, G4)) G4) fun x5 G6 =>
  bS (gd x2 false (bP (ld Q q 3 x5 G6) fun y => some (y, G6)) G6) fun x7 G8 =>
  bS (gd x2 false (bP (bn Q q .geq 3 (.tmp 10) (.tmp 12) x3 x7) fun y => some (y, G8)) G8) fun x9 G10 =>
  bP (pickV x2 (.bool true) x9) fun x11 =>
  bS (gd x11 false (some (v2, G10)) G10) fun x12 G13 =>
  bS (gd x11 false (bP (bn Q q .lss 3 (.tmp 16) (.const (.int .i64 0)) x12 (.int .i64 0)) fun y => some (y, G13)) G13) fun x14 G15 =>
  bP (pickV x11 (.bool true) x14) fun x16 =>
  bS (gd x16 false (some (v2, G15)) G15) fun x17 G18 =>
  bS (gd x16 false (bP (fa Q q 187 2 2 x0) fun y => some (y, G18)) G18) fun x19 G20 =>
  bS (gd x16 false (bP (ld Q q 185 x19 G20) fun y => some (y, G20)) G20) fun x21 G22 =>
  bS (gd x16 false (bP (ifc Q q 185 x21) fun y => some (y, G22)) G22) fun x23 G24 =>
  bS (gd x16 false (bS (cInvoke Q e.ev x23 "coxswain/tower.cells" [] G24) fun y G => some (y, G)) G24) fun x25 G26 =>
  bS (gd x16 false (bP (bn Q q .geq 3 (.tmp 20) (.tmp 24) x17 x25) fun y => some (y, G26)) G26) fun x27 G28 =>
  bP (pickV x16 (.bool true) x27) fun x29 =>
  ifV x29 (
  some ((.int .i64 (-1)), G28)) (
  bP (fa Q q 187 0 0 x0) fun x30 =>
  bP (ld Q q 3 x30 (G28.room 12)) fun x31 =>
  bP (fa Q q 187 2 2 x0) fun x32 =>
  bP (ld Q q 185 x32 (G28.room 12)) fun x33 =>
  bP (ifc Q q 185 x33) fun x34 =>
  bS (cInvoke Q e.ev x34 "coxswain/tower.cells" [] (G28.room 12)) fun x36 G35 =>
  chk ((sameO (ld Q q 3 x30 G35) x31 && true)) <|
  bP (bn Q q .mul 3 (.tmp 29) (.tmp 33) v1 x36) fun x37 =>
  bP (bn Q q .add 3 (.tmp 28) (.tmp 34) x31 x37) fun x38 =>
  bP (bn Q q .add 3 (.tmp 35) (.tmp 36) x38 v2) fun x39 =>
  some (x39, G35))
theorem m273 {e : Ex} {E : Ev} (h : ExLe Q e E) (v0 v1 v2 : Value) (G : GS) : Ref (s273 true e v0 v1 v2 G) (s273 false (Ex.of E) v0 v1 v2 G) := by
  unfold s273
  exact Ref.go
theorem f273 {orc : FuncId → Bool} {e : Ex} (h : ExLe Q e (E orc)) (v0 v1 v2 : Value) (G : GS) : Ref (s273 true e v0 v1 v2 G) ((E orc).cl 273 [v0, v1, v2] G) :=
  fun r hr => cl_sxE_some Q orc (vs := [v0, v1, v2]) G Tryz.func273 (by kernel_rfl) (by kernel_rfl) (by kernel_rfl) (by kernel_rfl) (by kernel_rfl) (by kernel_rfl) (m273 h v0 v1 v2 G r hr)
/-- (coxswain/tower.rows[coxswain/tower.head]).at -/
noncomputable def s274 (q : Bool) (e : Ex) (v0 v1 v2 : Value) (G : GS) : Option (Value × GS) :=
  bS (bx q v0 G) fun x0 G1 =>
  bP (bn Q q .lss 3 (.tmp 7) (.const (.int .i64 0)) v1 (.int .i64 0)) fun x2 =>
  bS (gd x2 false (some (v1, G1)) G1) fun x3 G4 =>
  bS (gd x2 false (bP (fa Q q 192 1 1 x0) fun y => some (y, G4)) G4) fun x5 G6 =>
  bS (gd x2 false (bP (ld Q q 3 x5 G6) fun y => some (y, G6)) G6) fun x7 G8 =>
  bS (gd x2 false (bP (bn Q q .geq 3 (.tmp 10) (.tmp 12) x3 x7) fun y => some (y, G8)) G8) fun x9 G10 =>
  bP (pickV x2 (.bool true) x9) fun x11 =>
  bS (gd x11 false (some (v2, G10)) G10) fun x12 G13 =>
  bS (gd x11 false (bP (bn Q q .lss 3 (.tmp 16) (.const (.int .i64 0)) x12 (.int .i64 0)) fun y => some (y, G13)) G13) fun x14 G15 =>
  bP (pickV x11 (.bool true) x14) fun x16 =>
  bS (gd x16 false (some (v2, G15)) G15) fun x17 G18 =>
  bS (gd x16 false (bP (fa Q q 192 2 2 x0) fun y => some (y, G18)) G18) fun x19 G20 =>
  bS (gd x16 false (bP (ld Q q 190 x19 G20) fun y => some (y, G20)) G20) fun x21 G22 =>
  bS (gd x16 false (bP (ifc Q q 190 x21) fun y => some (y, G22)) G22) fun x23 G24 =>
  bS (gd x16 false (bS (cInvoke Q e.ev x23 "coxswain/tower.cells" [] G24) fun y G => some (y, G)) G24) fun x25 G26 =>
  bS (gd x16 false (bP (bn Q q .geq 3 (.tmp 20) (.tmp 24) x17 x25) fun y => some (y, G26)) G26) fun x27 G28 =>
  bP (pickV x16 (.bool true) x27) fun x29 =>
  ifV x29 (
  some ((.int .i64 (-1)), G28)) (
  bP (fa Q q 192 0 0 x0) fun x30 =>
  bP (ld Q q 3 x30 (G28.room 12)) fun x31 =>
  bP (fa Q q 192 2 2 x0) fun x32 =>
  bP (ld Q q 190 x32 (G28.room 12)) fun x33 =>
  bP (ifc Q q 190 x33) fun x34 =>
  bS (cInvoke Q e.ev x34 "coxswain/tower.cells" [] (G28.room 12)) fun x36 G35 =>
  chk ((sameO (ld Q q 3 x30 G35) x31 && true)) <|
  bP (bn Q q .mul 3 (.tmp 29) (.tmp 33) v1 x36) fun x37 =>
  bP (bn Q q .add 3 (.tmp 28) (.tmp 34) x31 x37) fun x38 =>
  bP (bn Q q .add 3 (.tmp 35) (.tmp 36) x38 v2) fun x39 =>
  some (x39, G35))
theorem m274 {e : Ex} {E : Ev} (h : ExLe Q e E) (v0 v1 v2 : Value) (G : GS) : Ref (s274 true e v0 v1 v2 G) (s274 false (Ex.of E) v0 v1 v2 G) := by
  unfold s274
  exact Ref.go
theorem f274 {orc : FuncId → Bool} {e : Ex} (h : ExLe Q e (E orc)) (v0 v1 v2 : Value) (G : GS) : Ref (s274 true e v0 v1 v2 G) ((E orc).cl 274 [v0, v1, v2] G) :=
  fun r hr => cl_sxE_some Q orc (vs := [v0, v1, v2]) G Tryz.func274 (by kernel_rfl) (by kernel_rfl) (by kernel_rfl) (by kernel_rfl) (by kernel_rfl) (by kernel_rfl) (m274 h v0 v1 v2 G r hr)
/-- (*coxswain/find.Find).begin -/
noncomputable def s275 (q : Bool) (e : Ex) (v0 v1 : Value) (G : GS) : Option (Value × GS) :=
  bS (bx q v0 G) fun x0 G1 =>
  bS (bx q v1 G1) fun x2 G3 =>
  bP (ld Q q 37 x0 (G3.room 10)) fun x4 =>
  bP (pNil x4) fun x5 =>
  bP (fa Q q 283 0 0 x5) fun x6 =>
  bP (fa Q q 31 2 2 x6) fun x7 =>
  bP (ld Q q 3 x7 (G3.room 10)) fun x8 =>
  bP (ld Q q 37 x0 (G3.room 10)) fun x9 =>
  bP (pNil x9) fun x10 =>
  bP (fa Q q 283 5 20 x10) fun x11 =>
  bP (ld Q q 281 x11 (G3.room 10)) fun x12 =>
  bS (e.ev.cl 349 [x8, x12] (G3.room 10)) fun x14 G13 =>
  bX (xRange e.ev x14 #[16, 17] (subAt [1, 0, 1, 0, 0] (bodyOf Tryz.f275)) (subAt [1, 0, 1, 0, 1] (bodyOf Tryz.f275)) (lst 31 (tu (nth undef [v0, v1]) [(2, x0), (3, x2), (6, x4), (7, x5), (8, x6), (9, x7), (10, x8), (11, x9), (12, x10), (13, x11), (14, x12), (15, x14)])) G13) fun e15 T16 G17 =>
  bV q (nth undef T16 2) fun T16x2_ =>
  ifE e15 .normal (
  bP (ld Q q 37 T16x2_ G17) fun x18 =>
  bP (pNil x18) fun x19 =>
  bP (fa Q q 283 2 14 x19) fun x20 =>
  bP (st Q q 3 1 x20 (.int .i64 9) G17) fun G21 =>
  some (.tuple #[], G21)) (ifE e15 .ret (
  some (.tuple #[], G17)) (none))
theorem m275 {e : Ex} {E : Ev} (h : ExLe Q e E) (v0 v1 : Value) (G : GS) : Ref (s275 true e v0 v1 G) (s275 false (Ex.of E) v0 v1 G) := by
  unfold s275
  exact Ref.go
theorem f275 {orc : FuncId → Bool} {e : Ex} (h : ExLe Q e (E orc)) (v0 v1 : Value) (G : GS) : Ref (s275 true e v0 v1 G) ((E orc).cl 275 [v0, v1] G) :=
  fun r hr => cl_sxE_some Q orc (vs := [v0, v1]) G Tryz.func275 (by kernel_rfl) (by kernel_rfl) (by kernel_rfl) (by kernel_rfl) (by kernel_rfl) (by kernel_rfl) (m275 h v0 v1 G r hr)
/-- (*coxswain/find.Find).index -/
noncomputable def s276 (q : Bool) (e : Ex) (v0 v1 : Value) (G : GS) : Option (Value × GS) :=
  bS (e.ev.cl 189 [v1] G) fun x0 G1 =>
  bP (pExtract x0 0) fun x2 =>
  bP (pExtract x0 1) fun x3 =>
  bS (al Q q 274 z274 G1) fun x4 G5 =>
  bP (st Q q 274 2 x4 x2 G5) fun G6 =>
  bP (fa Q q 274 0 0 x4) fun x7 =>
  bP (ld Q q 3 x7 (G6.room 11)) fun x8 =>
  bP (pNil v0) fun x9 =>
  bP (fa Q q 283 0 0 x9) fun x10 =>
  bP (fa Q q 31 3 3 x10) fun x11 =>
  bP (fa Q q 29 0 0 x11) fun x12 =>
  bP (fa Q q 25 0 0 x12) fun x13 =>
  bP (fa Q q 23 2 2 x13) fun x14 =>
  bP (ld Q q 3 x14 (G6.room 11)) fun x15 =>
  bP (bn Q q .geq 3 (.tmp 13) (.tmp 21) x8 x15) fun x16 =>
  ifV x16 (
  some ((.int .i64 (-1)), (G6.room 11))) (
  bP (fa Q q 274 0 0 x4) fun x17 =>
  bP (ld Q q 3 x17 (G6.room 11)) fun x18 =>
  some (x18, (G6.room 11)))
theorem m276 {e : Ex} {E : Ev} (h : ExLe Q e E) (v0 v1 : Value) (G : GS) : Ref (s276 true e v0 v1 G) (s276 false (Ex.of E) v0 v1 G) := by
  unfold s276
  exact Ref.go
theorem f276 {orc : FuncId → Bool} {e : Ex} (h : ExLe Q e (E orc)) (v0 v1 : Value) (G : GS) : Ref (s276 true e v0 v1 G) ((E orc).cl 276 [v0, v1] G) :=
  fun r hr => cl_sxE_some Q orc (vs := [v0, v1]) G Tryz.func276 (by kernel_rfl) (by kernel_rfl) (by kernel_rfl) (by kernel_rfl) (by kernel_rfl) (by kernel_rfl) (m276 h v0 v1 G r hr)
/-- (*coxswain/find.Find).done -/
noncomputable def s277 (q : Bool) (e : Ex) (v0 : Value) (G : GS) : Option (Value × GS) :=
  bP (pNil v0) fun x0 =>
  bP (fa Q q 283 5 20 x0) fun x1 =>
  bP (ld Q q 281 x1 (G.room 15)) fun x2 =>
  bP (pNil v0) fun x3 =>
  bP (fa Q q 283 3 15 x3) fun x4 =>
  bP (fa Q q 280 0 0 x4) fun x5 =>
  bP (ld Q q 3 x5 (G.room 15)) fun x6 =>
  bP (pNil v0) fun x7 =>
  bP (fa Q q 283 3 15 x7) fun x8 =>
  bP (lda Q q 280 4 x8 (G.room 15)) fun x9 =>
  bP (ias Q q 281 4 x2 x6) fun x10 =>
  bP (st Q q 280 4 x10 x9 (G.room 15)) fun G11 =>
  bP (pNil v0) fun x12 =>
  bP (fa Q q 283 3 15 x12) fun x13 =>
  bP (fa Q q 280 0 0 x13) fun x14 =>
  bP (ld Q q 3 x14 G11) fun x15 =>
  bP (bn Q q .sub 3 (.tmp 21) (.const (.int .i64 1)) x15 (.int .i64 1)) fun x16 =>
  bS (e.ev.cl 275 [v0, x16] G11) fun x17 G18 =>
  some (.tuple #[], G18)
theorem m277 {e : Ex} {E : Ev} (h : ExLe Q e E) (v0 : Value) (G : GS) : Ref (s277 true e v0 G) (s277 false (Ex.of E) v0 G) := by
  unfold s277
  exact Ref.go
theorem f277 {orc : FuncId → Bool} {e : Ex} (h : ExLe Q e (E orc)) (v0 : Value) (G : GS) : Ref (s277 true e v0 G) ((E orc).cl 277 [v0] G) :=
  fun r hr => cl_sxE_some Q orc (vs := [v0]) G Tryz.func277 (by kernel_rfl) (by kernel_rfl) (by kernel_rfl) (by kernel_rfl) (by kernel_rfl) (by kernel_rfl) (m277 h v0 G r hr)
/-- (*coxswain/find.Find).looks -/
noncomputable def s278 (q : Bool) (e : Ex) (v0 : Value) (G : GS) : Option (Value × GS) :=
  bP (pNil v0) fun x0 =>
  bP (fa Q q 283 2 14 x0) fun x1 =>
  bP (st Q q 3 1 x1 (.int .i64 2) G) fun G2 =>
  bP (pNil v0) fun x3 =>
  bP (fa Q q 283 3 15 x3) fun x4 =>
  bP (fa Q q 280 3 3 x4) fun x5 =>
  bP (ld Q q 41 x5 G2) fun x6 =>
  bS (e.ev.cl 276 [v0, x6] G2) fun x7 G8 =>
  bP (bn Q q .lss 3 (.tmp 11) (.const (.int .i64 0)) x7 (.int .i64 0)) fun x9 =>
  ifV x9 (
  bS (e.ev.cl 277 [v0] G8) fun x10 G11 =>
  some (.tuple #[], G11)) (
  some (.tuple #[], G8))
theorem m278 {e : Ex} {E : Ev} (h : ExLe Q e E) (v0 : Value) (G : GS) : Ref (s278 true e v0 G) (s278 false (Ex.of E) v0 G) := by
  unfold s278
  exact Ref.go
theorem f278 {orc : FuncId → Bool} {e : Ex} (h : ExLe Q e (E orc)) (v0 : Value) (G : GS) : Ref (s278 true e v0 G) ((E orc).cl 278 [v0] G) :=
  fun r hr => cl_sxE_some Q orc (vs := [v0]) G Tryz.func278 (by kernel_rfl) (by kernel_rfl) (by kernel_rfl) (by kernel_rfl) (by kernel_rfl) (by kernel_rfl) (m278 h v0 G r hr)
/-- (coxswain/cells.deed).add -/
noncomputable def s279 (q : Bool) (e : Ex) (v0 : Value) (G : GS) : Option (Value × GS) :=
  bS (bx q v0 G) fun x0 G1 =>
  bP (fa Q q 246 0 0 x0) fun x2 =>
  bP (ld Q q 243 x2 (G1.room 9)) fun x3 =>
  bP (pNil x3) fun x4 =>
  bP (ld Q q 154 x4 (G1.room 9)) fun x5 =>
  bP (fa Q q 246 1 1 x0) fun x6 =>
  bP (ld Q q 41 x6 (G1.room 9)) fun x7 =>
  bP (bn Q q .add 41 (.tmp 7) (.tmp 9) x5 x7) fun x8 =>
  some (.tuple #[x8, (.bool true)], (G1.room 9))
theorem m279 {e : Ex} {E : Ev} (h : ExLe Q e E) (v0 : Value) (G : GS) : Ref (s279 true e v0 G) (s279 false (Ex.of E) v0 G) := by
  unfold s279
  exact Ref.go
theorem f279 {orc : FuncId → Bool} {e : Ex} (h : ExLe Q e (E orc)) (v0 : Value) (G : GS) : Ref (s279 true e v0 G) ((E orc).cl 279 [v0] G) :=
  fun r hr => cl_sxE_some Q orc (vs := [v0]) G Tryz.func279 (by kernel_rfl) (by kernel_rfl) (by kernel_rfl) (by kernel_rfl) (by kernel_rfl) (by kernel_rfl) (m279 h v0 G r hr)
/-- (coxswain/tower.memory).level -/
noncomputable def s282 (q : Bool) (e : Ex) (v0 v1 v2 : Value) (G : GS) : Option (Value × GS) :=
  bS (bx q v0 G) fun x0 G1 =>
  bS (bx q v1 G1) fun x2 G3 =>
  bS (bx q v2 G3) fun x4 G5 =>
  some ((.func (.func 351) #[] #[x2, x0, x4]), G5)
theorem m282 {e : Ex} {E : Ev} (h : ExLe Q e E) (v0 v1 v2 : Value) (G : GS) : Ref (s282 true e v0 v1 v2 G) (s282 false (Ex.of E) v0 v1 v2 G) := by
  unfold s282
  exact Ref.go
theorem f282 {orc : FuncId → Bool} {e : Ex} (h : ExLe Q e (E orc)) (v0 v1 v2 : Value) (G : GS) : Ref (s282 true e v0 v1 v2 G) ((E orc).cl 282 [v0, v1, v2] G) :=
  fun r hr => cl_sxE_some Q orc (vs := [v0, v1, v2]) G Tryz.func282 (by kernel_rfl) (by kernel_rfl) (by kernel_rfl) (by kernel_rfl) (by kernel_rfl) (by kernel_rfl) (m282 h v0 v1 v2 G r hr)
/-- coxswain/stack.on -/
noncomputable def s283 (q : Bool) (e : Ex) (v0 v1 : Value) (G : GS) : Option (Value × GS) :=
  bS (bx q v0 G) fun x0 G1 =>
  bS (bx q v1 G1) fun x2 G3 =>
  bS (al Q q 180 z180 G3) fun x4 G5 =>
  bP (st Q q 180 1 x4 (.func (.func 354) #[] #[x2]) G5) fun G6 =>
  some ((.func (.func 355) #[] #[x0, x4]), G6)
theorem m283 {e : Ex} {E : Ev} (h : ExLe Q e E) (v0 v1 : Value) (G : GS) : Ref (s283 true e v0 v1 G) (s283 false (Ex.of E) v0 v1 G) := by
  unfold s283
  exact Ref.go
theorem f283 {orc : FuncId → Bool} {e : Ex} (h : ExLe Q e (E orc)) (v0 v1 : Value) (G : GS) : Ref (s283 true e v0 v1 G) ((E orc).cl 283 [v0, v1] G) :=
  fun r hr => cl_sxE_some Q orc (vs := [v0, v1]) G Tryz.func283 (by kernel_rfl) (by kernel_rfl) (by kernel_rfl) (by kernel_rfl) (by kernel_rfl) (by kernel_rfl) (m283 h v0 v1 G r hr)
/-- coxswain/word.refs -/
noncomputable def s284 (q : Bool) (e : Ex) (G : GS) : Option (Value × GS) :=
  bS (al Q q 393 z393 G) fun x0 G1 =>
  bP (bd Q q 392 z392 [(0, 0, 1), (1, 1, 1)] [(.int .i64 0), (.int .i64 16)]) fun x2 =>
  bP (bd Q q 392 z392 [(0, 0, 1), (1, 1, 1)] [(.int .i64 16), (.int .i64 32)]) fun x3 =>
  bP (bd Q q 393 z393 [(0, 0, 2), (1, 2, 2)] [x2, x3]) fun x4 =>
  bP (st Q q 393 4 x0 x4 G1) fun G5 =>
  bP (lda Q q 393 4 x0 G5) fun x6 =>
  some (x6, G5)
theorem m284 {e : Ex} {E : Ev} (h : ExLe Q e E) (G : GS) : Ref (s284 true e  G) (s284 false (Ex.of E)  G) := by
  unfold s284
  exact Ref.go
theorem f284 {orc : FuncId → Bool} {e : Ex} (h : ExLe Q e (E orc)) (ho : orc 284 = false) (G : GS) : Ref (s284 true e  G) ((E orc).cl 284 [] G) :=
  fun r hr => cl_sxE_some Q orc (vs := []) G Tryz.func284 (by kernel_rfl) (by kernel_rfl) ho (by kernel_rfl) (by kernel_rfl) (by kernel_rfl) (m284 h  G r hr)
/-- coxswain/word.PutRef -/
noncomputable def s285 (q : Bool) (e : Ex) (v0 : Value) (G : GS) : Option (Value × GS) :=
  bS (bx q v0 G) fun x0 G1 =>
  bP (fa Q q 289 0 0 x0) fun x2 =>
  bP (ld Q q 3 x2 G1) fun x3 =>
  bP (bd Q q 505 z505 [(0, 0, 1), (1, 1, 1), (2, 2, 1)] [x3, (.int .i64 (-1)), (.int .i64 65534)]) fun x4 =>
  bP (fa Q q 289 1 1 x0) fun x5 =>
  bP (ld Q q 3 x5 G1) fun x6 =>
  bP (bd Q q 505 z505 [(0, 0, 1), (1, 1, 1), (2, 2, 1)] [x6, (.int .i64 0), (.int .i64 4294967295)]) fun x7 =>
  bS (bs Q q 538 2 (rep z505 2) 3 [(0, 0, 3), (1, 3, 3)] [x4, x7] G1) fun x8 G9 =>
  bS (e.ev.cl 357 [x8] G9) fun x10 G11 =>
  bP (un Q q .not x10) fun x12 =>
  ifV x12 (
  some (.tuple #[(.int .u64 0), (.int .i64 3)], G11)) (
  bP (fa Q q 289 0 0 x0) fun x13 =>
  bP (ld Q q 3 x13 G11) fun x14 =>
  bP (bn Q q .eql 3 (.tmp 17) (.const (.int .i64 (-1))) x14 (.int .i64 (-1))) fun x15 =>
  bS (gd x15 true (bP (fa Q q 289 1 1 x0) fun y => some (y, G11)) G11) fun x16 G17 =>
  bS (gd x15 true (bP (ld Q q 3 x16 G17) fun y => some (y, G17)) G17) fun x18 G19 =>
  bS (gd x15 true (bP (bn Q q .neq 3 (.tmp 21) (.const (.int .i64 0)) x18 (.int .i64 0)) fun y => some (y, G19)) G19) fun x20 G21 =>
  bP (pickV x15 x20 (.bool false)) fun x22 =>
  ifV x22 (
  some (.tuple #[(.int .u64 0), (.int .i64 5)], G21)) (
  bS (e.ev.cl 284 [] G21) fun x23 G24 =>
  bS (al Q q 393 z393 G24) fun x25 G26 =>
  bP (st Q q 393 4 x25 x23 G26) fun G27 =>
  bP (sla Q q 393 2 2 x25 none none none (G27.room 13)) fun x28 =>
  bP (fa Q q 289 0 0 x0) fun x29 =>
  bP (ld Q q 3 x29 (G27.room 13)) fun x30 =>
  bP (bn Q q .add 3 (.tmp 27) (.const (.int .i64 1)) x30 (.int .i64 1)) fun x31 =>
  bP (fa Q q 289 1 1 x0) fun x32 =>
  bP (ld Q q 3 x32 (G27.room 13)) fun x33 =>
  bS (bs Q q 78 2 (rep z3 2) 1 [(0, 0, 1), (1, 1, 1)] [x31, x33] ((G27.room 13).at' (G27.nx + 6))) fun x34 G35 =>
  bS (e.ev.cl 358 [x28, x34] (G35.back (G27.room 13))) fun x37 G36 =>
  bP (fa Q q 289 2 2 x0) fun x38 =>
  bP (ld Q q 4 x38 G36) fun x39 =>
  chk ((sameO (ld Q q 4 x38 (G35.back (G27.room 13))) x39 && true)) <|
  bS (e.ev.cl 194 [x37, x39] G36) fun x41 G40 =>
  some (.tuple #[x41, (.int .i64 0)], G40)))
theorem m285 {e : Ex} {E : Ev} (h : ExLe Q e E) (v0 : Value) (G : GS) : Ref (s285 true e v0 G) (s285 false (Ex.of E) v0 G) := by
  unfold s285
  exact Ref.go
theorem f285 {orc : FuncId → Bool} {e : Ex} (h : ExLe Q e (E orc)) (v0 : Value) (G : GS) : Ref (s285 true e v0 G) ((E orc).cl 285 [v0] G) :=
  fun r hr => cl_sxE_some Q orc (vs := [v0]) G Tryz.func285 (by kernel_rfl) (by kernel_rfl) (by kernel_rfl) (by kernel_rfl) (by kernel_rfl) (by kernel_rfl) (m285 h v0 G r hr)
/-- coxswain/epoch.sized -/
noncomputable def s286 (q : Bool) (e : Ex) (v0 : Value) (G : GS) : Option (Value × GS) :=
  bS (bx q v0 G) fun x0 G1 =>
  bP (fa Q q 27 2 2 x0) fun x2 =>
  bP (ld Q q 3 x2 G1) fun x3 =>
  bP (bn Q q .geq 3 (.tmp 4) (.const (.int .i64 1)) x3 (.int .i64 1)) fun x4 =>
  bS (gd x4 true (bP (fa Q q 27 2 2 x0) fun y => some (y, G1)) G1) fun x5 G6 =>
  bS (gd x4 true (bP (ld Q q 3 x5 G6) fun y => some (y, G6)) G6) fun x7 G8 =>
  bS (gd x4 true (bP (bn Q q .leq 3 (.tmp 8) (.const (.int .i64 64)) x7 (.int .i64 64)) fun y => some (y, G8)) G8) fun x9 G10 =>
  bP (pickV x4 x9 (.bool false)) fun x11 =>
  some (x11, G10)
theorem m286 {e : Ex} {E : Ev} (h : ExLe Q e E) (v0 : Value) (G : GS) : Ref (s286 true e v0 G) (s286 false (Ex.of E) v0 G) := by
  unfold s286
  exact Ref.go
theorem f286 {orc : FuncId → Bool} {e : Ex} (h : ExLe Q e (E orc)) (v0 : Value) (G : GS) : Ref (s286 true e v0 G) ((E orc).cl 286 [v0] G) :=
  fun r hr => cl_sxE_some Q orc (vs := [v0]) G Tryz.func286 (by kernel_rfl) (by kernel_rfl) (by kernel_rfl) (by kernel_rfl) (by kernel_rfl) (by kernel_rfl) (m286 h v0 G r hr)
/-- coxswain/epoch.pins -/
noncomputable def s287 (q : Bool) (e : Ex) (v0 : Value) (G : GS) : Option (Value × GS) :=
  bS (bx q v0 G) fun x0 G1 =>
  some ((.func (.func 359) #[] #[x0]), G1)
theorem m287 {e : Ex} {E : Ev} (h : ExLe Q e E) (v0 : Value) (G : GS) : Ref (s287 true e v0 G) (s287 false (Ex.of E) v0 G) := by
  unfold s287
  exact Ref.go
theorem f287 {orc : FuncId → Bool} {e : Ex} (h : ExLe Q e (E orc)) (v0 : Value) (G : GS) : Ref (s287 true e v0 G) ((E orc).cl 287 [v0] G) :=
  fun r hr => cl_sxE_some Q orc (vs := [v0]) G Tryz.func287 (by kernel_rfl) (by kernel_rfl) (by kernel_rfl) (by kernel_rfl) (by kernel_rfl) (by kernel_rfl) (m287 h v0 G r hr)
/-- coxswain/epoch.at -/
noncomputable def s288 (q : Bool) (e : Ex) (v0 v1 : Value) (G : GS) : Option (Value × GS) :=
  bP (bn Q q .lss 3 (.tmp 5) (.const (.int .i64 0)) v1 (.int .i64 0)) fun x0 =>
  bS (gd x0 false (some (v1, G)) G) fun x1 G2 =>
  bS (gd x0 false (some (v0, G2)) G2) fun x3 G4 =>
  bS (gd x0 false (bP (ln Q q 111 x3) fun y => some (y, G4)) G4) fun x5 G6 =>
  bS (gd x0 false (bP (bn Q q .geq 3 (.tmp 8) (.tmp 10) x1 x5) fun y => some (y, G6)) G6) fun x7 G8 =>
  bP (pickV x0 (.bool true) x7) fun x9 =>
  ifV x9 (
  some ((.int .u64 0), G8)) (
  bP (ias Q q 111 1 v0 v1) fun x10 =>
  bP (ld Q q 41 x10 G8) fun x11 =>
  some (x11, G8))
theorem m288 {e : Ex} {E : Ev} (h : ExLe Q e E) (v0 v1 : Value) (G : GS) : Ref (s288 true e v0 v1 G) (s288 false (Ex.of E) v0 v1 G) := by
  unfold s288
  exact Ref.go
theorem f288 {orc : FuncId → Bool} {e : Ex} (h : ExLe Q e (E orc)) (v0 v1 : Value) (G : GS) : Ref (s288 true e v0 v1 G) ((E orc).cl 288 [v0, v1] G) :=
  fun r hr => cl_sxE_some Q orc (vs := [v0, v1]) G Tryz.func288 (by kernel_rfl) (by kernel_rfl) (by kernel_rfl) (by kernel_rfl) (by kernel_rfl) (by kernel_rfl) (m288 h v0 v1 G r hr)
/-- (*coxswain/ready.Put).Step -/
noncomputable def s289 (q : Bool) (e : Ex) (v0 v1 : Value) (G : GS) : Option (Value × GS) :=
  bP (ep Q q false 80 (.tmp 5) (.const (.pointer none)) v0 (.pointer none)) fun x0 =>
  bS (gd x0 false (some (v0, G)) G) fun x1 G2 =>
  bS (gd x0 false (bP (pNil x1) fun y => some (y, G2)) G2) fun x3 G4 =>
  bS (gd x0 false (bP (fa Q q 303 0 0 x3) fun y => some (y, G4)) G4) fun x5 G6 =>
  bS (gd x0 false (some (v1, G6)) G6) fun x7 G8 =>
  bS (gd x0 false (bS (e.ev.cl 302 [x5, x7] G8) fun y G => some (y, G)) G8) fun x9 G10 =>
  bP (pickV x0 (.bool true) x9) fun x11 =>
  some (x11, G10)
theorem m289 {e : Ex} {E : Ev} (h : ExLe Q e E) (v0 v1 : Value) (G : GS) : Ref (s289 true e v0 v1 G) (s289 false (Ex.of E) v0 v1 G) := by
  unfold s289
  exact Ref.go
theorem f289 {orc : FuncId → Bool} {e : Ex} (h : ExLe Q e (E orc)) (v0 v1 : Value) (G : GS) : Ref (s289 true e v0 v1 G) ((E orc).cl 289 [v0, v1] G) :=
  fun r hr => cl_sxE_some Q orc (vs := [v0, v1]) G Tryz.func289 (by kernel_rfl) (by kernel_rfl) (by kernel_rfl) (by kernel_rfl) (by kernel_rfl) (by kernel_rfl) (m289 h v0 v1 G r hr)
/-- (*coxswain/ready.work).pin$1 -/
noncomputable def s290 (q : Bool) (e : Ex) (v0 : Value) (G : GS) : Option (Value × GS) :=
  bP (ld Q q 334 v0 (G.room 12)) fun x0 =>
  bP (pNil x0) fun x1 =>
  bP (fa Q q 300 0 0 x1) fun x2 =>
  bP (fa Q q 31 3 3 x2) fun x3 =>
  bP (fa Q q 29 1 6 x3) fun x4 =>
  bP (lda Q q 27 3 x4 (G.room 12)) fun x5 =>
  bP (ld Q q 334 v0 (G.room 12)) fun x6 =>
  bP (pNil x6) fun x7 =>
  bP (fa Q q 300 1 13 x7) fun x8 =>
  bP (ld Q q 3 x8 (G.room 12)) fun x9 =>
  bS (e.ev.cl 291 [x5, x9] (G.room 12)) fun x11 G10 =>
  some (x11, G10)
theorem m290 {e : Ex} {E : Ev} (h : ExLe Q e E) (v0 : Value) (G : GS) : Ref (s290 true e v0 G) (s290 false (Ex.of E) v0 G) := by
  unfold s290
  exact Ref.go
theorem f290 {orc : FuncId → Bool} {e : Ex} (h : ExLe Q e (E orc)) (v0 : Value) (G : GS) : Ref (s290 true e v0 G) ((E orc).cl 290 [v0] G) :=
  fun r hr => cl_sxE_some Q orc (vs := [v0]) G Tryz.func290 (by kernel_rfl) (by kernel_rfl) (by kernel_rfl) (by kernel_rfl) (by kernel_rfl) (by kernel_rfl) (m290 h v0 G r hr)
/-- coxswain/epoch.NewPin -/
noncomputable def s291 (q : Bool) (e : Ex) (v0 v1 : Value) (G : GS) : Option (Value × GS) :=
  bS (bx q v0 G) fun x0 G1 =>
  bP (bd Q q 510 z510 [(2, 4, 1)] [(.bool true)]) fun x2 =>
  bP (lda Q q 27 3 x0 G1) fun x3 =>
  bP (bd Q q 512 z512 [(0, 0, 6), (1, 6, 3)] [x2, x3]) fun x4 =>
  bS (bx q x4 G1) fun x5 G6 =>
  bP (lda Q q 27 3 x0 G6) fun x7 =>
  bS (e.ev.cl 360 [x7, v1] G6) fun x8 G9 =>
  ifV x8 (
  bP (pNil x5) fun x10 =>
  bP (fa Q q 512 0 0 x10) fun x11 =>
  bS (e.ev.cl 361 [x11, (.int .i64 3)] G9) fun x12 G13 =>
  some (x5, G13)) (
  bP (fa Q q 27 1 1 x0) fun x14 =>
  bP (ld Q q 3 x14 G9) fun x15 =>
  bP (bn Q q .add 3 (.tmp 20) (.tmp 21) x15 v1) fun x16 =>
  bP (pNil x5) fun x17 =>
  bP (fa Q q 512 2 9 x17) fun x18 =>
  bP (st Q q 3 1 x18 x16 G9) fun G19 =>
  bP (bd Q q 508 z508 [(0, 0, 1), (1, 1, 1), (2, 2, 1)] [(.func (.func 362) #[x5] #[]), (.func (.func 363) #[x5] #[]), (.func (.func 364) #[x5] #[])]) fun x20 =>
  bP (pNil x5) fun x21 =>
  bP (fa Q q 512 0 0 x21) fun x22 =>
  bP (fa Q q 510 0 0 x22) fun x23 =>
  bP (st Q q 508 3 x23 x20 G19) fun G24 =>
  some (x5, G24))
theorem m291 {e : Ex} {E : Ev} (h : ExLe Q e E) (v0 v1 : Value) (G : GS) : Ref (s291 true e v0 v1 G) (s291 false (Ex.of E) v0 v1 G) := by
  unfold s291
  exact Ref.go
theorem f291 {orc : FuncId → Bool} {e : Ex} (h : ExLe Q e (E orc)) (v0 v1 : Value) (G : GS) : Ref (s291 true e v0 v1 G) ((E orc).cl 291 [v0, v1] G) :=
  fun r hr => cl_sxE_some Q orc (vs := [v0, v1]) G Tryz.func291 (by kernel_rfl) (by kernel_rfl) (by kernel_rfl) (by kernel_rfl) (by kernel_rfl) (by kernel_rfl) (m291 h v0 v1 G r hr)
/-- (*coxswain/ready.work).pin$2 -/
noncomputable def s292 (q : Bool) (e : Ex) (v0 v1 : Value) (G : GS) : Option (Value × GS) :=
  bP (ld Q q 334 v1 (G.room 9)) fun x0 =>
  bS (e.ev.cl 293 [v0] (G.room 9)) fun x2 G1 =>
  chk ((sameO (ld Q q 334 v1 G1) x0 && true)) <|
  bP (pExtract x2 0) fun x3 =>
  bP (pExtract x2 1) fun x4 =>
  bP (pNil x0) fun x5 =>
  bP (fa Q q 300 3 15 x5) fun x6 =>
  bP (st Q q 3 1 x6 x3 G1) fun G7 =>
  some (.tuple #[], G7)
theorem m292 {e : Ex} {E : Ev} (h : ExLe Q e E) (v0 v1 : Value) (G : GS) : Ref (s292 true e v0 v1 G) (s292 false (Ex.of E) v0 v1 G) := by
  unfold s292
  exact Ref.go
theorem f292 {orc : FuncId → Bool} {e : Ex} (h : ExLe Q e (E orc)) (v0 v1 : Value) (G : GS) : Ref (s292 true e v0 v1 G) ((E orc).cl 292 [v0, v1] G) :=
  fun r hr => cl_sxE_some Q orc (vs := [v0, v1]) G Tryz.func292 (by kernel_rfl) (by kernel_rfl) (by kernel_rfl) (by kernel_rfl) (by kernel_rfl) (by kernel_rfl) (m292 h v0 v1 G r hr)
/-- (*coxswain/epoch.Pin).At -/
noncomputable def s293 (q : Bool) (e : Ex) (v0 : Value) (G : GS) : Option (Value × GS) :=
  bP (ep Q q false 417 (.tmp 5) (.const (.pointer none)) v0 (.pointer none)) fun x0 =>
  ifV x0 (
  some (.tuple #[(.int .i64 0), (.int .i64 1)], G)) (
  bP (pNil v0) fun x1 =>
  bP (fa Q q 512 0 0 x1) fun x2 =>
  bS (e.ev.cl 365 [x2] G) fun x3 G4 =>
  bP (bn Q q .neq 33 (.tmp 11) (.const (.int .i64 0)) x3 (.int .i64 0)) fun x5 =>
  ifV x5 (
  some (.tuple #[(.int .i64 0), x3], G4)) (
  bP (pNil v0) fun x6 =>
  bP (fa Q q 512 3 10 x6) fun x7 =>
  bP (ld Q q 415 x7 G4) fun x8 =>
  bP (cv Q q 415 3 .u32 .i64 x8) fun x9 =>
  some (.tuple #[x9, (.int .i64 0)], G4)))
theorem m293 {e : Ex} {E : Ev} (h : ExLe Q e E) (v0 : Value) (G : GS) : Ref (s293 true e v0 G) (s293 false (Ex.of E) v0 G) := by
  unfold s293
  exact Ref.go
theorem f293 {orc : FuncId → Bool} {e : Ex} (h : ExLe Q e (E orc)) (v0 : Value) (G : GS) : Ref (s293 true e v0 G) ((E orc).cl 293 [v0] G) :=
  fun r hr => cl_sxE_some Q orc (vs := [v0]) G Tryz.func293 (by kernel_rfl) (by kernel_rfl) (by kernel_rfl) (by kernel_rfl) (by kernel_rfl) (by kernel_rfl) (m293 h v0 G r hr)
/-- (*coxswain/ready.Put).alloc$1 -/
noncomputable def s294 (q : Bool) (e : Ex) (v0 : Value) (G : GS) : Option (Value × GS) :=
  bP (ld Q q 80 v0 G) fun x0 =>
  bP (pNil x0) fun x1 =>
  bP (fa Q q 303 0 0 x1) fun x2 =>
  bP (fa Q q 300 0 0 x2) fun x3 =>
  bP (fa Q q 31 3 3 x3) fun x4 =>
  bP (fa Q q 29 0 0 x4) fun x5 =>
  bP (lda Q q 25 6 x5 G) fun x6 =>
  bS (e.ev.cl 173 [x6] G) fun x7 G8 =>
  some (x7, G8)
theorem m294 {e : Ex} {E : Ev} (h : ExLe Q e E) (v0 : Value) (G : GS) : Ref (s294 true e v0 G) (s294 false (Ex.of E) v0 G) := by
  unfold s294
  exact Ref.go
theorem f294 {orc : FuncId → Bool} {e : Ex} (h : ExLe Q e (E orc)) (v0 : Value) (G : GS) : Ref (s294 true e v0 G) ((E orc).cl 294 [v0] G) :=
  fun r hr => cl_sxE_some Q orc (vs := [v0]) G Tryz.func294 (by kernel_rfl) (by kernel_rfl) (by kernel_rfl) (by kernel_rfl) (by kernel_rfl) (by kernel_rfl) (m294 h v0 G r hr)
noncomputable def b295_0 (q : Bool) (e : Ex) (lp : Env → GS → Option (Exit × Env × GS)) (τ : Env) (G : GS) : Option (Exit × Env × GS) :=
  bV q (τ 2) fun a2_ =>
  bV q (τ 5) fun a5_ =>
  bV q (τ 27) fun a27_ =>
  bV q (τ 28) fun a28_ =>
  bV q (τ 29) fun a29_ =>
  bP (bn Q q .lss 3 (.tmp 29) (.tmp 28) a29_ a28_) fun x0 =>
  ifV x0 (
  bP (ias Q q 514 1 a27_ a29_) fun x1 =>
  bP (ld Q q 306 x1 G) fun x2 =>
  bP (bn Q q .eql 33 (.tmp 33) (.const (.int .i64 7)) a5_ (.int .i64 7)) fun x3 =>
  bS (gd x3 true (bP (ld Q q 80 a2_ G) fun y => some (y, G)) G) fun x4 G5 =>
  bS (gd x3 true (bP (pNil x4) fun y => some (y, G5)) G5) fun x6 G7 =>
  bS (gd x3 true (bP (fa Q q 303 4 22 x6) fun y => some (y, G7)) G7) fun x8 G9 =>
  bS (gd x3 true (bP (ld Q q 3 x8 G9) fun y => some (y, G9)) G9) fun x10 G11 =>
  bS (gd x3 true (bP (bn Q q .lss 3 (.tmp 39) (.const (.int .i64 3)) x10 (.int .i64 3)) fun y => some (y, G11)) G11) fun x12 G13 =>
  bP (pickV x3 x12 (.bool false)) fun x14 =>
  ifV x14 (
  bP (ld Q q 80 a2_ G13) fun x15 =>
  bP (pNil x15) fun x16 =>
  bP (fa Q q 303 4 22 x16) fun x17 =>
  bP (ld Q q 3 x17 G13) fun x18 =>
  bP (bn Q q .add 3 (.tmp 45) (.const (.int .i64 1)) x18 (.int .i64 1)) fun x19 =>
  bP (pNil x15) fun x20 =>
  bP (fa Q q 303 4 22 x20) fun x21 =>
  bP (st Q q 3 1 x21 x19 G13) fun G22 =>
  bP (ld Q q 80 a2_ (G22.room 13)) fun x23 =>
  bP (pNil x23) fun x24 =>
  bP (fa Q q 303 0 0 x24) fun x25 =>
  bP (ld Q q 80 a2_ (G22.room 13)) fun x26 =>
  bP (pNil x26) fun x27 =>
  bP (fa Q q 303 0 0 x27) fun x28 =>
  bP (ld Q q 80 a2_ (G22.room 13)) fun x29 =>
  bS (bs Q q 514 4 (rep z306 4) 1 [(0, 0, 1), (1, 1, 1), (2, 2, 1), (3, 3, 1)] [(.func (.func 368) #[] #[a2_]), (.func (.func 220) #[x25] #[]), (.func (.func 214) #[x28] #[]), (.func (.func 215) #[x29] #[])] ((G22.room 13).at' (G22.nx + 11))) fun x30 G31 =>
  some ((.goto 0), clq q 91 (tu τ [(2, a2_), (5, (.int .i64 0)), (27, a27_), (28, a28_), (29, a29_), (6, x30), (8, x2), (30, x0), (31, x1), (32, x2), (33, a5_), (34, x3), (35, x3), (36, x4), (37, x6), (38, x8), (39, x10), (40, x12), (41, x14), (42, x15), (43, x16), (44, x17), (45, x18), (46, x19), (47, x20), (48, x21), (49, (.func (.func 368) #[] #[a2_])), (50, x23), (51, x24), (52, x25), (53, (.func (.func 220) #[x25] #[])), (54, x26), (55, x27), (56, x28), (57, (.func (.func 214) #[x28] #[])), (58, x29), (59, (.func (.func 215) #[x29] #[])), (60, x30)]), (G31.back (G22.room 13)))) (
  bP (bn Q q .neq 33 (.tmp 61) (.const (.int .i64 0)) a5_ (.int .i64 0)) fun x32 =>
  ifV x32 (
  bP (ld Q q 80 a2_ G13) fun x33 =>
  bP (pNil x33) fun x34 =>
  bP (fa Q q 303 0 0 x34) fun x35 =>
  bP (fa Q q 300 6 18 x35) fun x36 =>
  bP (st Q q 33 1 x36 a5_ G13) fun G37 =>
  bP (ld Q q 80 a2_ (G37.room 10)) fun x38 =>
  bP (ld Q q 80 a2_ (G37.room 10)) fun x39 =>
  bP (pNil x39) fun x40 =>
  bP (fa Q q 303 0 0 x40) fun x41 =>
  bS (e.ev.cl 220 [x41] (G37.room 10)) fun x43 G42 =>
  chk ((sameO (ld Q q 80 a2_ G42) x38 && true)) <|
  bS (bs Q q 298 1 (rep z305 1) 1 [(0, 0, 1)] [x43] (G42.at' (G37.nx + 5))) fun x44 G45 =>
  bP (pNil x38) fun x46 =>
  bP (fa Q q 303 0 0 x46) fun x47 =>
  bP (fa Q q 300 4 16 x47) fun x48 =>
  bP (st Q q 298 1 x48 x44 (G45.back G42)) fun G49 =>
  some (.ret, clq q 91 (tu τ [(2, a2_), (5, a5_), (27, a27_), (28, a28_), (29, a29_), (8, x2), (30, x0), (31, x1), (32, x2), (33, a5_), (34, x3), (35, x3), (36, x4), (37, x6), (38, x8), (39, x10), (40, x12), (41, x14), (61, a5_), (62, x32), (63, x33), (64, a5_), (65, x34), (66, x35), (67, x36), (68, x38), (69, x39), (70, x40), (71, x41), (72, x43), (73, x44), (74, x46), (75, x47), (76, x48)]), G49)) (
  bP (ld Q q 80 a2_ (G13.room 14)) fun x50 =>
  bP (ld Q q 80 a2_ (G13.room 14)) fun x51 =>
  bP (pNil x51) fun x52 =>
  bP (fa Q q 303 0 0 x52) fun x53 =>
  bP (fa Q q 300 4 16 x53) fun x54 =>
  bP (ld Q q 298 x54 (G13.room 14)) fun x55 =>
  bS (cValue e.ev x2 [] (G13.room 14)) fun x57 G56 =>
  chk ((sameO (ld Q q 298 x54 G56) x55 && (sameO (ld Q q 80 a2_ G56) x51 && (sameO (ld Q q 80 a2_ G56) x50 && true)))) <|
  bS (bs Q q 298 1 (rep z305 1) 1 [(0, 0, 1)] [x57] (G56.at' (G13.nx + 8))) fun x58 G59 =>
  bS (ap Q q 298 298 1 16 x55 x58 (G59.back G56)) fun x61 G60 =>
  chk ((sameO (ld Q q 80 a2_ G60) x50 && true)) <|
  bP (pNil x50) fun x62 =>
  bP (fa Q q 303 0 0 x62) fun x63 =>
  bP (fa Q q 300 4 16 x63) fun x64 =>
  bP (st Q q 298 1 x64 x61 G60) fun G65 =>
  bP (bn Q q .add 3 (.tmp 29) (.const (.int .i64 1)) a29_ (.int .i64 1)) fun x66 =>
  lp (tu τ [(2, a2_), (5, a5_), (27, a27_), (28, a28_), (29, x66), (8, x2), (30, x0), (31, x1), (32, x2), (33, a5_), (34, x3), (35, x3), (36, x4), (37, x6), (38, x8), (39, x10), (40, x12), (41, x14), (61, a5_), (62, x32), (77, x50), (78, x51), (79, x52), (80, x53), (81, x54), (82, x55), (83, x2), (84, x57), (85, x58), (86, x61), (87, x62), (88, x63), (89, x64), (90, x66)]) G65))) (
  some ((.exit 0), clq q 91 (tu τ [(2, a2_), (5, a5_), (27, a27_), (28, a28_), (29, a29_), (30, x0)]), G))
theorem mb295_0 {e : Ex} {E : Ev} (h : ExLe Q e E) {lp lp' : Env → GS → Option (Exit × Env × GS)} (hlp : LpLe lp lp') (τ : Env) (G : GS) : Ref (b295_0 true e lp τ G) (b295_0 false (Ex.of E) lp' τ G) := by
  unfold b295_0
  exact Ref.go
set_option maxHeartbeats 8000000 in
theorem l295_0 {orc : FuncId → Bool} {e : Ex} (h : ExLe Q e (E orc)) (lp : Env → GS → Option (Exit × Env × GS)) (hlp : ∀ τ G, Ref (lp τ G) (mapE ((E orc).lp (subAt [1, 0, 1, 1, 1, 1, 1, 0, 0] (bodyOf Tryz.f295)) (lst 91 τ) G))) (T : List Value) (G : GS) (hT : T.length = 91) : Ref (b295_0 true e lp (nth undef T) G) (mapE ((E orc).lp (subAt [1, 0, 1, 1, 1, 1, 1, 0, 0] (bodyOf Tryz.f295)) T G)) :=
  fun r hr => lp_sxM Q orc G hT (by kernel_rfl) (mb295_0 h ⟨hlp⟩ _ _ r hr)
/-- (*coxswain/ready.Put).given -/
noncomputable def s295 (q : Bool) (e : Ex) (v0 v1 : Value) (G : GS) : Option (Value × GS) :=
  bS (bx q v0 G) fun x0 G1 =>
  bS (e.ev.cl 174 [v1] G1) fun x2 G3 =>
  bP (pExtract x2 0) fun x4 =>
  bP (pExtract x2 1) fun x5 =>
  bP (ld Q q 80 x0 G3) fun x6 =>
  bP (pNil x6) fun x7 =>
  bP (fa Q q 303 5 23 x7) fun x8 =>
  bP (st Q q 41 1 x8 x4 G3) fun G9 =>
  bP (ld Q q 80 x0 (G9.room 10)) fun x10 =>
  bP (ld Q q 80 x0 (G9.room 10)) fun x11 =>
  bP (ld Q q 80 x0 (G9.room 10)) fun x12 =>
  bP (pNil x12) fun x13 =>
  bP (fa Q q 303 0 0 x13) fun x14 =>
  bS (bs Q q 514 3 (rep z306 3) 1 [(0, 0, 1), (1, 1, 1), (2, 2, 1)] [(.func (.func 366) #[x10] #[]), (.func (.func 367) #[x11] #[]), (.func (.func 220) #[x14] #[])] ((G9.room 10).at' (G9.nx + 8))) fun x15 G16 =>
  bP (ln Q q 514 x15) fun x17 =>
  bL q e 295 0 (subAt [1, 0, 1, 1, 1, 1, 1, 0, 0] (bodyOf Tryz.f295)) 91 (tu (nth undef [v0, v1]) [(2, x0), (4, x4), (5, x5), (6, x15), (9, x2), (10, v1), (11, x2), (12, x4), (13, x5), (14, x6), (15, x4), (16, x7), (17, x8), (18, x10), (19, (.func (.func 366) #[x10] #[])), (20, x11), (21, (.func (.func 367) #[x11] #[])), (22, x12), (23, x13), (24, x14), (25, (.func (.func 220) #[x14] #[])), (26, x15), (27, x15), (28, x17), (29, (.int .i64 0))]) (G16.back (G9.room 10)) fun e18 t19 G20 =>
  ifE e18 (.exit 0) (
  some (.tuple #[], G20)) (ifE e18 (.goto 0) (
  bX (e.ev.sc (subAt [1, 0] (bodyOf Tryz.f295)) (labelAt 0 (subAt [1, 0] (bodyOf Tryz.f295))) (lst 91 t19) G20) fun e21 T22 G23 =>
  ifE e21 .normal (
  some (.tuple #[], G23)) (ifE e21 (.goto 0) (
  none) (ifE e21 .ret (
  some (.tuple #[], G23)) (none)))) (ifE e18 .ret (
  some (.tuple #[], G20)) (none)))
theorem m295 {e : Ex} {E : Ev} (h : ExLe Q e E) (v0 v1 : Value) (G : GS) : Ref (s295 true e v0 v1 G) (s295 false (Ex.of E) v0 v1 G) := by
  unfold s295
  exact Ref.go
set_option maxHeartbeats 8000000 in
theorem f295 {orc : FuncId → Bool} {e : Ex} (h : ExLe Q e (E orc)) (v0 v1 : Value) (G : GS) : Ref (s295 true e v0 v1 G) ((E orc).cl 295 [v0, v1] G) :=
  fun r hr => cl_sxE_some Q orc (vs := [v0, v1]) G Tryz.func295 (by kernel_rfl) (by kernel_rfl) (by kernel_rfl) (by kernel_rfl) (by kernel_rfl) (by kernel_rfl) (m295 h v0 v1 G r hr)
/-- (*coxswain/ready.work).unpin$1 -/
noncomputable def s297 (q : Bool) (e : Ex) (v0 : Value) (G : GS) : Option (Value × GS) :=
  bP (ld Q q 334 v0 (G.room 12)) fun x0 =>
  bP (pNil x0) fun x1 =>
  bP (fa Q q 300 0 0 x1) fun x2 =>
  bP (fa Q q 31 3 3 x2) fun x3 =>
  bP (fa Q q 29 1 6 x3) fun x4 =>
  bP (lda Q q 27 3 x4 (G.room 12)) fun x5 =>
  bP (ld Q q 334 v0 (G.room 12)) fun x6 =>
  bP (pNil x6) fun x7 =>
  bP (fa Q q 300 1 13 x7) fun x8 =>
  bP (ld Q q 3 x8 (G.room 12)) fun x9 =>
  bS (e.ev.cl 298 [x5, x9] (G.room 12)) fun x11 G10 =>
  some (x11, G10)
theorem m297 {e : Ex} {E : Ev} (h : ExLe Q e E) (v0 : Value) (G : GS) : Ref (s297 true e v0 G) (s297 false (Ex.of E) v0 G) := by
  unfold s297
  exact Ref.go
theorem f297 {orc : FuncId → Bool} {e : Ex} (h : ExLe Q e (E orc)) (v0 : Value) (G : GS) : Ref (s297 true e v0 G) ((E orc).cl 297 [v0] G) :=
  fun r hr => cl_sxE_some Q orc (vs := [v0]) G Tryz.func297 (by kernel_rfl) (by kernel_rfl) (by kernel_rfl) (by kernel_rfl) (by kernel_rfl) (by kernel_rfl) (m297 h v0 G r hr)
/-- coxswain/epoch.NewUnpin -/
noncomputable def s298 (q : Bool) (e : Ex) (v0 v1 : Value) (G : GS) : Option (Value × GS) :=
  bS (bx q v0 G) fun x0 G1 =>
  bP (bd Q q 510 z510 [(2, 4, 1)] [(.bool true)]) fun x2 =>
  bP (fa Q q 27 1 1 x0) fun x3 =>
  bP (ld Q q 3 x3 G1) fun x4 =>
  bP (bn Q q .add 3 (.tmp 8) (.tmp 9) x4 v1) fun x5 =>
  bP (bd Q q 518 z518 [(0, 0, 6), (1, 6, 1)] [x2, x5]) fun x6 =>
  bS (bx q x6 G1) fun x7 G8 =>
  bP (lda Q q 27 3 x0 G8) fun x9 =>
  bS (e.ev.cl 360 [x9, v1] G8) fun x10 G11 =>
  ifV x10 (
  bP (pNil x7) fun x12 =>
  bP (fa Q q 518 0 0 x12) fun x13 =>
  bS (e.ev.cl 361 [x13, (.int .i64 3)] G11) fun x14 G15 =>
  some (x7, G15)) (
  bP (pNil x7) fun x16 =>
  bP (fa Q q 518 0 0 x16) fun x17 =>
  bP (fa Q q 510 0 0 x17) fun x18 =>
  bP (iaa Q q 508 3 1 x18 (.int .i64 0)) fun x19 =>
  bP (st Q q 159 1 x19 (.func (.func 370) #[x7] #[]) G11) fun G20 =>
  some (x7, G20))
theorem m298 {e : Ex} {E : Ev} (h : ExLe Q e E) (v0 v1 : Value) (G : GS) : Ref (s298 true e v0 v1 G) (s298 false (Ex.of E) v0 v1 G) := by
  unfold s298
  exact Ref.go
theorem f298 {orc : FuncId → Bool} {e : Ex} (h : ExLe Q e (E orc)) (v0 v1 : Value) (G : GS) : Ref (s298 true e v0 v1 G) ((E orc).cl 298 [v0, v1] G) :=
  fun r hr => cl_sxE_some Q orc (vs := [v0, v1]) G Tryz.func298 (by kernel_rfl) (by kernel_rfl) (by kernel_rfl) (by kernel_rfl) (by kernel_rfl) (by kernel_rfl) (m298 h v0 v1 G r hr)
/-- (*coxswain/ready.work).step -/
noncomputable def s302 (q : Bool) (e : Ex) (v0 v1 : Value) (G : GS) : Option (Value × GS) :=
  bP (pNil v0) fun x0 =>
  bP (fa Q q 300 4 16 x0) fun x1 =>
  bP (ld Q q 298 x1 G) fun x2 =>
  bP (ln Q q 298 x2) fun x3 =>
  bP (bn Q q .eql 3 (.tmp 12) (.const (.int .i64 0)) x3 (.int .i64 0)) fun x4 =>
  ifV x4 (
  some ((.bool true), G)) (
  bP (pNil v0) fun x5 =>
  bP (fa Q q 300 4 16 x5) fun x6 =>
  bP (ld Q q 298 x6 G) fun x7 =>
  bP (ias Q q 298 1 x7 (.int .i64 0)) fun x8 =>
  bP (ld Q q 305 x8 G) fun x9 =>
  bP (pNil v0) fun x10 =>
  bP (fa Q q 300 4 16 x10) fun x11 =>
  bP (ld Q q 298 x11 G) fun x12 =>
  bP (sl Q q 298 1 x12 (some (.int .i64 1)) none none G) fun x13 =>
  bP (pNil v0) fun x14 =>
  bP (fa Q q 300 4 16 x14) fun x15 =>
  bP (st Q q 298 1 x15 x13 G) fun G16 =>
  bS (cInvoke Q e.ev x9 "coxswain/ready.run" [v1] G16) fun x17 G18 =>
  bP (pExtract x17 0) fun x19 =>
  bP (pExtract x17 1) fun x20 =>
  bP (pNil v0) fun x21 =>
  bP (fa Q q 300 5 17 x21) fun x22 =>
  bP (st Q q 41 1 x22 x20 G18) fun G23 =>
  bP (un Q q .not x19) fun x24 =>
  ifV x24 (
  bS (bs Q q 298 1 (rep z305 1) 1 [(0, 0, 1)] [x9] G23) fun x25 G26 =>
  bP (pNil v0) fun x27 =>
  bP (fa Q q 300 4 16 x27) fun x28 =>
  bP (ld Q q 298 x28 G26) fun x29 =>
  bS (ap Q q 298 298 1 16 x25 x29 G26) fun x30 G31 =>
  bP (pNil v0) fun x32 =>
  bP (fa Q q 300 4 16 x32) fun x33 =>
  bP (st Q q 298 1 x33 x30 G31) fun G34 =>
  bP (pNil v0) fun x35 =>
  bP (fa Q q 300 4 16 x35) fun x36 =>
  bP (ld Q q 298 x36 G34) fun x37 =>
  bP (ln Q q 298 x37) fun x38 =>
  bP (bn Q q .eql 3 (.tmp 54) (.const (.int .i64 0)) x38 (.int .i64 0)) fun x39 =>
  some (x39, G34)) (
  bP (pNil v0) fun x40 =>
  bP (fa Q q 300 4 16 x40) fun x41 =>
  bP (ld Q q 298 x41 G23) fun x42 =>
  bP (ln Q q 298 x42) fun x43 =>
  bP (bn Q q .eql 3 (.tmp 54) (.const (.int .i64 0)) x43 (.int .i64 0)) fun x44 =>
  some (x44, G23)))
theorem m302 {e : Ex} {E : Ev} (h : ExLe Q e E) (v0 v1 : Value) (G : GS) : Ref (s302 true e v0 v1 G) (s302 false (Ex.of E) v0 v1 G) := by
  unfold s302
  exact Ref.go
theorem f302 {orc : FuncId → Bool} {e : Ex} (h : ExLe Q e (E orc)) (v0 v1 : Value) (G : GS) : Ref (s302 true e v0 v1 G) ((E orc).cl 302 [v0, v1] G) :=
  fun r hr => cl_sxE_some Q orc (vs := [v0, v1]) G Tryz.func302 (by kernel_rfl) (by kernel_rfl) (by kernel_rfl) (by kernel_rfl) (by kernel_rfl) (by kernel_rfl) (m302 h v0 v1 G r hr)
/-- coxswain/epoch.Fill -/
noncomputable def s320 (q : Bool) (e : Ex) (v0 v1 : Value) (G : GS) : Option (Value × GS) :=
  bS (bx q v0 G) fun x0 G1 =>
  bS (bx q v1 G1) fun x2 G3 =>
  bP (lda Q q 27 3 x0 G3) fun x4 =>
  bS (e.ev.cl 286 [x4] G3) fun x5 G6 =>
  bP (un Q q .not x5) fun x7 =>
  ifV x7 (
  some (.tuple #[], G6)) (
  bP (ld Q q 32 x2 G6) fun x8 =>
  bP (fa Q q 27 0 0 x0) fun x9 =>
  bP (ld Q q 3 x9 G6) fun x10 =>
  bS (e.ev.cl 45 [x8, x10, (.int .u64 0)] G6) fun x11 G12 =>
  bP (lda Q q 27 3 x0 G12) fun x13 =>
  bS (e.ev.cl 287 [x13] G12) fun x14 G15 =>
  bX (xRange e.ev x14 #[15, 16] (subAt [1, 1, 1, 1, 0, 0] (bodyOf Tryz.f320)) (subAt [1, 1, 1, 1, 0, 1] (bodyOf Tryz.f320)) (lst 20 (tu (nth undef [v0, v1]) [(2, x0), (3, x2), (6, x4), (7, x5), (8, x7), (9, x8), (10, x9), (11, x10), (12, x11), (13, x13), (14, x14)])) G15) fun e16 T17 G18 =>
  ifE e16 .normal (
  some (.tuple #[], G18)) (none))
theorem m320 {e : Ex} {E : Ev} (h : ExLe Q e E) (v0 v1 : Value) (G : GS) : Ref (s320 true e v0 v1 G) (s320 false (Ex.of E) v0 v1 G) := by
  unfold s320
  exact Ref.go
theorem f320 {orc : FuncId → Bool} {e : Ex} (h : ExLe Q e (E orc)) (v0 v1 : Value) (G : GS) : Ref (s320 true e v0 v1 G) ((E orc).cl 320 [v0, v1] G) :=
  fun r hr => cl_sxE_some Q orc (vs := [v0, v1]) G Tryz.func320 (by kernel_rfl) (by kernel_rfl) (by kernel_rfl) (by kernel_rfl) (by kernel_rfl) (by kernel_rfl) (m320 h v0 v1 G r hr)
/-- (coxswain/limbo.turn).stack -/
noncomputable def s321 (q : Bool) (e : Ex) (v0 v1 : Value) (G : GS) : Option (Value × GS) :=
  bS (bx q v1 G) fun x0 G1 =>
  bS (al Q q 23 z23 G1) fun x2 G3 =>
  bP (fa Q q 29 2 9 x0) fun x4 =>
  bP (ld Q q 3 x4 G3) fun x5 =>
  bP (bn Q q .add 3 (.tmp 6) (.tmp 7) x5 v0) fun x6 =>
  bP (fa Q q 29 0 0 x0) fun x7 =>
  bP (fa Q q 25 0 0 x7) fun x8 =>
  bP (fa Q q 23 1 1 x8) fun x9 =>
  bP (ld Q q 3 x9 G3) fun x10 =>
  bP (fa Q q 29 0 0 x0) fun x11 =>
  bP (fa Q q 25 0 0 x11) fun x12 =>
  bP (fa Q q 23 2 2 x12) fun x13 =>
  bP (ld Q q 3 x13 G3) fun x14 =>
  bP (bd Q q 23 z23 [(0, 0, 1), (1, 1, 1), (2, 2, 1)] [x6, x10, x14]) fun x15 =>
  bP (st Q q 23 3 x2 x15 G3) fun G16 =>
  bP (lda Q q 23 3 x2 G16) fun x17 =>
  some (x17, G16)
theorem m321 {e : Ex} {E : Ev} (h : ExLe Q e E) (v0 v1 : Value) (G : GS) : Ref (s321 true e v0 v1 G) (s321 false (Ex.of E) v0 v1 G) := by
  unfold s321
  exact Ref.go
theorem f321 {orc : FuncId → Bool} {e : Ex} (h : ExLe Q e (E orc)) (v0 v1 : Value) (G : GS) : Ref (s321 true e v0 v1 G) ((E orc).cl 321 [v0, v1] G) :=
  fun r hr => cl_sxE_some Q orc (vs := [v0, v1]) G Tryz.func321 (by kernel_rfl) (by kernel_rfl) (by kernel_rfl) (by kernel_rfl) (by kernel_rfl) (by kernel_rfl) (m321 h v0 v1 G r hr)
/-- coxswain/stack.link -/
noncomputable def s334 (q : Bool) (e : Ex) (v0 : Value) (G : GS) : Option (Value × GS) :=
  bP (bd Q q 274 z274 [(0, 0, 1)] [v0]) fun x0 =>
  bS (e.ev.cl 390 [x0] G) fun x1 G2 =>
  bP (pExtract x1 0) fun x3 =>
  bP (pExtract x1 1) fun x4 =>
  some (x3, G2)
theorem m334 {e : Ex} {E : Ev} (h : ExLe Q e E) (v0 : Value) (G : GS) : Ref (s334 true e v0 G) (s334 false (Ex.of E) v0 G) := by
  unfold s334
  exact Ref.go
theorem f334 {orc : FuncId → Bool} {e : Ex} (h : ExLe Q e (E orc)) (v0 : Value) (G : GS) : Ref (s334 true e v0 G) ((E orc).cl 334 [v0] G) :=
  fun r hr => cl_sxE_some Q orc (vs := [v0]) G Tryz.func334 (by kernel_rfl) (by kernel_rfl) (by kernel_rfl) (by kernel_rfl) (by kernel_rfl) (by kernel_rfl) (m334 h v0 G r hr)
/-- (*coxswain/stack.Pop).first -/
noncomputable def s335 (q : Bool) (e : Ex) (v0 v1 : Value) (G : GS) : Option (Value × GS) :=
  bP (pNil v0) fun x0 =>
  bP (fa Q q 489 1 9 x0) fun x1 =>
  bP (st Q q 487 1 x1 (.func (.func 391) #[] #[]) G) fun G2 =>
  bP (pNil v0) fun x3 =>
  bP (fa Q q 489 0 0 x3) fun x4 =>
  bS (e.ev.cl 392 [x4, v1] G2) fun x5 G6 =>
  bP (pNil v0) fun x7 =>
  bP (fa Q q 489 0 0 x7) fun x8 =>
  bP (fa Q q 486 2 4 x8) fun x9 =>
  bP (st Q q 3 1 x9 x5 G6) fun G10 =>
  bP (pNil v0) fun x11 =>
  bP (fa Q q 489 0 0 x11) fun x12 =>
  bP (fa Q q 486 2 4 x12) fun x13 =>
  bP (ld Q q 3 x13 G10) fun x14 =>
  bP (bn Q q .lss 3 (.tmp 20) (.const (.int .i64 0)) x14 (.int .i64 0)) fun x15 =>
  ifV x15 (
  bP (pNil v0) fun x16 =>
  bP (fa Q q 489 0 0 x16) fun x17 =>
  bS (e.ev.cl 345 [x17, (.int .i64 15)] G10) fun x18 G19 =>
  some (.tuple #[], G19)) (
  some (.tuple #[], G10))
theorem m335 {e : Ex} {E : Ev} (h : ExLe Q e E) (v0 v1 : Value) (G : GS) : Ref (s335 true e v0 v1 G) (s335 false (Ex.of E) v0 v1 G) := by
  unfold s335
  exact Ref.go
theorem f335 {orc : FuncId → Bool} {e : Ex} (h : ExLe Q e (E orc)) (v0 v1 : Value) (G : GS) : Ref (s335 true e v0 v1 G) ((E orc).cl 335 [v0, v1] G) :=
  fun r hr => cl_sxE_some Q orc (vs := [v0, v1]) G Tryz.func335 (by kernel_rfl) (by kernel_rfl) (by kernel_rfl) (by kernel_rfl) (by kernel_rfl) (by kernel_rfl) (m335 h v0 v1 G r hr)
/-- (*coxswain/stack.Pop).Step -/
noncomputable def s336 (q : Bool) (e : Ex) (v0 v1 : Value) (G : GS) : Option (Value × GS) :=
  bP (ep Q q false 371 (.tmp 5) (.const (.pointer none)) v0 (.pointer none)) fun x0 =>
  bS (gd x0 false (some (v0, G)) G) fun x1 G2 =>
  bS (gd x0 false (bP (pNil x1) fun y => some (y, G2)) G2) fun x3 G4 =>
  bS (gd x0 false (bP (fa Q q 489 0 0 x3) fun y => some (y, G4)) G4) fun x5 G6 =>
  bS (gd x0 false (bS (e.ev.cl 393 [x5] G6) fun y G => some (y, G)) G6) fun x7 G8 =>
  bP (pickV x0 (.bool true) x7) fun x9 =>
  ifV x9 (
  some ((.bool true), G8)) (
  bP (pNil v0) fun x10 =>
  bP (fa Q q 489 1 9 x10) fun x11 =>
  bP (ld Q q 487 x11 G8) fun x12 =>
  bS (cValue e.ev x12 [v0, v1] G8) fun x13 G14 =>
  bP (pNil v0) fun x15 =>
  bP (fa Q q 489 0 0 x15) fun x16 =>
  bP (fa Q q 486 5 7 x16) fun x17 =>
  bP (ld Q q 4 x17 G14) fun x18 =>
  some (x18, G14))
theorem m336 {e : Ex} {E : Ev} (h : ExLe Q e E) (v0 v1 : Value) (G : GS) : Ref (s336 true e v0 v1 G) (s336 false (Ex.of E) v0 v1 G) := by
  unfold s336
  exact Ref.go
theorem f336 {orc : FuncId → Bool} {e : Ex} (h : ExLe Q e (E orc)) (v0 v1 : Value) (G : GS) : Ref (s336 true e v0 v1 G) ((E orc).cl 336 [v0, v1] G) :=
  fun r hr => cl_sxE_some Q orc (vs := [v0, v1]) G Tryz.func336 (by kernel_rfl) (by kernel_rfl) (by kernel_rfl) (by kernel_rfl) (by kernel_rfl) (by kernel_rfl) (m336 h v0 v1 G r hr)
/-- (*coxswain/stack.Pop).Index -/
noncomputable def s337 (q : Bool) (e : Ex) (v0 : Value) (G : GS) : Option (Value × GS) :=
  bP (ep Q q false 371 (.tmp 4) (.const (.pointer none)) v0 (.pointer none)) fun x0 =>
  ifV x0 (
  some (.tuple #[(.int .i64 0), (.int .i64 1)], G)) (
  bP (pNil v0) fun x1 =>
  bP (fa Q q 489 0 0 x1) fun x2 =>
  bS (e.ev.cl 394 [x2] G) fun x3 G4 =>
  bP (pExtract x3 0) fun x5 =>
  bP (pExtract x3 1) fun x6 =>
  some (.tuple #[x5, x6], G4))
theorem m337 {e : Ex} {E : Ev} (h : ExLe Q e E) (v0 : Value) (G : GS) : Ref (s337 true e v0 G) (s337 false (Ex.of E) v0 G) := by
  unfold s337
  exact Ref.go
theorem f337 {orc : FuncId → Bool} {e : Ex} (h : ExLe Q e (E orc)) (v0 : Value) (G : GS) : Ref (s337 true e v0 G) ((E orc).cl 337 [v0] G) :=
  fun r hr => cl_sxE_some Q orc (vs := [v0]) G Tryz.func337 (by kernel_rfl) (by kernel_rfl) (by kernel_rfl) (by kernel_rfl) (by kernel_rfl) (by kernel_rfl) (m337 h v0 G r hr)
/-- (*coxswain/arena.Alloc).gives -/
noncomputable def s338 (q : Bool) (e : Ex) (v0 v1 : Value) (G : GS) : Option (Value × GS) :=
  bP (pNil v0) fun x0 =>
  bP (fa Q q 375 4 9 x0) fun x1 =>
  bP (ld Q q 3 x1 (G.room 26)) fun x2 =>
  bP (pNil v0) fun x3 =>
  bP (fa Q q 375 1 1 x3) fun x4 =>
  bP (fa Q q 25 1 3 x4) fun x5 =>
  bP (ld Q q 3 x5 (G.room 26)) fun x6 =>
  bP (pNil v0) fun x7 =>
  bP (fa Q q 375 4 9 x7) fun x8 =>
  bP (ld Q q 3 x8 (G.room 26)) fun x9 =>
  bP (bn Q q .add 3 (.tmp 15) (.tmp 19) x6 x9) fun x10 =>
  bS (e.ev.cl 177 [v1, x10] (G.room 26)) fun x12 G11 =>
  chk ((sameO (ld Q q 3 x1 G11) x2 && true)) <|
  bS (e.ev.cl 347 [x12] G11) fun x14 G13 =>
  chk ((sameO (ld Q q 3 x1 G13) x2 && true)) <|
  bP (bd Q q 289 z289 [(0, 0, 1), (1, 1, 1)] [x2, x14]) fun x15 =>
  bS (e.ev.cl 285 [x15] G13) fun x17 G16 =>
  bP (pExtract x17 0) fun x18 =>
  bP (pExtract x17 1) fun x19 =>
  bP (pNil v0) fun x20 =>
  bP (fa Q q 375 5 10 x20) fun x21 =>
  bP (st Q q 41 1 x21 x18 G16) fun G22 =>
  bP (pNil v0) fun x23 =>
  bP (fa Q q 375 3 8 x23) fun x24 =>
  bP (st Q q 373 1 x24 .nilFunc G22) fun G25 =>
  some (.tuple #[], G25)
theorem m338 {e : Ex} {E : Ev} (h : ExLe Q e E) (v0 v1 : Value) (G : GS) : Ref (s338 true e v0 v1 G) (s338 false (Ex.of E) v0 v1 G) := by
  unfold s338
  exact Ref.go
theorem f338 {orc : FuncId → Bool} {e : Ex} (h : ExLe Q e (E orc)) (v0 v1 : Value) (G : GS) : Ref (s338 true e v0 v1 G) ((E orc).cl 338 [v0, v1] G) :=
  fun r hr => cl_sxE_some Q orc (vs := [v0, v1]) G Tryz.func338 (by kernel_rfl) (by kernel_rfl) (by kernel_rfl) (by kernel_rfl) (by kernel_rfl) (by kernel_rfl) (m338 h v0 v1 G r hr)
/-- (*coxswain/arena.Alloc).lacks -/
noncomputable def s339 (q : Bool) (e : Ex) (v0 v1 : Value) (G : GS) : Option (Value × GS) :=
  bP (pNil v0) fun x0 =>
  bP (fa Q q 375 6 11 x0) fun x1 =>
  bP (st Q q 33 1 x1 (.int .i64 7) G) fun G2 =>
  bP (pNil v0) fun x3 =>
  bP (fa Q q 375 1 1 x3) fun x4 =>
  bP (fa Q q 25 2 4 x4) fun x5 =>
  bP (ld Q q 3 x5 (G2.room 15)) fun x6 =>
  bS (e.ev.cl 177 [v1, x6] (G2.room 15)) fun x8 G7 =>
  bP (pNil v0) fun x9 =>
  bP (fa Q q 375 1 1 x9) fun x10 =>
  bP (fa Q q 25 0 0 x10) fun x11 =>
  bP (fa Q q 23 2 2 x11) fun x12 =>
  bP (ld Q q 3 x12 G7) fun x13 =>
  chk ((sameO (ld Q q 3 x12 (G2.room 15)) x13 && true)) <|
  bP (cv Q q 3 41 .i64 .u64 x13) fun x14 =>
  bP (bn Q q .geq 41 (.tmp 13) (.tmp 20) x8 x14) fun x15 =>
  ifV x15 (
  bP (pNil v0) fun x16 =>
  bP (fa Q q 375 6 11 x16) fun x17 =>
  bP (st Q q 33 1 x17 (.int .i64 12) G7) fun G18 =>
  bP (pNil v0) fun x19 =>
  bP (fa Q q 375 3 8 x19) fun x20 =>
  bP (st Q q 373 1 x20 .nilFunc G18) fun G21 =>
  some (.tuple #[], G21)) (
  bP (pNil v0) fun x22 =>
  bP (fa Q q 375 3 8 x22) fun x23 =>
  bP (st Q q 373 1 x23 .nilFunc G7) fun G24 =>
  some (.tuple #[], G24))
theorem m339 {e : Ex} {E : Ev} (h : ExLe Q e E) (v0 v1 : Value) (G : GS) : Ref (s339 true e v0 v1 G) (s339 false (Ex.of E) v0 v1 G) := by
  unfold s339
  exact Ref.go
theorem f339 {orc : FuncId → Bool} {e : Ex} (h : ExLe Q e (E orc)) (v0 v1 : Value) (G : GS) : Ref (s339 true e v0 v1 G) ((E orc).cl 339 [v0, v1] G) :=
  fun r hr => cl_sxE_some Q orc (vs := [v0, v1]) G Tryz.func339 (by kernel_rfl) (by kernel_rfl) (by kernel_rfl) (by kernel_rfl) (by kernel_rfl) (by kernel_rfl) (m339 h v0 v1 G r hr)
/-- (*coxswain/stack.held).ends -/
noncomputable def s345 (q : Bool) (e : Ex) (v0 v1 : Value) (G : GS) : Option (Value × GS) :=
  bP (pNil v0) fun x0 =>
  bP (fa Q q 486 5 7 x0) fun x1 =>
  bP (st Q q 4 1 x1 (.bool true) G) fun G2 =>
  bP (pNil v0) fun x3 =>
  bP (fa Q q 486 6 8 x3) fun x4 =>
  bP (st Q q 33 1 x4 v1 G2) fun G5 =>
  some (.tuple #[], G5)
theorem m345 {e : Ex} {E : Ev} (h : ExLe Q e E) (v0 v1 : Value) (G : GS) : Ref (s345 true e v0 v1 G) (s345 false (Ex.of E) v0 v1 G) := by
  unfold s345
  exact Ref.go
theorem f345 {orc : FuncId → Bool} {e : Ex} (h : ExLe Q e (E orc)) (v0 v1 : Value) (G : GS) : Ref (s345 true e v0 v1 G) ((E orc).cl 345 [v0, v1] G) :=
  fun r hr => cl_sxE_some Q orc (vs := [v0, v1]) G Tryz.func345 (by kernel_rfl) (by kernel_rfl) (by kernel_rfl) (by kernel_rfl) (by kernel_rfl) (by kernel_rfl) (m345 h v0 v1 G r hr)
/-- coxswain/arena.gen -/
noncomputable def s347 (q : Bool) (e : Ex) (v0 : Value) (G : GS) : Option (Value × GS) :=
  bP (bn Q q .and 41 (.tmp 3) (.const (.int .u64 4294967295)) v0 (.int .u64 4294967295)) fun x0 =>
  bP (cv Q q 41 3 .u64 .i64 x0) fun x1 =>
  some (x1, G)
theorem m347 {e : Ex} {E : Ev} (h : ExLe Q e E) (v0 : Value) (G : GS) : Ref (s347 true e v0 G) (s347 false (Ex.of E) v0 G) := by
  unfold s347
  exact Ref.go
theorem f347 {orc : FuncId → Bool} {e : Ex} (h : ExLe Q e (E orc)) (v0 : Value) (G : GS) : Ref (s347 true e v0 G) ((E orc).cl 347 [v0] G) :=
  fun r hr => cl_sxE_some Q orc (vs := [v0]) G Tryz.func347 (by kernel_rfl) (by kernel_rfl) (by kernel_rfl) (by kernel_rfl) (by kernel_rfl) (by kernel_rfl) (m347 h v0 G r hr)
/-- coxswain/find.down -/
noncomputable def s349 (q : Bool) (e : Ex) (v0 v1 : Value) (G : GS) : Option (Value × GS) :=
  bS (bx q v0 G) fun x0 G1 =>
  bS (bx q v1 G1) fun x2 G3 =>
  some ((.func (.func 397) #[] #[x0, x2]), G3)
theorem m349 {e : Ex} {E : Ev} (h : ExLe Q e E) (v0 v1 : Value) (G : GS) : Ref (s349 true e v0 v1 G) (s349 false (Ex.of E) v0 v1 G) := by
  unfold s349
  exact Ref.go
theorem f349 {orc : FuncId → Bool} {e : Ex} (h : ExLe Q e (E orc)) (v0 v1 : Value) (G : GS) : Ref (s349 true e v0 v1 G) ((E orc).cl 349 [v0, v1] G) :=
  fun r hr => cl_sxE_some Q orc (vs := [v0, v1]) G Tryz.func349 (by kernel_rfl) (by kernel_rfl) (by kernel_rfl) (by kernel_rfl) (by kernel_rfl) (by kernel_rfl) (m349 h v0 v1 G r hr)
noncomputable def b351_0 (q : Bool) (e : Ex) (lp : Env → GS → Option (Exit × Env × GS)) (τ : Env) (G : GS) : Option (Exit × Env × GS) :=
  bV q (τ 0) fun a0_ =>
  bV q (τ 1) fun a1_ =>
  bV q (τ 2) fun a2_ =>
  bV q (τ 3) fun a3_ =>
  bV q (τ 5) fun a5_ =>
  bV q (τ 6) fun a6_ =>
  bP (bn Q q .geq 3 (.tmp 14) (.const (.int .i64 0)) a5_ (.int .i64 0)) fun x0 =>
  bS (gd x0 true (some (a6_, G)) G) fun x1 G2 =>
  bS (gd x0 true (bP (fa Q q 31 3 3 a1_) fun y => some (y, G2)) G2) fun x3 G4 =>
  bS (gd x0 true (bP (fa Q q 29 0 0 x3) fun y => some (y, G4)) G4) fun x5 G6 =>
  bS (gd x0 true (bP (fa Q q 25 0 0 x5) fun y => some (y, G6)) G6) fun x7 G8 =>
  bS (gd x0 true (bP (fa Q q 23 2 2 x7) fun y => some (y, G8)) G8) fun x9 G10 =>
  bS (gd x0 true (bP (ld Q q 3 x9 G10) fun y => some (y, G10)) G10) fun x11 G12 =>
  bS (gd x0 true (bP (bn Q q .lss 3 (.tmp 17) (.tmp 22) x1 x11) fun y => some (y, G12)) G12) fun x13 G14 =>
  bP (pickV x0 x13 (.bool false)) fun x15 =>
  bS (gd x15 true (some (a0_, G14)) G14) fun x16 G17 =>
  bS (gd x15 true (some (a5_, G17)) G17) fun x18 G19 =>
  bS (gd x15 true (bS (cValue e.ev x16 [x18] G19) fun y G => some (y, G)) G19) fun x20 G21 =>
  bP (pickV x15 x20 (.bool false)) fun x22 =>
  ifV x22 (
  bP (lda Q q 31 13 a1_ (G21.room 9)) fun x23 =>
  bP (ld Q q 407 a2_ (G21.room 9)) fun x24 =>
  bP (lda Q q 31 13 a1_ (G21.room 9)) fun x25 =>
  bP (ld Q q 3 a3_ (G21.room 9)) fun x26 =>
  bS (e.ev.cl 69 [x25, a5_, x26] (G21.room 9)) fun x28 G27 =>
  chk ((sameO (ld Q q 407 a2_ G27) x24 && (sameO (lda Q q 31 13 a1_ G27) x23 && true))) <|
  bS (e.ev.cl 353 [x24, x28] G27) fun x30 G29 =>
  chk ((sameO (lda Q q 31 13 a1_ G29) x23 && true)) <|
  bS (e.ev.cl 352 [x23, x30] G29) fun x32 G31 =>
  bP (bn Q q .add 3 (.tmp 30) (.const (.int .i64 1)) a6_ (.int .i64 1)) fun x33 =>
  lp (tu τ [(0, a0_), (1, a1_), (2, a2_), (3, a3_), (5, x32), (6, x33), (14, a5_), (15, x0), (16, x0), (17, x1), (18, x3), (19, x5), (20, x7), (21, x9), (22, x11), (23, x13), (24, x15), (25, x15), (26, x16), (27, x18), (28, x20), (29, x22), (30, a6_), (31, x33), (32, x23), (33, x24), (34, x25), (35, a5_), (36, x26), (37, x28), (38, x30), (39, x32)]) G31) (
  some ((.exit 0), clq q 40 (tu τ [(0, a0_), (1, a1_), (2, a2_), (3, a3_), (5, a5_), (6, a6_), (14, a5_), (15, x0), (16, x0), (17, x1), (18, x3), (19, x5), (20, x7), (21, x9), (22, x11), (23, x13), (24, x15), (25, x15), (26, x16), (27, x18), (28, x20), (29, x22)]), G21))
theorem mb351_0 {e : Ex} {E : Ev} (h : ExLe Q e E) {lp lp' : Env → GS → Option (Exit × Env × GS)} (hlp : LpLe lp lp') (τ : Env) (G : GS) : Ref (b351_0 true e lp τ G) (b351_0 false (Ex.of E) lp' τ G) := by
  unfold b351_0
  exact Ref.go
theorem l351_0 {orc : FuncId → Bool} {e : Ex} (h : ExLe Q e (E orc)) (lp : Env → GS → Option (Exit × Env × GS)) (hlp : ∀ τ G, Ref (lp τ G) (mapE ((E orc).lp (subAt [1, 1, 0, 0] (bodyOf Tryz.f351)) (lst 40 τ) G))) (T : List Value) (G : GS) (hT : T.length = 40) : Ref (b351_0 true e lp (nth undef T) G) (mapE ((E orc).lp (subAt [1, 1, 0, 0] (bodyOf Tryz.f351)) T G)) :=
  fun r hr => lp_sxM Q orc G hT (by kernel_rfl) (mb351_0 h ⟨hlp⟩ _ _ r hr)
/-- (coxswain/tower.memory).level$1 -/
noncomputable def s351 (q : Bool) (e : Ex) (v0 v1 v2 v3 : Value) (G : GS) : Option (Value × GS) :=
  bP (lda Q q 31 13 v1 (G.room 8)) fun x0 =>
  bP (ld Q q 407 v2 (G.room 8)) fun x1 =>
  bP (lda Q q 31 13 v1 (G.room 8)) fun x2 =>
  bP (ld Q q 3 v3 (G.room 8)) fun x3 =>
  bS (e.ev.cl 69 [x2, (.int .i64 (-1)), x3] (G.room 8)) fun x5 G4 =>
  chk ((sameO (ld Q q 407 v2 G4) x1 && (sameO (lda Q q 31 13 v1 G4) x0 && true))) <|
  bS (e.ev.cl 353 [x1, x5] G4) fun x7 G6 =>
  chk ((sameO (lda Q q 31 13 v1 G6) x0 && true)) <|
  bS (e.ev.cl 352 [x0, x7] G6) fun x9 G8 =>
  bL q e 351 0 (subAt [1, 1, 0, 0] (bodyOf Tryz.f351)) 40 (tu (nth undef [v0, v1, v2, v3]) [(5, x9), (6, (.int .i64 0)), (7, x0), (8, x1), (9, x2), (10, x3), (11, x5), (12, x7), (13, x9)]) G8 fun e10 t11 G12 =>
  ifE e10 (.exit 0) (
  some (.tuple #[], G12)) (none)
theorem m351 {e : Ex} {E : Ev} (h : ExLe Q e E) (v0 v1 v2 v3 : Value) (G : GS) : Ref (s351 true e v0 v1 v2 v3 G) (s351 false (Ex.of E) v0 v1 v2 v3 G) := by
  unfold s351
  exact Ref.go
theorem f351 {orc : FuncId → Bool} {e : Ex} (h : ExLe Q e (E orc)) (v0 v1 v2 v3 : Value) (G : GS) : Ref (s351 true e v0 v1 v2 v3 G) ((E orc).cl 351 [v0, v1, v2, v3] G) :=
  fun r hr => cl_sxE_some Q orc (vs := [v0, v1, v2, v3]) G Tryz.func351 (by kernel_rfl) (by kernel_rfl) (by kernel_rfl) (by kernel_rfl) (by kernel_rfl) (by kernel_rfl) (m351 h v0 v1 v2 v3 G r hr)
/-- coxswain/tower.index -/
noncomputable def s352 (q : Bool) (e : Ex) (v0 v1 : Value) (G : GS) : Option (Value × GS) :=
  bS (bx q v0 G) fun x0 G1 =>
  bS (e.ev.cl 189 [v1] G1) fun x2 G3 =>
  bP (pExtract x2 0) fun x4 =>
  bP (pExtract x2 1) fun x5 =>
  bS (al Q q 274 z274 G3) fun x6 G7 =>
  bP (st Q q 274 2 x6 x4 G7) fun G8 =>
  bP (fa Q q 274 0 0 x6) fun x9 =>
  bP (ld Q q 3 x9 G8) fun x10 =>
  bP (fa Q q 31 3 3 x0) fun x11 =>
  bP (fa Q q 29 0 0 x11) fun x12 =>
  bP (fa Q q 25 0 0 x12) fun x13 =>
  bP (fa Q q 23 2 2 x13) fun x14 =>
  bP (ld Q q 3 x14 G8) fun x15 =>
  bP (bn Q q .geq 3 (.tmp 13) (.tmp 18) x10 x15) fun x16 =>
  ifV x16 (
  some ((.int .i64 (-1)), G8)) (
  bP (fa Q q 274 0 0 x6) fun x17 =>
  bP (ld Q q 3 x17 G8) fun x18 =>
  some (x18, G8))
theorem m352 {e : Ex} {E : Ev} (h : ExLe Q e E) (v0 v1 : Value) (G : GS) : Ref (s352 true e v0 v1 G) (s352 false (Ex.of E) v0 v1 G) := by
  unfold s352
  exact Ref.go
theorem f352 {orc : FuncId → Bool} {e : Ex} (h : ExLe Q e (E orc)) (v0 v1 : Value) (G : GS) : Ref (s352 true e v0 v1 G) ((E orc).cl 352 [v0, v1] G) :=
  fun r hr => cl_sxE_some Q orc (vs := [v0, v1]) G Tryz.func352 (by kernel_rfl) (by kernel_rfl) (by kernel_rfl) (by kernel_rfl) (by kernel_rfl) (by kernel_rfl) (m352 h v0 v1 G r hr)
/-- (coxswain/tower.memory).at -/
noncomputable def s353 (q : Bool) (e : Ex) (v0 v1 : Value) (G : GS) : Option (Value × GS) :=
  bP (bn Q q .lss 3 (.tmp 5) (.const (.int .i64 0)) v1 (.int .i64 0)) fun x0 =>
  bS (gd x0 false (some (v1, G)) G) fun x1 G2 =>
  bS (gd x0 false (some (v0, G2)) G2) fun x3 G4 =>
  bS (gd x0 false (bP (ln Q q 407 x3) fun y => some (y, G4)) G4) fun x5 G6 =>
  bS (gd x0 false (bP (bn Q q .geq 3 (.tmp 8) (.tmp 10) x1 x5) fun y => some (y, G6)) G6) fun x7 G8 =>
  bP (pickV x0 (.bool true) x7) fun x9 =>
  ifV x9 (
  some ((.int .u64 0), G8)) (
  bP (ias Q q 407 1 v0 v1) fun x10 =>
  bP (ld Q q 41 x10 G8) fun x11 =>
  some (x11, G8))
theorem m353 {e : Ex} {E : Ev} (h : ExLe Q e E) (v0 v1 : Value) (G : GS) : Ref (s353 true e v0 v1 G) (s353 false (Ex.of E) v0 v1 G) := by
  unfold s353
  exact Ref.go
theorem f353 {orc : FuncId → Bool} {e : Ex} (h : ExLe Q e (E orc)) (v0 v1 : Value) (G : GS) : Ref (s353 true e v0 v1 G) ((E orc).cl 353 [v0, v1] G) :=
  fun r hr => cl_sxE_some Q orc (vs := [v0, v1]) G Tryz.func353 (by kernel_rfl) (by kernel_rfl) (by kernel_rfl) (by kernel_rfl) (by kernel_rfl) (by kernel_rfl) (m353 h v0 v1 G r hr)
/-- coxswain/stack.on$1 -/
noncomputable def s354 (q : Bool) (e : Ex) (v0 v1 : Value) (G : GS) : Option (Value × GS) :=
  bP (bn Q q .lss 3 (.tmp 4) (.const (.int .i64 0)) v0 (.int .i64 0)) fun x0 =>
  bS (gd x0 false (some (v0, G)) G) fun x1 G2 =>
  bS (gd x0 false (bP (ld Q q 111 v1 G2) fun y => some (y, G2)) G2) fun x3 G4 =>
  bS (gd x0 false (bP (ln Q q 111 x3) fun y => some (y, G4)) G4) fun x5 G6 =>
  bS (gd x0 false (bP (bn Q q .geq 3 (.tmp 7) (.tmp 9) x1 x5) fun y => some (y, G6)) G6) fun x7 G8 =>
  bP (pickV x0 (.bool true) x7) fun x9 =>
  ifV x9 (
  some ((.int .u64 0), G8)) (
  bP (ld Q q 111 v1 G8) fun x10 =>
  bP (ias Q q 111 1 x10 v0) fun x11 =>
  bP (ld Q q 41 x11 G8) fun x12 =>
  some (x12, G8))
theorem m354 {e : Ex} {E : Ev} (h : ExLe Q e E) (v0 v1 : Value) (G : GS) : Ref (s354 true e v0 v1 G) (s354 false (Ex.of E) v0 v1 G) := by
  unfold s354
  exact Ref.go
theorem f354 {orc : FuncId → Bool} {e : Ex} (h : ExLe Q e (E orc)) (v0 v1 : Value) (G : GS) : Ref (s354 true e v0 v1 G) ((E orc).cl 354 [v0, v1] G) :=
  fun r hr => cl_sxE_some Q orc (vs := [v0, v1]) G Tryz.func354 (by kernel_rfl) (by kernel_rfl) (by kernel_rfl) (by kernel_rfl) (by kernel_rfl) (by kernel_rfl) (m354 h v0 v1 G r hr)
end Go.Proofs.YtdohlgkmaeipjaaGreat.LiftK
