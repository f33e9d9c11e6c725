/- the program's code, spelled out by a program of ours (lift3.lean) -/
import Derived.Test.YtdohlgkmaeipjaaGreatProg
import Derived.Test.YtdohlgkmaeipjaaGreatGhPJ
import Derived.Test.YtdohlgkmaeipjaaGreatGhPG
import Derived.KernelRfl
namespace Go.Proofs.YtdohlgkmaeipjaaGreat.Lift
open Go Go.Proofs.YtdohlgkmaeipjaaGreat.Gh Go.Proofs
set_option linter.unusedVariables false
set_option maxRecDepth 100000
@[reducible] noncomputable def Q : Program := Tryz.prog
@[reducible] noncomputable def E (orc : FuncId → Bool) : Ev := evL Tryz.prog orc
instance ilp8_0 : LpIs Q 8 0 (subAt [1, 1, 1, 1, 1, 1, 0, 1, 0, 0] (bodyOf Tryz.f8)) 116 := ⟨by kernel_rfl, by kernel_rfl⟩
instance ilp29_0 : LpIs Q 29 0 (subAt [1, 0, 1, 0, 0] (bodyOf Tryz.f29)) 18 := ⟨by kernel_rfl, by kernel_rfl⟩
instance ilp52_0 : LpIs Q 52 0 (subAt [1, 1, 0, 1, 0, 0] (bodyOf Tryz.f52)) 31 := ⟨by kernel_rfl, by kernel_rfl⟩
instance ilp53_0 : LpIs Q 53 0 (subAt [1, 1, 1, 0, 1, 0, 0] (bodyOf Tryz.f53)) 42 := ⟨by kernel_rfl, by kernel_rfl⟩
instance ilp55_0 : LpIs Q 55 0 (subAt [1, 1, 1, 1, 1, 0, 1, 0, 0] (bodyOf Tryz.f55)) 99 := ⟨by kernel_rfl, by kernel_rfl⟩
instance ilp55_1 : LpIs Q 55 1 (subAt [1, 1, 1, 1, 1, 0, 1, 0, 0, 1, 1, 0, 0, 1, 1, 0, 0] (bodyOf Tryz.f55)) 99 := ⟨by kernel_rfl, by kernel_rfl⟩
instance ilp58_0 : LpIs Q 58 0 (subAt [1, 1, 1, 1, 1, 1, 0, 1, 0, 0] (bodyOf Tryz.f58)) 61 := ⟨by kernel_rfl, by kernel_rfl⟩
instance ilp152_0 : LpIs Q 152 0 (subAt [1, 0, 1, 0, 0] (bodyOf Tryz.f152)) 35 := ⟨by kernel_rfl, by kernel_rfl⟩
instance ilp170_0 : LpIs Q 170 0 (subAt [1, 1, 0, 1, 0, 0] (bodyOf Tryz.f170)) 31 := ⟨by kernel_rfl, by kernel_rfl⟩
instance ilp171_0 : LpIs Q 171 0 (subAt [1, 1, 1, 1, 1, 0, 0] (bodyOf Tryz.f171)) 29 := ⟨by kernel_rfl, by kernel_rfl⟩
instance ilp178_0 : LpIs Q 178 0 (subAt [1, 1, 1, 1, 1, 0, 0] (bodyOf Tryz.f178)) 36 := ⟨by kernel_rfl, by kernel_rfl⟩
instance ilp257_0 : LpIs Q 257 0 (subAt [1, 1, 1, 1, 0, 0] (bodyOf Tryz.f257)) 34 := ⟨by kernel_rfl, by kernel_rfl⟩
instance ilp261_0 : LpIs Q 261 0 (subAt [1, 1, 1, 0, 1, 0, 0] (bodyOf Tryz.f261)) 41 := ⟨by kernel_rfl, by kernel_rfl⟩
instance ilp357_0 : LpIs Q 357 0 (subAt [1, 0, 1, 0, 0] (bodyOf Tryz.f357)) 24 := ⟨by kernel_rfl, by kernel_rfl⟩
instance ilp358_0 : LpIs Q 358 0 (subAt [1, 1, 0, 1, 0, 0] (bodyOf Tryz.f358)) 24 := ⟨by kernel_rfl, by kernel_rfl⟩
instance ilda25 : LdAOk Q 25 6 := ⟨fun b o s G => by kernel_rfl⟩
instance ifa25_0 : FaOk Q 25 0 0 := ⟨fun b o s => by kernel_rfl⟩
instance ifa23_2 : FaOk Q 23 2 2 := ⟨fun b o s => by kernel_rfl⟩
instance ild3 : LdOk Q 3 := ⟨fun b o s G => (show _ = loadOne b o G by kernel_rfl).trans (loadOne_eq b o G)⟩
instance iln111 : LnOk Q 111 := ⟨fun a n c => by kernel_rfl⟩
instance iln139 : LnOk Q 139 := ⟨fun a n c => by kernel_rfl⟩
instance iep32 : EpOk Q 32 := ⟨fun neg x y => by cases neg <;> kernel_rfl, fun neg x y a => by cases neg <;> kernel_rfl, fun neg x y a => by cases neg <;> kernel_rfl⟩
noncomputable abbrev z150 : List Value := [(.pointer none), (.pointer none), (.pointer none), (.pointer none)]
instance imk142 : MkSlOk Q 142 4 32 z150 := ⟨fun k k' l c G => by kernel_rfl⟩
instance iias139 : IasOk Q 139 3 := ⟨fun b o s n c k j => by kernel_rfl⟩
instance ifa144_0 : FaOk Q 144 0 0 := ⟨fun b o s => by kernel_rfl⟩
instance ifa144_1 : FaOk Q 144 1 1 := ⟨fun b o s => by kernel_rfl⟩
instance iias142 : IasOk Q 142 4 := ⟨fun b o s n c k j => by kernel_rfl⟩
instance ilda150 : LdAOk Q 150 4 := ⟨fun b o s G => by kernel_rfl⟩
instance ilda144 : LdAOk Q 144 3 := ⟨fun b o s G => by kernel_rfl⟩
instance ist150 : StOk Q 150 4 := ⟨fun b o s v G => by kernel_rfl⟩
noncomputable abbrev z156 : List Value := (zs 4096 (.int .u64 0))
instance ial156 : AlOk Q 156 z156 := ⟨fun G => by kernel_rfl⟩
noncomputable abbrev z158 : List Value := [(.pointer none), (.int .i64 0), (.int .i64 0), (.int .i64 0), (.int .u64 0), (.int .u64 0), (.bool false), (.int .i64 0)]
instance ibd158_0_1 : BdOk Q 158 z158 [(0, 0, 1), (1, 1, 1)] := bd_ok Q (by kernel_rfl) (by kernel_rfl) (by kernel_rfl)
instance ifa158_3 : FaOk Q 158 3 7 := ⟨fun b o s => by kernel_rfl⟩
instance iln78 : LnOk Q 78 := ⟨fun a n c => by kernel_rfl⟩
instance iias78 : IasOk Q 78 1 := ⟨fun b o s n c k j => by kernel_rfl⟩
noncomputable abbrev z246 : List Value := [(.pointer none), (.int .u64 0), (.int .u64 0)]
instance ibd246_0_1 : BdOk Q 246 z246 [(0, 0, 1), (1, 1, 1)] := bd_ok Q (by kernel_rfl) (by kernel_rfl) (by kernel_rfl)
instance ial246 : AlOk Q 246 z246 := ⟨fun G => by kernel_rfl⟩
instance ist246 : StOk Q 246 3 := ⟨fun b o s v G => by kernel_rfl⟩
instance ifa246_0 : FaOk Q 246 0 0 := ⟨fun b o s => by kernel_rfl⟩
instance ild243 : LdOk Q 243 := ⟨fun b o s G => (show _ = loadOne b o G by kernel_rfl).trans (loadOne_eq b o G)⟩
instance ilda246 : LdAOk Q 246 3 := ⟨fun b o s G => by kernel_rfl⟩
noncomputable abbrev z68 : List Value := [(.int .i64 0), (.int .i64 0), (.int .u64 0), (.int .u64 0), (.bool false)]
instance ial68 : AlOk Q 68 z68 := ⟨fun G => by kernel_rfl⟩
instance ibd68_ : BdOk Q 68 z68 [] := bd_ok Q (by kernel_rfl) (by kernel_rfl) (by kernel_rfl)
instance ist68 : StOk Q 68 5 := ⟨fun b o s v G => by kernel_rfl⟩
instance ifa158_2 : FaOk Q 158 2 2 := ⟨fun b o s => by kernel_rfl⟩
instance ilda68 : LdAOk Q 68 5 := ⟨fun b o s G => by kernel_rfl⟩
instance ifa252_1 : FaOk Q 252 1 1 := ⟨fun b o s => by kernel_rfl⟩
instance ifa252_2 : FaOk Q 252 2 6 := ⟨fun b o s => by kernel_rfl⟩
instance iias111 : IasOk Q 111 1 := ⟨fun b o s n c k j => by kernel_rfl⟩
instance ild41 : LdOk Q 41 := ⟨fun b o s G => (show _ = loadOne b o G by kernel_rfl).trans (loadOne_eq b o G)⟩
instance ifa158_0 : FaOk Q 158 0 0 := ⟨fun b o s => by kernel_rfl⟩
instance ild153 : LdOk Q 153 := ⟨fun b o s G => (show _ = loadOne b o G by kernel_rfl).trans (loadOne_eq b o G)⟩
instance iep153 : EpOk Q 153 := ⟨fun neg x y => by cases neg <;> kernel_rfl, fun neg x y a => by cases neg <;> kernel_rfl, fun neg x y a => by cases neg <;> kernel_rfl⟩
instance ifa158_1 : FaOk Q 158 1 1 := ⟨fun b o s => by kernel_rfl⟩
noncomputable abbrev z41 : List Value := [(.int .u64 0)]
instance imk111 : MkSlOk Q 111 1 8 z41 := ⟨fun k k' l c G => by kernel_rfl⟩
instance isla156 : SlAOk Q 156 4096 1 := ⟨fun a lo hi mx G => by kernel_rfl⟩
instance iln253 : LnOk Q 253 := ⟨fun a n c => by kernel_rfl⟩
instance iias253 : IasOk Q 253 1 := ⟨fun b o s n c k j => by kernel_rfl⟩
instance ild154 : LdOk Q 154 := ⟨fun b o s G => (show _ = loadOne b o G by kernel_rfl).trans (loadOne_eq b o G)⟩
instance ist41 : StOk Q 41 1 := ⟨fun b o s v G => by kernel_rfl⟩
instance ifa252_0 : FaOk Q 252 0 0 := ⟨fun b o s => by kernel_rfl⟩
instance ild111 : LdOk Q 111 := ⟨fun b o s G => (show _ = loadOne b o G by kernel_rfl).trans (loadOne_eq b o G)⟩
instance ilda23 : LdAOk Q 23 3 := ⟨fun b o s G => by kernel_rfl⟩
instance ifa25_3 : FaOk Q 25 3 5 := ⟨fun b o s => by kernel_rfl⟩
instance ifa25_1 : FaOk Q 25 1 3 := ⟨fun b o s => by kernel_rfl⟩
instance ifa25_2 : FaOk Q 25 2 4 := ⟨fun b o s => by kernel_rfl⟩
noncomputable abbrev z4 : List Value := [(.bool false)]
instance imk256 : MkSlOk Q 256 1 1 z4 := ⟨fun k k' l c G => by kernel_rfl⟩
instance ifa23_0 : FaOk Q 23 0 0 := ⟨fun b o s => by kernel_rfl⟩
instance iias256 : IasOk Q 256 1 := ⟨fun b o s n c k j => by kernel_rfl⟩
instance ist4 : StOk Q 4 1 := ⟨fun b o s v G => by kernel_rfl⟩
instance ifa23_1 : FaOk Q 23 1 1 := ⟨fun b o s => by kernel_rfl⟩
noncomputable abbrev z66 : List Value := [.nilFunc]
instance ibs258_3_0_1_2 : BsOk Q 258 3 (rep z66 3) 1 [(0, 0, 1), (1, 1, 1), (2, 2, 1)] := bs_ok Q (z0 := z66) (by kernel_rfl) rfl (by decide) (by kernel_rfl)
instance iln258 : LnOk Q 258 := ⟨fun a n c => by kernel_rfl⟩
instance iias258 : IasOk Q 258 1 := ⟨fun b o s n c k j => by kernel_rfl⟩
instance ild66 : LdOk Q 66 := ⟨fun b o s G => (show _ = loadOne b o G by kernel_rfl).trans (loadOne_eq b o G)⟩
instance ild4 : LdOk Q 4 := ⟨fun b o s G => (show _ = loadOne b o G by kernel_rfl).trans (loadOne_eq b o G)⟩
instance ifa150_1 : FaOk Q 150 1 1 := ⟨fun b o s => by kernel_rfl⟩
instance ild146 : LdOk Q 146 := ⟨fun b o s G => (show _ = loadOne b o G by kernel_rfl).trans (loadOne_eq b o G)⟩
instance iep146 : EpOk Q 146 := ⟨fun neg x y => by cases neg <;> kernel_rfl, fun neg x y a => by cases neg <;> kernel_rfl, fun neg x y a => by cases neg <;> kernel_rfl⟩
instance ifa150_0 : FaOk Q 150 0 0 := ⟨fun b o s => by kernel_rfl⟩
instance ild145 : LdOk Q 145 := ⟨fun b o s G => (show _ = loadOne b o G by kernel_rfl).trans (loadOne_eq b o G)⟩
instance ieb4 : EbOk Q 4 := ⟨fun neg x y a b => by cases neg <;> cases a <;> cases b <;> kernel_rfl⟩
instance ifa150_3 : FaOk Q 150 3 3 := ⟨fun b o s => by kernel_rfl⟩
instance ild148 : LdOk Q 148 := ⟨fun b o s G => (show _ = loadOne b o G by kernel_rfl).trans (loadOne_eq b o G)⟩
instance iep148 : EpOk Q 148 := ⟨fun neg x y => by cases neg <;> kernel_rfl, fun neg x y a => by cases neg <;> kernel_rfl, fun neg x y a => by cases neg <;> kernel_rfl⟩
instance ifa150_2 : FaOk Q 150 2 2 := ⟨fun b o s => by kernel_rfl⟩
instance ild147 : LdOk Q 147 := ⟨fun b o s G => (show _ = loadOne b o G by kernel_rfl).trans (loadOne_eq b o G)⟩
instance ial150 : AlOk Q 150 z150 := ⟨fun G => by kernel_rfl⟩
instance ibd150_0_1 : BdOk Q 150 z150 [(0, 0, 1), (1, 1, 1)] := bd_ok Q (by kernel_rfl) (by kernel_rfl) (by kernel_rfl)
instance ifa144_2 : FaOk Q 144 2 2 := ⟨fun b o s => by kernel_rfl⟩
instance ibd150_2_3 : BdOk Q 150 z150 [(2, 2, 1), (3, 3, 1)] := bd_ok Q (by kernel_rfl) (by kernel_rfl) (by kernel_rfl)
instance ibd246_0_1_2 : BdOk Q 246 z246 [(0, 0, 1), (1, 1, 1), (2, 2, 1)] := bd_ok Q (by kernel_rfl) (by kernel_rfl) (by kernel_rfl)
instance ifd68_4 : FdOk Q 68 4 4 := ⟨fun l => by kernel_rfl⟩
instance isl78 : SlOk Q 78 1 := ⟨fun a n c lo hi mx G => sl_eq Q (e := 3) (by kernel_rfl) (by kernel_rfl) a n c lo hi mx G⟩
noncomputable abbrev z252 : List Value := [(.slice none 0 0), (.int .i64 0), (.int .i64 0), (.int .u64 0), (.int .u64 0), (.bool false), (.int .i64 0)]
instance ibd252_0 : BdOk Q 252 z252 [(0, 0, 1)] := bd_ok Q (by kernel_rfl) (by kernel_rfl) (by kernel_rfl)
instance iiaa156 : IaaOk Q 156 4096 1 := ⟨fun b o s k j => by kernel_rfl⟩
instance ist3 : StOk Q 3 1 := ⟨fun b o s v G => by kernel_rfl⟩
instance ibd68_0_1 : BdOk Q 68 z68 [(0, 0, 1), (1, 1, 1)] := bd_ok Q (by kernel_rfl) (by kernel_rfl) (by kernel_rfl)
instance ifa68_2 : FaOk Q 68 2 2 := ⟨fun b o s => by kernel_rfl⟩
instance ifa68_3 : FaOk Q 68 3 3 := ⟨fun b o s => by kernel_rfl⟩
instance ifa68_4 : FaOk Q 68 4 4 := ⟨fun b o s => by kernel_rfl⟩
instance ist154 : StOk Q 154 1 := ⟨fun b o s v G => by kernel_rfl⟩
instance ifa246_1 : FaOk Q 246 1 1 := ⟨fun b o s => by kernel_rfl⟩
instance ibs111_0_ : BsOk Q 111 0 (rep z41 0) 1 [] := bs_ok Q (z0 := z41) (by kernel_rfl) rfl (by decide) (by kernel_rfl)
instance iap111_111 : ApOk Q 111 111 1 8 := ⟨fun s x G => by kernel_rfl⟩
noncomputable abbrev z3 : List Value := [(.int .i64 0)]
instance ial3 : AlOk Q 3 z3 := ⟨fun G => by kernel_rfl⟩
instance ibs78_2_0_1 : BsOk Q 78 2 (rep z3 2) 1 [(0, 0, 1), (1, 1, 1)] := bs_ok Q (z0 := z3) (by kernel_rfl) rfl (by decide) (by kernel_rfl)
instance iap78_78 : ApOk Q 78 78 1 8 := ⟨fun s x G => by kernel_rfl⟩
noncomputable abbrev z375 : List Value := [(.pointer none), (.int .i64 0), (.int .i64 0), (.int .i64 0), (.int .i64 0), (.int .i64 0), (.int .i64 0), (.bool false), .nilFunc, (.int .i64 0), (.int .u64 0), (.int .i64 0)]
instance ibd375_0_1_2_3 : BdOk Q 375 z375 [(0, 0, 1), (1, 1, 6), (2, 7, 1), (3, 8, 1)] := bd_ok Q (by kernel_rfl) (by kernel_rfl) (by kernel_rfl)
instance iep145 : EpOk Q 145 := ⟨fun neg x y => by cases neg <;> kernel_rfl, fun neg x y a => by cases neg <;> kernel_rfl, fun neg x y a => by cases neg <;> kernel_rfl⟩
instance ifa375_2 : FaOk Q 375 2 7 := ⟨fun b o s => by kernel_rfl⟩
instance ifa375_3 : FaOk Q 375 3 8 := ⟨fun b o s => by kernel_rfl⟩
instance ild373 : LdOk Q 373 := ⟨fun b o s G => (show _ = loadOne b o G by kernel_rfl).trans (loadOne_eq b o G)⟩
instance ief373 : EfOk Q 373 := ⟨fun neg x y => by cases neg <;> kernel_rfl, fun neg x y f a b => by cases neg <;> kernel_rfl⟩
instance ifa375_5 : FaOk Q 375 5 10 := ⟨fun b o s => by kernel_rfl⟩
instance ifa375_6 : FaOk Q 375 6 11 := ⟨fun b o s => by kernel_rfl⟩
instance ild33 : LdOk Q 33 := ⟨fun b o s G => (show _ = loadOne b o G by kernel_rfl).trans (loadOne_eq b o G)⟩
instance ibd246_0 : BdOk Q 246 z246 [(0, 0, 1)] := bd_ok Q (by kernel_rfl) (by kernel_rfl) (by kernel_rfl)
instance ifd68_3 : FdOk Q 68 3 3 := ⟨fun l => by kernel_rfl⟩
instance ifa379_2 : FaOk Q 379 2 7 := ⟨fun b o s => by kernel_rfl⟩
instance ifa379_1 : FaOk Q 379 1 6 := ⟨fun b o s => by kernel_rfl⟩
instance ild377 : LdOk Q 377 := ⟨fun b o s G => (show _ = loadOne b o G by kernel_rfl).trans (loadOne_eq b o G)⟩
instance ifa379_3 : FaOk Q 379 3 8 := ⟨fun b o s => by kernel_rfl⟩
instance ifa379_0 : FaOk Q 379 0 0 := ⟨fun b o s => by kernel_rfl⟩
instance icv3_41 : CvOk Q 3 41 .i64 .u64 := ⟨fun n => by kernel_rfl⟩
instance ifa379_4 : FaOk Q 379 4 9 := ⟨fun b o s => by kernel_rfl⟩
instance ifa379_5 : FaOk Q 379 5 10 := ⟨fun b o s => by kernel_rfl⟩
instance ist33 : StOk Q 33 1 := ⟨fun b o s v G => by kernel_rfl⟩
instance iep147 : EpOk Q 147 := ⟨fun neg x y => by cases neg <;> kernel_rfl, fun neg x y a => by cases neg <;> kernel_rfl, fun neg x y a => by cases neg <;> kernel_rfl⟩
instance ifa384_3 : FaOk Q 384 3 8 := ⟨fun b o s => by kernel_rfl⟩
instance ild382 : LdOk Q 382 := ⟨fun b o s G => (show _ = loadOne b o G by kernel_rfl).trans (loadOne_eq b o G)⟩
instance ief382 : EfOk Q 382 := ⟨fun neg x y => by cases neg <;> kernel_rfl, fun neg x y f a b => by cases neg <;> kernel_rfl⟩
instance ifa387_2 : FaOk Q 387 2 7 := ⟨fun b o s => by kernel_rfl⟩
instance ifa387_0 : FaOk Q 387 0 0 := ⟨fun b o s => by kernel_rfl⟩
instance ifa387_3 : FaOk Q 387 3 8 := ⟨fun b o s => by kernel_rfl⟩
instance ifa387_4 : FaOk Q 387 4 9 := ⟨fun b o s => by kernel_rfl⟩
instance ifa387_1 : FaOk Q 387 1 6 := ⟨fun b o s => by kernel_rfl⟩
instance ild385 : LdOk Q 385 := ⟨fun b o s G => (show _ = loadOne b o G by kernel_rfl).trans (loadOne_eq b o G)⟩
instance ifa384_2 : FaOk Q 384 2 7 := ⟨fun b o s => by kernel_rfl⟩
instance ifa384_6 : FaOk Q 384 6 11 := ⟨fun b o s => by kernel_rfl⟩
instance ifa387_5 : FaOk Q 387 5 10 := ⟨fun b o s => by kernel_rfl⟩
noncomputable abbrev z379 : List Value := [(.int .i64 0), (.int .i64 0), (.int .i64 0), (.int .i64 0), (.int .i64 0), (.int .i64 0), (.pointer none), (.int .i64 0), (.int .i64 0), (.int .u64 0), (.int .i64 0)]
instance ibd379_0_1 : BdOk Q 379 z379 [(0, 0, 6), (1, 6, 1)] := bd_ok Q (by kernel_rfl) (by kernel_rfl) (by kernel_rfl)
noncomputable abbrev z384 : List Value := [(.pointer none), (.int .i64 0), (.int .i64 0), (.int .i64 0), (.int .i64 0), (.int .i64 0), (.int .i64 0), (.bool false), .nilFunc, (.int .i64 0), (.int .u64 0), (.int .i64 0)]
instance ibd384_0_1_2_4 : BdOk Q 384 z384 [(0, 0, 1), (1, 1, 6), (2, 7, 1), (4, 9, 1)] := bd_ok Q (by kernel_rfl) (by kernel_rfl) (by kernel_rfl)
instance ist382 : StOk Q 382 1 := ⟨fun b o s v G => by kernel_rfl⟩
noncomputable abbrev z387 : List Value := [(.int .i64 0), (.int .i64 0), (.int .i64 0), (.int .i64 0), (.int .i64 0), (.int .i64 0), (.pointer none), (.int .i64 0), (.int .i64 0), (.int .u64 0), (.int .i64 0)]
instance ibd387_0_3_1 : BdOk Q 387 z387 [(0, 0, 6), (3, 8, 1), (1, 6, 1)] := bd_ok Q (by kernel_rfl) (by kernel_rfl) (by kernel_rfl)
noncomputable abbrev z274 : List Value := [(.int .i64 0), (.int .i64 0)]
instance ial274 : AlOk Q 274 z274 := ⟨fun G => by kernel_rfl⟩
noncomputable abbrev z393 : List Value := [(.int .i64 0), (.int .i64 0), (.int .i64 0), (.int .i64 0)]
instance ial393 : AlOk Q 393 z393 := ⟨fun G => by kernel_rfl⟩
instance ist393 : StOk Q 393 4 := ⟨fun b o s v G => by kernel_rfl⟩
instance iiaa393 : IaaOk Q 393 2 2 := ⟨fun b o s k j => by kernel_rfl⟩
instance ilda392 : LdAOk Q 392 2 := ⟨fun b o s G => by kernel_rfl⟩
instance ibd274_0_1 : BdOk Q 274 z274 [(0, 0, 1), (1, 1, 1)] := bd_ok Q (by kernel_rfl) (by kernel_rfl) (by kernel_rfl)
instance ist274 : StOk Q 274 2 := ⟨fun b o s v G => by kernel_rfl⟩
instance ilda274 : LdAOk Q 274 2 := ⟨fun b o s G => by kernel_rfl⟩
instance ifa246_2 : FaOk Q 246 2 2 := ⟨fun b o s => by kernel_rfl⟩
instance iep243 : EpOk Q 243 := ⟨fun neg x y => by cases neg <;> kernel_rfl, fun neg x y a => by cases neg <;> kernel_rfl, fun neg x y a => by cases neg <;> kernel_rfl⟩
noncomputable abbrev z486 : List Value := [(.int .i64 0), (.int .i64 0), (.int .i64 0), (.int .u64 0), (.int .i64 0), (.int .i64 0), (.bool false), (.bool false), (.int .i64 0)]
instance ibd486_0_4 : BdOk Q 486 z486 [(0, 0, 3), (4, 6, 1)] := bd_ok Q (by kernel_rfl) (by kernel_rfl) (by kernel_rfl)
noncomputable abbrev z489 : List Value := [(.int .i64 0), (.int .i64 0), (.int .i64 0), (.int .u64 0), (.int .i64 0), (.int .i64 0), (.bool false), (.bool false), (.int .i64 0), .nilFunc]
instance ibd489_0_1 : BdOk Q 489 z489 [(0, 0, 9), (1, 9, 1)] := bd_ok Q (by kernel_rfl) (by kernel_rfl) (by kernel_rfl)
instance ifa375_0 : FaOk Q 375 0 0 := ⟨fun b o s => by kernel_rfl⟩
instance ild371 : LdOk Q 371 := ⟨fun b o s G => (show _ = loadOne b o G by kernel_rfl).trans (loadOne_eq b o G)⟩
instance ifa375_4 : FaOk Q 375 4 9 := ⟨fun b o s => by kernel_rfl⟩
instance ist373 : StOk Q 373 1 := ⟨fun b o s v G => by kernel_rfl⟩
instance ifa491_1 : FaOk Q 491 1 3 := ⟨fun b o s => by kernel_rfl⟩
instance ifa491_0 : FaOk Q 491 0 0 := ⟨fun b o s => by kernel_rfl⟩
instance ifa491_2 : FaOk Q 491 2 4 := ⟨fun b o s => by kernel_rfl⟩
instance ifa491_3 : FaOk Q 491 3 5 := ⟨fun b o s => by kernel_rfl⟩
instance ifa491_4 : FaOk Q 491 4 6 := ⟨fun b o s => by kernel_rfl⟩
instance ifa495_1 : FaOk Q 495 1 3 := ⟨fun b o s => by kernel_rfl⟩
instance ifa495_0 : FaOk Q 495 0 0 := ⟨fun b o s => by kernel_rfl⟩
instance ifa495_2 : FaOk Q 495 2 4 := ⟨fun b o s => by kernel_rfl⟩
instance ifa495_3 : FaOk Q 495 3 5 := ⟨fun b o s => by kernel_rfl⟩
noncomputable abbrev z491 : List Value := [(.int .i64 0), (.int .i64 0), (.int .i64 0), (.int .i64 0), (.int .u64 0), (.int .i64 0), (.int .i64 0)]
instance ibd491_0_1 : BdOk Q 491 z491 [(0, 0, 3), (1, 3, 1)] := bd_ok Q (by kernel_rfl) (by kernel_rfl) (by kernel_rfl)
instance ibd486_0_2_4 : BdOk Q 486 z486 [(0, 0, 3), (2, 4, 1), (4, 6, 1)] := bd_ok Q (by kernel_rfl) (by kernel_rfl) (by kernel_rfl)
noncomputable abbrev z498 : List Value := [(.int .i64 0), (.int .i64 0), (.int .i64 0), (.int .u64 0), (.int .i64 0), (.int .i64 0), (.bool false), (.bool false), (.int .i64 0), .nilFunc]
instance ibd498_0_1 : BdOk Q 498 z498 [(0, 0, 9), (1, 9, 1)] := bd_ok Q (by kernel_rfl) (by kernel_rfl) (by kernel_rfl)
instance ifa498_0 : FaOk Q 498 0 0 := ⟨fun b o s => by kernel_rfl⟩
instance ifa384_1 : FaOk Q 384 1 1 := ⟨fun b o s => by kernel_rfl⟩
instance ifa384_4 : FaOk Q 384 4 9 := ⟨fun b o s => by kernel_rfl⟩
instance ifa384_5 : FaOk Q 384 5 10 := ⟨fun b o s => by kernel_rfl⟩
noncomputable abbrev z495 : List Value := [(.int .i64 0), (.int .i64 0), (.int .i64 0), (.int .i64 0), (.int .u64 0), (.int .i64 0), (.int .i64 0)]
instance ibd495_0_1_4 : BdOk Q 495 z495 [(0, 0, 3), (1, 3, 1), (4, 6, 1)] := bd_ok Q (by kernel_rfl) (by kernel_rfl) (by kernel_rfl)
instance ibd495_0_1_3 : BdOk Q 495 z495 [(0, 0, 3), (1, 3, 1), (3, 5, 1)] := bd_ok Q (by kernel_rfl) (by kernel_rfl) (by kernel_rfl)
noncomputable abbrev z392 : List Value := [(.int .i64 0), (.int .i64 0)]
instance ibd392_0_1 : BdOk Q 392 z392 [(0, 0, 1), (1, 1, 1)] := bd_ok Q (by kernel_rfl) (by kernel_rfl) (by kernel_rfl)
instance ibd393_0_1 : BdOk Q 393 z393 [(0, 0, 2), (1, 2, 2)] := bd_ok Q (by kernel_rfl) (by kernel_rfl) (by kernel_rfl)
instance ilda393 : LdAOk Q 393 4 := ⟨fun b o s G => by kernel_rfl⟩
instance ifa392_0 : FaOk Q 392 0 0 := ⟨fun b o s => by kernel_rfl⟩
instance ifa392_1 : FaOk Q 392 1 1 := ⟨fun b o s => by kernel_rfl⟩
instance icv41_3 : CvOk Q 41 3 .u64 .i64 := ⟨fun n => by kernel_rfl⟩
instance ifa289_0 : FaOk Q 289 0 0 := ⟨fun b o s => by kernel_rfl⟩
noncomputable abbrev z505 : List Value := [(.int .i64 0), (.int .i64 0), (.int .i64 0)]
instance ibd505_0_1_2 : BdOk Q 505 z505 [(0, 0, 1), (1, 1, 1), (2, 2, 1)] := bd_ok Q (by kernel_rfl) (by kernel_rfl) (by kernel_rfl)
instance ifa289_1 : FaOk Q 289 1 1 := ⟨fun b o s => by kernel_rfl⟩
instance ibs538_2_0_1 : BsOk Q 538 2 (rep z505 2) 3 [(0, 0, 3), (1, 3, 3)] := bs_ok Q (z0 := z505) (by kernel_rfl) rfl (by decide) (by kernel_rfl)
instance isla393 : SlAOk Q 393 2 2 := ⟨fun a lo hi mx G => by kernel_rfl⟩
instance ifa289_2 : FaOk Q 289 2 2 := ⟨fun b o s => by kernel_rfl⟩
instance ibd274_0 : BdOk Q 274 z274 [(0, 0, 1)] := bd_ok Q (by kernel_rfl) (by kernel_rfl) (by kernel_rfl)
instance ifa489_1 : FaOk Q 489 1 9 := ⟨fun b o s => by kernel_rfl⟩
instance ist487 : StOk Q 487 1 := ⟨fun b o s v G => by kernel_rfl⟩
instance ifa489_0 : FaOk Q 489 0 0 := ⟨fun b o s => by kernel_rfl⟩
instance ifa486_2 : FaOk Q 486 2 4 := ⟨fun b o s => by kernel_rfl⟩
instance iep371 : EpOk Q 371 := ⟨fun neg x y => by cases neg <;> kernel_rfl, fun neg x y a => by cases neg <;> kernel_rfl, fun neg x y a => by cases neg <;> kernel_rfl⟩
instance ild487 : LdOk Q 487 := ⟨fun b o s G => (show _ = loadOne b o G by kernel_rfl).trans (loadOne_eq b o G)⟩
instance ifa486_5 : FaOk Q 486 5 7 := ⟨fun b o s => by kernel_rfl⟩
instance ifa375_1 : FaOk Q 375 1 1 := ⟨fun b o s => by kernel_rfl⟩
noncomputable abbrev z289 : List Value := [(.int .i64 0), (.int .i64 0), (.bool false)]
instance ibd289_0_1 : BdOk Q 289 z289 [(0, 0, 1), (1, 1, 1)] := bd_ok Q (by kernel_rfl) (by kernel_rfl) (by kernel_rfl)
instance ifa486_3 : FaOk Q 486 3 5 := ⟨fun b o s => by kernel_rfl⟩
instance ifa498_1 : FaOk Q 498 1 9 := ⟨fun b o s => by kernel_rfl⟩
instance ist496 : StOk Q 496 1 := ⟨fun b o s v G => by kernel_rfl⟩
instance ifa486_6 : FaOk Q 486 6 8 := ⟨fun b o s => by kernel_rfl⟩
instance ifa274_0 : FaOk Q 274 0 0 := ⟨fun b o s => by kernel_rfl⟩
instance iln538 : LnOk Q 538 := ⟨fun a n c => by kernel_rfl⟩
instance iias538 : IasOk Q 538 3 := ⟨fun b o s n c k j => by kernel_rfl⟩
instance ilda505 : LdAOk Q 505 3 := ⟨fun b o s G => by kernel_rfl⟩
instance ial505 : AlOk Q 505 z505 := ⟨fun G => by kernel_rfl⟩
instance ist505 : StOk Q 505 3 := ⟨fun b o s v G => by kernel_rfl⟩
instance ifa505_0 : FaOk Q 505 0 0 := ⟨fun b o s => by kernel_rfl⟩
instance ifa505_1 : FaOk Q 505 1 1 := ⟨fun b o s => by kernel_rfl⟩
instance ifa505_2 : FaOk Q 505 2 2 := ⟨fun b o s => by kernel_rfl⟩
instance iln507 : LnOk Q 507 := ⟨fun a n c => by kernel_rfl⟩
instance iias507 : IasOk Q 507 2 := ⟨fun b o s n c k j => by kernel_rfl⟩
instance ial392 : AlOk Q 392 z392 := ⟨fun G => by kernel_rfl⟩
instance ist392 : StOk Q 392 2 := ⟨fun b o s v G => by kernel_rfl⟩
instance ifa274_1 : FaOk Q 274 1 1 := ⟨fun b o s => by kernel_rfl⟩
instance ifa486_0 : FaOk Q 486 0 0 := ⟨fun b o s => by kernel_rfl⟩
instance ifa486_1 : FaOk Q 486 1 3 := ⟨fun b o s => by kernel_rfl⟩
instance iep536 : EpOk Q 536 := ⟨fun neg x y => by cases neg <;> kernel_rfl, fun neg x y a => by cases neg <;> kernel_rfl, fun neg x y a => by cases neg <;> kernel_rfl⟩
instance ifa486_4 : FaOk Q 486 4 6 := ⟨fun b o s => by kernel_rfl⟩
instance ifa384_0 : FaOk Q 384 0 0 := ⟨fun b o s => by kernel_rfl⟩
instance ild381 : LdOk Q 381 := ⟨fun b o s G => (show _ = loadOne b o G by kernel_rfl).trans (loadOne_eq b o G)⟩
instance iep381 : EpOk Q 381 := ⟨fun neg x y => by cases neg <;> kernel_rfl, fun neg x y a => by cases neg <;> kernel_rfl, fun neg x y a => by cases neg <;> kernel_rfl⟩
instance ild496 : LdOk Q 496 := ⟨fun b o s G => (show _ = loadOne b o G by kernel_rfl).trans (loadOne_eq b o G)⟩
noncomputable def jbl8_0_0 (q : Bool) (e : Ex) (lp : Env → GS → Option (Exit × Env × GS)) (τ : Env) (G : GS) : Option (Exit × Env × GS) :=
  bV q (τ 3) fun a3_ =>
  bV q (τ 4) fun a4_ =>
  bV q (τ 9) fun a9_ =>
  bV q (τ 10) fun a10_ =>
  bV q (τ 11) fun a11_ =>
  bV q (τ 12) fun a12_ =>
  bV q (τ 13) fun a13_ =>
  bV q (τ 83) fun a83_ =>
  bS (e.ev.cl 53 [a9_] G) fun x7 G8 =>
  bS (e.ev.cl 54 [a10_] G8) fun x9 G10 =>
  bS (e.ev.cl 52 [x7, x9] G10) fun x11 G12 =>
  bP (un Q q .not x11) fun x13 =>
  bS (gd x13 false (some (a9_, G12)) G12) fun x14 G15 =>
  bS (gd x13 false (bS (e.ev.cl 49 [x14] G15) fun y G => some (y, G)) G15) fun x16 G17 =>
  bS (gd x13 false (some (a10_, G17)) G17) fun x18 G19 =>
  bS (gd x13 false (bS (e.ev.cl 50 [x18] G19) fun y G => some (y, G)) G19) fun x20 G21 =>
  bS (gd x13 false (bP (bn Q q .neq 68 (.tmp 103) (.tmp 105) x16 x20) fun y => some (y, G21)) G21) fun x22 G23 =>
  bP (pickV x13 (.bool true) x22) fun x24 =>
  bS (gd x24 false (some (a9_, G23)) G23) fun x25 G26 =>
  bS (gd x24 false (bS (e.ev.cl 21 [x25] G26) fun y G => some (y, G)) G26) fun x27 G28 =>
  bS (gd x24 false (some (a10_, G28)) G28) fun x29 G30 =>
  bS (gd x24 false (bS (e.ev.cl 51 [x29] G30) fun y G => some (y, G)) G30) fun x31 G32 =>
  bS (gd x24 false (bP (bn Q q .neq 3 (.tmp 110) (.tmp 112) x27 x31) fun y => some (y, G32)) G32) fun x33 G34 =>
  bP (pickV x24 (.bool true) x33) fun x35 =>
  ifV x35 (
  some (.ret, xq q 116 τ [(8, (.bool false)), (114, x35), (113, x33), (112, x31), (111, x29), (110, x27), (109, x25), (108, x24), (107, x24), (106, x22), (105, x20), (104, x18), (103, x16), (102, x14), (101, x13), (100, x13), (99, x11), (98, x9), (97, a10_), (96, x7), (95, a9_)] [(3, a3_), (4, a4_), (9, a9_), (10, a10_), (11, a11_), (12, a12_), (13, a13_), (83, a83_)], G34)) (
  bP (bn Q q .add 3 (.tmp 60) (.const (.int .i64 1)) a12_ (.int .i64 1)) fun x36 =>
  lp (xq q 116 τ [(12, x36), (61, x36), (60, a12_), (114, x35), (113, x33), (112, x31), (111, x29), (110, x27), (109, x25), (108, x24), (107, x24), (106, x22), (105, x20), (104, x18), (103, x16), (102, x14), (101, x13), (100, x13), (99, x11), (98, x9), (97, a10_), (96, x7), (95, a9_)] [(3, a3_), (4, a4_), (9, a9_), (10, a10_), (11, a11_), (13, a13_), (83, a83_)]) G34)
noncomputable def jl8_0_0 (q : Bool) (e : Ex) (lp : Env → GS → Option (Exit × Env × GS)) (τ : Env) (G : GS) : Option (Exit × Env × GS) := jbl8_0_0 q e lp τ G
theorem mjl8_0_0 {e : Ex} {E : Ev} (h : ExLe Q e E) {lp lp' : Env → GS → Option (Exit × Env × GS)} (hlp : LpLe lp lp') (τ : Env) (G : GS) : Ref (jl8_0_0 true e lp τ G) (jl8_0_0 false (Ex.of E) lp' τ G) := by
  unfold jl8_0_0 jbl8_0_0
  exact Ref.gq
theorem mkjl8_0_0 {e : Ex} {E : Ev} (h : ExLe Q e E) {lp lp' : Env → GS → Option (Exit × Env × GS)} (hlp : LpLe lp lp') {τ : Env} {l U : List (Nat × Value)} {G : GS} (hU : UOk τ U) : Ref (jl8_0_0 true e lp (xq true 116 τ l U) G) (jl8_0_0 false (Ex.of E) lp' (xq false 116 τ l U) G) := by
  rw [xq_eq hU]
  exact mjl8_0_0 h hlp _ _
noncomputable def jbl8_0_1 (q : Bool) (e : Ex) (lp : Env → GS → Option (Exit × Env × GS)) (J0 : Env → GS → Option (Exit × Env × GS)) (τ : Env) (G : GS) : Option (Exit × Env × GS) :=
  bV q (τ 3) fun a3_ =>
  bV q (τ 4) fun a4_ =>
  bV q (τ 9) fun a9_ =>
  bV q (τ 10) fun a10_ =>
  bV q (τ 11) fun a11_ =>
  bV q (τ 12) fun a12_ =>
  bV q (τ 13) fun a13_ =>
  bV q (τ 83) fun a83_ =>
  ifV a83_ (
  bP (lda Q q 25 6 a4_ (G.room 10)) fun x46 =>
  bP (ias Q q 139 3 a3_ a12_) fun x47 =>
  bP (lda Q q 144 3 x47 (G.room 10)) fun x48 =>
  bS (e.ev.cl 60 [x46, x48] (G.room 10)) fun x50 G49 =>
  bP (ias Q q 142 4 a11_ a13_) fun x51 =>
  bP (st Q q 150 4 x51 x50 G49) fun G52 =>
  J0 (xq q 116 τ [(94, x51), (93, x50), (92, x48), (91, x47), (90, a12_), (89, a3_), (88, x46), (87, a13_), (86, a11_)] [(3, a3_), (4, a4_), (9, a9_), (10, a10_), (11, a11_), (12, a12_), (13, a13_), (83, a83_)]) G52) (
  J0 (xq q 116 τ [] [(3, a3_), (4, a4_), (9, a9_), (10, a10_), (11, a11_), (12, a12_), (13, a13_), (83, a83_)]) G)
noncomputable def jl8_0_1 (q : Bool) (e : Ex) (lp : Env → GS → Option (Exit × Env × GS)) (τ : Env) (G : GS) : Option (Exit × Env × GS) := jbl8_0_1 q e lp (jl8_0_0 q e lp) τ G
theorem mjl8_0_1 {e : Ex} {E : Ev} (h : ExLe Q e E) {lp lp' : Env → GS → Option (Exit × Env × GS)} (hlp : LpLe lp lp') (τ : Env) (G : GS) : Ref (jl8_0_1 true e lp τ G) (jl8_0_1 false (Ex.of E) lp' τ G) := by
  unfold jl8_0_1 jbl8_0_1
  repeat' (with_reducible first | exact Ref.rfl' _ | exact ROp.r | refine Ref.bP ?_ fun _ => ?_ | refine Ref.bS ?_ fun _ _ => ?_ | exact Ref.cl (by assumption) | refine Ref.ifV ?_ ?_ | refine LpLe.rx (by assumption) ?_ | refine Ref.xitq ?_ | exact UOk.z | refine UOk.c (by assumption) ?_ | exact Ref.nil _ | refine Ref.bVe fun _ _ => ?_ | refine Ref.bLq (by assumption) ?_ fun _ _ _ => ?_ | refine Ref.ifE ?_ ?_ | refine Ref.chk ?_ ?_ | refine Imp.and ?_ ?_ | refine Imp.or ?_ | exact Imp.rfl' _ | refine Imp.sameO ?_ | refine Ref.gd ?_ | exact Ref.cValue (by assumption) | refine Ref.bX ?_ fun _ _ _ => ?_ | exact Ref.scQ (by assumption) | exact Ref.xRangeQ (by assumption) | exact Ref.cInvoke (by assumption) | refine mkjl8_0_0 (by assumption) (by assumption) ?_)
theorem mkjl8_0_1 {e : Ex} {E : Ev} (h : ExLe Q e E) {lp lp' : Env → GS → Option (Exit × Env × GS)} (hlp : LpLe lp lp') {τ : Env} {l U : List (Nat × Value)} {G : GS} (hU : UOk τ U) : Ref (jl8_0_1 true e lp (xq true 116 τ l U) G) (jl8_0_1 false (Ex.of E) lp' (xq false 116 τ l U) G) := by
  rw [xq_eq hU]
  exact mjl8_0_1 h hlp _ _
noncomputable def bb8_0 (q : Bool) (e : Ex) (lp : Env → GS → Option (Exit × Env × GS)) (J0 J1 : Env → GS → Option (Exit × Env × GS)) (τ : Env) (G : GS) : Option (Exit × Env × GS) :=
  bV q (τ 3) fun a3_ =>
  bV q (τ 4) fun a4_ =>
  bV q (τ 9) fun a9_ =>
  bV q (τ 10) fun a10_ =>
  bV q (τ 11) fun a11_ =>
  bV q (τ 12) fun a12_ =>
  bV q (τ 13) fun a13_ =>
  bV q (τ 83) fun a83_ =>
  bP (ln Q q 139 a3_) fun x0 =>
  bP (bn Q q .lss 3 (.tmp 56) (.tmp 58) a12_ x0) fun x1 =>
  ifV x1 (
  bP (ias Q q 139 3 a3_ a12_) fun x2 =>
  bP (fa Q q 144 0 0 x2) fun x3 =>
  bP (ld Q q 3 x3 G) fun x4 =>
  bS (e.ev.cl 42 [x4, (.int .i64 4)] G) fun x5 G6 =>
  bP (ias Q q 139 3 a3_ a12_) fun x37 =>
  bP (fa Q q 144 1 1 x37) fun x38 =>
  bP (ld Q q 3 x38 G6) fun x39 =>
  bP (bn Q q .eql 3 (.tmp 72) (.const (.int .i64 0)) x39 (.int .i64 0)) fun x40 =>
  ifV x40 (
  bP (ias Q q 142 4 a11_ x5) fun x41 =>
  bP (lda Q q 150 4 x41 G6) fun x42 =>
  bS (e.ev.cl 59 [x42, a9_, a10_] G6) fun x43 G44 =>
  bP (un Q q .not x43) fun x45 =>
  ifV x45 (
  some (.ret, xq q 116 τ [(8, (.bool false)), (82, x45), (81, x43), (80, a10_), (79, a9_), (78, x42), (77, x41), (76, x5), (75, a11_), (73, x40), (74, x40), (72, x39), (71, x38), (70, x37), (69, a12_), (68, a3_), (13, x5), (67, x5), (66, x4), (65, x3), (64, x2), (63, a12_), (62, a3_), (59, x1), (58, x0), (57, a3_), (56, a12_)] [(3, a3_), (4, a4_), (9, a9_), (10, a10_), (11, a11_), (12, a12_), (83, a83_)], G44)) (
  J0 (xq q 116 τ [(82, x45), (81, x43), (80, a10_), (79, a9_), (78, x42), (77, x41), (76, x5), (75, a11_), (73, x40), (74, x40), (72, x39), (71, x38), (70, x37), (69, a12_), (68, a3_), (13, x5), (67, x5), (66, x4), (65, x3), (64, x2), (63, a12_), (62, a3_), (59, x1), (58, x0), (57, a3_), (56, a12_)] [(3, a3_), (4, a4_), (9, a9_), (10, a10_), (11, a11_), (12, a12_), (83, a83_)]) G44)) (
  bP (bn Q q .eql 3 (.tmp 72) (.const (.int .i64 1)) x39 (.int .i64 1)) fun x53 =>
  ifV x53 (
  J1 (xq q 116 τ [(83, x53), (84, x53), (73, x40), (74, x40), (72, x39), (71, x38), (70, x37), (69, a12_), (68, a3_), (13, x5), (67, x5), (66, x4), (65, x3), (64, x2), (63, a12_), (62, a3_), (59, x1), (58, x0), (57, a3_), (56, a12_)] [(3, a3_), (4, a4_), (9, a9_), (10, a10_), (11, a11_), (12, a12_)]) G6) (
  bP (bn Q q .eql 3 (.tmp 72) (.const (.int .i64 2)) x39 (.int .i64 2)) fun x54 =>
  J1 (xq q 116 τ [(83, x54), (85, x54), (83, x53), (84, x53), (73, x40), (74, x40), (72, x39), (71, x38), (70, x37), (69, a12_), (68, a3_), (13, x5), (67, x5), (66, x4), (65, x3), (64, x2), (63, a12_), (62, a3_), (59, x1), (58, x0), (57, a3_), (56, a12_)] [(3, a3_), (4, a4_), (9, a9_), (10, a10_), (11, a11_), (12, a12_)]) G6))) (
  some ((.exit 0), xq q 116 τ [(59, x1), (58, x0), (57, a3_), (56, a12_)] [(3, a3_), (4, a4_), (9, a9_), (10, a10_), (11, a11_), (12, a12_), (13, a13_), (83, a83_)], G))
noncomputable def b8_0 (q : Bool) (e : Ex) (lp : Env → GS → Option (Exit × Env × GS)) (τ : Env) (G : GS) : Option (Exit × Env × GS) := bb8_0 q e lp (jl8_0_0 q e lp) (jl8_0_1 q e lp) τ G
theorem mb8_0 {e : Ex} {E : Ev} (h : ExLe Q e E) {lp lp' : Env → GS → Option (Exit × Env × GS)} (hlp : LpLe lp lp') (τ : Env) (G : GS) : Ref (b8_0 true e lp τ G) (b8_0 false (Ex.of E) lp' τ G) := by
  unfold b8_0 bb8_0
  repeat' (with_reducible first | exact Ref.rfl' _ | exact ROp.r | refine Ref.bP ?_ fun _ => ?_ | refine Ref.bS ?_ fun _ _ => ?_ | exact Ref.cl (by assumption) | refine Ref.ifV ?_ ?_ | refine LpLe.rx (by assumption) ?_ | refine Ref.xitq ?_ | exact UOk.z | refine UOk.c (by assumption) ?_ | exact Ref.nil _ | refine Ref.bVe fun _ _ => ?_ | refine Ref.bLq (by assumption) ?_ fun _ _ _ => ?_ | refine Ref.ifE ?_ ?_ | refine Ref.chk ?_ ?_ | refine Imp.and ?_ ?_ | refine Imp.or ?_ | exact Imp.rfl' _ | refine Imp.sameO ?_ | refine Ref.gd ?_ | exact Ref.cValue (by assumption) | refine Ref.bX ?_ fun _ _ _ => ?_ | exact Ref.scQ (by assumption) | exact Ref.xRangeQ (by assumption) | exact Ref.cInvoke (by assumption) | refine mkjl8_0_0 (by assumption) (by assumption) ?_ | refine mkjl8_0_1 (by assumption) (by assumption) ?_)
noncomputable def jtl8_0 (J0 J1 : Env → GS → Option (Exit × Env × GS)) : JT (Exit × Env × GS) :=
  (.n none .e (.n none (.n none (.n none .e (.n (some (fun T G => J0 (nth undef T) G)) (.n none .e (.n none (.n none .e (.n none .e (.n (some (fun T G => J1 (nth undef T) G)) .e .e))) .e)) .e)) .e) .e))
set_option maxHeartbeats 8000000 in
theorem jrl8_0_0 (orc : FuncId → Bool) (J0 J1 : Env → GS → Option (Exit × Env × GS)) (T : List Value) (G : GS) : runC Q (evL Q orc) 116 (jtl8_0 J0 J1) (subAt [1, 1, 1, 1, 1, 1, 0, 1, 0, 0] (bodyOf Tryz.f8)) (seqXE (fun τ G' => mapE ((E orc).lp (subAt [1, 1, 1, 1, 1, 1, 0, 1, 0, 0] (bodyOf Tryz.f8)) (lst 116 (nth undef (lst 116 τ))) G')) fun e τ G' => some (e, nth undef (lst 116 τ), G')) [true, false, false, true] (nth undef T) G = jbl8_0_0 false (Ex.of (E orc)) (fun τ G => mapE ((E orc).lp (subAt [1, 1, 1, 1, 1, 1, 0, 1, 0, 0] (bodyOf Tryz.f8)) (lst 116 τ) G))  (nth undef T) G := by kernel_rfl
set_option maxHeartbeats 8000000 in
theorem jrl8_0_1 (orc : FuncId → Bool) (J0 J1 : Env → GS → Option (Exit × Env × GS)) (T : List Value) (G : GS) : runC Q (evL Q orc) 116 (jtl8_0 J0 J1) (subAt [1, 1, 1, 1, 1, 1, 0, 1, 0, 0] (bodyOf Tryz.f8)) (seqXE (fun τ G' => mapE ((E orc).lp (subAt [1, 1, 1, 1, 1, 1, 0, 1, 0, 0] (bodyOf Tryz.f8)) (lst 116 (nth undef (lst 116 τ))) G')) fun e τ G' => some (e, nth undef (lst 116 τ), G')) [true, false, false, true, false, true, false, true, true] (nth undef T) G = jbl8_0_1 false (Ex.of (E orc)) (fun τ G => mapE ((E orc).lp (subAt [1, 1, 1, 1, 1, 1, 0, 1, 0, 0] (bodyOf Tryz.f8)) (lst 116 τ) G)) J0 (nth undef T) G := by kernel_rfl
set_option maxHeartbeats 8000000 in
theorem jol8_0 (orc : FuncId → Bool) : JOk Q orc 116 (jtl8_0 (jl8_0_0 false (Ex.of (E orc)) (fun τ G => mapE ((E orc).lp (subAt [1, 1, 1, 1, 1, 1, 0, 1, 0, 0] (bodyOf Tryz.f8)) (lst 116 τ) G))) (jl8_0_1 false (Ex.of (E orc)) (fun τ G => mapE ((E orc).lp (subAt [1, 1, 1, 1, 1, 1, 0, 1, 0, 0] (bodyOf Tryz.f8)) (lst 116 τ) G))) ) (subAt [1, 1, 1, 1, 1, 1, 0, 1, 0, 0] (bodyOf Tryz.f8)) (seqXE (fun τ G' => mapE ((E orc).lp (subAt [1, 1, 1, 1, 1, 1, 0, 1, 0, 0] (bodyOf Tryz.f8)) (lst 116 (nth undef (lst 116 τ))) G')) fun e τ G' => some (e, nth undef (lst 116 τ), G')) :=
  jOk Q orc (l := [([true, false, false, true], (fun T G => jl8_0_0 false (Ex.of (E orc)) (fun τ G => mapE ((E orc).lp (subAt [1, 1, 1, 1, 1, 1, 0, 1, 0, 0] (bodyOf Tryz.f8)) (lst 116 τ) G)) (nth undef T) G)), ([true, false, false, true, false, true, false, true, true], (fun T G => jl8_0_1 false (Ex.of (E orc)) (fun τ G => mapE ((E orc).lp (subAt [1, 1, 1, 1, 1, 1, 0, 1, 0, 0] (bodyOf Tryz.f8)) (lst 116 τ) G)) (nth undef T) G))]) (by kernel_rfl) (AllE.c (fun T G => jrl8_0_0 orc (jl8_0_0 false (Ex.of (E orc)) (fun τ G => mapE ((E orc).lp (subAt [1, 1, 1, 1, 1, 1, 0, 1, 0, 0] (bodyOf Tryz.f8)) (lst 116 τ) G))) (jl8_0_1 false (Ex.of (E orc)) (fun τ G => mapE ((E orc).lp (subAt [1, 1, 1, 1, 1, 1, 0, 1, 0, 0] (bodyOf Tryz.f8)) (lst 116 τ) G))) T G) (AllE.c (fun T G => jrl8_0_1 orc (jl8_0_0 false (Ex.of (E orc)) (fun τ G => mapE ((E orc).lp (subAt [1, 1, 1, 1, 1, 1, 0, 1, 0, 0] (bodyOf Tryz.f8)) (lst 116 τ) G))) (jl8_0_1 false (Ex.of (E orc)) (fun τ G => mapE ((E orc).lp (subAt [1, 1, 1, 1, 1, 1, 0, 1, 0, 0] (bodyOf Tryz.f8)) (lst 116 τ) G))) T G) (AllE.z)))
set_option maxHeartbeats 8000000 in
theorem jel8_0 (orc : FuncId → Bool) (J0 J1 : Env → GS → Option (Exit × Env × GS)) (T : List Value) (G : GS) : sxC Q (evL Q orc) 116 (jtl8_0 J0 J1) (subAt [1, 1, 1, 1, 1, 1, 0, 1, 0, 0] (bodyOf Tryz.f8)) (nth undef T) G (seqXE (fun τ G' => mapE ((E orc).lp (subAt [1, 1, 1, 1, 1, 1, 0, 1, 0, 0] (bodyOf Tryz.f8)) (lst 116 (nth undef (lst 116 τ))) G')) fun e τ G' => some (e, nth undef (lst 116 τ), G')) = bb8_0 false (Ex.of (E orc)) (fun τ G => mapE ((E orc).lp (subAt [1, 1, 1, 1, 1, 1, 0, 1, 0, 0] (bodyOf Tryz.f8)) (lst 116 τ) G)) J0 J1 (nth undef T) G := by kernel_rfl
set_option maxHeartbeats 8000000 in
theorem l8_0 {orc : FuncId → Bool} {e : Ex} (h : ExLe Q e (E orc)) (lp : Env → GS → Option (Exit × Env × GS)) (hlp : ∀ τ G, Ref (lp τ G) (mapE ((E orc).lp (subAt [1, 1, 1, 1, 1, 1, 0, 1, 0, 0] (bodyOf Tryz.f8)) (lst 116 τ) G))) (T : List Value) (G : GS) (hT : T.length = 116) : Ref (b8_0 true e lp (nth undef T) G) (mapE ((E orc).lp (subAt [1, 1, 1, 1, 1, 1, 0, 1, 0, 0] (bodyOf Tryz.f8)) T G)) :=
  fun r hr => lp_sxC Q orc G (jtl8_0 (jl8_0_0 false (Ex.of (E orc)) (fun τ G => mapE ((E orc).lp (subAt [1, 1, 1, 1, 1, 1, 0, 1, 0, 0] (bodyOf Tryz.f8)) (lst 116 τ) G))) (jl8_0_1 false (Ex.of (E orc)) (fun τ G => mapE ((E orc).lp (subAt [1, 1, 1, 1, 1, 1, 0, 1, 0, 0] (bodyOf Tryz.f8)) (lst 116 τ) G))) ) hT (jol8_0 orc) (jel8_0 orc (jl8_0_0 false (Ex.of (E orc)) (fun τ G => mapE ((E orc).lp (subAt [1, 1, 1, 1, 1, 1, 0, 1, 0, 0] (bodyOf Tryz.f8)) (lst 116 τ) G))) (jl8_0_1 false (Ex.of (E orc)) (fun τ G => mapE ((E orc).lp (subAt [1, 1, 1, 1, 1, 1, 0, 1, 0, 0] (bodyOf Tryz.f8)) (lst 116 τ) G))) T G) (mb8_0 h ⟨hlp⟩ _ _ r hr)
/-- coxswain/coxswainlaw11.ArenaSteps -/
noncomputable def s8 (q : Bool) (e : Ex) (v0 v1 v2 v3 : Value) (G : GS) : Option (Value × GS) :=
  bS (bx q v0 G) fun x0 G1 =>
  bP (lda Q q 25 6 x0 (G1.room 7)) fun x2 =>
  bS (e.ev.cl 55 [x2, v1] (G1.room 7)) fun x4 G3 =>
  bP (lda Q q 25 6 x0 G3) fun x5 =>
  chk ((sameO (lda Q q 25 6 x0 (G1.room 7)) x5 && true)) <|
  bS (e.ev.cl 56 [x5, v1] G3) fun x7 G6 =>
  bP (bn Q q .neq 33 (.tmp 16) (.tmp 19) x4 x7) fun x8 =>
  ifV x8 (
  some ((.bool false), G6)) (
  bP (lda Q q 25 6 x0 G6) fun x9 =>
  bS (e.ev.cl 56 [x9, v1] G6) fun x10 G11 =>
  bP (bn Q q .neq 33 (.tmp 23) (.const (.int .i64 0)) x10 (.int .i64 0)) fun x12 =>
  bS (gd x12 false (bP (fa Q q 25 0 0 x0) fun y => some (y, G11)) G11) fun x13 G14 =>
  bS (gd x12 false (bP (fa Q q 23 2 2 x13) fun y => some (y, G14)) G14) fun x15 G16 =>
  bS (gd x12 false (bP (ld Q q 3 x15 G16) fun y => some (y, G16)) G16) fun x17 G18 =>
  bS (gd x12 false (bP (bn Q q .gtr 3 (.tmp 28) (.const (.int .i64 12)) x17 (.int .i64 12)) fun y => some (y, G18)) G18) fun x19 G20 =>
  bP (pickV x12 (.bool true) x19) fun x21 =>
  bS (gd x21 false (some (v1, G20)) G20) fun x22 G23 =>
  bS (gd x21 false (bP (bn Q q .gtr 3 (.tmp 32) (.const (.int .i64 64)) x22 (.int .i64 64)) fun y => some (y, G23)) G23) fun x24 G25 =>
  bP (pickV x21 (.bool true) x24) fun x26 =>
  bS (gd x26 false (some (v2, G25)) G25) fun x27 G28 =>
  bS (gd x26 false (bP (ln Q q 111 x27) fun y => some (y, G28)) G28) fun x29 G30 =>
  bS (gd x26 false (bP (bn Q q .gtr 3 (.tmp 37) (.const (.int .i64 64)) x29 (.int .i64 64)) fun y => some (y, G30)) G30) fun x31 G32 =>
  bP (pickV x26 (.bool true) x31) fun x33 =>
  bS (gd x33 false (some (v3, G32)) G32) fun x34 G35 =>
  bS (gd x33 false (bP (ln Q q 139 x34) fun y => some (y, G35)) G35) fun x36 G37 =>
  bS (gd x33 false (bP (bn Q q .gtr 3 (.tmp 42) (.const (.int .i64 120)) x36 (.int .i64 120)) fun y => some (y, G37)) G37) fun x38 G39 =>
  bP (pickV x33 (.bool true) x38) fun x40 =>
  ifV x40 (
  bS (e.ev.cl 57 [] G39) fun x41 G42 =>
  some (x41, G42)) (
  bP (lda Q q 25 6 x0 G39) fun x43 =>
  bS (e.ev.cl 58 [x43, v1, v2] G39) fun x44 G45 =>
  bP (pExtract x44 0) fun x46 =>
  bP (pExtract x44 1) fun x47 =>
  bP (ep Q q false 32 (.tmp 53) (.const (.pointer none)) x46 (.pointer none)) fun x48 =>
  ifV x48 (
  some ((.bool false), G45)) (
  bS (mk Q q 142 4 32 z150 (.int .i64 4) (.int .i64 4) G45) fun x49 G50 =>
  bLq q e 8 0 (subAt [1, 1, 1, 1, 1, 1, 0, 1, 0, 0] (bodyOf Tryz.f8)) 116 (nth undef [v0, v1, v2, v3]) [(12, (.int .i64 0)), (11, x49), (55, x49), (54, x48), (53, x46), (10, x47), (9, x46), (52, x47), (51, x46), (46, x44), (50, x44), (49, v2), (48, v1), (47, x43), (44, x40), (43, x38), (42, x36), (41, x34), (40, x33), (39, x33), (38, x31), (37, x29), (36, x27), (35, x26), (34, x26), (33, x24), (32, x22), (31, x21), (30, x21), (29, x19), (28, x17), (27, x15), (26, x13), (25, x12), (24, x12), (23, x10), (22, v1), (21, x9), (20, x8), (19, x7), (18, v1), (17, x5), (16, x4), (15, v1), (14, x2), (8, (.bool false)), (4, x0)] [] G50 fun e51 t52 G53 =>
  bV q (t52 8) fun t52x8_ =>
  ifE e51 (.exit 0) (
  bS (e.ev.cl 57 [] G53) fun x54 G55 =>
  some (x54, G55)) (ifE e51 .ret (
  some (t52x8_, G53)) (none)))))
theorem m8 {e : Ex} {E : Ev} (h : ExLe Q e E) (v0 v1 v2 v3 : Value) (G : GS) : Ref (s8 true e v0 v1 v2 v3 G) (s8 false (Ex.of E) v0 v1 v2 v3 G) := by
  unfold s8
  exact Ref.gq
set_option maxHeartbeats 8000000 in
theorem f8 {orc : FuncId → Bool} {e : Ex} (h : ExLe Q e (E orc)) (v0 v1 v2 v3 : Value) (G : GS) : Ref (s8 true e v0 v1 v2 v3 G) ((E orc).cl 8 [v0, v1, v2, v3] G) :=
  fun r hr => cl_sxE_some Q orc (vs := [v0, v1, v2, v3]) G Tryz.func8 (by kernel_rfl) (by kernel_rfl) (by kernel_rfl) (by kernel_rfl) (by kernel_rfl) (by kernel_rfl) (m8 h v0 v1 v2 v3 G r hr)
/-- coxswain/cells.New -/
noncomputable def s9 (q : Bool) (e : Ex) (v0 : Value) (G : GS) : Option (Value × GS) :=
  bP (bn Q q .lss 3 (.tmp 4) (.const (.int .i64 1)) v0 (.int .i64 1)) fun x0 =>
  bS (gd x0 false (some (v0, G)) G) fun x1 G2 =>
  bS (gd x0 false (bP (bn Q q .gtr 3 (.tmp 7) (.const (.int .i64 4096)) x1 (.int .i64 4096)) fun y => some (y, G2)) G2) fun x3 G4 =>
  bP (pickV x0 (.bool true) x3) fun x5 =>
  ifV x5 (
  some (.tuple #[(.pointer none), (.int .i64 3)], G4)) (
  bS (al Q q 156 z156 G4) fun x6 G7 =>
  bP (bd Q q 158 z158 [(0, 0, 1), (1, 1, 1)] [x6, v0]) fun x8 =>
  bS (bx q x8 G7) fun x9 G10 =>
  some (.tuple #[x9, (.int .i64 0)], G10))
theorem m9 {e : Ex} {E : Ev} (h : ExLe Q e E) (v0 : Value) (G : GS) : Ref (s9 true e v0 G) (s9 false (Ex.of E) v0 G) := by
  unfold s9
  exact Ref.gq
theorem f9 {orc : FuncId → Bool} {e : Ex} (h : ExLe Q e (E orc)) (v0 : Value) (G : GS) : Ref (s9 true e v0 G) ((E orc).cl 9 [v0] G) :=
  fun r hr => cl_sxE_some Q orc (vs := [v0]) G Tryz.func9 (by kernel_rfl) (by kernel_rfl) (by kernel_rfl) (by kernel_rfl) (by kernel_rfl) (by kernel_rfl) (m9 h v0 G r hr)
/-- (*coxswain/cells.Mem).Count -/
noncomputable def s21 (q : Bool) (e : Ex) (v0 : Value) (G : GS) : Option (Value × GS) :=
  bP (ep Q q false 32 (.tmp 3) (.const (.pointer none)) v0 (.pointer none)) fun x0 =>
  ifV x0 (
  some ((.int .i64 0), G)) (
  bP (pNil v0) fun x1 =>
  bP (fa Q q 158 3 7 x1) fun x2 =>
  bP (ld Q q 3 x2 G) fun x3 =>
  some (x3, G))
theorem m21 {e : Ex} {E : Ev} (h : ExLe Q e E) (v0 : Value) (G : GS) : Ref (s21 true e v0 G) (s21 false (Ex.of E) v0 G) := by
  unfold s21
  exact Ref.gq
theorem f21 {orc : FuncId → Bool} {e : Ex} (h : ExLe Q e (E orc)) (v0 : Value) (G : GS) : Ref (s21 true e v0 G) ((E orc).cl 21 [v0] G) :=
  fun r hr => cl_sxE_some Q orc (vs := [v0]) G Tryz.func21 (by kernel_rfl) (by kernel_rfl) (by kernel_rfl) (by kernel_rfl) (by kernel_rfl) (by kernel_rfl) (m21 h v0 G r hr)
noncomputable def b29_0 (q : Bool) (e : Ex) (lp : Env → GS → Option (Exit × Env × GS)) (τ : Env) (G : GS) : Option (Exit × Env × GS) :=
  bV q (τ 0) fun a0_ =>
  bV q (τ 1) fun a1_ =>
  bV q (τ 5) fun a5_ =>
  bP (ln Q q 78 a0_) fun x0 =>
  bP (bn Q q .lss 3 (.tmp 6) (.tmp 8) a5_ x0) fun x1 =>
  ifV x1 (
  bP (ias Q q 78 1 a0_ a5_) fun x2 =>
  bP (ld Q q 3 x2 G) fun x3 =>
  bP (bn Q q .eql 3 (.tmp 15) (.tmp 16) x3 a1_) fun x4 =>
  ifV x4 (
  some (.ret, xq q 18 τ [(4, (.bool true)), (17, x4), (16, a1_), (15, x3), (14, x2), (13, a5_), (12, a0_), (9, x1), (8, x0), (7, a0_), (6, a5_)] [(0, a0_), (1, a1_), (5, a5_)], G)) (
  bP (bn Q q .add 3 (.tmp 10) (.const (.int .i64 1)) a5_ (.int .i64 1)) fun x5 =>
  lp (xq q 18 τ [(5, x5), (11, x5), (10, a5_), (17, x4), (16, a1_), (15, x3), (14, x2), (13, a5_), (12, a0_), (9, x1), (8, x0), (7, a0_), (6, a5_)] [(0, a0_), (1, a1_)]) G)) (
  some ((.exit 0), xq q 18 τ [(9, x1), (8, x0), (7, a0_), (6, a5_)] [(0, a0_), (1, a1_), (5, a5_)], G))
theorem mb29_0 {e : Ex} {E : Ev} (h : ExLe Q e E) {lp lp' : Env → GS → Option (Exit × Env × GS)} (hlp : LpLe lp lp') (τ : Env) (G : GS) : Ref (b29_0 true e lp τ G) (b29_0 false (Ex.of E) lp' τ G) := by
  unfold b29_0
  exact Ref.gq
theorem l29_0 {orc : FuncId → Bool} {e : Ex} (h : ExLe Q e (E orc)) (lp : Env → GS → Option (Exit × Env × GS)) (hlp : ∀ τ G, Ref (lp τ G) (mapE ((E orc).lp (subAt [1, 0, 1, 0, 0] (bodyOf Tryz.f29)) (lst 18 τ) G))) (T : List Value) (G : GS) (hT : T.length = 18) : Ref (b29_0 true e lp (nth undef T) G) (mapE ((E orc).lp (subAt [1, 0, 1, 0, 0] (bodyOf Tryz.f29)) T G)) :=
  fun r hr => lp_sxN Q orc G hT (by kernel_rfl) (mb29_0 h ⟨hlp⟩ _ _ r hr)
/-- coxswain/coxswainkit.Among -/
noncomputable def s29 (q : Bool) (e : Ex) (v0 v1 : Value) (G : GS) : Option (Value × GS) :=
  bLq q e 29 0 (subAt [1, 0, 1, 0, 0] (bodyOf Tryz.f29)) 18 (nth undef [v0, v1]) [(5, (.int .i64 0)), (4, (.bool false))] [] G fun e0 t1 G2 =>
  bV q (t1 4) fun t1x4_ =>
  ifE e0 (.exit 0) (
  some ((.bool false), G2)) (ifE e0 .ret (
  some (t1x4_, G2)) (none))
theorem m29 {e : Ex} {E : Ev} (h : ExLe Q e E) (v0 v1 : Value) (G : GS) : Ref (s29 true e v0 v1 G) (s29 false (Ex.of E) v0 v1 G) := by
  unfold s29
  exact Ref.gq
theorem f29 {orc : FuncId → Bool} {e : Ex} (h : ExLe Q e (E orc)) (v0 v1 : Value) (G : GS) : Ref (s29 true e v0 v1 G) ((E orc).cl 29 [v0, v1] G) :=
  fun r hr => cl_sxE_some Q orc (vs := [v0, v1]) G Tryz.func29 (by kernel_rfl) (by kernel_rfl) (by kernel_rfl) (by kernel_rfl) (by kernel_rfl) (by kernel_rfl) (m29 h v0 v1 G r hr)
/-- coxswain/coxswainkit.Pick -/
noncomputable def s42 (q : Bool) (e : Ex) (v0 v1 : Value) (G : GS) : Option (Value × GS) :=
  bP (bn Q q .leq 3 (.tmp 5) (.const (.int .i64 0)) v1 (.int .i64 0)) fun x0 =>
  ifV x0 (
  some ((.int .i64 0), G)) (
  bP (bn Q q .rem 3 (.tmp 7) (.tmp 8) v0 v1) fun x1 =>
  bP (bn Q q .lss 3 (.tmp 10) (.const (.int .i64 0)) x1 (.int .i64 0)) fun x2 =>
  ifV x2 (
  bP (bn Q q .add 3 (.tmp 12) (.tmp 13) x1 v1) fun x3 =>
  some (x3, G)) (
  some (x1, G)))
theorem m42 {e : Ex} {E : Ev} (h : ExLe Q e E) (v0 v1 : Value) (G : GS) : Ref (s42 true e v0 v1 G) (s42 false (Ex.of E) v0 v1 G) := by
  unfold s42
  exact Ref.gq
theorem f42 {orc : FuncId → Bool} {e : Ex} (h : ExLe Q e (E orc)) (v0 v1 : Value) (G : GS) : Ref (s42 true e v0 v1 G) ((E orc).cl 42 [v0, v1] G) :=
  fun r hr => cl_sxE_some Q orc (vs := [v0, v1]) G Tryz.func42 (by kernel_rfl) (by kernel_rfl) (by kernel_rfl) (by kernel_rfl) (by kernel_rfl) (by kernel_rfl) (m42 h v0 v1 G r hr)
/-- (*coxswain/cells.Mem).Store -/
noncomputable def s45 (q : Bool) (e : Ex) (v0 v1 v2 : Value) (G : GS) : Option (Value × GS) :=
  bS (e.ev.cl 158 [v0, v1] G) fun x0 G1 =>
  bP (bd Q q 246 z246 [(0, 0, 1), (1, 1, 1)] [x0, v2]) fun x2 =>
  bS (al Q q 246 z246 G1) fun x3 G4 =>
  bP (st Q q 246 3 x3 x2 G4) fun G5 =>
  bP (fa Q q 246 0 0 x3) fun x6 =>
  bP (ld Q q 243 x6 G5) fun x7 =>
  bP (lda Q q 246 3 x3 G5) fun x8 =>
  bS (e.ev.cl 159 [v0, (.int .i64 2), v1, x7, (.func (.func 160) #[x8] #[])] G5) fun x9 G10 =>
  some (.tuple #[], G10)
theorem m45 {e : Ex} {E : Ev} (h : ExLe Q e E) (v0 v1 v2 : Value) (G : GS) : Ref (s45 true e v0 v1 v2 G) (s45 false (Ex.of E) v0 v1 v2 G) := by
  unfold s45
  exact Ref.gq
theorem f45 {orc : FuncId → Bool} {e : Ex} (h : ExLe Q e (E orc)) (v0 v1 v2 : Value) (G : GS) : Ref (s45 true e v0 v1 v2 G) ((E orc).cl 45 [v0, v1, v2] G) :=
  fun r hr => cl_sxE_some Q orc (vs := [v0, v1, v2]) G Tryz.func45 (by kernel_rfl) (by kernel_rfl) (by kernel_rfl) (by kernel_rfl) (by kernel_rfl) (by kernel_rfl) (m45 h v0 v1 v2 G r hr)
/-- (*coxswain/coxswainref02.Mem).Store -/
noncomputable def s46 (q : Bool) (e : Ex) (v0 v1 v2 : Value) (G : GS) : Option (Value × GS) :=
  bS (e.ev.cl 161 [v0, (.int .i64 2), v1, (.bool true), v2] G) fun x0 G1 =>
  some (.tuple #[], G1)
theorem m46 {e : Ex} {E : Ev} (h : ExLe Q e E) (v0 v1 v2 : Value) (G : GS) : Ref (s46 true e v0 v1 v2 G) (s46 false (Ex.of E) v0 v1 v2 G) := by
  unfold s46
  exact Ref.gq
theorem f46 {orc : FuncId → Bool} {e : Ex} (h : ExLe Q e (E orc)) (v0 v1 v2 : Value) (G : GS) : Ref (s46 true e v0 v1 v2 G) ((E orc).cl 46 [v0, v1, v2] G) :=
  fun r hr => cl_sxE_some Q orc (vs := [v0, v1, v2]) G Tryz.func46 (by kernel_rfl) (by kernel_rfl) (by kernel_rfl) (by kernel_rfl) (by kernel_rfl) (by kernel_rfl) (m46 h v0 v1 v2 G r hr)
/-- (*coxswain/cells.Mem).Last -/
noncomputable def s49 (q : Bool) (e : Ex) (v0 : Value) (G : GS) : Option (Value × GS) :=
  bS (al Q q 68 z68 G) fun x0 G1 =>
  bP (ep Q q false 32 (.tmp 3) (.const (.pointer none)) v0 (.pointer none)) fun x2 =>
  ifV x2 (
  bP (bd Q q 68 z68 [] []) fun x3 =>
  bP (st Q q 68 5 x0 x3 G1) fun G4 =>
  bP (lda Q q 68 5 x0 G4) fun x5 =>
  some (x5, G4)) (
  bP (pNil v0) fun x6 =>
  bP (fa Q q 158 2 2 x6) fun x7 =>
  bP (lda Q q 68 5 x7 G1) fun x8 =>
  bP (st Q q 68 5 x0 x8 G1) fun G9 =>
  bP (lda Q q 68 5 x0 G9) fun x10 =>
  some (x10, G9))
theorem m49 {e : Ex} {E : Ev} (h : ExLe Q e E) (v0 : Value) (G : GS) : Ref (s49 true e v0 G) (s49 false (Ex.of E) v0 G) := by
  unfold s49
  exact Ref.gq
theorem f49 {orc : FuncId → Bool} {e : Ex} (h : ExLe Q e (E orc)) (v0 : Value) (G : GS) : Ref (s49 true e v0 G) ((E orc).cl 49 [v0] G) :=
  fun r hr => cl_sxE_some Q orc (vs := [v0]) G Tryz.func49 (by kernel_rfl) (by kernel_rfl) (by kernel_rfl) (by kernel_rfl) (by kernel_rfl) (by kernel_rfl) (m49 h v0 G r hr)
/-- (*coxswain/coxswainref02.Mem).Last -/
noncomputable def s50 (q : Bool) (e : Ex) (v0 : Value) (G : GS) : Option (Value × GS) :=
  bS (al Q q 68 z68 G) fun x0 G1 =>
  bP (pNil v0) fun x2 =>
  bP (fa Q q 252 1 1 x2) fun x3 =>
  bP (lda Q q 68 5 x3 G1) fun x4 =>
  bP (st Q q 68 5 x0 x4 G1) fun G5 =>
  bP (lda Q q 68 5 x0 G5) fun x6 =>
  some (x6, G5)
theorem m50 {e : Ex} {E : Ev} (h : ExLe Q e E) (v0 : Value) (G : GS) : Ref (s50 true e v0 G) (s50 false (Ex.of E) v0 G) := by
  unfold s50
  exact Ref.gq
theorem f50 {orc : FuncId → Bool} {e : Ex} (h : ExLe Q e (E orc)) (v0 : Value) (G : GS) : Ref (s50 true e v0 G) ((E orc).cl 50 [v0] G) :=
  fun r hr => cl_sxE_some Q orc (vs := [v0]) G Tryz.func50 (by kernel_rfl) (by kernel_rfl) (by kernel_rfl) (by kernel_rfl) (by kernel_rfl) (by kernel_rfl) (m50 h v0 G r hr)
/-- (*coxswain/coxswainref02.Mem).Count -/
noncomputable def s51 (q : Bool) (e : Ex) (v0 : Value) (G : GS) : Option (Value × GS) :=
  bP (pNil v0) fun x0 =>
  bP (fa Q q 252 2 6 x0) fun x1 =>
  bP (ld Q q 3 x1 G) fun x2 =>
  some (x2, G)
theorem m51 {e : Ex} {E : Ev} (h : ExLe Q e E) (v0 : Value) (G : GS) : Ref (s51 true e v0 G) (s51 false (Ex.of E) v0 G) := by
  unfold s51
  exact Ref.gq
theorem f51 {orc : FuncId → Bool} {e : Ex} (h : ExLe Q e (E orc)) (v0 : Value) (G : GS) : Ref (s51 true e v0 G) ((E orc).cl 51 [v0] G) :=
  fun r hr => cl_sxE_some Q orc (vs := [v0]) G Tryz.func51 (by kernel_rfl) (by kernel_rfl) (by kernel_rfl) (by kernel_rfl) (by kernel_rfl) (by kernel_rfl) (m51 h v0 G r hr)
noncomputable def b52_0 (q : Bool) (e : Ex) (lp : Env → GS → Option (Exit × Env × GS)) (τ : Env) (G : GS) : Option (Exit × Env × GS) :=
  bV q (τ 0) fun a0_ =>
  bV q (τ 1) fun a1_ =>
  bV q (τ 5) fun a5_ =>
  bV q (τ 6) fun a6_ =>
  bS (gd a5_ true (some (a6_, G)) G) fun x0 G1 =>
  bS (gd a5_ true (some (a0_, G1)) G1) fun x2 G3 =>
  bS (gd a5_ true (bP (ln Q q 111 x2) fun y => some (y, G3)) G3) fun x4 G5 =>
  bS (gd a5_ true (bP (bn Q q .lss 3 (.tmp 14) (.tmp 16) x0 x4) fun y => some (y, G5)) G5) fun x6 G7 =>
  bP (pickV a5_ x6 (.bool false)) fun x8 =>
  ifV x8 (
  bP (ias Q q 111 1 a0_ a6_) fun x9 =>
  bP (ld Q q 41 x9 (G7.room 10)) fun x10 =>
  bP (ias Q q 111 1 a1_ a6_) fun x11 =>
  bP (ld Q q 41 x11 (G7.room 10)) fun x12 =>
  bP (bn Q q .eql 41 (.tmp 24) (.tmp 28) x10 x12) fun x13 =>
  bP (bn Q q .add 3 (.tmp 19) (.const (.int .i64 1)) a6_ (.int .i64 1)) fun x14 =>
  lp (xq q 31 τ [(6, x14), (20, x14), (19, a6_), (5, x13), (29, x13), (28, x12), (27, x11), (26, a6_), (25, a1_), (24, x10), (23, x9), (22, a6_), (21, a0_), (18, x8), (17, x6), (16, x4), (15, x2), (14, x0), (13, a5_), (12, a5_)] [(0, a0_), (1, a1_)]) (G7.room 10)) (
  some ((.exit 0), xq q 31 τ [(18, x8), (17, x6), (16, x4), (15, x2), (14, x0), (13, a5_), (12, a5_)] [(0, a0_), (1, a1_), (5, a5_), (6, a6_)], G7))
theorem mb52_0 {e : Ex} {E : Ev} (h : ExLe Q e E) {lp lp' : Env → GS → Option (Exit × Env × GS)} (hlp : LpLe lp lp') (τ : Env) (G : GS) : Ref (b52_0 true e lp τ G) (b52_0 false (Ex.of E) lp' τ G) := by
  unfold b52_0
  exact Ref.gq
theorem l52_0 {orc : FuncId → Bool} {e : Ex} (h : ExLe Q e (E orc)) (lp : Env → GS → Option (Exit × Env × GS)) (hlp : ∀ τ G, Ref (lp τ G) (mapE ((E orc).lp (subAt [1, 1, 0, 1, 0, 0] (bodyOf Tryz.f52)) (lst 31 τ) G))) (T : List Value) (G : GS) (hT : T.length = 31) : Ref (b52_0 true e lp (nth undef T) G) (mapE ((E orc).lp (subAt [1, 1, 0, 1, 0, 0] (bodyOf Tryz.f52)) T G)) :=
  fun r hr => lp_sxN Q orc G hT (by kernel_rfl) (mb52_0 h ⟨hlp⟩ _ _ r hr)
/-- coxswain/coxswainkit.SameWords -/
noncomputable def s52 (q : Bool) (e : Ex) (v0 v1 : Value) (G : GS) : Option (Value × GS) :=
  bP (ln Q q 111 v0) fun x0 =>
  bP (ln Q q 111 v1) fun x1 =>
  bP (bn Q q .eql 3 (.tmp 8) (.tmp 10) x0 x1) fun x2 =>
  bLq q e 52 0 (subAt [1, 1, 0, 1, 0, 0] (bodyOf Tryz.f52)) 31 (nth undef [v0, v1]) [(6, (.int .i64 0)), (5, x2), (11, x2), (10, x1), (9, v1), (8, x0), (7, v0), (4, (.bool false))] [] G fun e3 t4 G5 =>
  bV q (t4 5) fun t4x5_ =>
  ifE e3 (.exit 0) (
  some (t4x5_, G5)) (none)
theorem m52 {e : Ex} {E : Ev} (h : ExLe Q e E) (v0 v1 : Value) (G : GS) : Ref (s52 true e v0 v1 G) (s52 false (Ex.of E) v0 v1 G) := by
  unfold s52
  exact Ref.gq
theorem f52 {orc : FuncId → Bool} {e : Ex} (h : ExLe Q e (E orc)) (v0 v1 : Value) (G : GS) : Ref (s52 true e v0 v1 G) ((E orc).cl 52 [v0, v1] G) :=
  fun r hr => cl_sxE_some Q orc (vs := [v0, v1]) G Tryz.func52 (by kernel_rfl) (by kernel_rfl) (by kernel_rfl) (by kernel_rfl) (by kernel_rfl) (by kernel_rfl) (m52 h v0 v1 G r hr)
noncomputable def b53_0 (q : Bool) (e : Ex) (lp : Env → GS → Option (Exit × Env × GS)) (τ : Env) (G : GS) : Option (Exit × Env × GS) :=
  bV q (τ 3) fun a3_ =>
  bV q (τ 29) fun a29_ =>
  bV q (τ 30) fun a30_ =>
  bV q (τ 31) fun a31_ =>
  bP (bn Q q .lss 3 (.tmp 31) (.tmp 30) a31_ a30_) fun x0 =>
  ifV x0 (
  bP (ias Q q 253 1 a29_ a31_) fun x1 =>
  bP (ld Q q 154 x1 G) fun x2 =>
  bP (ias Q q 111 1 a3_ a31_) fun x3 =>
  bP (st Q q 41 1 x3 x2 G) fun G4 =>
  bP (bn Q q .add 3 (.tmp 31) (.const (.int .i64 1)) a31_ (.int .i64 1)) fun x5 =>
  lp (xq q 42 τ [(31, x5), (40, x5), (39, x3), (38, x2), (37, a31_), (36, a3_), (5, x2), (4, a31_), (35, x2), (34, x1), (33, a31_), (32, x0)] [(3, a3_), (29, a29_), (30, a30_)]) G4) (
  some ((.exit 0), xq q 42 τ [(32, x0)] [(3, a3_), (29, a29_), (30, a30_), (31, a31_)], G))
theorem mb53_0 {e : Ex} {E : Ev} (h : ExLe Q e E) {lp lp' : Env → GS → Option (Exit × Env × GS)} (hlp : LpLe lp lp') (τ : Env) (G : GS) : Ref (b53_0 true e lp τ G) (b53_0 false (Ex.of E) lp' τ G) := by
  unfold b53_0
  exact Ref.gq
theorem l53_0 {orc : FuncId → Bool} {e : Ex} (h : ExLe Q e (E orc)) (lp : Env → GS → Option (Exit × Env × GS)) (hlp : ∀ τ G, Ref (lp τ G) (mapE ((E orc).lp (subAt [1, 1, 1, 0, 1, 0, 0] (bodyOf Tryz.f53)) (lst 42 τ) G))) (T : List Value) (G : GS) (hT : T.length = 42) : Ref (b53_0 true e lp (nth undef T) G) (mapE ((E orc).lp (subAt [1, 1, 1, 0, 1, 0, 0] (bodyOf Tryz.f53)) T G)) :=
  fun r hr => lp_sxN Q orc G hT (by kernel_rfl) (mb53_0 h ⟨hlp⟩ _ _ r hr)
/-- (*coxswain/cells.Mem).Words -/
noncomputable def s53 (q : Bool) (e : Ex) (v0 : Value) (G : GS) : Option (Value × GS) :=
  bP (ep Q q false 32 (.tmp 6) (.const (.pointer none)) v0 (.pointer none)) fun x0 =>
  bS (gd x0 false (some (v0, G)) G) fun x1 G2 =>
  bS (gd x0 false (bP (pNil x1) fun y => some (y, G2)) G2) fun x3 G4 =>
  bS (gd x0 false (bP (fa Q q 158 0 0 x3) fun y => some (y, G4)) G4) fun x5 G6 =>
  bS (gd x0 false (bP (ld Q q 153 x5 G6) fun y => some (y, G6)) G6) fun x7 G8 =>
  bS (gd x0 false (bP (ep Q q false 153 (.tmp 12) (.const (.pointer none)) x7 (.pointer none)) fun y => some (y, G8)) G8) fun x9 G10 =>
  bP (pickV x0 (.bool true) x9) fun x11 =>
  ifV x11 (
  some ((.slice none 0 0), G10)) (
  bP (pNil v0) fun x12 =>
  bP (fa Q q 158 1 1 x12) fun x13 =>
  bP (ld Q q 3 x13 G10) fun x14 =>
  bS (mk Q q 111 1 8 z41 x14 x14 G10) fun x15 G16 =>
  bP (pNil v0) fun x17 =>
  bP (fa Q q 158 0 0 x17) fun x18 =>
  bP (ld Q q 153 x18 (G16.room 12)) fun x19 =>
  bP (pNil x19) fun x20 =>
  bP (pNil v0) fun x21 =>
  bP (fa Q q 158 1 1 x21) fun x22 =>
  bP (ld Q q 3 x22 (G16.room 12)) fun x23 =>
  bP (sla Q q 156 4096 1 x20 none (some x23) none (G16.room 12)) fun x24 =>
  bP (ln Q q 253 x24) fun x25 =>
  bLq q e 53 0 (subAt [1, 1, 1, 0, 1, 0, 0] (bodyOf Tryz.f53)) 42 (nth undef [v0]) [(31, (.int .i64 0)), (30, x25), (29, x24), (28, x23), (27, x22), (26, x21), (25, v0), (24, x20), (23, x19), (22, x18), (21, x17), (20, v0), (3, x15), (19, x15), (18, x14), (17, x13), (16, x12), (15, v0), (14, x11), (13, x9), (12, x7), (11, x5), (10, x3), (9, x1), (8, x0), (7, x0), (6, v0), (2, (.slice none 0 0))] [] (G16.room 12) fun e26 t27 G28 =>
  bV q (t27 3) fun t27x3_ =>
  ifE e26 (.exit 0) (
  some (t27x3_, G28)) (none))
theorem m53 {e : Ex} {E : Ev} (h : ExLe Q e E) (v0 : Value) (G : GS) : Ref (s53 true e v0 G) (s53 false (Ex.of E) v0 G) := by
  unfold s53
  exact Ref.gq
theorem f53 {orc : FuncId → Bool} {e : Ex} (h : ExLe Q e (E orc)) (v0 : Value) (G : GS) : Ref (s53 true e v0 G) ((E orc).cl 53 [v0] G) :=
  fun r hr => cl_sxE_some Q orc (vs := [v0]) G Tryz.func53 (by kernel_rfl) (by kernel_rfl) (by kernel_rfl) (by kernel_rfl) (by kernel_rfl) (by kernel_rfl) (m53 h v0 G r hr)
/-- (*coxswain/coxswainref02.Mem).Words -/
noncomputable def s54 (q : Bool) (e : Ex) (v0 : Value) (G : GS) : Option (Value × GS) :=
  bP (pNil v0) fun x0 =>
  bP (fa Q q 252 0 0 x0) fun x1 =>
  bP (ld Q q 111 x1 G) fun x2 =>
  bS (e.ev.cl 166 [x2] G) fun x3 G4 =>
  some (x3, G4)
theorem m54 {e : Ex} {E : Ev} (h : ExLe Q e E) (v0 : Value) (G : GS) : Ref (s54 true e v0 G) (s54 false (Ex.of E) v0 G) := by
  unfold s54
  exact Ref.gq
theorem f54 {orc : FuncId → Bool} {e : Ex} (h : ExLe Q e (E orc)) (v0 : Value) (G : GS) : Ref (s54 true e v0 G) ((E orc).cl 54 [v0] G) :=
  fun r hr => cl_sxE_some Q orc (vs := [v0]) G Tryz.func54 (by kernel_rfl) (by kernel_rfl) (by kernel_rfl) (by kernel_rfl) (by kernel_rfl) (by kernel_rfl) (m54 h v0 G r hr)
noncomputable def b55_0 (q : Bool) (e : Ex) (lp : Env → GS → Option (Exit × Env × GS)) (τ : Env) (G : GS) : Option (Exit × Env × GS) :=
  bV q (τ 79) fun a79_ =>
  bV q (τ 80) fun a80_ =>
  bV q (τ 81) fun a81_ =>
  bP (bn Q q .lss 3 (.tmp 81) (.tmp 80) a81_ a80_) fun x0 =>
  ifV x0 (
  bP (ias Q q 258 1 a79_ a81_) fun x1 =>
  bP (ld Q q 66 x1 G) fun x2 =>
  bS (cValue e.ev x2 [] G) fun x3 G4 =>
  bLq q e 55 1 (subAt [1, 1, 1, 1, 1, 0, 1, 0, 0, 1, 1, 0, 0, 1, 1, 0, 0] (bodyOf Tryz.f55)) 99 τ [(8, x3), (86, x3), (85, x2), (7, x2), (84, x2), (83, x1), (82, x0)] [] G4 fun e5 t6 G7 =>
  bV q (t6 79) fun t6x79_ =>
  bV q (t6 80) fun t6x80_ =>
  bV q (t6 81) fun t6x81_ =>
  ifE e5 (.exit 2) (
  bP (bn Q q .add 3 (.tmp 81) (.const (.int .i64 1)) t6x81_ (.int .i64 1)) fun x8 =>
  lp (xq q 99 t6 [(81, x8), (98, x8)] [(79, t6x79_), (80, t6x80_)]) G7) (ifE e5 .ret (
  some (.ret, xq q 99 t6 [] [(79, t6x79_), (80, t6x80_), (81, t6x81_)], G7)) (none))) (
  some ((.exit 0), xq q 99 τ [(82, x0)] [(79, a79_), (80, a80_), (81, a81_)], G))
theorem mb55_0 {e : Ex} {E : Ev} (h : ExLe Q e E) {lp lp' : Env → GS → Option (Exit × Env × GS)} (hlp : LpLe lp lp') (τ : Env) (G : GS) : Ref (b55_0 true e lp τ G) (b55_0 false (Ex.of E) lp' τ G) := by
  unfold b55_0
  exact Ref.gq
set_option maxHeartbeats 8000000 in
theorem l55_0 {orc : FuncId → Bool} {e : Ex} (h : ExLe Q e (E orc)) (lp : Env → GS → Option (Exit × Env × GS)) (hlp : ∀ τ G, Ref (lp τ G) (mapE ((E orc).lp (subAt [1, 1, 1, 1, 1, 0, 1, 0, 0] (bodyOf Tryz.f55)) (lst 99 τ) G))) (T : List Value) (G : GS) (hT : T.length = 99) : Ref (b55_0 true e lp (nth undef T) G) (mapE ((E orc).lp (subAt [1, 1, 1, 1, 1, 0, 1, 0, 0] (bodyOf Tryz.f55)) T G)) :=
  fun r hr => lp_sxN Q orc G hT (by kernel_rfl) (mb55_0 h ⟨hlp⟩ _ _ r hr)
noncomputable def b55_1 (q : Bool) (e : Ex) (lp : Env → GS → Option (Exit × Env × GS)) (τ : Env) (G : GS) : Option (Exit × Env × GS) :=
  bV q (τ 5) fun a5_ =>
  bV q (τ 7) fun a7_ =>
  bV q (τ 8) fun a8_ =>
  bP (bn Q q .geq 3 (.tmp 87) (.const (.int .i64 0)) a8_ (.int .i64 0)) fun x0 =>
  ifV x0 (
  bP (ias Q q 256 1 a5_ a8_) fun x1 =>
  bP (ld Q q 4 x1 G) fun x2 =>
  ifV x2 (
  some (.ret, xq q 99 τ [(4, (.int .i64 2)), (94, x2), (93, x1), (92, a8_), (91, a5_), (88, x0), (87, a8_)] [(5, a5_), (7, a7_), (8, a8_)], G)) (
  bP (ias Q q 256 1 a5_ a8_) fun x3 =>
  bP (st Q q 4 1 x3 (.bool true) G) fun G4 =>
  bS (cValue e.ev a7_ [] G4) fun x5 G6 =>
  lp (xq q 99 τ [(8, x5), (90, x5), (89, a7_), (97, x3), (96, a8_), (95, a5_), (94, x2), (93, x1), (92, a8_), (91, a5_), (88, x0), (87, a8_)] [(5, a5_), (7, a7_)]) G6)) (
  some ((.exit 2), xq q 99 τ [(88, x0), (87, a8_)] [(5, a5_), (7, a7_), (8, a8_)], G))
theorem mb55_1 {e : Ex} {E : Ev} (h : ExLe Q e E) {lp lp' : Env → GS → Option (Exit × Env × GS)} (hlp : LpLe lp lp') (τ : Env) (G : GS) : Ref (b55_1 true e lp τ G) (b55_1 false (Ex.of E) lp' τ G) := by
  unfold b55_1
  exact Ref.gq
set_option maxHeartbeats 8000000 in
theorem l55_1 {orc : FuncId → Bool} {e : Ex} (h : ExLe Q e (E orc)) (lp : Env → GS → Option (Exit × Env × GS)) (hlp : ∀ τ G, Ref (lp τ G) (mapE ((E orc).lp (subAt [1, 1, 1, 1, 1, 0, 1, 0, 0, 1, 1, 0, 0, 1, 1, 0, 0] (bodyOf Tryz.f55)) (lst 99 τ) G))) (T : List Value) (G : GS) (hT : T.length = 99) : Ref (b55_1 true e lp (nth undef T) G) (mapE ((E orc).lp (subAt [1, 1, 1, 1, 1, 0, 1, 0, 0, 1, 1, 0, 0, 1, 1, 0, 0] (bodyOf Tryz.f55)) T G)) :=
  fun r hr => lp_sxN Q orc G hT (by kernel_rfl) (mb55_1 h ⟨hlp⟩ _ _ r hr)
/-- coxswain/arena.Fits -/
noncomputable def s55 (q : Bool) (e : Ex) (v0 v1 : Value) (G : GS) : Option (Value × GS) :=
  bS (bx q v0 G) fun x0 G1 =>
  bP (bn Q q .lss 3 (.tmp 9) (.const (.int .i64 1)) v1 (.int .i64 1)) fun x2 =>
  bS (gd x2 false (some (v1, G1)) G1) fun x3 G4 =>
  bS (gd x2 false (bP (bn Q q .gtr 3 (.tmp 12) (.const (.int .i64 4096)) x3 (.int .i64 4096)) fun y => some (y, G4)) G4) fun x5 G6 =>
  bP (pickV x2 (.bool true) x5) fun x7 =>
  ifV x7 (
  some ((.int .i64 3), G6)) (
  bP (fa Q q 25 0 0 x0) fun x8 =>
  bP (lda Q q 23 3 x8 G6) fun x9 =>
  bS (e.ev.cl 167 [x9, v1] G6) fun x10 G11 =>
  bP (bn Q q .neq 33 (.tmp 18) (.const (.int .i64 0)) x10 (.int .i64 0)) fun x12 =>
  bS (gd x12 false (bP (fa Q q 25 3 5 x0) fun y => some (y, G11)) G11) fun x13 G14 =>
  bS (gd x12 false (bP (ld Q q 3 x13 G14) fun y => some (y, G14)) G14) fun x15 G16 =>
  bS (gd x12 false (bP (bn Q q .lss 3 (.tmp 22) (.const (.int .i64 1)) x15 (.int .i64 1)) fun y => some (y, G16)) G16) fun x17 G18 =>
  bP (pickV x12 (.bool true) x17) fun x19 =>
  bS (gd x19 false (bP (fa Q q 25 3 5 x0) fun y => some (y, G18)) G18) fun x20 G21 =>
  bS (gd x19 false (bP (ld Q q 3 x20 G21) fun y => some (y, G21)) G21) fun x22 G23 =>
  bS (gd x19 false (bP (bn Q q .gtr 3 (.tmp 27) (.const (.int .i64 4294967295)) x22 (.int .i64 4294967295)) fun y => some (y, G23)) G23) fun x24 G25 =>
  bP (pickV x19 (.bool true) x24) fun x26 =>
  bS (gd x26 false (bP (fa Q q 25 1 3 x0) fun y => some (y, G25)) G25) fun x27 G28 =>
  bS (gd x26 false (bP (ld Q q 3 x27 G28) fun y => some (y, G28)) G28) fun x29 G30 =>
  bS (gd x26 false (bP (bn Q q .lss 3 (.tmp 32) (.const (.int .i64 0)) x29 (.int .i64 0)) fun y => some (y, G30)) G30) fun x31 G32 =>
  bP (pickV x26 (.bool true) x31) fun x33 =>
  bS (gd x33 false (bP (fa Q q 25 1 3 x0) fun y => some (y, G32)) G32) fun x34 G35 =>
  bS (gd x33 false (bP (ld Q q 3 x34 G35) fun y => some (y, G35)) G35) fun x36 G37 =>
  bS (gd x33 false (some (v1, G37)) G37) fun x38 G39 =>
  bS (gd x33 false (bP (fa Q q 25 0 0 x0) fun y => some (y, G39)) G39) fun x40 G41 =>
  bS (gd x33 false (bP (fa Q q 23 2 2 x40) fun y => some (y, G41)) G41) fun x42 G43 =>
  bS (gd x33 false (bP (ld Q q 3 x42 G43) fun y => some (y, G43)) G43) fun x44 G45 =>
  bS (gd x33 false (bP (bn Q q .sub 3 (.tmp 38) (.tmp 41) x38 x44) fun y => some (y, G45)) G45) fun x46 G47 =>
  bS (gd x33 false (bP (bn Q q .gtr 3 (.tmp 37) (.tmp 42) x36 x46) fun y => some (y, G47)) G47) fun x48 G49 =>
  bP (pickV x33 (.bool true) x48) fun x50 =>
  bS (gd x50 false (bP (fa Q q 25 2 4 x0) fun y => some (y, G49)) G49) fun x51 G52 =>
  bS (gd x50 false (bP (ld Q q 3 x51 G52) fun y => some (y, G52)) G52) fun x53 G54 =>
  bS (gd x50 false (bP (bn Q q .lss 3 (.tmp 47) (.const (.int .i64 0)) x53 (.int .i64 0)) fun y => some (y, G54)) G54) fun x55 G56 =>
  bP (pickV x50 (.bool true) x55) fun x57 =>
  bS (gd x57 false (bP (fa Q q 25 2 4 x0) fun y => some (y, G56)) G56) fun x58 G59 =>
  bS (gd x57 false (bP (ld Q q 3 x58 G59) fun y => some (y, G59)) G59) fun x60 G61 =>
  bS (gd x57 false (some (v1, G61)) G61) fun x62 G63 =>
  bS (gd x57 false (bP (bn Q q .geq 3 (.tmp 52) (.tmp 53) x60 x62) fun y => some (y, G63)) G63) fun x64 G65 =>
  bP (pickV x57 (.bool true) x64) fun x66 =>
  ifV x66 (
  some ((.int .i64 2), G65)) (
  bS (mk Q q 256 1 1 z4 v1 v1 G65) fun x67 G68 =>
  bP (fa Q q 25 0 0 x0) fun x69 =>
  bP (fa Q q 23 0 0 x69) fun x70 =>
  bP (ld Q q 3 x70 G68) fun x71 =>
  bP (ias Q q 256 1 x67 x71) fun x72 =>
  bP (st Q q 4 1 x72 (.bool true) G68) fun G73 =>
  bP (fa Q q 25 0 0 x0) fun x74 =>
  bP (fa Q q 23 1 1 x74) fun x75 =>
  bP (ld Q q 3 x75 (G73.room 19)) fun x76 =>
  bP (fa Q q 25 0 0 x0) fun x77 =>
  bP (fa Q q 23 2 2 x77) fun x78 =>
  bP (ld Q q 3 x78 (G73.room 19)) fun x79 =>
  bS (e.ev.cl 168 [x76, x79] (G73.room 19)) fun x81 G80 =>
  bP (fa Q q 25 1 3 x0) fun x82 =>
  bP (ld Q q 3 x82 G80) fun x83 =>
  chk ((sameO (ld Q q 3 x82 (G73.room 19)) x83 && true)) <|
  bP (fa Q q 25 0 0 x0) fun x84 =>
  bP (fa Q q 23 2 2 x84) fun x85 =>
  bP (ld Q q 3 x85 G80) fun x86 =>
  chk ((sameO (ld Q q 3 x85 (G73.room 19)) x86 && true)) <|
  bS (e.ev.cl 168 [x83, x86] G80) fun x88 G87 =>
  bP (fa Q q 25 2 4 x0) fun x89 =>
  bP (ld Q q 3 x89 G87) fun x90 =>
  chk ((sameO (ld Q q 3 x89 G80) x90 && (sameO (ld Q q 3 x89 (G73.room 19)) x90 && true))) <|
  bS (e.ev.cl 168 [x90, (.int .i64 1)] G87) fun x92 G91 =>
  bS (bs Q q 258 3 (rep z66 3) 1 [(0, 0, 1), (1, 1, 1), (2, 2, 1)] [x81, x88, x92] (G91.at' (G73.nx + 16))) fun x93 G94 =>
  bP (ln Q q 258 x93) fun x95 =>
  bLq q e 55 0 (subAt [1, 1, 1, 1, 1, 0, 1, 0, 0] (bodyOf Tryz.f55)) 99 (nth undef [v0, v1]) [(81, (.int .i64 0)), (80, x95), (79, x93), (78, x92), (77, x90), (76, x89), (75, x88), (74, x86), (73, x85), (72, x84), (71, x83), (70, x82), (69, x81), (68, x79), (67, x78), (66, x77), (65, x76), (64, x75), (63, x74), (62, x72), (61, x71), (60, x70), (59, x69), (58, x67), (5, x67), (57, x67), (56, v1), (55, x66), (54, x64), (53, x62), (52, x60), (51, x58), (50, x57), (49, x57), (48, x55), (47, x53), (46, x51), (45, x50), (44, x50), (43, x48), (42, x46), (41, x44), (40, x42), (39, x40), (38, x38), (37, x36), (36, x34), (35, x33), (34, x33), (33, x31), (32, x29), (31, x27), (30, x26), (29, x26), (28, x24), (27, x22), (26, x20), (25, x19), (24, x19), (23, x17), (22, x15), (21, x13), (20, x12), (19, x12), (18, x10), (17, v1), (16, x9), (15, x8), (14, x7), (13, x5), (12, x3), (11, x2), (10, x2), (9, v1), (4, (.int .i64 0)), (2, x0)] [] (G94.back G91) fun e96 t97 G98 =>
  bV q (t97 4) fun t97x4_ =>
  ifE e96 (.exit 0) (
  some ((.int .i64 0), G98)) (ifE e96 .ret (
  some (t97x4_, G98)) (none))))
theorem m55 {e : Ex} {E : Ev} (h : ExLe Q e E) (v0 v1 : Value) (G : GS) : Ref (s55 true e v0 v1 G) (s55 false (Ex.of E) v0 v1 G) := by
  unfold s55
  exact Ref.gq
set_option maxHeartbeats 8000000 in
theorem f55 {orc : FuncId → Bool} {e : Ex} (h : ExLe Q e (E orc)) (v0 v1 : Value) (G : GS) : Ref (s55 true e v0 v1 G) ((E orc).cl 55 [v0, v1] G) :=
  fun r hr => cl_sxE_some Q orc (vs := [v0, v1]) G Tryz.func55 (by kernel_rfl) (by kernel_rfl) (by kernel_rfl) (by kernel_rfl) (by kernel_rfl) (by kernel_rfl) (m55 h v0 v1 G r hr)
/-- coxswain/coxswainref11.Fits -/
noncomputable def s56 (q : Bool) (e : Ex) (v0 v1 : Value) (G : GS) : Option (Value × GS) :=
  bS (bx q v0 G) fun x0 G1 =>
  bP (bn Q q .lss 3 (.tmp 6) (.const (.int .i64 1)) v1 (.int .i64 1)) fun x2 =>
  bS (gd x2 false (some (v1, G1)) G1) fun x3 G4 =>
  bS (gd x2 false (bP (bn Q q .gtr 3 (.tmp 9) (.const (.int .i64 4096)) x3 (.int .i64 4096)) fun y => some (y, G4)) G4) fun x5 G6 =>
  bP (pickV x2 (.bool true) x5) fun x7 =>
  ifV x7 (
  some ((.int .i64 3), G6)) (
  bP (fa Q q 25 0 0 x0) fun x8 =>
  bP (lda Q q 23 3 x8 G6) fun x9 =>
  bS (e.ev.cl 169 [x9, v1] G6) fun x10 G11 =>
  bP (bn Q q .neq 33 (.tmp 16) (.const (.int .i64 0)) x10 (.int .i64 0)) fun x12 =>
  bS (gd x12 false (bP (fa Q q 25 3 5 x0) fun y => some (y, G11)) G11) fun x13 G14 =>
  bS (gd x12 false (bP (ld Q q 3 x13 G14) fun y => some (y, G14)) G14) fun x15 G16 =>
  bS (gd x12 false (bP (bn Q q .lss 3 (.tmp 20) (.const (.int .i64 1)) x15 (.int .i64 1)) fun y => some (y, G16)) G16) fun x17 G18 =>
  bP (pickV x12 (.bool true) x17) fun x19 =>
  bS (gd x19 false (bP (fa Q q 25 3 5 x0) fun y => some (y, G18)) G18) fun x20 G21 =>
  bS (gd x19 false (bP (ld Q q 3 x20 G21) fun y => some (y, G21)) G21) fun x22 G23 =>
  bS (gd x19 false (bP (bn Q q .gtr 3 (.tmp 25) (.const (.int .i64 4294967295)) x22 (.int .i64 4294967295)) fun y => some (y, G23)) G23) fun x24 G25 =>
  bP (pickV x19 (.bool true) x24) fun x26 =>
  bS (gd x26 false (bP (lda Q q 25 6 x0 G25) fun y => some (y, G25)) G25) fun x27 G28 =>
  bS (gd x26 false (bS (e.ev.cl 170 [x27] G28) fun y G => some (y, G)) G28) fun x29 G30 =>
  bS (gd x26 false (some (v1, G30)) G30) fun x31 G32 =>
  bS (gd x26 false (bS (e.ev.cl 152 [x29, x31] G32) fun y G => some (y, G)) G32) fun x33 G34 =>
  bS (gd x26 false (bP (un Q q .not x33) fun y => some (y, G34)) G34) fun x35 G36 =>
  bP (pickV x26 (.bool true) x35) fun x37 =>
  ifV x37 (
  some ((.int .i64 2), G36)) (
  some ((.int .i64 0), G36)))
theorem m56 {e : Ex} {E : Ev} (h : ExLe Q e E) (v0 v1 : Value) (G : GS) : Ref (s56 true e v0 v1 G) (s56 false (Ex.of E) v0 v1 G) := by
  unfold s56
  exact Ref.gq
theorem f56 {orc : FuncId → Bool} {e : Ex} (h : ExLe Q e (E orc)) (v0 v1 : Value) (G : GS) : Ref (s56 true e v0 v1 G) ((E orc).cl 56 [v0, v1] G) :=
  fun r hr => cl_sxE_some Q orc (vs := [v0, v1]) G Tryz.func56 (by kernel_rfl) (by kernel_rfl) (by kernel_rfl) (by kernel_rfl) (by kernel_rfl) (by kernel_rfl) (m56 h v0 v1 G r hr)
/-- coxswain/coxswainlaw11.awake -/
noncomputable def s57 (q : Bool) (e : Ex) (G : GS) : Option (Value × GS) :=
  bS (e.ev.cl 9 [(.int .i64 12)] G) fun x0 G1 =>
  bP (pExtract x0 0) fun x2 =>
  bP (pExtract x0 1) fun x3 =>
  bP (bn Q q .neq 33 (.tmp 9) (.const (.int .i64 0)) x3 (.int .i64 0)) fun x4 =>
  bS (gd x4 false (some (x2, G1)) G1) fun x5 G6 =>
  bS (gd x4 false (bP (ep Q q false 32 (.tmp 12) (.const (.pointer none)) x5 (.pointer none)) fun y => some (y, G6)) G6) fun x7 G8 =>
  bP (pickV x4 (.bool true) x7) fun x9 =>
  ifV x9 (
  some ((.bool false), G8)) (
  bS (e.ev.cl 172 [] G8) fun x10 G11 =>
  bS (e.ev.cl 171 [x10, x2] G11) fun x12 G13 =>
  bS (e.ev.cl 172 [] G13) fun x14 G15 =>
  bS (e.ev.cl 173 [x14] G15) fun x16 G17 =>
  bS (e.ev.cl 174 [x16] G17) fun x18 G19 =>
  bP (pExtract x18 0) fun x20 =>
  bP (pExtract x18 1) fun x21 =>
  bP (bn Q q .eql 33 (.tmp 24) (.const (.int .i64 14)) x21 (.int .i64 14)) fun x22 =>
  bS (gd x22 true (some (x2, G19)) G19) fun x23 G24 =>
  bS (gd x22 true (bS (e.ev.cl 175 [x23, (.int .i64 4), (.int .u64 65537), (.int .i64 0)] G24) fun y G => some (y, G)) G24) fun x25 G26 =>
  bP (pickV x22 x25 (.bool false)) fun x27 =>
  bS (gd x27 true (some (x2, G26)) G26) fun x28 G29 =>
  bS (gd x27 true (bS (e.ev.cl 175 [x28, (.int .i64 4), (.int .u64 65538), (.int .i64 0)] G29) fun y G => some (y, G)) G29) fun x30 G31 =>
  bP (pickV x27 x30 (.bool false)) fun x32 =>
  bS (gd x32 true (some (x2, G31)) G31) fun x33 G34 =>
  bS (gd x32 true (bS (e.ev.cl 175 [x33, (.int .i64 4), (.int .u64 65539), (.int .i64 0)] G34) fun y G => some (y, G)) G34) fun x35 G36 =>
  bP (pickV x32 x35 (.bool false)) fun x37 =>
  bS (gd x37 true (some (x2, G36)) G36) fun x38 G39 =>
  bS (gd x37 true (bS (e.ev.cl 175 [x38, (.int .i64 2), (.int .u64 0), (.int .i64 7)] G39) fun y G => some (y, G)) G39) fun x40 G41 =>
  bP (pickV x37 x40 (.bool false)) fun x42 =>
  bS (gd x42 true (some (x2, G41)) G41) fun x43 G44 =>
  bS (gd x42 true (bS (e.ev.cl 176 [x43, (.int .i64 0), (.int .i64 5)] G44) fun y G => some (y, G)) G44) fun x45 G46 =>
  bP (pickV x42 x45 (.bool false)) fun x47 =>
  bS (gd x47 true (some (x2, G46)) G46) fun x48 G49 =>
  bS (gd x47 true (bS (e.ev.cl 175 [x48, (.int .i64 4), (.int .u64 131073), (.int .i64 0)] G49) fun y G => some (y, G)) G49) fun x50 G51 =>
  bP (pickV x47 x50 (.bool false)) fun x52 =>
  bS (gd x52 true (some (x2, G51)) G51) fun x53 G54 =>
  bS (gd x52 true (bS (e.ev.cl 176 [x53, (.int .i64 0), (.int .i64 2)] G54) fun y G => some (y, G)) G54) fun x55 G56 =>
  bP (pickV x52 x55 (.bool false)) fun x57 =>
  bS (gd x57 true (some (x2, G56)) G56) fun x58 G59 =>
  bS (gd x57 true (bS (e.ev.cl 177 [x58, (.int .i64 7)] G59) fun y G => some (y, G)) G59) fun x60 G61 =>
  bS (gd x57 true (bP (bn Q q .eql 41 (.tmp 56) (.const (.int .u64 1)) x60 (.int .u64 1)) fun y => some (y, G61)) G61) fun x62 G63 =>
  bP (pickV x57 x62 (.bool false)) fun x64 =>
  some (x64, G63))
theorem m57 {e : Ex} {E : Ev} (h : ExLe Q e E) (G : GS) : Ref (s57 true e  G) (s57 false (Ex.of E)  G) := by
  unfold s57
  exact Ref.gq
theorem f57 {orc : FuncId → Bool} {e : Ex} (h : ExLe Q e (E orc)) (ho : orc 57 = false) (G : GS) : Ref (s57 true e  G) ((E orc).cl 57 [] G) :=
  fun r hr => cl_sxE_some Q orc (vs := []) G Tryz.func57 (by kernel_rfl) (by kernel_rfl) ho (by kernel_rfl) (by kernel_rfl) (by kernel_rfl) (m57 h  G r hr)
noncomputable def b58_0 (q : Bool) (e : Ex) (lp : Env → GS → Option (Exit × Env × GS)) (τ : Env) (G : GS) : Option (Exit × Env × GS) :=
  bV q (τ 2) fun a2_ =>
  bV q (τ 8) fun a8_ =>
  bV q (τ 10) fun a10_ =>
  bV q (τ 12) fun a12_ =>
  bP (ln Q q 111 a2_) fun x0 =>
  bP (bn Q q .lss 3 (.tmp 39) (.tmp 41) a12_ x0) fun x1 =>
  ifV x1 (
  bP (ias Q q 111 1 a2_ a12_) fun x2 =>
  bP (ld Q q 41 x2 G) fun x3 =>
  bS (e.ev.cl 45 [a8_, a12_, x3] G) fun x4 G5 =>
  bP (ias Q q 111 1 a2_ a12_) fun x6 =>
  bP (ld Q q 41 x6 G5) fun x7 =>
  bS (e.ev.cl 46 [a10_, a12_, x7] G5) fun x8 G9 =>
  bP (bn Q q .add 3 (.tmp 43) (.const (.int .i64 1)) a12_ (.int .i64 1)) fun x10 =>
  lp (xq q 61 τ [(12, x10), (44, x10), (43, a12_), (58, x8), (57, x7), (56, x6), (55, a12_), (54, a2_), (53, a12_), (52, a10_), (51, x4), (50, x3), (49, x2), (48, a12_), (47, a2_), (46, a12_), (45, a8_), (42, x1), (41, x0), (40, a2_), (39, a12_)] [(2, a2_), (8, a8_), (10, a10_)]) G9) (
  some ((.exit 0), xq q 61 τ [(42, x1), (41, x0), (40, a2_), (39, a12_)] [(2, a2_), (8, a8_), (10, a10_), (12, a12_)], G))
theorem mb58_0 {e : Ex} {E : Ev} (h : ExLe Q e E) {lp lp' : Env → GS → Option (Exit × Env × GS)} (hlp : LpLe lp lp') (τ : Env) (G : GS) : Ref (b58_0 true e lp τ G) (b58_0 false (Ex.of E) lp' τ G) := by
  unfold b58_0
  exact Ref.gq
theorem l58_0 {orc : FuncId → Bool} {e : Ex} (h : ExLe Q e (E orc)) (lp : Env → GS → Option (Exit × Env × GS)) (hlp : ∀ τ G, Ref (lp τ G) (mapE ((E orc).lp (subAt [1, 1, 1, 1, 1, 1, 0, 1, 0, 0] (bodyOf Tryz.f58)) (lst 61 τ) G))) (T : List Value) (G : GS) (hT : T.length = 61) : Ref (b58_0 true e lp (nth undef T) G) (mapE ((E orc).lp (subAt [1, 1, 1, 1, 1, 1, 0, 1, 0, 0] (bodyOf Tryz.f58)) T G)) :=
  fun r hr => lp_sxN Q orc G hT (by kernel_rfl) (mb58_0 h ⟨hlp⟩ _ _ r hr)
/-- coxswain/coxswainlaw11.laid -/
noncomputable def s58 (q : Bool) (e : Ex) (v0 v1 v2 : Value) (G : GS) : Option (Value × GS) :=
  bS (bx q v0 G) fun x0 G1 =>
  bS (e.ev.cl 9 [v1] G1) fun x2 G3 =>
  bP (pExtract x2 0) fun x4 =>
  bP (pExtract x2 1) fun x5 =>
  bS (e.ev.cl 155 [v1] G3) fun x6 G7 =>
  bP (pExtract x6 0) fun x8 =>
  bP (pExtract x6 1) fun x9 =>
  bP (bn Q q .neq 33 (.tmp 23) (.const (.int .i64 0)) x5 (.int .i64 0)) fun x10 =>
  bS (gd x10 false (some (x9, G7)) G7) fun x11 G12 =>
  bS (gd x10 false (bP (bn Q q .neq 33 (.tmp 26) (.const (.int .i64 0)) x11 (.int .i64 0)) fun y => some (y, G12)) G12) fun x13 G14 =>
  bP (pickV x10 (.bool true) x13) fun x15 =>
  bS (gd x15 false (some (x4, G14)) G14) fun x16 G17 =>
  bS (gd x15 false (bP (ep Q q false 32 (.tmp 30) (.const (.pointer none)) x16 (.pointer none)) fun y => some (y, G17)) G17) fun x18 G19 =>
  bP (pickV x15 (.bool true) x18) fun x20 =>
  ifV x20 (
  some (.tuple #[(.pointer none), (.pointer none)], G19)) (
  bP (lda Q q 25 6 x0 G19) fun x21 =>
  bS (e.ev.cl 171 [x21, x4] G19) fun x22 G23 =>
  bP (lda Q q 25 6 x0 G23) fun x24 =>
  bS (e.ev.cl 178 [x24, x8] G23) fun x25 G26 =>
  bLq q e 58 0 (subAt [1, 1, 1, 1, 1, 1, 0, 1, 0, 0] (bodyOf Tryz.f58)) 61 (nth undef [v0, v1, v2]) [(12, (.int .i64 0)), (38, x25), (37, x8), (36, x24), (35, x22), (34, x4), (33, x21), (32, x20), (31, x18), (30, x16), (29, x15), (28, x15), (27, x13), (26, x11), (25, x10), (24, x10), (23, x5), (11, x9), (10, x8), (22, x9), (21, x8), (18, x6), (20, x6), (19, v1), (9, x5), (8, x4), (17, x5), (16, x4), (13, x2), (15, x2), (14, v1), (7, (.pointer none)), (6, (.pointer none)), (3, x0)] [] G26 fun e27 t28 G29 =>
  bV q (t28 8) fun t28x8_ =>
  bV q (t28 10) fun t28x10_ =>
  ifE e27 (.exit 0) (
  some (.tuple #[t28x8_, t28x10_], G29)) (none))
theorem m58 {e : Ex} {E : Ev} (h : ExLe Q e E) (v0 v1 v2 : Value) (G : GS) : Ref (s58 true e v0 v1 v2 G) (s58 false (Ex.of E) v0 v1 v2 G) := by
  unfold s58
  exact Ref.gq
theorem f58 {orc : FuncId → Bool} {e : Ex} (h : ExLe Q e (E orc)) (v0 v1 v2 : Value) (G : GS) : Ref (s58 true e v0 v1 v2 G) ((E orc).cl 58 [v0, v1, v2] G) :=
  fun r hr => cl_sxE_some Q orc (vs := [v0, v1, v2]) G Tryz.func58 (by kernel_rfl) (by kernel_rfl) (by kernel_rfl) (by kernel_rfl) (by kernel_rfl) (by kernel_rfl) (m58 h v0 v1 v2 G r hr)
/-- (coxswain/coxswainlaw11.both).step -/
noncomputable def s59 (q : Bool) (e : Ex) (v0 v1 v2 : Value) (G : GS) : Option (Value × GS) :=
  bS (bx q v0 G) fun x0 G1 =>
  bP (fa Q q 150 1 1 x0) fun x2 =>
  bP (ld Q q 146 x2 G1) fun x3 =>
  bP (ep Q q true 146 (.tmp 16) (.const (.pointer none)) x3 (.pointer none)) fun x4 =>
  ifV x4 (
  bP (fa Q q 150 0 0 x0) fun x5 =>
  bP (ld Q q 145 x5 (G1.room 10)) fun x6 =>
  bS (e.ev.cl 179 [x6, v1] (G1.room 10)) fun x8 G7 =>
  bP (fa Q q 150 1 1 x0) fun x9 =>
  bP (ld Q q 146 x9 G7) fun x10 =>
  chk ((sameO (ld Q q 146 x9 (G1.room 10)) x10 && true)) <|
  bS (e.ev.cl 180 [x10, v2] G7) fun x12 G11 =>
  bP (fa Q q 150 0 0 x0) fun x13 =>
  bP (ld Q q 145 x13 G11) fun x14 =>
  bS (e.ev.cl 174 [x14] G11) fun x15 G16 =>
  bP (pExtract x15 0) fun x17 =>
  bP (pExtract x15 1) fun x18 =>
  bP (fa Q q 150 1 1 x0) fun x19 =>
  bP (ld Q q 146 x19 G16) fun x20 =>
  bS (e.ev.cl 181 [x20] G16) fun x21 G22 =>
  bP (pExtract x21 0) fun x23 =>
  bP (pExtract x21 1) fun x24 =>
  bP (eb Q q false 4 (.tmp 38) (.tmp 39) x8 x12) fun x25 =>
  bS (gd x25 true (some (x17, G22)) G22) fun x26 G27 =>
  bS (gd x25 true (some (x23, G27)) G27) fun x28 G29 =>
  bS (gd x25 true (bP (bn Q q .eql 41 (.tmp 42) (.tmp 43) x26 x28) fun y => some (y, G29)) G29) fun x30 G31 =>
  bP (pickV x25 x30 (.bool false)) fun x32 =>
  bS (gd x32 true (some (x18, G31)) G31) fun x33 G34 =>
  bS (gd x32 true (some (x24, G34)) G34) fun x35 G36 =>
  bS (gd x32 true (bP (bn Q q .eql 33 (.tmp 47) (.tmp 48) x33 x35) fun y => some (y, G36)) G36) fun x37 G38 =>
  bP (pickV x32 x37 (.bool false)) fun x39 =>
  some (x39, G38)) (
  bP (fa Q q 150 3 3 x0) fun x40 =>
  bP (ld Q q 148 x40 G1) fun x41 =>
  bP (ep Q q true 148 (.tmp 52) (.const (.pointer none)) x41 (.pointer none)) fun x42 =>
  ifV x42 (
  bP (fa Q q 150 2 2 x0) fun x43 =>
  bP (ld Q q 147 x43 (G1.room 10)) fun x44 =>
  bS (e.ev.cl 182 [x44, v1] (G1.room 10)) fun x46 G45 =>
  bP (fa Q q 150 3 3 x0) fun x47 =>
  bP (ld Q q 148 x47 G45) fun x48 =>
  chk ((sameO (ld Q q 148 x47 (G1.room 10)) x48 && true)) <|
  bS (e.ev.cl 183 [x48, v2] G45) fun x50 G49 =>
  bP (eb Q q false 4 (.tmp 62) (.tmp 63) x46 x50) fun x51 =>
  bS (gd x51 true (bP (fa Q q 150 2 2 x0) fun y => some (y, (G49.room 13))) (G49.room 13)) fun x52 _ =>
  bS (gd x51 true (bP (ld Q q 147 x52 (G49.room 13)) fun y => some (y, (G49.room 13))) (G49.room 13)) fun x53 _ =>
  bS (gd x51 true (bS (e.ev.cl 184 [x53] (G49.room 13)) fun y G => some (y, G)) (G49.room 13)) fun x55 G54 =>
  bS (gd x51 true (bP (fa Q q 150 3 3 x0) fun y => some (y, G54)) G54) fun x56 _ =>
  bS (gd x51 true (bP (ld Q q 148 x56 G54) fun y => some (y, G54)) G54) fun x57 _ =>
  chk (((!(gB x51 true) || (!(gB x51 true) || sameO (ld Q q 148 x56 (G49.room 13)) x57)) && true)) <|
  bS (gd x51 true (bS (e.ev.cl 185 [x57] G54) fun y G => some (y, G)) G54) fun x59 G58 =>
  bS (gd x51 true (bP (bn Q q .eql 33 (.tmp 68) (.tmp 71) x55 x59) fun y => some (y, G58)) G58) fun x60 _ =>
  bP (pickV x51 x60 (.bool false)) fun x61 =>
  some (x61, G58)) (
  some ((.bool true), G1)))
theorem m59 {e : Ex} {E : Ev} (h : ExLe Q e E) (v0 v1 v2 : Value) (G : GS) : Ref (s59 true e v0 v1 v2 G) (s59 false (Ex.of E) v0 v1 v2 G) := by
  unfold s59
  exact Ref.gq
theorem f59 {orc : FuncId → Bool} {e : Ex} (h : ExLe Q e (E orc)) (v0 v1 v2 : Value) (G : GS) : Ref (s59 true e v0 v1 v2 G) ((E orc).cl 59 [v0, v1, v2] G) :=
  fun r hr => cl_sxE_some Q orc (vs := [v0, v1, v2]) G Tryz.func59 (by kernel_rfl) (by kernel_rfl) (by kernel_rfl) (by kernel_rfl) (by kernel_rfl) (by kernel_rfl) (m59 h v0 v1 v2 G r hr)
/-- coxswain/coxswainlaw11.begin -/
noncomputable def s60 (q : Bool) (e : Ex) (v0 v1 : Value) (G : GS) : Option (Value × GS) :=
  bS (bx q v0 G) fun x0 G1 =>
  bS (bx q v1 G1) fun x2 G3 =>
  bS (al Q q 150 z150 G3) fun x4 G5 =>
  bP (fa Q q 144 1 1 x2) fun x6 =>
  bP (ld Q q 3 x6 G5) fun x7 =>
  bP (bn Q q .eql 3 (.tmp 6) (.const (.int .i64 1)) x7 (.int .i64 1)) fun x8 =>
  ifV x8 (
  bP (lda Q q 25 6 x0 (G5.room 6)) fun x9 =>
  bS (e.ev.cl 173 [x9] (G5.room 6)) fun x11 G10 =>
  bP (lda Q q 25 6 x0 G10) fun x12 =>
  chk ((sameO (lda Q q 25 6 x0 (G5.room 6)) x12 && true)) <|
  bS (e.ev.cl 186 [x12] G10) fun x14 G13 =>
  bP (bd Q q 150 z150 [(0, 0, 1), (1, 1, 1)] [x11, x14]) fun x15 =>
  bP (st Q q 150 4 x4 x15 G13) fun G16 =>
  bP (lda Q q 150 4 x4 G16) fun x17 =>
  some (x17, G16)) (
  bP (lda Q q 25 6 x0 (G5.room 10)) fun x18 =>
  bP (fa Q q 144 2 2 x2) fun x19 =>
  bP (ld Q q 3 x19 (G5.room 10)) fun x20 =>
  bS (e.ev.cl 187 [x18, x20] (G5.room 10)) fun x22 G21 =>
  bP (lda Q q 25 6 x0 G21) fun x23 =>
  chk ((sameO (lda Q q 25 6 x0 (G5.room 10)) x23 && true)) <|
  bP (fa Q q 144 2 2 x2) fun x24 =>
  bP (ld Q q 3 x24 G21) fun x25 =>
  chk ((sameO (ld Q q 3 x24 (G5.room 10)) x25 && true)) <|
  bS (e.ev.cl 188 [x23, x25] G21) fun x27 G26 =>
  bP (bd Q q 150 z150 [(2, 2, 1), (3, 3, 1)] [x22, x27]) fun x28 =>
  bP (st Q q 150 4 x4 x28 G26) fun G29 =>
  bP (lda Q q 150 4 x4 G29) fun x30 =>
  some (x30, G29))
theorem m60 {e : Ex} {E : Ev} (h : ExLe Q e E) (v0 v1 : Value) (G : GS) : Ref (s60 true e v0 v1 G) (s60 false (Ex.of E) v0 v1 G) := by
  unfold s60
  exact Ref.gq
theorem f60 {orc : FuncId → Bool} {e : Ex} (h : ExLe Q e (E orc)) (v0 v1 : Value) (G : GS) : Ref (s60 true e v0 v1 G) ((E orc).cl 60 [v0, v1] G) :=
  fun r hr => cl_sxE_some Q orc (vs := [v0, v1]) G Tryz.func60 (by kernel_rfl) (by kernel_rfl) (by kernel_rfl) (by kernel_rfl) (by kernel_rfl) (by kernel_rfl) (m60 h v0 v1 G r hr)
/-- (*coxswain/cells.Mem).CAS -/
noncomputable def s68 (q : Bool) (e : Ex) (v0 v1 v2 v3 : Value) (G : GS) : Option (Value × GS) :=
  bS (e.ev.cl 158 [v0, v1] G) fun x0 G1 =>
  bP (bd Q q 246 z246 [(0, 0, 1), (1, 1, 1), (2, 2, 1)] [x0, v2, v3]) fun x2 =>
  bS (al Q q 246 z246 G1) fun x3 G4 =>
  bP (st Q q 246 3 x3 x2 G4) fun G5 =>
  bP (fa Q q 246 0 0 x3) fun x6 =>
  bP (ld Q q 243 x6 G5) fun x7 =>
  bP (lda Q q 246 3 x3 G5) fun x8 =>
  bS (e.ev.cl 159 [v0, (.int .i64 3), v1, x7, (.func (.func 193) #[x8] #[])] G5) fun x9 G10 =>
  bP (fd Q q 68 4 4 x9) fun x11 =>
  some (x11, G10)
theorem m68 {e : Ex} {E : Ev} (h : ExLe Q e E) (v0 v1 v2 v3 : Value) (G : GS) : Ref (s68 true e v0 v1 v2 v3 G) (s68 false (Ex.of E) v0 v1 v2 v3 G) := by
  unfold s68
  exact Ref.gq
theorem f68 {orc : FuncId → Bool} {e : Ex} (h : ExLe Q e (E orc)) (v0 v1 v2 v3 : Value) (G : GS) : Ref (s68 true e v0 v1 v2 v3 G) ((E orc).cl 68 [v0, v1, v2, v3] G) :=
  fun r hr => cl_sxE_some Q orc (vs := [v0, v1, v2, v3]) G Tryz.func68 (by kernel_rfl) (by kernel_rfl) (by kernel_rfl) (by kernel_rfl) (by kernel_rfl) (by kernel_rfl) (m68 h v0 v1 v2 v3 G r hr)
noncomputable def b152_0 (q : Bool) (e : Ex) (lp : Env → GS → Option (Exit × Env × GS)) (τ : Env) (G : GS) : Option (Exit × Env × GS) :=
  bV q (τ 0) fun a0_ =>
  bV q (τ 1) fun a1_ =>
  bV q (τ 5) fun a5_ =>
  bP (ln Q q 78 a0_) fun x0 =>
  bP (bn Q q .lss 3 (.tmp 6) (.tmp 8) a5_ x0) fun x1 =>
  ifV x1 (
  bP (ias Q q 78 1 a0_ a5_) fun x2 =>
  bP (ld Q q 3 x2 (G.room 23)) fun x3 =>
  bP (bn Q q .lss 3 (.tmp 15) (.const (.int .i64 0)) x3 (.int .i64 0)) fun x4 =>
  bS (gd x4 false (some (a0_, (G.room 23))) (G.room 23)) fun x5 _ =>
  bS (gd x4 false (some (a5_, (G.room 23))) (G.room 23)) fun x6 _ =>
  bS (gd x4 false (bP (ias Q q 78 1 x5 x6) fun y => some (y, (G.room 23))) (G.room 23)) fun x7 _ =>
  bS (gd x4 false (bP (ld Q q 3 x7 (G.room 23)) fun y => some (y, (G.room 23))) (G.room 23)) fun x8 _ =>
  bS (gd x4 false (some (a1_, (G.room 23))) (G.room 23)) fun x9 _ =>
  bS (gd x4 false (bP (bn Q q .geq 3 (.tmp 21) (.tmp 22) x8 x9) fun y => some (y, (G.room 23))) (G.room 23)) fun x10 _ =>
  bP (pickV x4 (.bool true) x10) fun x11 =>
  bS (gd x11 false (some (a0_, (G.room 23))) (G.room 23)) fun x12 _ =>
  bS (gd x11 false (some (a5_, (G.room 23))) (G.room 23)) fun x13 _ =>
  bS (gd x11 false (bP (sl Q q 78 1 x12 none (some x13) none (G.room 23)) fun y => some (y, (G.room 23))) (G.room 23)) fun x14 _ =>
  bS (gd x11 false (some (a0_, (G.room 23))) (G.room 23)) fun x15 _ =>
  bS (gd x11 false (some (a5_, (G.room 23))) (G.room 23)) fun x16 _ =>
  bS (gd x11 false (bP (ias Q q 78 1 x15 x16) fun y => some (y, (G.room 23))) (G.room 23)) fun x17 _ =>
  bS (gd x11 false (bP (ld Q q 3 x17 (G.room 23)) fun y => some (y, (G.room 23))) (G.room 23)) fun x18 _ =>
  bS (gd x11 false (bS (e.ev.cl 29 [x14, x18] (G.room 23)) fun y G => some (y, G)) (G.room 23)) fun x20 G19 =>
  bP (pickV x11 (.bool true) x20) fun x21 =>
  ifV x21 (
  some (.ret, xq q 35 τ [(4, (.bool false)), (34, x21), (33, x20), (32, x18), (31, x17), (30, x16), (29, x15), (28, x14), (27, x13), (26, x12), (25, x11), (24, x11), (23, x10), (22, x9), (21, x8), (20, x7), (19, x6), (18, x5), (17, x4), (16, x4), (15, x3), (14, x2), (13, a5_), (12, a0_), (9, x1), (8, x0), (7, a0_), (6, a5_)] [(0, a0_), (1, a1_), (5, a5_)], G19)) (
  bP (bn Q q .add 3 (.tmp 10) (.const (.int .i64 1)) a5_ (.int .i64 1)) fun x22 =>
  lp (xq q 35 τ [(5, x22), (11, x22), (10, a5_), (34, x21), (33, x20), (32, x18), (31, x17), (30, x16), (29, x15), (28, x14), (27, x13), (26, x12), (25, x11), (24, x11), (23, x10), (22, x9), (21, x8), (20, x7), (19, x6), (18, x5), (17, x4), (16, x4), (15, x3), (14, x2), (13, a5_), (12, a0_), (9, x1), (8, x0), (7, a0_), (6, a5_)] [(0, a0_), (1, a1_)]) G19)) (
  some ((.exit 0), xq q 35 τ [(9, x1), (8, x0), (7, a0_), (6, a5_)] [(0, a0_), (1, a1_), (5, a5_)], G))
theorem mb152_0 {e : Ex} {E : Ev} (h : ExLe Q e E) {lp lp' : Env → GS → Option (Exit × Env × GS)} (hlp : LpLe lp lp') (τ : Env) (G : GS) : Ref (b152_0 true e lp τ G) (b152_0 false (Ex.of E) lp' τ G) := by
  unfold b152_0
  exact Ref.gq
theorem l152_0 {orc : FuncId → Bool} {e : Ex} (h : ExLe Q e (E orc)) (lp : Env → GS → Option (Exit × Env × GS)) (hlp : ∀ τ G, Ref (lp τ G) (mapE ((E orc).lp (subAt [1, 0, 1, 0, 0] (bodyOf Tryz.f152)) (lst 35 τ) G))) (T : List Value) (G : GS) (hT : T.length = 35) : Ref (b152_0 true e lp (nth undef T) G) (mapE ((E orc).lp (subAt [1, 0, 1, 0, 0] (bodyOf Tryz.f152)) T G)) :=
  fun r hr => lp_sxN Q orc G hT (by kernel_rfl) (mb152_0 h ⟨hlp⟩ _ _ r hr)
/-- coxswain/coxswainref11.Apart -/
noncomputable def s152 (q : Bool) (e : Ex) (v0 v1 : Value) (G : GS) : Option (Value × GS) :=
  bLq q e 152 0 (subAt [1, 0, 1, 0, 0] (bodyOf Tryz.f152)) 35 (nth undef [v0, v1]) [(5, (.int .i64 0)), (4, (.bool false))] [] G fun e0 t1 G2 =>
  bV q (t1 4) fun t1x4_ =>
  ifE e0 (.exit 0) (
  some ((.bool true), G2)) (ifE e0 .ret (
  some (t1x4_, G2)) (none))
theorem m152 {e : Ex} {E : Ev} (h : ExLe Q e E) (v0 v1 : Value) (G : GS) : Ref (s152 true e v0 v1 G) (s152 false (Ex.of E) v0 v1 G) := by
  unfold s152
  exact Ref.gq
theorem f152 {orc : FuncId → Bool} {e : Ex} (h : ExLe Q e (E orc)) (v0 v1 : Value) (G : GS) : Ref (s152 true e v0 v1 G) ((E orc).cl 152 [v0, v1] G) :=
  fun r hr => cl_sxE_some Q orc (vs := [v0, v1]) G Tryz.func152 (by kernel_rfl) (by kernel_rfl) (by kernel_rfl) (by kernel_rfl) (by kernel_rfl) (by kernel_rfl) (m152 h v0 v1 G r hr)
/-- coxswain/coxswainref02.New -/
noncomputable def s155 (q : Bool) (e : Ex) (v0 : Value) (G : GS) : Option (Value × GS) :=
  bP (bn Q q .lss 3 (.tmp 4) (.const (.int .i64 1)) v0 (.int .i64 1)) fun x0 =>
  bS (gd x0 false (some (v0, G)) G) fun x1 G2 =>
  bS (gd x0 false (bP (bn Q q .gtr 3 (.tmp 7) (.const (.int .i64 4096)) x1 (.int .i64 4096)) fun y => some (y, G2)) G2) fun x3 G4 =>
  bP (pickV x0 (.bool true) x3) fun x5 =>
  ifV x5 (
  some (.tuple #[(.pointer none), (.int .i64 3)], G4)) (
  bS (mk Q q 111 1 8 z41 v0 v0 G4) fun x6 G7 =>
  bP (bd Q q 252 z252 [(0, 0, 1)] [x6]) fun x8 =>
  bS (bx q x8 G7) fun x9 G10 =>
  some (.tuple #[x9, (.int .i64 0)], G10))
theorem m155 {e : Ex} {E : Ev} (h : ExLe Q e E) (v0 : Value) (G : GS) : Ref (s155 true e v0 G) (s155 false (Ex.of E) v0 G) := by
  unfold s155
  exact Ref.gq
theorem f155 {orc : FuncId → Bool} {e : Ex} (h : ExLe Q e (E orc)) (v0 : Value) (G : GS) : Ref (s155 true e v0 G) ((E orc).cl 155 [v0] G) :=
  fun r hr => cl_sxE_some Q orc (vs := [v0]) G Tryz.func155 (by kernel_rfl) (by kernel_rfl) (by kernel_rfl) (by kernel_rfl) (by kernel_rfl) (by kernel_rfl) (m155 h v0 G r hr)
/-- (*coxswain/cells.Mem).cell -/
noncomputable def s158 (q : Bool) (e : Ex) (v0 v1 : Value) (G : GS) : Option (Value × GS) :=
  bP (ep Q q false 32 (.tmp 5) (.const (.pointer none)) v0 (.pointer none)) fun x0 =>
  bS (gd x0 false (some (v0, G)) G) fun x1 G2 =>
  bS (gd x0 false (bP (pNil x1) fun y => some (y, G2)) G2) fun x3 G4 =>
  bS (gd x0 false (bP (fa Q q 158 0 0 x3) fun y => some (y, G4)) G4) fun x5 G6 =>
  bS (gd x0 false (bP (ld Q q 153 x5 G6) fun y => some (y, G6)) G6) fun x7 G8 =>
  bS (gd x0 false (bP (ep Q q false 153 (.tmp 11) (.const (.pointer none)) x7 (.pointer none)) fun y => some (y, G8)) G8) fun x9 G10 =>
  bP (pickV x0 (.bool true) x9) fun x11 =>
  bS (gd x11 false (some (v1, G10)) G10) fun x12 G13 =>
  bS (gd x11 false (bP (bn Q q .lss 3 (.tmp 15) (.const (.int .i64 0)) x12 (.int .i64 0)) fun y => some (y, G13)) G13) fun x14 G15 =>
  bP (pickV x11 (.bool true) x14) fun x16 =>
  bS (gd x16 false (some (v1, G15)) G15) fun x17 G18 =>
  bS (gd x16 false (some (v0, G18)) G18) fun x19 G20 =>
  bS (gd x16 false (bP (pNil x19) fun y => some (y, G20)) G20) fun x21 G22 =>
  bS (gd x16 false (bP (fa Q q 158 1 1 x21) fun y => some (y, G22)) G22) fun x23 G24 =>
  bS (gd x16 false (bP (ld Q q 3 x23 G24) fun y => some (y, G24)) G24) fun x25 G26 =>
  bS (gd x16 false (bP (bn Q q .geq 3 (.tmp 19) (.tmp 23) x17 x25) fun y => some (y, G26)) G26) fun x27 G28 =>
  bP (pickV x16 (.bool true) x27) fun x29 =>
  ifV x29 (
  some ((.pointer none), G28)) (
  bP (pNil v0) fun x30 =>
  bP (fa Q q 158 0 0 x30) fun x31 =>
  bP (ld Q q 153 x31 G28) fun x32 =>
  bP (pNil x32) fun x33 =>
  bP (iaa Q q 156 4096 1 x33 v1) fun x34 =>
  some (x34, G28))
theorem m158 {e : Ex} {E : Ev} (h : ExLe Q e E) (v0 v1 : Value) (G : GS) : Ref (s158 true e v0 v1 G) (s158 false (Ex.of E) v0 v1 G) := by
  unfold s158
  exact Ref.gq
theorem f158 {orc : FuncId → Bool} {e : Ex} (h : ExLe Q e (E orc)) (v0 v1 : Value) (G : GS) : Ref (s158 true e v0 v1 G) ((E orc).cl 158 [v0, v1] G) :=
  fun r hr => cl_sxE_some Q orc (vs := [v0, v1]) G Tryz.func158 (by kernel_rfl) (by kernel_rfl) (by kernel_rfl) (by kernel_rfl) (by kernel_rfl) (by kernel_rfl) (m158 h v0 v1 G r hr)
noncomputable def jb159_0 (q : Bool) (e : Ex) (τ : Env) (G : GS) : Option (Value × GS) :=
  bV q (τ 0) fun a0_ =>
  bV q (τ 10) fun a10_ =>
  bP (pNil a0_) fun x28 =>
  bP (fa Q q 158 2 2 x28) fun x29 =>
  bP (lda Q q 68 5 x29 G) fun x30 =>
  bP (st Q q 68 5 a10_ x30 G) fun G31 =>
  bP (lda Q q 68 5 a10_ G31) fun x32 =>
  some (x32, G31)
noncomputable def j159_0 (q : Bool) (e : Ex) (τ : Env) (G : GS) : Option (Value × GS) := jb159_0 q e τ G
theorem mj159_0 {e : Ex} {E : Ev} (h : ExLe Q e E) (τ : Env) (G : GS) : Ref (j159_0 true e τ G) (j159_0 false (Ex.of E) τ G) := by
  unfold j159_0 jb159_0
  exact Ref.gq
theorem mkj159_0 {e : Ex} {E : Ev} (h : ExLe Q e E) {τ : Env} {l U : List (Nat × Value)} {G : GS} (hU : UOk τ U) : Ref (j159_0 true e (xq true 67 τ l U) G) (j159_0 false (Ex.of E) (xq false 67 τ l U) G) := by
  rw [xq_eq hU]
  exact mj159_0 h _ _
noncomputable def sb159 (q : Bool) (e : Ex) (J0 : Env → GS → Option (Value × GS)) (v0 v1 v2 v3 v4 : Value) (G : GS) : Option (Value × GS) :=
  bS (al Q q 68 z68 G) fun x0 G1 =>
  bP (ep Q q false 32 (.tmp 13) (.const (.pointer none)) v0 (.pointer none)) fun x2 =>
  bS (gd x2 false (some (v0, G1)) G1) fun x3 G4 =>
  bS (gd x2 false (bP (pNil x3) fun y => some (y, G4)) G4) fun x5 G6 =>
  bS (gd x2 false (bP (fa Q q 158 0 0 x5) fun y => some (y, G6)) G6) fun x7 G8 =>
  bS (gd x2 false (bP (ld Q q 153 x7 G8) fun y => some (y, G8)) G8) fun x9 G10 =>
  bS (gd x2 false (bP (ep Q q false 153 (.tmp 19) (.const (.pointer none)) x9 (.pointer none)) fun y => some (y, G10)) G10) fun x11 G12 =>
  bP (pickV x2 (.bool true) x11) fun x13 =>
  ifV x13 (
  bP (bd Q q 68 z68 [] []) fun x14 =>
  bP (st Q q 68 5 x0 x14 G12) fun G15 =>
  bP (lda Q q 68 5 x0 G15) fun x16 =>
  some (x16, G15)) (
  bP (pNil v0) fun x17 =>
  bP (fa Q q 158 3 7 x17) fun x18 =>
  bP (ld Q q 3 x18 G12) fun x19 =>
  bP (bn Q q .add 3 (.tmp 26) (.const (.int .i64 1)) x19 (.int .i64 1)) fun x20 =>
  bP (pNil v0) fun x21 =>
  bP (fa Q q 158 3 7 x21) fun x22 =>
  bP (st Q q 3 1 x22 x20 G12) fun G23 =>
  bP (bd Q q 68 z68 [(0, 0, 1), (1, 1, 1)] [v1, v2]) fun x24 =>
  bP (pNil v0) fun x25 =>
  bP (fa Q q 158 2 2 x25) fun x26 =>
  bP (st Q q 68 5 x26 x24 G23) fun G27 =>
  bS (e.ev.cl 248 [v3] G27) fun x33 G34 =>
  ifV x33 (
  bS (cValue e.ev v4 [] G34) fun x35 G36 =>
  bP (pExtract x35 0) fun x37 =>
  bP (pExtract x35 1) fun x38 =>
  bP (pNil v3) fun x39 =>
  bP (ld Q q 154 x39 G36) fun x40 =>
  bP (pNil v0) fun x41 =>
  bP (fa Q q 158 2 2 x41) fun x42 =>
  bP (fa Q q 68 2 2 x42) fun x43 =>
  bP (st Q q 41 1 x43 x40 G36) fun G44 =>
  bP (pNil v0) fun x45 =>
  bP (fa Q q 158 2 2 x45) fun x46 =>
  bP (fa Q q 68 3 3 x46) fun x47 =>
  bP (st Q q 41 1 x47 x37 G44) fun G48 =>
  bP (pNil v0) fun x49 =>
  bP (fa Q q 158 2 2 x49) fun x50 =>
  bP (fa Q q 68 4 4 x50) fun x51 =>
  bP (st Q q 4 1 x51 x38 G48) fun G52 =>
  bP (pNil v3) fun x53 =>
  bP (st Q q 154 1 x53 x37 G52) fun G54 =>
  J0 (xq q 67 (nth undef [v0, v1, v2, v3, v4]) [(62, x53), (61, x37), (60, v3), (59, x51), (58, x50), (57, x49), (56, x47), (55, x46), (54, x45), (53, x43), (52, x42), (51, x41), (50, x38), (49, x37), (48, x40), (47, x39), (46, v3), (45, v0), (44, v0), (43, v0), (12, x38), (11, x37), (42, x38), (41, x37), (38, x35), (40, x35), (39, v4), (37, x33), (36, v3), (35, x26), (34, x25), (33, x24), (32, v2), (31, v1), (30, v0), (29, x22), (28, x21), (27, x20), (26, x19), (25, x18), (24, x17), (23, v0), (21, x13), (20, x11), (19, x9), (18, x7), (17, x5), (16, x3), (15, x2), (14, x2), (13, v0), (10, x0)] []) G54) (
  J0 (xq q 67 (nth undef [v0, v1, v2, v3, v4]) [(37, x33), (36, v3), (35, x26), (34, x25), (33, x24), (32, v2), (31, v1), (30, v0), (29, x22), (28, x21), (27, x20), (26, x19), (25, x18), (24, x17), (23, v0), (21, x13), (20, x11), (19, x9), (18, x7), (17, x5), (16, x3), (15, x2), (14, x2), (13, v0), (10, x0)] []) G34))
/-- (*coxswain/cells.Mem).do -/
noncomputable def s159 (q : Bool) (e : Ex) (v0 v1 v2 v3 v4 : Value) (G : GS) : Option (Value × GS) := sb159 q e (j159_0 q e) v0 v1 v2 v3 v4 G
theorem m159 {e : Ex} {E : Ev} (h : ExLe Q e E) (v0 v1 v2 v3 v4 : Value) (G : GS) : Ref (s159 true e v0 v1 v2 v3 v4 G) (s159 false (Ex.of E) v0 v1 v2 v3 v4 G) := by
  unfold s159 sb159
  repeat' (with_reducible first | exact Ref.rfl' _ | exact ROp.r | refine Ref.bP ?_ fun _ => ?_ | refine Ref.bS ?_ fun _ _ => ?_ | exact Ref.cl (by assumption) | refine Ref.ifV ?_ ?_ | refine LpLe.rx (by assumption) ?_ | refine Ref.xitq ?_ | exact UOk.z | refine UOk.c (by assumption) ?_ | exact Ref.nil _ | refine Ref.bVe fun _ _ => ?_ | refine Ref.bLq (by assumption) ?_ fun _ _ _ => ?_ | refine Ref.ifE ?_ ?_ | refine Ref.chk ?_ ?_ | refine Imp.and ?_ ?_ | refine Imp.or ?_ | exact Imp.rfl' _ | refine Imp.sameO ?_ | refine Ref.gd ?_ | exact Ref.cValue (by assumption) | refine Ref.bX ?_ fun _ _ _ => ?_ | exact Ref.scQ (by assumption) | exact Ref.xRangeQ (by assumption) | exact Ref.cInvoke (by assumption) | refine mkj159_0 (by assumption) ?_)
noncomputable def jt159 (J0 : Env → GS → Option (Value × GS)) : JT (Value × GS) :=
  (.n none .e (.n none .e (.n none .e (.n none .e (.n (some (fun T G => J0 (nth undef T) G)) .e .e)))))
theorem jr159_0 (orc : FuncId → Bool) (J0 : Env → GS → Option (Value × GS)) (T : List Value) (G : GS) : runC Q (evL Q orc) Tryz.f159.ntmps (jt159 J0) (bodyOf Tryz.f159) (retE Q Tryz.f159.results.toList) [true, true, true, true] (nth undef T) G = jb159_0 false (Ex.of (E orc))  (nth undef T) G := by kernel_rfl
theorem jo159 (orc : FuncId → Bool) : JOk Q orc Tryz.f159.ntmps (jt159 (j159_0 false (Ex.of (E orc))) ) (bodyOf Tryz.f159) (retE Q Tryz.f159.results.toList) :=
  jOk Q orc (l := [([true, true, true, true], (fun T G => j159_0 false (Ex.of (E orc)) (nth undef T) G))]) (by kernel_rfl) (AllE.c (fun T G => jr159_0 orc (j159_0 false (Ex.of (E orc))) T G) (AllE.z))
theorem je159 (orc : FuncId → Bool) (J0 : Env → GS → Option (Value × GS)) (v0 v1 v2 v3 v4 : Value) (G : GS) : sxC Q (evL Q orc) Tryz.f159.ntmps (jt159 J0) (bodyOf Tryz.f159) (nth undef [v0, v1, v2, v3, v4]) G (retE Q Tryz.f159.results.toList) = sb159 false (Ex.of (E orc)) J0 v0 v1 v2 v3 v4 G := by kernel_rfl
theorem f159 {orc : FuncId → Bool} {e : Ex} (h : ExLe Q e (E orc)) (v0 v1 v2 v3 v4 : Value) (G : GS) : Ref (s159 true e v0 v1 v2 v3 v4 G) ((E orc).cl 159 [v0, v1, v2, v3, v4] G) :=
  fun r hr => cl_sxC Q orc (vs := [v0, v1, v2, v3, v4]) G (jt159 (j159_0 false (Ex.of (E orc))) ) Tryz.func159 (by kernel_rfl) (by kernel_rfl) (by kernel_rfl) (by kernel_rfl) (by kernel_rfl) (jo159 orc) (je159 orc (j159_0 false (Ex.of (E orc))) v0 v1 v2 v3 v4 G) (m159 h v0 v1 v2 v3 v4 G r hr)
/-- (coxswain/cells.deed).store -/
noncomputable def s160 (q : Bool) (e : Ex) (v0 : Value) (G : GS) : Option (Value × GS) :=
  bS (bx q v0 G) fun x0 G1 =>
  bP (fa Q q 246 1 1 x0) fun x2 =>
  bP (ld Q q 41 x2 G1) fun x3 =>
  some (.tuple #[x3, (.bool true)], G1)
theorem m160 {e : Ex} {E : Ev} (h : ExLe Q e E) (v0 : Value) (G : GS) : Ref (s160 true e v0 G) (s160 false (Ex.of E) v0 G) := by
  unfold s160
  exact Ref.gq
theorem f160 {orc : FuncId → Bool} {e : Ex} (h : ExLe Q e (E orc)) (v0 : Value) (G : GS) : Ref (s160 true e v0 G) ((E orc).cl 160 [v0] G) :=
  fun r hr => cl_sxE_some Q orc (vs := [v0]) G Tryz.func160 (by kernel_rfl) (by kernel_rfl) (by kernel_rfl) (by kernel_rfl) (by kernel_rfl) (by kernel_rfl) (m160 h v0 G r hr)
noncomputable def jb161_0 (q : Bool) (e : Ex) (τ : Env) (G : GS) : Option (Value × GS) :=
  bV q (τ 0) fun a0_ =>
  bV q (τ 2) fun a2_ =>
  bV q (τ 3) fun a3_ =>
  bP (pNil a0_) fun x36 =>
  bP (fa Q q 252 0 0 x36) fun x37 =>
  bP (ld Q q 111 x37 G) fun x38 =>
  bP (ias Q q 111 1 x38 a2_) fun x39 =>
  bP (ld Q q 41 x39 G) fun x40 =>
  bP (pNil a0_) fun x41 =>
  bP (fa Q q 252 1 1 x41) fun x42 =>
  bP (fa Q q 68 3 3 x42) fun x43 =>
  bP (st Q q 41 1 x43 x40 G) fun G44 =>
  bP (pNil a0_) fun x45 =>
  bP (fa Q q 252 1 1 x45) fun x46 =>
  bP (fa Q q 68 4 4 x46) fun x47 =>
  bP (st Q q 4 1 x47 a3_ G44) fun G48 =>
  some (.tuple #[], G48)
noncomputable def j161_0 (q : Bool) (e : Ex) (τ : Env) (G : GS) : Option (Value × GS) := jb161_0 q e τ G
theorem mj161_0 {e : Ex} {E : Ev} (h : ExLe Q e E) (τ : Env) (G : GS) : Ref (j161_0 true e τ G) (j161_0 false (Ex.of E) τ G) := by
  unfold j161_0 jb161_0
  exact Ref.gq
theorem mkj161_0 {e : Ex} {E : Ev} (h : ExLe Q e E) {τ : Env} {l U : List (Nat × Value)} {G : GS} (hU : UOk τ U) : Ref (j161_0 true e (xq true 69 τ l U) G) (j161_0 false (Ex.of E) (xq false 69 τ l U) G) := by
  rw [xq_eq hU]
  exact mj161_0 h _ _
noncomputable def sb161 (q : Bool) (e : Ex) (J0 : Env → GS → Option (Value × GS)) (v0 v1 v2 v3 v4 : Value) (G : GS) : Option (Value × GS) :=
  bP (pNil v0) fun x0 =>
  bP (fa Q q 252 2 6 x0) fun x1 =>
  bP (ld Q q 3 x1 G) fun x2 =>
  bP (bn Q q .add 3 (.tmp 13) (.const (.int .i64 1)) x2 (.int .i64 1)) fun x3 =>
  bP (pNil v0) fun x4 =>
  bP (fa Q q 252 2 6 x4) fun x5 =>
  bP (st Q q 3 1 x5 x3 G) fun G6 =>
  bP (bd Q q 68 z68 [(0, 0, 1), (1, 1, 1)] [v1, v2]) fun x7 =>
  bP (pNil v0) fun x8 =>
  bP (fa Q q 252 1 1 x8) fun x9 =>
  bP (st Q q 68 5 x9 x7 G6) fun G10 =>
  bP (bn Q q .lss 3 (.tmp 23) (.const (.int .i64 0)) v2 (.int .i64 0)) fun x11 =>
  bS (gd x11 false (some (v2, G10)) G10) fun x12 G13 =>
  bS (gd x11 false (some (v0, G13)) G13) fun x14 G15 =>
  bS (gd x11 false (bP (pNil x14) fun y => some (y, G15)) G15) fun x16 G17 =>
  bS (gd x11 false (bP (fa Q q 252 0 0 x16) fun y => some (y, G17)) G17) fun x18 G19 =>
  bS (gd x11 false (bP (ld Q q 111 x18 G19) fun y => some (y, G19)) G19) fun x20 G21 =>
  bS (gd x11 false (bP (ln Q q 111 x20) fun y => some (y, G21)) G21) fun x22 G23 =>
  bS (gd x11 false (bP (bn Q q .geq 3 (.tmp 26) (.tmp 31) x12 x22) fun y => some (y, G23)) G23) fun x24 G25 =>
  bP (pickV x11 (.bool true) x24) fun x26 =>
  ifV x26 (
  some (.tuple #[], G25)) (
  bP (pNil v0) fun x27 =>
  bP (fa Q q 252 0 0 x27) fun x28 =>
  bP (ld Q q 111 x28 G25) fun x29 =>
  bP (ias Q q 111 1 x29 v2) fun x30 =>
  bP (ld Q q 41 x30 G25) fun x31 =>
  bP (pNil v0) fun x32 =>
  bP (fa Q q 252 1 1 x32) fun x33 =>
  bP (fa Q q 68 2 2 x33) fun x34 =>
  bP (st Q q 41 1 x34 x31 G25) fun G35 =>
  ifV v3 (
  bP (pNil v0) fun x49 =>
  bP (fa Q q 252 0 0 x49) fun x50 =>
  bP (ld Q q 111 x50 G35) fun x51 =>
  bP (ias Q q 111 1 x51 v2) fun x52 =>
  bP (st Q q 41 1 x52 v4 G35) fun G53 =>
  J0 (xq q 69 (nth undef [v0, v1, v2, v3, v4]) [(52, x52), (51, v4), (50, v2), (49, x51), (48, x50), (47, x49), (46, v0), (45, v3), (44, x34), (43, x33), (42, x32), (41, x31), (40, x30), (39, v2), (38, x29), (37, x28), (36, x27), (35, v0), (34, v0), (33, x26), (32, x24), (31, x22), (30, x20), (29, x18), (28, x16), (27, x14), (26, x12), (25, x11), (24, x11), (23, v2), (22, x9), (21, x8), (20, x7), (19, v2), (18, v1), (17, v0), (16, x5), (15, x4), (14, x3), (13, x2), (12, x1), (11, x0), (10, v0)] []) G53) (
  J0 (xq q 69 (nth undef [v0, v1, v2, v3, v4]) [(45, v3), (44, x34), (43, x33), (42, x32), (41, x31), (40, x30), (39, v2), (38, x29), (37, x28), (36, x27), (35, v0), (34, v0), (33, x26), (32, x24), (31, x22), (30, x20), (29, x18), (28, x16), (27, x14), (26, x12), (25, x11), (24, x11), (23, v2), (22, x9), (21, x8), (20, x7), (19, v2), (18, v1), (17, v0), (16, x5), (15, x4), (14, x3), (13, x2), (12, x1), (11, x0), (10, v0)] []) G35))
/-- (*coxswain/coxswainref02.Mem).access -/
noncomputable def s161 (q : Bool) (e : Ex) (v0 v1 v2 v3 v4 : Value) (G : GS) : Option (Value × GS) := sb161 q e (j161_0 q e) v0 v1 v2 v3 v4 G
theorem m161 {e : Ex} {E : Ev} (h : ExLe Q e E) (v0 v1 v2 v3 v4 : Value) (G : GS) : Ref (s161 true e v0 v1 v2 v3 v4 G) (s161 false (Ex.of E) v0 v1 v2 v3 v4 G) := by
  unfold s161 sb161
  repeat' (with_reducible first | exact Ref.rfl' _ | exact ROp.r | refine Ref.bP ?_ fun _ => ?_ | refine Ref.bS ?_ fun _ _ => ?_ | exact Ref.cl (by assumption) | refine Ref.ifV ?_ ?_ | refine LpLe.rx (by assumption) ?_ | refine Ref.xitq ?_ | exact UOk.z | refine UOk.c (by assumption) ?_ | exact Ref.nil _ | refine Ref.bVe fun _ _ => ?_ | refine Ref.bLq (by assumption) ?_ fun _ _ _ => ?_ | refine Ref.ifE ?_ ?_ | refine Ref.chk ?_ ?_ | refine Imp.and ?_ ?_ | refine Imp.or ?_ | exact Imp.rfl' _ | refine Imp.sameO ?_ | refine Ref.gd ?_ | exact Ref.cValue (by assumption) | refine Ref.bX ?_ fun _ _ _ => ?_ | exact Ref.scQ (by assumption) | exact Ref.xRangeQ (by assumption) | exact Ref.cInvoke (by assumption) | refine mkj161_0 (by assumption) ?_)
noncomputable def jt161 (J0 : Env → GS → Option (Value × GS)) : JT (Value × GS) :=
  (.n none .e (.n none .e (.n none .e (.n none .e (.n (some (fun T G => J0 (nth undef T) G)) .e .e)))))
theorem jr161_0 (orc : FuncId → Bool) (J0 : Env → GS → Option (Value × GS)) (T : List Value) (G : GS) : runC Q (evL Q orc) Tryz.f161.ntmps (jt161 J0) (bodyOf Tryz.f161) (retE Q Tryz.f161.results.toList) [true, true, true, true] (nth undef T) G = jb161_0 false (Ex.of (E orc))  (nth undef T) G := by kernel_rfl
theorem jo161 (orc : FuncId → Bool) : JOk Q orc Tryz.f161.ntmps (jt161 (j161_0 false (Ex.of (E orc))) ) (bodyOf Tryz.f161) (retE Q Tryz.f161.results.toList) :=
  jOk Q orc (l := [([true, true, true, true], (fun T G => j161_0 false (Ex.of (E orc)) (nth undef T) G))]) (by kernel_rfl) (AllE.c (fun T G => jr161_0 orc (j161_0 false (Ex.of (E orc))) T G) (AllE.z))
theorem je161 (orc : FuncId → Bool) (J0 : Env → GS → Option (Value × GS)) (v0 v1 v2 v3 v4 : Value) (G : GS) : sxC Q (evL Q orc) Tryz.f161.ntmps (jt161 J0) (bodyOf Tryz.f161) (nth undef [v0, v1, v2, v3, v4]) G (retE Q Tryz.f161.results.toList) = sb161 false (Ex.of (E orc)) J0 v0 v1 v2 v3 v4 G := by kernel_rfl
theorem f161 {orc : FuncId → Bool} {e : Ex} (h : ExLe Q e (E orc)) (v0 v1 v2 v3 v4 : Value) (G : GS) : Ref (s161 true e v0 v1 v2 v3 v4 G) ((E orc).cl 161 [v0, v1, v2, v3, v4] G) :=
  fun r hr => cl_sxC Q orc (vs := [v0, v1, v2, v3, v4]) G (jt161 (j161_0 false (Ex.of (E orc))) ) Tryz.func161 (by kernel_rfl) (by kernel_rfl) (by kernel_rfl) (by kernel_rfl) (by kernel_rfl) (jo161 orc) (je161 orc (j161_0 false (Ex.of (E orc))) v0 v1 v2 v3 v4 G) (m161 h v0 v1 v2 v3 v4 G r hr)
/-- coxswain/coxswainkit.CopyWords -/
noncomputable def s166 (q : Bool) (e : Ex) (v0 : Value) (G : GS) : Option (Value × GS) :=
  bS (bs Q q 111 0 (rep z41 0) 1 [] [] G) fun x0 G1 =>
  bS (ap Q q 111 111 1 8 x0 v0 G1) fun x2 G3 =>
  some (x2, G3)
theorem m166 {e : Ex} {E : Ev} (h : ExLe Q e E) (v0 : Value) (G : GS) : Ref (s166 true e v0 G) (s166 false (Ex.of E) v0 G) := by
  unfold s166
  exact Ref.gq
theorem f166 {orc : FuncId → Bool} {e : Ex} (h : ExLe Q e (E orc)) (v0 : Value) (G : GS) : Ref (s166 true e v0 G) ((E orc).cl 166 [v0] G) :=
  fun r hr => cl_sxE_some Q orc (vs := [v0]) G Tryz.func166 (by kernel_rfl) (by kernel_rfl) (by kernel_rfl) (by kernel_rfl) (by kernel_rfl) (by kernel_rfl) (m166 h v0 G r hr)
/-- coxswain/stack.Fits -/
noncomputable def s167 (q : Bool) (e : Ex) (v0 v1 : Value) (G : GS) : Option (Value × GS) :=
  bS (bx q v0 G) fun x0 G1 =>
  bP (bn Q q .lss 3 (.tmp 5) (.const (.int .i64 1)) v1 (.int .i64 1)) fun x2 =>
  bS (gd x2 false (some (v1, G1)) G1) fun x3 G4 =>
  bS (gd x2 false (bP (bn Q q .gtr 3 (.tmp 8) (.const (.int .i64 4096)) x3 (.int .i64 4096)) fun y => some (y, G4)) G4) fun x5 G6 =>
  bP (pickV x2 (.bool true) x5) fun x7 =>
  ifV x7 (
  some ((.int .i64 3), G6)) (
  bP (lda Q q 23 3 x0 G6) fun x8 =>
  bS (e.ev.cl 254 [x8] G6) fun x9 G10 =>
  bP (un Q q .not x9) fun x11 =>
  bS (gd x11 false (bP (fa Q q 23 0 0 x0) fun y => some (y, G10)) G10) fun x12 G13 =>
  bS (gd x11 false (bP (ld Q q 3 x12 G13) fun y => some (y, G13)) G13) fun x14 G15 =>
  bS (gd x11 false (bP (bn Q q .lss 3 (.tmp 16) (.const (.int .i64 0)) x14 (.int .i64 0)) fun y => some (y, G15)) G15) fun x16 G17 =>
  bP (pickV x11 (.bool true) x16) fun x18 =>
  bS (gd x18 false (bP (fa Q q 23 0 0 x0) fun y => some (y, G17)) G17) fun x19 G20 =>
  bS (gd x18 false (bP (ld Q q 3 x19 G20) fun y => some (y, G20)) G20) fun x21 G22 =>
  bS (gd x18 false (some (v1, G22)) G22) fun x23 G24 =>
  bS (gd x18 false (bP (bn Q q .geq 3 (.tmp 21) (.tmp 22) x21 x23) fun y => some (y, G24)) G24) fun x25 G26 =>
  bP (pickV x18 (.bool true) x25) fun x27 =>
  bS (gd x27 false (bP (fa Q q 23 1 1 x0) fun y => some (y, G26)) G26) fun x28 G29 =>
  bS (gd x27 false (bP (ld Q q 3 x28 G29) fun y => some (y, G29)) G29) fun x30 G31 =>
  bS (gd x27 false (bP (bn Q q .lss 3 (.tmp 27) (.const (.int .i64 0)) x30 (.int .i64 0)) fun y => some (y, G31)) G31) fun x32 G33 =>
  bP (pickV x27 (.bool true) x32) fun x34 =>
  bS (gd x34 false (bP (fa Q q 23 1 1 x0) fun y => some (y, G33)) G33) fun x35 G36 =>
  bS (gd x34 false (bP (ld Q q 3 x35 G36) fun y => some (y, G36)) G36) fun x37 G38 =>
  bS (gd x34 false (some (v1, G38)) G38) fun x39 G40 =>
  bS (gd x34 false (bP (fa Q q 23 2 2 x0) fun y => some (y, G40)) G40) fun x41 G42 =>
  bS (gd x34 false (bP (ld Q q 3 x41 G42) fun y => some (y, G42)) G42) fun x43 G44 =>
  bS (gd x34 false (bP (bn Q q .sub 3 (.tmp 33) (.tmp 35) x39 x43) fun y => some (y, G44)) G44) fun x45 G46 =>
  bS (gd x34 false (bP (bn Q q .gtr 3 (.tmp 32) (.tmp 36) x37 x45) fun y => some (y, G46)) G46) fun x47 G48 =>
  bP (pickV x34 (.bool true) x47) fun x49 =>
  bS (gd x49 false (bP (fa Q q 23 0 0 x0) fun y => some (y, G48)) G48) fun x50 G51 =>
  bS (gd x49 false (bP (ld Q q 3 x50 G51) fun y => some (y, G51)) G51) fun x52 G53 =>
  bS (gd x49 false (bP (fa Q q 23 1 1 x0) fun y => some (y, G53)) G53) fun x54 G55 =>
  bS (gd x49 false (bP (ld Q q 3 x54 G55) fun y => some (y, G55)) G55) fun x56 G57 =>
  bS (gd x49 false (bP (bn Q q .geq 3 (.tmp 41) (.tmp 43) x52 x56) fun y => some (y, G57)) G57) fun x58 G59 =>
  bS (gd x49 false (some (x58, G59)) G59) fun x60 G61 =>
  bS (gd x60 true (bP (fa Q q 23 0 0 x0) fun y => some (y, G61)) G61) fun x62 G63 =>
  bS (gd x60 true (bP (ld Q q 3 x62 G63) fun y => some (y, G63)) G63) fun x64 G65 =>
  bS (gd x60 true (bP (fa Q q 23 1 1 x0) fun y => some (y, G65)) G65) fun x66 G67 =>
  bS (gd x60 true (bP (ld Q q 3 x66 G67) fun y => some (y, G67)) G67) fun x68 G69 =>
  bS (gd x60 true (bP (fa Q q 23 2 2 x0) fun y => some (y, G69)) G69) fun x70 G71 =>
  bS (gd x60 true (bP (ld Q q 3 x70 G71) fun y => some (y, G71)) G71) fun x72 G73 =>
  bS (gd x60 true (bP (bn Q q .add 3 (.tmp 49) (.tmp 51) x68 x72) fun y => some (y, G73)) G73) fun x74 G75 =>
  bS (gd x60 true (bP (bn Q q .lss 3 (.tmp 47) (.tmp 52) x64 x74) fun y => some (y, G75)) G75) fun x76 G77 =>
  bS (gd x49 false (bP (pickV x60 x76 (.bool false)) fun y => some (y, G77)) G77) fun x78 G79 =>
  bP (pickV x49 (.bool true) x78) fun x80 =>
  ifV x80 (
  some ((.int .i64 2), G79)) (
  some ((.int .i64 0), G79)))
theorem m167 {e : Ex} {E : Ev} (h : ExLe Q e E) (v0 v1 : Value) (G : GS) : Ref (s167 true e v0 v1 G) (s167 false (Ex.of E) v0 v1 G) := by
  unfold s167
  exact Ref.gq
theorem f167 {orc : FuncId → Bool} {e : Ex} (h : ExLe Q e (E orc)) (v0 v1 : Value) (G : GS) : Ref (s167 true e v0 v1 G) ((E orc).cl 167 [v0, v1] G) :=
  fun r hr => cl_sxE_some Q orc (vs := [v0, v1]) G Tryz.func167 (by kernel_rfl) (by kernel_rfl) (by kernel_rfl) (by kernel_rfl) (by kernel_rfl) (by kernel_rfl) (m167 h v0 v1 G r hr)
/-- coxswain/arena.counted -/
noncomputable def s168 (q : Bool) (e : Ex) (v0 v1 : Value) (G : GS) : Option (Value × GS) :=
  bS (bx q v0 G) fun x0 G1 =>
  bS (bx q v1 G1) fun x2 G3 =>
  bS (al Q q 3 z3 G3) fun x4 G5 =>
  bP (st Q q 3 1 x4 (.int .i64 0) G5) fun G6 =>
  some ((.func (.func 255) #[] #[x4, x2, x0]), G6)
theorem m168 {e : Ex} {E : Ev} (h : ExLe Q e E) (v0 v1 : Value) (G : GS) : Ref (s168 true e v0 v1 G) (s168 false (Ex.of E) v0 v1 G) := by
  unfold s168
  exact Ref.gq
theorem f168 {orc : FuncId → Bool} {e : Ex} (h : ExLe Q e (E orc)) (v0 v1 : Value) (G : GS) : Ref (s168 true e v0 v1 G) ((E orc).cl 168 [v0, v1] G) :=
  fun r hr => cl_sxE_some Q orc (vs := [v0, v1]) G Tryz.func168 (by kernel_rfl) (by kernel_rfl) (by kernel_rfl) (by kernel_rfl) (by kernel_rfl) (by kernel_rfl) (m168 h v0 v1 G r hr)
/-- coxswain/coxswainref10.Fits -/
noncomputable def s169 (q : Bool) (e : Ex) (v0 v1 : Value) (G : GS) : Option (Value × GS) :=
  bS (bx q v0 G) fun x0 G1 =>
  bP (bn Q q .lss 3 (.tmp 5) (.const (.int .i64 1)) v1 (.int .i64 1)) fun x2 =>
  bS (gd x2 false (some (v1, G1)) G1) fun x3 G4 =>
  bS (gd x2 false (bP (bn Q q .gtr 3 (.tmp 8) (.const (.int .i64 4096)) x3 (.int .i64 4096)) fun y => some (y, G4)) G4) fun x5 G6 =>
  bP (pickV x2 (.bool true) x5) fun x7 =>
  ifV x7 (
  some ((.int .i64 3), G6)) (
  bP (fa Q q 23 2 2 x0) fun x8 =>
  bP (ld Q q 3 x8 G6) fun x9 =>
  bP (bn Q q .lss 3 (.tmp 12) (.const (.int .i64 1)) x9 (.int .i64 1)) fun x10 =>
  bS (gd x10 false (bP (fa Q q 23 2 2 x0) fun y => some (y, G6)) G6) fun x11 G12 =>
  bS (gd x10 false (bP (ld Q q 3 x11 G12) fun y => some (y, G12)) G12) fun x13 G14 =>
  bS (gd x10 false (bP (bn Q q .gtr 3 (.tmp 16) (.const (.int .i64 4096)) x13 (.int .i64 4096)) fun y => some (y, G14)) G14) fun x15 G16 =>
  bP (pickV x10 (.bool true) x15) fun x17 =>
  bS (gd x17 false (bP (fa Q q 23 0 0 x0) fun y => some (y, G16)) G16) fun x18 G19 =>
  bS (gd x17 false (bP (ld Q q 3 x18 G19) fun y => some (y, G19)) G19) fun x20 G21 =>
  bS (gd x17 false (bP (bn Q q .lss 3 (.tmp 21) (.const (.int .i64 0)) x20 (.int .i64 0)) fun y => some (y, G21)) G21) fun x22 G23 =>
  bP (pickV x17 (.bool true) x22) fun x24 =>
  bS (gd x24 false (bP (fa Q q 23 0 0 x0) fun y => some (y, G23)) G23) fun x25 G26 =>
  bS (gd x24 false (bP (ld Q q 3 x25 G26) fun y => some (y, G26)) G26) fun x27 G28 =>
  bS (gd x24 false (some (v1, G28)) G28) fun x29 G30 =>
  bS (gd x24 false (bP (bn Q q .geq 3 (.tmp 26) (.tmp 27) x27 x29) fun y => some (y, G30)) G30) fun x31 G32 =>
  bP (pickV x24 (.bool true) x31) fun x33 =>
  bS (gd x33 false (bP (fa Q q 23 1 1 x0) fun y => some (y, G32)) G32) fun x34 G35 =>
  bS (gd x33 false (bP (ld Q q 3 x34 G35) fun y => some (y, G35)) G35) fun x36 G37 =>
  bS (gd x33 false (bP (bn Q q .lss 3 (.tmp 32) (.const (.int .i64 0)) x36 (.int .i64 0)) fun y => some (y, G37)) G37) fun x38 G39 =>
  bP (pickV x33 (.bool true) x38) fun x40 =>
  bS (gd x40 false (bP (fa Q q 23 1 1 x0) fun y => some (y, G39)) G39) fun x41 G42 =>
  bS (gd x40 false (bP (ld Q q 3 x41 G42) fun y => some (y, G42)) G42) fun x43 G44 =>
  bS (gd x40 false (some (v1, G44)) G44) fun x45 G46 =>
  bS (gd x40 false (bP (fa Q q 23 2 2 x0) fun y => some (y, G46)) G46) fun x47 G48 =>
  bS (gd x40 false (bP (ld Q q 3 x47 G48) fun y => some (y, G48)) G48) fun x49 G50 =>
  bS (gd x40 false (bP (bn Q q .sub 3 (.tmp 38) (.tmp 40) x45 x49) fun y => some (y, G50)) G50) fun x51 G52 =>
  bS (gd x40 false (bP (bn Q q .gtr 3 (.tmp 37) (.tmp 41) x43 x51) fun y => some (y, G52)) G52) fun x53 G54 =>
  bP (pickV x40 (.bool true) x53) fun x55 =>
  bS (gd x55 false (bP (fa Q q 23 0 0 x0) fun y => some (y, G54)) G54) fun x56 G57 =>
  bS (gd x55 false (bP (ld Q q 3 x56 G57) fun y => some (y, G57)) G57) fun x58 G59 =>
  bS (gd x55 false (bP (fa Q q 23 1 1 x0) fun y => some (y, G59)) G59) fun x60 G61 =>
  bS (gd x55 false (bP (ld Q q 3 x60 G61) fun y => some (y, G61)) G61) fun x62 G63 =>
  bS (gd x55 false (bP (bn Q q .geq 3 (.tmp 46) (.tmp 48) x58 x62) fun y => some (y, G63)) G63) fun x64 G65 =>
  bS (gd x55 false (some (x64, G65)) G65) fun x66 G67 =>
  bS (gd x66 true (bP (fa Q q 23 0 0 x0) fun y => some (y, G67)) G67) fun x68 G69 =>
  bS (gd x66 true (bP (ld Q q 3 x68 G69) fun y => some (y, G69)) G69) fun x70 G71 =>
  bS (gd x66 true (bP (fa Q q 23 1 1 x0) fun y => some (y, G71)) G71) fun x72 G73 =>
  bS (gd x66 true (bP (ld Q q 3 x72 G73) fun y => some (y, G73)) G73) fun x74 G75 =>
  bS (gd x66 true (bP (fa Q q 23 2 2 x0) fun y => some (y, G75)) G75) fun x76 G77 =>
  bS (gd x66 true (bP (ld Q q 3 x76 G77) fun y => some (y, G77)) G77) fun x78 G79 =>
  bS (gd x66 true (bP (bn Q q .add 3 (.tmp 54) (.tmp 56) x74 x78) fun y => some (y, G79)) G79) fun x80 G81 =>
  bS (gd x66 true (bP (bn Q q .lss 3 (.tmp 52) (.tmp 57) x70 x80) fun y => some (y, G81)) G81) fun x82 G83 =>
  bS (gd x55 false (bP (pickV x66 x82 (.bool false)) fun y => some (y, G83)) G83) fun x84 G85 =>
  bP (pickV x55 (.bool true) x84) fun x86 =>
  ifV x86 (
  some ((.int .i64 2), G85)) (
  some ((.int .i64 0), G85)))
theorem m169 {e : Ex} {E : Ev} (h : ExLe Q e E) (v0 v1 : Value) (G : GS) : Ref (s169 true e v0 v1 G) (s169 false (Ex.of E) v0 v1 G) := by
  unfold s169
  exact Ref.gq
theorem f169 {orc : FuncId → Bool} {e : Ex} (h : ExLe Q e (E orc)) (v0 v1 : Value) (G : GS) : Ref (s169 true e v0 v1 G) ((E orc).cl 169 [v0, v1] G) :=
  fun r hr => cl_sxE_some Q orc (vs := [v0, v1]) G Tryz.func169 (by kernel_rfl) (by kernel_rfl) (by kernel_rfl) (by kernel_rfl) (by kernel_rfl) (by kernel_rfl) (m169 h v0 v1 G r hr)
noncomputable def b170_0 (q : Bool) (e : Ex) (lp : Env → GS → Option (Exit × Env × GS)) (τ : Env) (G : GS) : Option (Exit × Env × GS) :=
  bV q (τ 1) fun a1_ =>
  bV q (τ 3) fun a3_ =>
  bV q (τ 4) fun a4_ =>
  bP (fa Q q 25 0 0 a1_) fun x0 =>
  bP (fa Q q 23 2 2 x0) fun x1 =>
  bP (ld Q q 3 x1 G) fun x2 =>
  bP (bn Q q .lss 3 (.tmp 11) (.tmp 14) a4_ x2) fun x3 =>
  ifV x3 (
  bP (fa Q q 25 0 0 a1_) fun x4 =>
  bP (fa Q q 23 1 1 x4) fun x5 =>
  bP (ld Q q 3 x5 G) fun x6 =>
  bP (bn Q q .add 3 (.tmp 21) (.tmp 22) x6 a4_) fun x7 =>
  bP (fa Q q 25 1 3 a1_) fun x8 =>
  bP (ld Q q 3 x8 G) fun x9 =>
  bP (bn Q q .add 3 (.tmp 25) (.tmp 26) x9 a4_) fun x10 =>
  bS (bs Q q 78 2 (rep z3 2) 1 [(0, 0, 1), (1, 1, 1)] [x7, x10] G) fun x11 G12 =>
  bS (ap Q q 78 78 1 8 a3_ x11 G12) fun x13 G14 =>
  bP (bn Q q .add 3 (.tmp 16) (.const (.int .i64 1)) a4_ (.int .i64 1)) fun x15 =>
  lp (xq q 31 τ [(4, x15), (17, x15), (16, a4_), (3, x13), (29, x13), (28, x11), (27, x10), (26, a4_), (25, x9), (24, x8), (23, x7), (22, a4_), (21, x6), (20, x5), (19, x4), (18, a3_), (15, x3), (14, x2), (13, x1), (12, x0), (11, a4_)] [(1, a1_)]) G14) (
  some ((.exit 0), xq q 31 τ [(15, x3), (14, x2), (13, x1), (12, x0), (11, a4_)] [(1, a1_), (3, a3_), (4, a4_)], G))
theorem mb170_0 {e : Ex} {E : Ev} (h : ExLe Q e E) {lp lp' : Env → GS → Option (Exit × Env × GS)} (hlp : LpLe lp lp') (τ : Env) (G : GS) : Ref (b170_0 true e lp τ G) (b170_0 false (Ex.of E) lp' τ G) := by
  unfold b170_0
  exact Ref.gq
theorem l170_0 {orc : FuncId → Bool} {e : Ex} (h : ExLe Q e (E orc)) (lp : Env → GS → Option (Exit × Env × GS)) (hlp : ∀ τ G, Ref (lp τ G) (mapE ((E orc).lp (subAt [1, 1, 0, 1, 0, 0] (bodyOf Tryz.f170)) (lst 31 τ) G))) (T : List Value) (G : GS) (hT : T.length = 31) : Ref (b170_0 true e lp (nth undef T) G) (mapE ((E orc).lp (subAt [1, 1, 0, 1, 0, 0] (bodyOf Tryz.f170)) T G)) :=
  fun r hr => lp_sxN Q orc G hT (by kernel_rfl) (mb170_0 h ⟨hlp⟩ _ _ r hr)
/-- coxswain/coxswainref11.Cells -/
noncomputable def s170 (q : Bool) (e : Ex) (v0 : Value) (G : GS) : Option (Value × GS) :=
  bS (bx q v0 G) fun x0 G1 =>
  bP (fa Q q 25 0 0 x0) fun x2 =>
  bP (fa Q q 23 0 0 x2) fun x3 =>
  bP (ld Q q 3 x3 G1) fun x4 =>
  bP (fa Q q 25 2 4 x0) fun x5 =>
  bP (ld Q q 3 x5 G1) fun x6 =>
  bS (bs Q q 78 2 (rep z3 2) 1 [(0, 0, 1), (1, 1, 1)] [x4, x6] G1) fun x7 G8 =>
  bLq q e 170 0 (subAt [1, 1, 0, 1, 0, 0] (bodyOf Tryz.f170)) 31 (nth undef [v0]) [(4, (.int .i64 0)), (3, x7), (10, x7), (9, x6), (8, x5), (7, x4), (6, x3), (5, x2), (2, (.slice none 0 0)), (1, x0)] [] G8 fun e9 t10 G11 =>
  bV q (t10 3) fun t10x3_ =>
  ifE e9 (.exit 0) (
  some (t10x3_, G11)) (none)
theorem m170 {e : Ex} {E : Ev} (h : ExLe Q e E) (v0 : Value) (G : GS) : Ref (s170 true e v0 G) (s170 false (Ex.of E) v0 G) := by
  unfold s170
  exact Ref.gq
theorem f170 {orc : FuncId → Bool} {e : Ex} (h : ExLe Q e (E orc)) (v0 : Value) (G : GS) : Ref (s170 true e v0 G) ((E orc).cl 170 [v0] G) :=
  fun r hr => cl_sxE_some Q orc (vs := [v0]) G Tryz.func170 (by kernel_rfl) (by kernel_rfl) (by kernel_rfl) (by kernel_rfl) (by kernel_rfl) (by kernel_rfl) (m170 h v0 G r hr)
noncomputable def b171_0 (q : Bool) (e : Ex) (lp : Env → GS → Option (Exit × Env × GS)) (τ : Env) (G : GS) : Option (Exit × Env × GS) :=
  bV q (τ 1) fun a1_ =>
  bV q (τ 2) fun a2_ =>
  bV q (τ 18) fun a18_ =>
  bV q (τ 19) fun a19_ =>
  bP (bn Q q .lss 3 (.tmp 19) (.tmp 18) a19_ a18_) fun x0 =>
  ifV x0 (
  bP (fa Q q 25 1 3 a2_) fun x1 =>
  bP (ld Q q 3 x1 G) fun x2 =>
  bP (bn Q q .add 3 (.tmp 24) (.tmp 25) x2 a19_) fun x3 =>
  bS (e.ev.cl 45 [a1_, x3, (.int .u64 1)] G) fun x4 G5 =>
  bP (bn Q q .add 3 (.tmp 19) (.const (.int .i64 1)) a19_ (.int .i64 1)) fun x6 =>
  lp (xq q 29 τ [(19, x6), (28, x6), (27, x4), (26, x3), (25, a19_), (24, x2), (23, x1), (22, a1_), (4, a19_), (21, a19_), (20, x0)] [(1, a1_), (2, a2_), (18, a18_)]) G5) (
  some ((.exit 0), xq q 29 τ [(20, x0)] [(1, a1_), (2, a2_), (18, a18_), (19, a19_)], G))
theorem mb171_0 {e : Ex} {E : Ev} (h : ExLe Q e E) {lp lp' : Env → GS → Option (Exit × Env × GS)} (hlp : LpLe lp lp') (τ : Env) (G : GS) : Ref (b171_0 true e lp τ G) (b171_0 false (Ex.of E) lp' τ G) := by
  unfold b171_0
  exact Ref.gq
theorem l171_0 {orc : FuncId → Bool} {e : Ex} (h : ExLe Q e (E orc)) (lp : Env → GS → Option (Exit × Env × GS)) (hlp : ∀ τ G, Ref (lp τ G) (mapE ((E orc).lp (subAt [1, 1, 1, 1, 1, 0, 0] (bodyOf Tryz.f171)) (lst 29 τ) G))) (T : List Value) (G : GS) (hT : T.length = 29) : Ref (b171_0 true e lp (nth undef T) G) (mapE ((E orc).lp (subAt [1, 1, 1, 1, 1, 0, 0] (bodyOf Tryz.f171)) T G)) :=
  fun r hr => lp_sxN Q orc G hT (by kernel_rfl) (mb171_0 h ⟨hlp⟩ _ _ r hr)
/-- coxswain/arena.Fill -/
noncomputable def s171 (q : Bool) (e : Ex) (v0 v1 : Value) (G : GS) : Option (Value × GS) :=
  bS (bx q v0 G) fun x0 G1 =>
  bP (lda Q q 25 6 x0 G1) fun x2 =>
  bS (e.ev.cl 256 [x2] G1) fun x3 G4 =>
  bP (un Q q .not x3) fun x5 =>
  ifV x5 (
  some (.tuple #[], G4)) (
  bP (fa Q q 25 0 0 x0) fun x6 =>
  bP (lda Q q 23 3 x6 G4) fun x7 =>
  bS (e.ev.cl 257 [x7, v1] G4) fun x8 G9 =>
  bP (fa Q q 25 2 4 x0) fun x10 =>
  bP (ld Q q 3 x10 G9) fun x11 =>
  bS (e.ev.cl 45 [v1, x11, (.int .u64 0)] G9) fun x12 G13 =>
  bP (fa Q q 25 0 0 x0) fun x14 =>
  bP (fa Q q 23 2 2 x14) fun x15 =>
  bP (ld Q q 3 x15 G13) fun x16 =>
  bLq q e 171 0 (subAt [1, 1, 1, 1, 1, 0, 0] (bodyOf Tryz.f171)) 29 (nth undef [v0, v1]) [(19, (.int .i64 0)), (18, x16), (17, x15), (16, x14), (15, x12), (14, x11), (13, x10), (12, v1), (11, x8), (10, v1), (9, x7), (8, x6), (7, x5), (6, x3), (5, x2), (2, x0)] [] G13 fun e17 t18 G19 =>
  ifE e17 (.exit 0) (
  some (.tuple #[], G19)) (none))
theorem m171 {e : Ex} {E : Ev} (h : ExLe Q e E) (v0 v1 : Value) (G : GS) : Ref (s171 true e v0 v1 G) (s171 false (Ex.of E) v0 v1 G) := by
  unfold s171
  exact Ref.gq
theorem f171 {orc : FuncId → Bool} {e : Ex} (h : ExLe Q e (E orc)) (v0 v1 : Value) (G : GS) : Ref (s171 true e v0 v1 G) ((E orc).cl 171 [v0, v1] G) :=
  fun r hr => cl_sxE_some Q orc (vs := [v0, v1]) G Tryz.func171 (by kernel_rfl) (by kernel_rfl) (by kernel_rfl) (by kernel_rfl) (by kernel_rfl) (by kernel_rfl) (m171 h v0 v1 G r hr)
/-- coxswain/arena.NewAlloc -/
noncomputable def s173 (q : Bool) (e : Ex) (v0 : Value) (G : GS) : Option (Value × GS) :=
  bS (bx q v0 G) fun x0 G1 =>
  bP (fa Q q 25 0 0 x0) fun x2 =>
  bP (lda Q q 23 3 x2 (G1.room 7)) fun x3 =>
  bS (e.ev.cl 258 [x3] (G1.room 7)) fun x5 G4 =>
  bP (lda Q q 25 6 x0 G4) fun x6 =>
  chk ((sameO (lda Q q 25 6 x0 (G1.room 7)) x6 && true)) <|
  bP (bd Q q 375 z375 [(0, 0, 1), (1, 1, 6), (2, 7, 1), (3, 8, 1)] [x5, x6, (.bool true), (.func (.func 259) #[] #[])]) fun x7 =>
  bS (bx q x7 (G4.at' (G1.nx + 5))) fun x8 G9 =>
  some (x8, (G9.back G4))
theorem m173 {e : Ex} {E : Ev} (h : ExLe Q e E) (v0 : Value) (G : GS) : Ref (s173 true e v0 G) (s173 false (Ex.of E) v0 G) := by
  unfold s173
  exact Ref.gq
theorem f173 {orc : FuncId → Bool} {e : Ex} (h : ExLe Q e (E orc)) (v0 : Value) (G : GS) : Ref (s173 true e v0 G) ((E orc).cl 173 [v0] G) :=
  fun r hr => cl_sxE_some Q orc (vs := [v0]) G Tryz.func173 (by kernel_rfl) (by kernel_rfl) (by kernel_rfl) (by kernel_rfl) (by kernel_rfl) (by kernel_rfl) (m173 h v0 G r hr)
/-- (*coxswain/arena.Alloc).Ref -/
noncomputable def s174 (q : Bool) (e : Ex) (v0 : Value) (G : GS) : Option (Value × GS) :=
  bP (ep Q q false 145 (.tmp 5) (.const (.pointer none)) v0 (.pointer none)) fun x0 =>
  bS (gd x0 false (some (v0, G)) G) fun x1 G2 =>
  bS (gd x0 false (bP (pNil x1) fun y => some (y, G2)) G2) fun x3 G4 =>
  bS (gd x0 false (bP (fa Q q 375 2 7 x3) fun y => some (y, G4)) G4) fun x5 G6 =>
  bS (gd x0 false (bP (ld Q q 4 x5 G6) fun y => some (y, G6)) G6) fun x7 G8 =>
  bS (gd x0 false (bP (un Q q .not x7) fun y => some (y, G8)) G8) fun x9 G10 =>
  bP (pickV x0 (.bool true) x9) fun x11 =>
  ifV x11 (
  some (.tuple #[(.int .u64 0), (.int .i64 1)], G10)) (
  bP (pNil v0) fun x12 =>
  bP (fa Q q 375 3 8 x12) fun x13 =>
  bP (ld Q q 373 x13 G10) fun x14 =>
  bP (ef Q q true 373 (.tmp 18) (.const .nilFunc) x14 .nilFunc) fun x15 =>
  ifV x15 (
  some (.tuple #[(.int .u64 0), (.int .i64 14)], G10)) (
  bP (pNil v0) fun x16 =>
  bP (fa Q q 375 5 10 x16) fun x17 =>
  bP (ld Q q 41 x17 (G10.room 10)) fun x18 =>
  bP (pNil v0) fun x19 =>
  bP (fa Q q 375 6 11 x19) fun x20 =>
  bP (ld Q q 33 x20 (G10.room 10)) fun x21 =>
  some (.tuple #[x18, x21], (G10.room 10))))
theorem m174 {e : Ex} {E : Ev} (h : ExLe Q e E) (v0 : Value) (G : GS) : Ref (s174 true e v0 G) (s174 false (Ex.of E) v0 G) := by
  unfold s174
  exact Ref.gq
theorem f174 {orc : FuncId → Bool} {e : Ex} (h : ExLe Q e (E orc)) (v0 : Value) (G : GS) : Ref (s174 true e v0 G) ((E orc).cl 174 [v0] G) :=
  fun r hr => cl_sxE_some Q orc (vs := [v0]) G Tryz.func174 (by kernel_rfl) (by kernel_rfl) (by kernel_rfl) (by kernel_rfl) (by kernel_rfl) (by kernel_rfl) (m174 h v0 G r hr)
/-- (*coxswain/cells.Mem).Load -/
noncomputable def s177 (q : Bool) (e : Ex) (v0 v1 : Value) (G : GS) : Option (Value × GS) :=
  bS (e.ev.cl 158 [v0, v1] G) fun x0 G1 =>
  bP (bd Q q 246 z246 [(0, 0, 1)] [x0]) fun x2 =>
  bS (al Q q 246 z246 G1) fun x3 G4 =>
  bP (st Q q 246 3 x3 x2 G4) fun G5 =>
  bP (fa Q q 246 0 0 x3) fun x6 =>
  bP (ld Q q 243 x6 G5) fun x7 =>
  bP (lda Q q 246 3 x3 G5) fun x8 =>
  bS (e.ev.cl 159 [v0, (.int .i64 1), v1, x7, (.func (.func 260) #[x8] #[])] G5) fun x9 G10 =>
  bP (fd Q q 68 3 3 x9) fun x11 =>
  some (x11, G10)
theorem m177 {e : Ex} {E : Ev} (h : ExLe Q e E) (v0 v1 : Value) (G : GS) : Ref (s177 true e v0 v1 G) (s177 false (Ex.of E) v0 v1 G) := by
  unfold s177
  exact Ref.gq
theorem f177 {orc : FuncId → Bool} {e : Ex} (h : ExLe Q e (E orc)) (v0 v1 : Value) (G : GS) : Ref (s177 true e v0 v1 G) ((E orc).cl 177 [v0, v1] G) :=
  fun r hr => cl_sxE_some Q orc (vs := [v0, v1]) G Tryz.func177 (by kernel_rfl) (by kernel_rfl) (by kernel_rfl) (by kernel_rfl) (by kernel_rfl) (by kernel_rfl) (m177 h v0 v1 G r hr)
noncomputable def b178_0 (q : Bool) (e : Ex) (lp : Env → GS → Option (Exit × Env × GS)) (τ : Env) (G : GS) : Option (Exit × Env × GS) :=
  bV q (τ 1) fun a1_ =>
  bV q (τ 2) fun a2_ =>
  bV q (τ 4) fun a4_ =>
  bP (fa Q q 25 0 0 a2_) fun x0 =>
  bP (fa Q q 23 2 2 x0) fun x1 =>
  bP (ld Q q 3 x1 G) fun x2 =>
  bP (bn Q q .lss 3 (.tmp 23) (.tmp 26) a4_ x2) fun x3 =>
  ifV x3 (
  bP (fa Q q 25 1 3 a2_) fun x4 =>
  bP (ld Q q 3 x4 G) fun x5 =>
  bP (bn Q q .add 3 (.tmp 32) (.tmp 33) x5 a4_) fun x6 =>
  bS (e.ev.cl 46 [a1_, x6, (.int .u64 1)] G) fun x7 G8 =>
  bP (bn Q q .add 3 (.tmp 28) (.const (.int .i64 1)) a4_ (.int .i64 1)) fun x9 =>
  lp (xq q 36 τ [(4, x9), (29, x9), (28, a4_), (35, x7), (34, x6), (33, a4_), (32, x5), (31, x4), (30, a1_), (27, x3), (26, x2), (25, x1), (24, x0), (23, a4_)] [(1, a1_), (2, a2_)]) G8) (
  some ((.exit 0), xq q 36 τ [(27, x3), (26, x2), (25, x1), (24, x0), (23, a4_)] [(1, a1_), (2, a2_), (4, a4_)], G))
theorem mb178_0 {e : Ex} {E : Ev} (h : ExLe Q e E) {lp lp' : Env → GS → Option (Exit × Env × GS)} (hlp : LpLe lp lp') (τ : Env) (G : GS) : Ref (b178_0 true e lp τ G) (b178_0 false (Ex.of E) lp' τ G) := by
  unfold b178_0
  exact Ref.gq
theorem l178_0 {orc : FuncId → Bool} {e : Ex} (h : ExLe Q e (E orc)) (lp : Env → GS → Option (Exit × Env × GS)) (hlp : ∀ τ G, Ref (lp τ G) (mapE ((E orc).lp (subAt [1, 1, 1, 1, 1, 0, 0] (bodyOf Tryz.f178)) (lst 36 τ) G))) (T : List Value) (G : GS) (hT : T.length = 36) : Ref (b178_0 true e lp (nth undef T) G) (mapE ((E orc).lp (subAt [1, 1, 1, 1, 1, 0, 0] (bodyOf Tryz.f178)) T G)) :=
  fun r hr => lp_sxN Q orc G hT (by kernel_rfl) (mb178_0 h ⟨hlp⟩ _ _ r hr)
/-- coxswain/coxswainref11.Fill -/
noncomputable def s178 (q : Bool) (e : Ex) (v0 v1 : Value) (G : GS) : Option (Value × GS) :=
  bS (bx q v0 G) fun x0 G1 =>
  bP (fa Q q 25 0 0 x0) fun x2 =>
  bP (fa Q q 23 2 2 x2) fun x3 =>
  bP (ld Q q 3 x3 G1) fun x4 =>
  bP (bn Q q .lss 3 (.tmp 7) (.const (.int .i64 1)) x4 (.int .i64 1)) fun x5 =>
  bS (gd x5 false (bP (fa Q q 25 0 0 x0) fun y => some (y, G1)) G1) fun x6 G7 =>
  bS (gd x5 false (bP (fa Q q 23 2 2 x6) fun y => some (y, G7)) G7) fun x8 G9 =>
  bS (gd x5 false (bP (ld Q q 3 x8 G9) fun y => some (y, G9)) G9) fun x10 G11 =>
  bS (gd x5 false (bP (bn Q q .gtr 3 (.tmp 12) (.const (.int .i64 4096)) x10 (.int .i64 4096)) fun y => some (y, G11)) G11) fun x12 G13 =>
  bP (pickV x5 (.bool true) x12) fun x14 =>
  ifV x14 (
  some (.tuple #[], G13)) (
  bP (fa Q q 25 0 0 x0) fun x15 =>
  bP (lda Q q 23 3 x15 G13) fun x16 =>
  bS (e.ev.cl 261 [x16, v1] G13) fun x17 G18 =>
  bP (fa Q q 25 2 4 x0) fun x19 =>
  bP (ld Q q 3 x19 G18) fun x20 =>
  bS (e.ev.cl 46 [v1, x20, (.int .u64 0)] G18) fun x21 G22 =>
  bLq q e 178 0 (subAt [1, 1, 1, 1, 1, 0, 0] (bodyOf Tryz.f178)) 36 (nth undef [v0, v1]) [(4, (.int .i64 0)), (22, x21), (21, x20), (20, x19), (19, v1), (18, x17), (17, v1), (16, x16), (15, x15), (14, x14), (13, x12), (12, x10), (11, x8), (10, x6), (9, x5), (8, x5), (7, x4), (6, x3), (5, x2), (2, x0)] [] G22 fun e23 t24 G25 =>
  ifE e23 (.exit 0) (
  some (.tuple #[], G25)) (none))
theorem m178 {e : Ex} {E : Ev} (h : ExLe Q e E) (v0 v1 : Value) (G : GS) : Ref (s178 true e v0 v1 G) (s178 false (Ex.of E) v0 v1 G) := by
  unfold s178
  exact Ref.gq
theorem f178 {orc : FuncId → Bool} {e : Ex} (h : ExLe Q e (E orc)) (v0 v1 : Value) (G : GS) : Ref (s178 true e v0 v1 G) ((E orc).cl 178 [v0, v1] G) :=
  fun r hr => cl_sxE_some Q orc (vs := [v0, v1]) G Tryz.func178 (by kernel_rfl) (by kernel_rfl) (by kernel_rfl) (by kernel_rfl) (by kernel_rfl) (by kernel_rfl) (m178 h v0 v1 G r hr)
/-- (*coxswain/arena.Alloc).Step -/
noncomputable def s179 (q : Bool) (e : Ex) (v0 v1 : Value) (G : GS) : Option (Value × GS) :=
  bP (ep Q q false 145 (.tmp 5) (.const (.pointer none)) v0 (.pointer none)) fun x0 =>
  bS (gd x0 false (some (v0, G)) G) fun x1 G2 =>
  bS (gd x0 false (bP (pNil x1) fun y => some (y, G2)) G2) fun x3 G4 =>
  bS (gd x0 false (bP (fa Q q 375 3 8 x3) fun y => some (y, G4)) G4) fun x5 G6 =>
  bS (gd x0 false (bP (ld Q q 373 x5 G6) fun y => some (y, G6)) G6) fun x7 G8 =>
  bS (gd x0 false (bP (ef Q q false 373 (.tmp 11) (.const .nilFunc) x7 .nilFunc) fun y => some (y, G8)) G8) fun x9 G10 =>
  bP (pickV x0 (.bool true) x9) fun x11 =>
  ifV x11 (
  some ((.bool true), G10)) (
  bP (pNil v0) fun x12 =>
  bP (fa Q q 375 3 8 x12) fun x13 =>
  bP (ld Q q 373 x13 G10) fun x14 =>
  bS (cValue e.ev x14 [v0, v1] G10) fun x15 G16 =>
  bP (pNil v0) fun x17 =>
  bP (fa Q q 375 3 8 x17) fun x18 =>
  bP (ld Q q 373 x18 G16) fun x19 =>
  bP (ef Q q false 373 (.tmp 24) (.const .nilFunc) x19 .nilFunc) fun x20 =>
  some (x20, G16))
theorem m179 {e : Ex} {E : Ev} (h : ExLe Q e E) (v0 v1 : Value) (G : GS) : Ref (s179 true e v0 v1 G) (s179 false (Ex.of E) v0 v1 G) := by
  unfold s179
  exact Ref.gq
theorem f179 {orc : FuncId → Bool} {e : Ex} (h : ExLe Q e (E orc)) (v0 v1 : Value) (G : GS) : Ref (s179 true e v0 v1 G) ((E orc).cl 179 [v0, v1] G) :=
  fun r hr => cl_sxE_some Q orc (vs := [v0, v1]) G Tryz.func179 (by kernel_rfl) (by kernel_rfl) (by kernel_rfl) (by kernel_rfl) (by kernel_rfl) (by kernel_rfl) (m179 h v0 v1 G r hr)
noncomputable def jb180_0 (q : Bool) (e : Ex) (τ : Env) (G : GS) : Option (Value × GS) :=
  bV q (τ 0) fun a0_ =>
  bP (pNil a0_) fun x0 =>
  bP (fa Q q 379 2 7 x0) fun x1 =>
  bP (ld Q q 3 x1 G) fun x2 =>
  bP (bn Q q .eql 3 (.tmp 99) (.const (.int .i64 9)) x2 (.int .i64 9)) fun x3 =>
  some (x3, G)
noncomputable def j180_0 (q : Bool) (e : Ex) (τ : Env) (G : GS) : Option (Value × GS) := jb180_0 q e τ G
theorem mj180_0 {e : Ex} {E : Ev} (h : ExLe Q e E) (τ : Env) (G : GS) : Ref (j180_0 true e τ G) (j180_0 false (Ex.of E) τ G) := by
  unfold j180_0 jb180_0
  exact Ref.gq
theorem mkj180_0 {e : Ex} {E : Ev} (h : ExLe Q e E) {τ : Env} {l U : List (Nat × Value)} {G : GS} (hU : UOk τ U) : Ref (j180_0 true e (xq true 101 τ l U) G) (j180_0 false (Ex.of E) (xq false 101 τ l U) G) := by
  rw [xq_eq hU]
  exact mj180_0 h _ _
noncomputable def jb180_1 (q : Bool) (e : Ex) (J0 : Env → GS → Option (Value × GS)) (τ : Env) (G : GS) : Option (Value × GS) :=
  bV q (τ 0) fun a0_ =>
  bP (pNil a0_) fun x59 =>
  bP (fa Q q 379 2 7 x59) fun x60 =>
  bP (st Q q 3 1 x60 (.int .i64 9) G) fun G61 =>
  J0 (xq q 101 τ [(95, x60), (94, x59), (93, a0_)] []) G61
noncomputable def j180_1 (q : Bool) (e : Ex) (τ : Env) (G : GS) : Option (Value × GS) := jb180_1 q e (j180_0 q e) τ G
theorem mj180_1 {e : Ex} {E : Ev} (h : ExLe Q e E) (τ : Env) (G : GS) : Ref (j180_1 true e τ G) (j180_1 false (Ex.of E) τ G) := by
  unfold j180_1 jb180_1
  repeat' (with_reducible first | exact Ref.rfl' _ | exact ROp.r | refine Ref.bP ?_ fun _ => ?_ | refine Ref.bS ?_ fun _ _ => ?_ | exact Ref.cl (by assumption) | refine Ref.ifV ?_ ?_ | refine LpLe.rx (by assumption) ?_ | refine Ref.xitq ?_ | exact UOk.z | refine UOk.c (by assumption) ?_ | exact Ref.nil _ | refine Ref.bVe fun _ _ => ?_ | refine Ref.bLq (by assumption) ?_ fun _ _ _ => ?_ | refine Ref.ifE ?_ ?_ | refine Ref.chk ?_ ?_ | refine Imp.and ?_ ?_ | refine Imp.or ?_ | exact Imp.rfl' _ | refine Imp.sameO ?_ | refine Ref.gd ?_ | exact Ref.cValue (by assumption) | refine Ref.bX ?_ fun _ _ _ => ?_ | exact Ref.scQ (by assumption) | exact Ref.xRangeQ (by assumption) | exact Ref.cInvoke (by assumption) | refine mkj180_0 (by assumption) ?_)
theorem mkj180_1 {e : Ex} {E : Ev} (h : ExLe Q e E) {τ : Env} {l U : List (Nat × Value)} {G : GS} (hU : UOk τ U) : Ref (j180_1 true e (xq true 101 τ l U) G) (j180_1 false (Ex.of E) (xq false 101 τ l U) G) := by
  rw [xq_eq hU]
  exact mj180_1 h _ _
noncomputable def sb180 (q : Bool) (e : Ex) (J0 J1 : Env → GS → Option (Value × GS)) (v0 v1 : Value) (G : GS) : Option (Value × GS) :=
  bP (pNil v0) fun x4 =>
  bP (fa Q q 379 2 7 x4) fun x5 =>
  bP (ld Q q 3 x5 G) fun x6 =>
  bP (bn Q q .eql 3 (.tmp 11) (.const (.int .i64 0)) x6 (.int .i64 0)) fun x7 =>
  ifV x7 (
  bP (pNil v0) fun x8 =>
  bP (fa Q q 379 1 6 x8) fun x9 =>
  bP (ld Q q 377 x9 G) fun x10 =>
  bS (e.ev.cl 262 [x10, v1] G) fun x11 G12 =>
  ifV x11 (
  bP (pNil v0) fun x13 =>
  bP (fa Q q 379 1 6 x13) fun x14 =>
  bP (ld Q q 377 x14 G12) fun x15 =>
  bS (e.ev.cl 263 [x15] G12) fun x16 G17 =>
  bP (pExtract x16 0) fun x18 =>
  bP (pExtract x16 1) fun x19 =>
  bP (pNil v0) fun x20 =>
  bP (fa Q q 379 3 8 x20) fun x21 =>
  bP (st Q q 3 1 x21 x18 G17) fun G22 =>
  bP (pNil v0) fun x23 =>
  bP (fa Q q 379 2 7 x23) fun x24 =>
  bP (st Q q 3 1 x24 (.int .i64 1) G22) fun G25 =>
  bP (bn Q q .neq 33 (.tmp 35) (.const (.int .i64 0)) x19 (.int .i64 0)) fun x26 =>
  ifV x26 (
  bP (pNil v0) fun x27 =>
  bP (fa Q q 379 2 7 x27) fun x28 =>
  bP (st Q q 3 1 x28 (.int .i64 2) G25) fun G29 =>
  J0 (xq q 101 (nth undef [v0, v1]) [(39, x28), (38, x27), (37, v0), (36, x26), (35, x19), (34, x24), (33, x23), (32, v0), (31, x21), (30, x20), (29, x18), (28, v0), (6, x19), (5, x18), (27, x19), (26, x18), (20, x16), (25, x16), (24, x15), (23, x14), (22, x13), (21, v0), (19, x11), (18, v1), (17, x10), (16, x9), (15, x8), (14, v0), (12, x7), (13, x7), (11, x6), (10, x5), (9, x4), (8, v0), (4, (.bool false))] []) G29) (
  J0 (xq q 101 (nth undef [v0, v1]) [(36, x26), (35, x19), (34, x24), (33, x23), (32, v0), (31, x21), (30, x20), (29, x18), (28, v0), (6, x19), (5, x18), (27, x19), (26, x18), (20, x16), (25, x16), (24, x15), (23, x14), (22, x13), (21, v0), (19, x11), (18, v1), (17, x10), (16, x9), (15, x8), (14, v0), (12, x7), (13, x7), (11, x6), (10, x5), (9, x4), (8, v0), (4, (.bool false))] []) G25)) (
  J0 (xq q 101 (nth undef [v0, v1]) [(19, x11), (18, v1), (17, x10), (16, x9), (15, x8), (14, v0), (12, x7), (13, x7), (11, x6), (10, x5), (9, x4), (8, v0), (4, (.bool false))] []) G12)) (
  bP (bn Q q .eql 3 (.tmp 11) (.const (.int .i64 1)) x6 (.int .i64 1)) fun x30 =>
  ifV x30 (
  bP (pNil v0) fun x31 =>
  bP (fa Q q 379 0 0 x31) fun x32 =>
  bP (fa Q q 25 1 3 x32) fun x33 =>
  bP (ld Q q 3 x33 (G.room 13)) fun x34 =>
  bP (pNil v0) fun x35 =>
  bP (fa Q q 379 3 8 x35) fun x36 =>
  bP (ld Q q 3 x36 (G.room 13)) fun x37 =>
  bP (bn Q q .add 3 (.tmp 47) (.tmp 51) x34 x37) fun x38 =>
  bS (e.ev.cl 264 [v1, x38] (G.room 13)) fun x40 G39 =>
  bP (pNil v0) fun x41 =>
  bP (fa Q q 379 3 8 x41) fun x42 =>
  bP (ld Q q 3 x42 G39) fun x43 =>
  bP (bn Q q .add 3 (.tmp 58) (.const (.int .i64 1)) x43 (.int .i64 1)) fun x44 =>
  bP (cv Q q 3 41 .i64 .u64 x44) fun x45 =>
  bP (bn Q q .rem 41 (.tmp 61) (.const (.int .u64 4294967296)) x40 (.int .u64 4294967296)) fun x46 =>
  bP (bn Q q .shl 41 (.tmp 62) (.const (.int .u64 16)) x46 (.int .u64 16)) fun x47 =>
  bP (bn Q q .or 41 (.tmp 60) (.tmp 63) x45 x47) fun x48 =>
  bP (pNil v0) fun x49 =>
  bP (fa Q q 379 4 9 x49) fun x50 =>
  bP (st Q q 41 1 x50 x48 G39) fun G51 =>
  bP (pNil v0) fun x52 =>
  bP (fa Q q 379 2 7 x52) fun x53 =>
  bP (st Q q 3 1 x53 (.int .i64 9) G51) fun G54 =>
  J0 (xq q 101 (nth undef [v0, v1]) [(69, x53), (68, x52), (67, v0), (66, x50), (65, x49), (64, x48), (63, x47), (62, x46), (61, x40), (60, x45), (59, x44), (58, x43), (57, x42), (56, x41), (55, v0), (54, v0), (7, x40), (53, x40), (52, x38), (51, x37), (50, x36), (49, x35), (48, v0), (47, x34), (46, x33), (45, x32), (44, x31), (43, v0), (42, v1), (40, x30), (41, x30), (12, x7), (13, x7), (11, x6), (10, x5), (9, x4), (8, v0), (4, (.bool false))] []) G54) (
  bP (bn Q q .eql 3 (.tmp 11) (.const (.int .i64 2)) x6 (.int .i64 2)) fun x55 =>
  ifV x55 (
  bP (pNil v0) fun x56 =>
  bP (fa Q q 379 5 10 x56) fun x57 =>
  bP (st Q q 33 1 x57 (.int .i64 7) G) fun G58 =>
  bP (pNil v0) fun x62 =>
  bP (fa Q q 379 0 0 x62) fun x63 =>
  bP (fa Q q 25 2 4 x63) fun x64 =>
  bP (ld Q q 3 x64 (G58.room 15)) fun x65 =>
  bS (e.ev.cl 264 [v1, x65] (G58.room 15)) fun x67 G66 =>
  bP (pNil v0) fun x68 =>
  bP (fa Q q 379 0 0 x68) fun x69 =>
  bP (fa Q q 25 0 0 x69) fun x70 =>
  bP (fa Q q 23 2 2 x70) fun x71 =>
  bP (ld Q q 3 x71 G66) fun x72 =>
  chk ((sameO (ld Q q 3 x71 (G58.room 15)) x72 && true)) <|
  bP (cv Q q 3 41 .i64 .u64 x72) fun x73 =>
  bP (bn Q q .geq 41 (.tmp 81) (.tmp 88) x67 x73) fun x74 =>
  ifV x74 (
  bP (pNil v0) fun x75 =>
  bP (fa Q q 379 5 10 x75) fun x76 =>
  bP (st Q q 33 1 x76 (.int .i64 12) G66) fun G77 =>
  J1 (xq q 101 (nth undef [v0, v1]) [(92, x76), (91, x75), (90, v0), (89, x74), (88, x73), (87, x72), (86, x71), (85, x70), (84, x69), (83, x68), (82, v0), (81, x67), (80, x65), (79, x64), (78, x63), (77, x62), (76, v0), (75, v1), (74, x57), (73, x56), (72, v0), (70, x55), (71, x55), (40, x30), (41, x30), (12, x7), (13, x7), (11, x6), (10, x5), (9, x4), (8, v0), (4, (.bool false))] []) G77) (
  J1 (xq q 101 (nth undef [v0, v1]) [(89, x74), (88, x73), (87, x72), (86, x71), (85, x70), (84, x69), (83, x68), (82, v0), (81, x67), (80, x65), (79, x64), (78, x63), (77, x62), (76, v0), (75, v1), (74, x57), (73, x56), (72, v0), (70, x55), (71, x55), (40, x30), (41, x30), (12, x7), (13, x7), (11, x6), (10, x5), (9, x4), (8, v0), (4, (.bool false))] []) G66)) (
  J0 (xq q 101 (nth undef [v0, v1]) [(70, x55), (71, x55), (40, x30), (41, x30), (12, x7), (13, x7), (11, x6), (10, x5), (9, x4), (8, v0), (4, (.bool false))] []) G)))
/-- (*coxswain/coxswainref11.Alloc).Step -/
noncomputable def s180 (q : Bool) (e : Ex) (v0 v1 : Value) (G : GS) : Option (Value × GS) := sb180 q e (j180_0 q e) (j180_1 q e) v0 v1 G
theorem m180 {e : Ex} {E : Ev} (h : ExLe Q e E) (v0 v1 : Value) (G : GS) : Ref (s180 true e v0 v1 G) (s180 false (Ex.of E) v0 v1 G) := by
  unfold s180 sb180
  repeat' (with_reducible first | exact Ref.rfl' _ | exact ROp.r | refine Ref.bP ?_ fun _ => ?_ | refine Ref.bS ?_ fun _ _ => ?_ | exact Ref.cl (by assumption) | refine Ref.ifV ?_ ?_ | refine LpLe.rx (by assumption) ?_ | refine Ref.xitq ?_ | exact UOk.z | refine UOk.c (by assumption) ?_ | exact Ref.nil _ | refine Ref.bVe fun _ _ => ?_ | refine Ref.bLq (by assumption) ?_ fun _ _ _ => ?_ | refine Ref.ifE ?_ ?_ | refine Ref.chk ?_ ?_ | refine Imp.and ?_ ?_ | refine Imp.or ?_ | exact Imp.rfl' _ | refine Imp.sameO ?_ | refine Ref.gd ?_ | exact Ref.cValue (by assumption) | refine Ref.bX ?_ fun _ _ _ => ?_ | exact Ref.scQ (by assumption) | exact Ref.xRangeQ (by assumption) | exact Ref.cInvoke (by assumption) | refine mkj180_0 (by assumption) ?_ | refine mkj180_1 (by assumption) ?_)
noncomputable def jt180 (J0 J1 : Env → GS → Option (Value × GS)) : JT (Value × GS) :=
  (.n none .e (.n (some (fun T G => J0 (nth undef T) G)) (.n none .e (.n none (.n none .e (.n none .e (.n none .e (.n none .e (.n none .e (.n none (.n none .e (.n (some (fun T G => J1 (nth undef T) G)) .e .e)) .e)))))) .e)) .e))
set_option maxHeartbeats 8000000 in
theorem jr180_0 (orc : FuncId → Bool) (J0 J1 : Env → GS → Option (Value × GS)) (T : List Value) (G : GS) : runC Q (evL Q orc) Tryz.f180.ntmps (jt180 J0 J1) (bodyOf Tryz.f180) (retE Q Tryz.f180.results.toList) [true] (nth undef T) G = jb180_0 false (Ex.of (E orc))  (nth undef T) G := by kernel_rfl
set_option maxHeartbeats 8000000 in
theorem jr180_1 (orc : FuncId → Bool) (J0 J1 : Env → GS → Option (Value × GS)) (T : List Value) (G : GS) : runC Q (evL Q orc) Tryz.f180.ntmps (jt180 J0 J1) (bodyOf Tryz.f180) (retE Q Tryz.f180.results.toList) [true, false, true, false, true, true, true, true, true, false, true] (nth undef T) G = jb180_1 false (Ex.of (E orc)) J0 (nth undef T) G := by kernel_rfl
set_option maxHeartbeats 8000000 in
theorem jo180 (orc : FuncId → Bool) : JOk Q orc Tryz.f180.ntmps (jt180 (j180_0 false (Ex.of (E orc))) (j180_1 false (Ex.of (E orc))) ) (bodyOf Tryz.f180) (retE Q Tryz.f180.results.toList) :=
  jOk Q orc (l := [([true], (fun T G => j180_0 false (Ex.of (E orc)) (nth undef T) G)), ([true, false, true, false, true, true, true, true, true, false, true], (fun T G => j180_1 false (Ex.of (E orc)) (nth undef T) G))]) (by kernel_rfl) (AllE.c (fun T G => jr180_0 orc (j180_0 false (Ex.of (E orc))) (j180_1 false (Ex.of (E orc))) T G) (AllE.c (fun T G => jr180_1 orc (j180_0 false (Ex.of (E orc))) (j180_1 false (Ex.of (E orc))) T G) (AllE.z)))
set_option maxHeartbeats 8000000 in
theorem je180 (orc : FuncId → Bool) (J0 J1 : Env → GS → Option (Value × GS)) (v0 v1 : Value) (G : GS) : sxC Q (evL Q orc) Tryz.f180.ntmps (jt180 J0 J1) (bodyOf Tryz.f180) (nth undef [v0, v1]) G (retE Q Tryz.f180.results.toList) = sb180 false (Ex.of (E orc)) J0 J1 v0 v1 G := by kernel_rfl
set_option maxHeartbeats 8000000 in
theorem f180 {orc : FuncId → Bool} {e : Ex} (h : ExLe Q e (E orc)) (v0 v1 : Value) (G : GS) : Ref (s180 true e v0 v1 G) ((E orc).cl 180 [v0, v1] G) :=
  fun r hr => cl_sxC Q orc (vs := [v0, v1]) G (jt180 (j180_0 false (Ex.of (E orc))) (j180_1 false (Ex.of (E orc))) ) Tryz.func180 (by kernel_rfl) (by kernel_rfl) (by kernel_rfl) (by kernel_rfl) (by kernel_rfl) (jo180 orc) (je180 orc (j180_0 false (Ex.of (E orc))) (j180_1 false (Ex.of (E orc))) v0 v1 G) (m180 h v0 v1 G r hr)
/-- (*coxswain/coxswainref11.Alloc).Ref -/
noncomputable def s181 (q : Bool) (e : Ex) (v0 : Value) (G : GS) : Option (Value × GS) :=
  bP (pNil v0) fun x0 =>
  bP (fa Q q 379 2 7 x0) fun x1 =>
  bP (ld Q q 3 x1 G) fun x2 =>
  bP (bn Q q .neq 3 (.tmp 7) (.const (.int .i64 9)) x2 (.int .i64 9)) fun x3 =>
  ifV x3 (
  some (.tuple #[(.int .u64 0), (.int .i64 14)], G)) (
  bP (pNil v0) fun x4 =>
  bP (fa Q q 379 4 9 x4) fun x5 =>
  bP (ld Q q 41 x5 (G.room 10)) fun x6 =>
  bP (pNil v0) fun x7 =>
  bP (fa Q q 379 5 10 x7) fun x8 =>
  bP (ld Q q 33 x8 (G.room 10)) fun x9 =>
  some (.tuple #[x6, x9], (G.room 10)))
theorem m181 {e : Ex} {E : Ev} (h : ExLe Q e E) (v0 : Value) (G : GS) : Ref (s181 true e v0 G) (s181 false (Ex.of E) v0 G) := by
  unfold s181
  exact Ref.gq
theorem f181 {orc : FuncId → Bool} {e : Ex} (h : ExLe Q e (E orc)) (v0 : Value) (G : GS) : Ref (s181 true e v0 G) ((E orc).cl 181 [v0] G) :=
  fun r hr => cl_sxE_some Q orc (vs := [v0]) G Tryz.func181 (by kernel_rfl) (by kernel_rfl) (by kernel_rfl) (by kernel_rfl) (by kernel_rfl) (by kernel_rfl) (m181 h v0 G r hr)
/-- (*coxswain/arena.Free).Step -/
noncomputable def s182 (q : Bool) (e : Ex) (v0 v1 : Value) (G : GS) : Option (Value × GS) :=
  bP (ep Q q false 147 (.tmp 5) (.const (.pointer none)) v0 (.pointer none)) fun x0 =>
  bS (gd x0 false (some (v0, G)) G) fun x1 G2 =>
  bS (gd x0 false (bP (pNil x1) fun y => some (y, G2)) G2) fun x3 G4 =>
  bS (gd x0 false (bP (fa Q q 384 3 8 x3) fun y => some (y, G4)) G4) fun x5 G6 =>
  bS (gd x0 false (bP (ld Q q 382 x5 G6) fun y => some (y, G6)) G6) fun x7 G8 =>
  bS (gd x0 false (bP (ef Q q false 382 (.tmp 11) (.const .nilFunc) x7 .nilFunc) fun y => some (y, G8)) G8) fun x9 G10 =>
  bP (pickV x0 (.bool true) x9) fun x11 =>
  ifV x11 (
  some ((.bool true), G10)) (
  bP (pNil v0) fun x12 =>
  bP (fa Q q 384 3 8 x12) fun x13 =>
  bP (ld Q q 382 x13 G10) fun x14 =>
  bS (cValue e.ev x14 [v0, v1] G10) fun x15 G16 =>
  bP (pNil v0) fun x17 =>
  bP (fa Q q 384 3 8 x17) fun x18 =>
  bP (ld Q q 382 x18 G16) fun x19 =>
  bP (ef Q q false 382 (.tmp 24) (.const .nilFunc) x19 .nilFunc) fun x20 =>
  some (x20, G16))
theorem m182 {e : Ex} {E : Ev} (h : ExLe Q e E) (v0 v1 : Value) (G : GS) : Ref (s182 true e v0 v1 G) (s182 false (Ex.of E) v0 v1 G) := by
  unfold s182
  exact Ref.gq
theorem f182 {orc : FuncId → Bool} {e : Ex} (h : ExLe Q e (E orc)) (v0 v1 : Value) (G : GS) : Ref (s182 true e v0 v1 G) ((E orc).cl 182 [v0, v1] G) :=
  fun r hr => cl_sxE_some Q orc (vs := [v0, v1]) G Tryz.func182 (by kernel_rfl) (by kernel_rfl) (by kernel_rfl) (by kernel_rfl) (by kernel_rfl) (by kernel_rfl) (m182 h v0 v1 G r hr)
noncomputable def jb183_0 (q : Bool) (e : Ex) (τ : Env) (G : GS) : Option (Value × GS) :=
  bV q (τ 0) fun a0_ =>
  bP (pNil a0_) fun x0 =>
  bP (fa Q q 387 2 7 x0) fun x1 =>
  bP (ld Q q 3 x1 G) fun x2 =>
  bP (bn Q q .eql 3 (.tmp 92) (.const (.int .i64 9)) x2 (.int .i64 9)) fun x3 =>
  some (x3, G)
noncomputable def j183_0 (q : Bool) (e : Ex) (τ : Env) (G : GS) : Option (Value × GS) := jb183_0 q e τ G
theorem mj183_0 {e : Ex} {E : Ev} (h : ExLe Q e E) (τ : Env) (G : GS) : Ref (j183_0 true e τ G) (j183_0 false (Ex.of E) τ G) := by
  unfold j183_0 jb183_0
  exact Ref.gq
theorem mkj183_0 {e : Ex} {E : Ev} (h : ExLe Q e E) {τ : Env} {l U : List (Nat × Value)} {G : GS} (hU : UOk τ U) : Ref (j183_0 true e (xq true 94 τ l U) G) (j183_0 false (Ex.of E) (xq false 94 τ l U) G) := by
  rw [xq_eq hU]
  exact mj183_0 h _ _
noncomputable def sb183 (q : Bool) (e : Ex) (J0 : Env → GS → Option (Value × GS)) (v0 v1 : Value) (G : GS) : Option (Value × GS) :=
  bP (pNil v0) fun x4 =>
  bP (fa Q q 387 2 7 x4) fun x5 =>
  bP (ld Q q 3 x5 G) fun x6 =>
  bP (bn Q q .eql 3 (.tmp 8) (.const (.int .i64 0)) x6 (.int .i64 0)) fun x7 =>
  ifV x7 (
  bP (pNil v0) fun x8 =>
  bP (fa Q q 387 0 0 x8) fun x9 =>
  bP (fa Q q 25 1 3 x9) fun x10 =>
  bP (ld Q q 3 x10 (G.room 16)) fun x11 =>
  bP (pNil v0) fun x12 =>
  bP (fa Q q 387 3 8 x12) fun x13 =>
  bP (ld Q q 3 x13 (G.room 16)) fun x14 =>
  bP (bn Q q .add 3 (.tmp 17) (.tmp 21) x11 x14) fun x15 =>
  bS (e.ev.cl 264 [v1, x15] (G.room 16)) fun x17 G16 =>
  bP (pNil v0) fun x18 =>
  bP (fa Q q 387 4 9 x18) fun x19 =>
  bP (st Q q 41 1 x19 x17 G16) fun G20 =>
  bP (pNil v0) fun x21 =>
  bP (fa Q q 387 2 7 x21) fun x22 =>
  bP (st Q q 3 1 x22 (.int .i64 1) G20) fun G23 =>
  bP (pNil v0) fun x24 =>
  bP (fa Q q 387 4 9 x24) fun x25 =>
  bP (ld Q q 41 x25 (G23.room 12)) fun x26 =>
  bP (bn Q q .rem 41 (.tmp 32) (.const (.int .u64 4294967296)) x26 (.int .u64 4294967296)) fun x27 =>
  bP (pNil v0) fun x28 =>
  bP (fa Q q 387 0 0 x28) fun x29 =>
  bP (fa Q q 25 3 5 x29) fun x30 =>
  bP (ld Q q 3 x30 (G23.room 12)) fun x31 =>
  bP (cv Q q 3 41 .i64 .u64 x31) fun x32 =>
  bP (bn Q q .geq 41 (.tmp 33) (.tmp 39) x27 x32) fun x33 =>
  ifV x33 (
  bP (pNil v0) fun x34 =>
  bP (fa Q q 387 2 7 x34) fun x35 =>
  bP (st Q q 3 1 x35 (.int .i64 3) (G23.room 12)) fun G36 =>
  J0 (xq q 94 (nth undef [v0, v1]) [(43, x35), (42, x34), (41, v0), (40, x33), (39, x32), (38, x31), (37, x30), (36, x29), (35, x28), (34, v0), (33, x27), (32, x26), (31, x25), (30, x24), (29, v0), (28, x22), (27, x21), (26, v0), (25, x19), (24, x18), (23, x17), (22, x15), (21, x14), (20, x13), (19, x12), (18, v0), (17, x11), (16, x10), (15, x9), (14, x8), (13, v0), (12, v1), (11, v0), (9, x7), (10, x7), (8, x6), (7, x5), (6, x4), (5, v0), (4, (.bool false))] []) G36) (
  J0 (xq q 94 (nth undef [v0, v1]) [(40, x33), (39, x32), (38, x31), (37, x30), (36, x29), (35, x28), (34, v0), (33, x27), (32, x26), (31, x25), (30, x24), (29, v0), (28, x22), (27, x21), (26, v0), (25, x19), (24, x18), (23, x17), (22, x15), (21, x14), (20, x13), (19, x12), (18, v0), (17, x11), (16, x10), (15, x9), (14, x8), (13, v0), (12, v1), (11, v0), (9, x7), (10, x7), (8, x6), (7, x5), (6, x4), (5, v0), (4, (.bool false))] []) (G23.room 12))) (
  bP (bn Q q .eql 3 (.tmp 8) (.const (.int .i64 1)) x6 (.int .i64 1)) fun x37 =>
  ifV x37 (
  bP (pNil v0) fun x38 =>
  bP (fa Q q 387 0 0 x38) fun x39 =>
  bP (fa Q q 25 1 3 x39) fun x40 =>
  bP (ld Q q 3 x40 (G.room 17)) fun x41 =>
  bP (pNil v0) fun x42 =>
  bP (fa Q q 387 3 8 x42) fun x43 =>
  bP (ld Q q 3 x43 (G.room 17)) fun x44 =>
  bP (bn Q q .add 3 (.tmp 51) (.tmp 55) x41 x44) fun x45 =>
  bP (pNil v0) fun x46 =>
  bP (fa Q q 387 4 9 x46) fun x47 =>
  bP (ld Q q 41 x47 (G.room 17)) fun x48 =>
  bP (bn Q q .add 41 (.tmp 60) (.const (.int .u64 1)) x48 (.int .u64 1)) fun x49 =>
  bS (e.ev.cl 46 [v1, x45, x49] (G.room 17)) fun x51 G50 =>
  bP (pNil v0) fun x52 =>
  bP (fa Q q 387 2 7 x52) fun x53 =>
  bP (st Q q 3 1 x53 (.int .i64 2) G50) fun G54 =>
  J0 (xq q 94 (nth undef [v0, v1]) [(65, x53), (64, x52), (63, v0), (62, x51), (61, x49), (60, x48), (59, x47), (58, x46), (57, v0), (56, x45), (55, x44), (54, x43), (53, x42), (52, v0), (51, x41), (50, x40), (49, x39), (48, x38), (47, v0), (46, v1), (44, x37), (45, x37), (9, x7), (10, x7), (8, x6), (7, x5), (6, x4), (5, v0), (4, (.bool false))] []) G54) (
  bP (bn Q q .eql 3 (.tmp 8) (.const (.int .i64 2)) x6 (.int .i64 2)) fun x55 =>
  ifV x55 (
  bP (pNil v0) fun x56 =>
  bP (fa Q q 387 1 6 x56) fun x57 =>
  bP (ld Q q 385 x57 G) fun x58 =>
  bS (e.ev.cl 265 [x58, v1] G) fun x59 G60 =>
  ifV x59 (
  bP (pNil v0) fun x61 =>
  bP (fa Q q 387 2 7 x61) fun x62 =>
  bP (st Q q 3 1 x62 (.int .i64 9) G60) fun G63 =>
  J0 (xq q 94 (nth undef [v0, v1]) [(76, x62), (75, x61), (74, v0), (73, x59), (72, v1), (71, x58), (70, x57), (69, x56), (68, v0), (66, x55), (67, x55), (44, x37), (45, x37), (9, x7), (10, x7), (8, x6), (7, x5), (6, x4), (5, v0), (4, (.bool false))] []) G63) (
  J0 (xq q 94 (nth undef [v0, v1]) [(73, x59), (72, v1), (71, x58), (70, x57), (69, x56), (68, v0), (66, x55), (67, x55), (44, x37), (45, x37), (9, x7), (10, x7), (8, x6), (7, x5), (6, x4), (5, v0), (4, (.bool false))] []) G60)) (
  bP (bn Q q .eql 3 (.tmp 8) (.const (.int .i64 3)) x6 (.int .i64 3)) fun x64 =>
  ifV x64 (
  bP (pNil v0) fun x65 =>
  bP (fa Q q 387 0 0 x65) fun x66 =>
  bP (fa Q q 25 2 4 x66) fun x67 =>
  bP (ld Q q 3 x67 G) fun x68 =>
  bS (e.ev.cl 266 [v1, x68, (.int .u64 1)] G) fun x69 G70 =>
  bP (pNil v0) fun x71 =>
  bP (fa Q q 387 2 7 x71) fun x72 =>
  bP (st Q q 3 1 x72 (.int .i64 9) G70) fun G73 =>
  J0 (xq q 94 (nth undef [v0, v1]) [(88, x72), (87, x71), (86, v0), (85, x69), (84, x68), (83, x67), (82, x66), (81, x65), (80, v0), (79, v1), (77, x64), (78, x64), (66, x55), (67, x55), (44, x37), (45, x37), (9, x7), (10, x7), (8, x6), (7, x5), (6, x4), (5, v0), (4, (.bool false))] []) G73) (
  J0 (xq q 94 (nth undef [v0, v1]) [(77, x64), (78, x64), (66, x55), (67, x55), (44, x37), (45, x37), (9, x7), (10, x7), (8, x6), (7, x5), (6, x4), (5, v0), (4, (.bool false))] []) G))))
/-- (*coxswain/coxswainref11.Free).Step -/
noncomputable def s183 (q : Bool) (e : Ex) (v0 v1 : Value) (G : GS) : Option (Value × GS) := sb183 q e (j183_0 q e) v0 v1 G
theorem m183 {e : Ex} {E : Ev} (h : ExLe Q e E) (v0 v1 : Value) (G : GS) : Ref (s183 true e v0 v1 G) (s183 false (Ex.of E) v0 v1 G) := by
  unfold s183 sb183
  repeat' (with_reducible first | exact Ref.rfl' _ | exact ROp.r | refine Ref.bP ?_ fun _ => ?_ | refine Ref.bS ?_ fun _ _ => ?_ | exact Ref.cl (by assumption) | refine Ref.ifV ?_ ?_ | refine LpLe.rx (by assumption) ?_ | refine Ref.xitq ?_ | exact UOk.z | refine UOk.c (by assumption) ?_ | exact Ref.nil _ | refine Ref.bVe fun _ _ => ?_ | refine Ref.bLq (by assumption) ?_ fun _ _ _ => ?_ | refine Ref.ifE ?_ ?_ | refine Ref.chk ?_ ?_ | refine Imp.and ?_ ?_ | refine Imp.or ?_ | exact Imp.rfl' _ | refine Imp.sameO ?_ | refine Ref.gd ?_ | exact Ref.cValue (by assumption) | refine Ref.bX ?_ fun _ _ _ => ?_ | exact Ref.scQ (by assumption) | exact Ref.xRangeQ (by assumption) | exact Ref.cInvoke (by assumption) | refine mkj183_0 (by assumption) ?_)
noncomputable def jt183 (J0 : Env → GS → Option (Value × GS)) : JT (Value × GS) :=
  (.n none .e (.n (some (fun T G => J0 (nth undef T) G)) .e .e))
set_option maxHeartbeats 8000000 in
theorem jr183_0 (orc : FuncId → Bool) (J0 : Env → GS → Option (Value × GS)) (T : List Value) (G : GS) : runC Q (evL Q orc) Tryz.f183.ntmps (jt183 J0) (bodyOf Tryz.f183) (retE Q Tryz.f183.results.toList) [true] (nth undef T) G = jb183_0 false (Ex.of (E orc))  (nth undef T) G := by kernel_rfl
set_option maxHeartbeats 8000000 in
theorem jo183 (orc : FuncId → Bool) : JOk Q orc Tryz.f183.ntmps (jt183 (j183_0 false (Ex.of (E orc))) ) (bodyOf Tryz.f183) (retE Q Tryz.f183.results.toList) :=
  jOk Q orc (l := [([true], (fun T G => j183_0 false (Ex.of (E orc)) (nth undef T) G))]) (by kernel_rfl) (AllE.c (fun T G => jr183_0 orc (j183_0 false (Ex.of (E orc))) T G) (AllE.z))
set_option maxHeartbeats 8000000 in
theorem je183 (orc : FuncId → Bool) (J0 : Env → GS → Option (Value × GS)) (v0 v1 : Value) (G : GS) : sxC Q (evL Q orc) Tryz.f183.ntmps (jt183 J0) (bodyOf Tryz.f183) (nth undef [v0, v1]) G (retE Q Tryz.f183.results.toList) = sb183 false (Ex.of (E orc)) J0 v0 v1 G := by kernel_rfl
set_option maxHeartbeats 8000000 in
theorem f183 {orc : FuncId → Bool} {e : Ex} (h : ExLe Q e (E orc)) (v0 v1 : Value) (G : GS) : Ref (s183 true e v0 v1 G) ((E orc).cl 183 [v0, v1] G) :=
  fun r hr => cl_sxC Q orc (vs := [v0, v1]) G (jt183 (j183_0 false (Ex.of (E orc))) ) Tryz.func183 (by kernel_rfl) (by kernel_rfl) (by kernel_rfl) (by kernel_rfl) (by kernel_rfl) (jo183 orc) (je183 orc (j183_0 false (Ex.of (E orc))) v0 v1 G) (m183 h v0 v1 G r hr)
/-- (*coxswain/arena.Free).Err -/
noncomputable def s184 (q : Bool) (e : Ex) (v0 : Value) (G : GS) : Option (Value × GS) :=
  bP (ep Q q false 147 (.tmp 4) (.const (.pointer none)) v0 (.pointer none)) fun x0 =>
  bS (gd x0 false (some (v0, G)) G) fun x1 G2 =>
  bS (gd x0 false (bP (pNil x1) fun y => some (y, G2)) G2) fun x3 G4 =>
  bS (gd x0 false (bP (fa Q q 384 2 7 x3) fun y => some (y, G4)) G4) fun x5 G6 =>
  bS (gd x0 false (bP (ld Q q 4 x5 G6) fun y => some (y, G6)) G6) fun x7 G8 =>
  bS (gd x0 false (bP (un Q q .not x7) fun y => some (y, G8)) G8) fun x9 G10 =>
  bP (pickV x0 (.bool true) x9) fun x11 =>
  ifV x11 (
  some ((.int .i64 1), G10)) (
  bP (pNil v0) fun x12 =>
  bP (fa Q q 384 3 8 x12) fun x13 =>
  bP (ld Q q 382 x13 G10) fun x14 =>
  bP (ef Q q true 382 (.tmp 17) (.const .nilFunc) x14 .nilFunc) fun x15 =>
  ifV x15 (
  some ((.int .i64 14), G10)) (
  bP (pNil v0) fun x16 =>
  bP (fa Q q 384 6 11 x16) fun x17 =>
  bP (ld Q q 33 x17 G10) fun x18 =>
  some (x18, G10)))
theorem m184 {e : Ex} {E : Ev} (h : ExLe Q e E) (v0 : Value) (G : GS) : Ref (s184 true e v0 G) (s184 false (Ex.of E) v0 G) := by
  unfold s184
  exact Ref.gq
theorem f184 {orc : FuncId → Bool} {e : Ex} (h : ExLe Q e (E orc)) (v0 : Value) (G : GS) : Ref (s184 true e v0 G) ((E orc).cl 184 [v0] G) :=
  fun r hr => cl_sxE_some Q orc (vs := [v0]) G Tryz.func184 (by kernel_rfl) (by kernel_rfl) (by kernel_rfl) (by kernel_rfl) (by kernel_rfl) (by kernel_rfl) (m184 h v0 G r hr)
/-- (*coxswain/coxswainref11.Free).Err -/
noncomputable def s185 (q : Bool) (e : Ex) (v0 : Value) (G : GS) : Option (Value × GS) :=
  bP (pNil v0) fun x0 =>
  bP (fa Q q 387 2 7 x0) fun x1 =>
  bP (ld Q q 3 x1 G) fun x2 =>
  bP (bn Q q .neq 3 (.tmp 6) (.const (.int .i64 9)) x2 (.int .i64 9)) fun x3 =>
  ifV x3 (
  some ((.int .i64 14), G)) (
  bP (pNil v0) fun x4 =>
  bP (fa Q q 387 5 10 x4) fun x5 =>
  bP (ld Q q 33 x5 G) fun x6 =>
  some (x6, G))
theorem m185 {e : Ex} {E : Ev} (h : ExLe Q e E) (v0 : Value) (G : GS) : Ref (s185 true e v0 G) (s185 false (Ex.of E) v0 G) := by
  unfold s185
  exact Ref.gq
theorem f185 {orc : FuncId → Bool} {e : Ex} (h : ExLe Q e (E orc)) (v0 : Value) (G : GS) : Ref (s185 true e v0 G) ((E orc).cl 185 [v0] G) :=
  fun r hr => cl_sxE_some Q orc (vs := [v0]) G Tryz.func185 (by kernel_rfl) (by kernel_rfl) (by kernel_rfl) (by kernel_rfl) (by kernel_rfl) (by kernel_rfl) (m185 h v0 G r hr)
/-- coxswain/coxswainref11.NewAlloc -/
noncomputable def s186 (q : Bool) (e : Ex) (v0 : Value) (G : GS) : Option (Value × GS) :=
  bS (bx q v0 G) fun x0 G1 =>
  bP (lda Q q 25 6 x0 (G1.room 7)) fun x2 =>
  bP (fa Q q 25 0 0 x0) fun x3 =>
  bP (lda Q q 23 3 x3 (G1.room 7)) fun x4 =>
  bS (e.ev.cl 267 [x4] (G1.room 7)) fun x6 G5 =>
  chk ((sameO (lda Q q 25 6 x0 G5) x2 && true)) <|
  bP (bd Q q 379 z379 [(0, 0, 6), (1, 6, 1)] [x2, x6]) fun x7 =>
  bS (bx q x7 (G5.at' (G1.nx + 5))) fun x8 G9 =>
  some (x8, (G9.back G5))
theorem m186 {e : Ex} {E : Ev} (h : ExLe Q e E) (v0 : Value) (G : GS) : Ref (s186 true e v0 G) (s186 false (Ex.of E) v0 G) := by
  unfold s186
  exact Ref.gq
theorem f186 {orc : FuncId → Bool} {e : Ex} (h : ExLe Q e (E orc)) (v0 : Value) (G : GS) : Ref (s186 true e v0 G) ((E orc).cl 186 [v0] G) :=
  fun r hr => cl_sxE_some Q orc (vs := [v0]) G Tryz.func186 (by kernel_rfl) (by kernel_rfl) (by kernel_rfl) (by kernel_rfl) (by kernel_rfl) (by kernel_rfl) (m186 h v0 G r hr)
/-- coxswain/arena.NewFree -/
noncomputable def s187 (q : Bool) (e : Ex) (v0 v1 : Value) (G : GS) : Option (Value × GS) :=
  bS (bx q v0 G) fun x0 G1 =>
  bP (fa Q q 25 0 0 x0) fun x2 =>
  bP (lda Q q 23 3 x2 (G1.room 9)) fun x3 =>
  bS (e.ev.cl 268 [x3, v1] (G1.room 9)) fun x5 G4 =>
  bP (lda Q q 25 6 x0 G4) fun x6 =>
  chk ((sameO (lda Q q 25 6 x0 (G1.room 9)) x6 && true)) <|
  bP (bd Q q 384 z384 [(0, 0, 1), (1, 1, 6), (2, 7, 1), (4, 9, 1)] [x5, x6, (.bool true), v1]) fun x7 =>
  bS (bx q x7 (G4.at' (G1.nx + 7))) fun x8 G9 =>
  bP (bn Q q .lss 3 (.tmp 14) (.const (.int .i64 0)) v1 (.int .i64 0)) fun x10 =>
  bS (gd x10 false (some (v1, (G9.back G4))) (G9.back G4)) fun x11 G12 =>
  bS (gd x10 false (bP (fa Q q 25 0 0 x0) fun y => some (y, G12)) G12) fun x13 G14 =>
  bS (gd x10 false (bP (fa Q q 23 2 2 x13) fun y => some (y, G14)) G14) fun x15 G16 =>
  bS (gd x10 false (bP (ld Q q 3 x15 G16) fun y => some (y, G16)) G16) fun x17 G18 =>
  bS (gd x10 false (bP (bn Q q .geq 3 (.tmp 17) (.tmp 20) x11 x17) fun y => some (y, G18)) G18) fun x19 G20 =>
  bP (pickV x10 (.bool true) x19) fun x21 =>
  ifV x21 (
  bP (pNil x8) fun x22 =>
  bP (fa Q q 384 6 11 x22) fun x23 =>
  bP (st Q q 33 1 x23 (.int .i64 3) G20) fun G24 =>
  some (x8, G24)) (
  bP (pNil x8) fun x25 =>
  bP (fa Q q 384 3 8 x25) fun x26 =>
  bP (st Q q 382 1 x26 (.func (.func 269) #[] #[]) G20) fun G27 =>
  some (x8, G27))
theorem m187 {e : Ex} {E : Ev} (h : ExLe Q e E) (v0 v1 : Value) (G : GS) : Ref (s187 true e v0 v1 G) (s187 false (Ex.of E) v0 v1 G) := by
  unfold s187
  exact Ref.gq
theorem f187 {orc : FuncId → Bool} {e : Ex} (h : ExLe Q e (E orc)) (v0 v1 : Value) (G : GS) : Ref (s187 true e v0 v1 G) ((E orc).cl 187 [v0, v1] G) :=
  fun r hr => cl_sxE_some Q orc (vs := [v0, v1]) G Tryz.func187 (by kernel_rfl) (by kernel_rfl) (by kernel_rfl) (by kernel_rfl) (by kernel_rfl) (by kernel_rfl) (m187 h v0 v1 G r hr)
/-- coxswain/coxswainref11.NewFree -/
noncomputable def s188 (q : Bool) (e : Ex) (v0 v1 : Value) (G : GS) : Option (Value × GS) :=
  bS (bx q v0 G) fun x0 G1 =>
  bP (lda Q q 25 6 x0 (G1.room 9)) fun x2 =>
  bP (fa Q q 25 0 0 x0) fun x3 =>
  bP (lda Q q 23 3 x3 (G1.room 9)) fun x4 =>
  bS (e.ev.cl 270 [x4, v1] (G1.room 9)) fun x6 G5 =>
  chk ((sameO (lda Q q 25 6 x0 G5) x2 && true)) <|
  bP (bd Q q 387 z387 [(0, 0, 6), (3, 8, 1), (1, 6, 1)] [x2, v1, x6]) fun x7 =>
  bS (bx q x7 (G5.at' (G1.nx + 7))) fun x8 G9 =>
  bP (bn Q q .lss 3 (.tmp 14) (.const (.int .i64 0)) v1 (.int .i64 0)) fun x10 =>
  bS (gd x10 false (some (v1, (G9.back G5))) (G9.back G5)) fun x11 G12 =>
  bS (gd x10 false (bP (fa Q q 25 0 0 x0) fun y => some (y, G12)) G12) fun x13 G14 =>
  bS (gd x10 false (bP (fa Q q 23 2 2 x13) fun y => some (y, G14)) G14) fun x15 G16 =>
  bS (gd x10 false (bP (ld Q q 3 x15 G16) fun y => some (y, G16)) G16) fun x17 G18 =>
  bS (gd x10 false (bP (bn Q q .geq 3 (.tmp 17) (.tmp 20) x11 x17) fun y => some (y, G18)) G18) fun x19 G20 =>
  bP (pickV x10 (.bool true) x19) fun x21 =>
  ifV x21 (
  bP (pNil x8) fun x22 =>
  bP (fa Q q 387 2 7 x22) fun x23 =>
  bP (st Q q 3 1 x23 (.int .i64 9) G20) fun G24 =>
  bP (pNil x8) fun x25 =>
  bP (fa Q q 387 5 10 x25) fun x26 =>
  bP (st Q q 33 1 x26 (.int .i64 3) G24) fun G27 =>
  some (x8, G27)) (
  some (x8, G20))
theorem m188 {e : Ex} {E : Ev} (h : ExLe Q e E) (v0 v1 : Value) (G : GS) : Ref (s188 true e v0 v1 G) (s188 false (Ex.of E) v0 v1 G) := by
  unfold s188
  exact Ref.gq
theorem f188 {orc : FuncId → Bool} {e : Ex} (h : ExLe Q e (E orc)) (v0 v1 : Value) (G : GS) : Ref (s188 true e v0 v1 G) ((E orc).cl 188 [v0, v1] G) :=
  fun r hr => cl_sxE_some Q orc (vs := [v0, v1]) G Tryz.func188 (by kernel_rfl) (by kernel_rfl) (by kernel_rfl) (by kernel_rfl) (by kernel_rfl) (by kernel_rfl) (m188 h v0 v1 G r hr)
/-- coxswain/word.GetTop -/
noncomputable def s189 (q : Bool) (e : Ex) (v0 : Value) (G : GS) : Option (Value × GS) :=
  bS (al Q q 274 z274 G) fun x0 G1 =>
  bS (e.ev.cl 271 [] G1) fun x2 G3 =>
  bS (al Q q 393 z393 G3) fun x4 G5 =>
  bP (st Q q 393 4 x4 x2 G5) fun G6 =>
  bP (iaa Q q 393 2 2 x4 (.int .i64 0)) fun x7 =>
  bP (lda Q q 392 2 x7 (G6.room 12)) fun x8 =>
  bS (e.ev.cl 272 [v0, x8] (G6.room 12)) fun x10 G9 =>
  bP (bn Q q .sub 3 (.tmp 9) (.const (.int .i64 1)) x10 (.int .i64 1)) fun x11 =>
  bP (iaa Q q 393 2 2 x4 (.int .i64 1)) fun x12 =>
  bP (lda Q q 392 2 x12 G9) fun x13 =>
  chk ((sameO (lda Q q 392 2 x12 (G6.room 12)) x13 && true)) <|
  bS (e.ev.cl 272 [v0, x13] G9) fun x15 G14 =>
  bP (bd Q q 274 z274 [(0, 0, 1), (1, 1, 1)] [x11, x15]) fun x16 =>
  bP (st Q q 274 2 x0 x16 G14) fun G17 =>
  bP (lda Q q 274 2 x0 G17) fun x18 =>
  some (.tuple #[x18, (.int .i64 0)], G17)
theorem m189 {e : Ex} {E : Ev} (h : ExLe Q e E) (v0 : Value) (G : GS) : Ref (s189 true e v0 G) (s189 false (Ex.of E) v0 G) := by
  unfold s189
  exact Ref.gq
theorem f189 {orc : FuncId → Bool} {e : Ex} (h : ExLe Q e (E orc)) (v0 : Value) (G : GS) : Ref (s189 true e v0 G) ((E orc).cl 189 [v0] G) :=
  fun r hr => cl_sxE_some Q orc (vs := [v0]) G Tryz.func189 (by kernel_rfl) (by kernel_rfl) (by kernel_rfl) (by kernel_rfl) (by kernel_rfl) (by kernel_rfl) (m189 h v0 G r hr)
/-- (coxswain/cells.deed).swap -/
noncomputable def s193 (q : Bool) (e : Ex) (v0 : Value) (G : GS) : Option (Value × GS) :=
  bS (bx q v0 G) fun x0 G1 =>
  bP (fa Q q 246 0 0 x0) fun x2 =>
  bP (ld Q q 243 x2 (G1.room 7)) fun x3 =>
  bP (pNil x3) fun x4 =>
  bP (ld Q q 154 x4 (G1.room 7)) fun x5 =>
  bP (fa Q q 246 1 1 x0) fun x6 =>
  bP (ld Q q 41 x6 (G1.room 7)) fun x7 =>
  bP (bn Q q .neq 41 (.tmp 7) (.tmp 9) x5 x7) fun x8 =>
  ifV x8 (
  bP (fa Q q 246 0 0 x0) fun x9 =>
  bP (ld Q q 243 x9 (G1.room 7)) fun x10 =>
  bP (pNil x10) fun x11 =>
  bP (ld Q q 154 x11 (G1.room 7)) fun x12 =>
  some (.tuple #[x12, (.bool false)], (G1.room 7))) (
  bP (fa Q q 246 2 2 x0) fun x13 =>
  bP (ld Q q 41 x13 (G1.room 7)) fun x14 =>
  some (.tuple #[x14, (.bool true)], (G1.room 7)))
theorem m193 {e : Ex} {E : Ev} (h : ExLe Q e E) (v0 : Value) (G : GS) : Ref (s193 true e v0 G) (s193 false (Ex.of E) v0 G) := by
  unfold s193
  exact Ref.gq
theorem f193 {orc : FuncId → Bool} {e : Ex} (h : ExLe Q e (E orc)) (v0 : Value) (G : GS) : Ref (s193 true e v0 G) ((E orc).cl 193 [v0] G) :=
  fun r hr => cl_sxE_some Q orc (vs := [v0]) G Tryz.func193 (by kernel_rfl) (by kernel_rfl) (by kernel_rfl) (by kernel_rfl) (by kernel_rfl) (by kernel_rfl) (m193 h v0 G r hr)
/-- coxswain/word.Marks -/
noncomputable def s194 (q : Bool) (e : Ex) (v0 v1 : Value) (G : GS) : Option (Value × GS) :=
  ifV v1 (
  bP (bn Q q .or 41 (.tmp 6) (.const (.int .u64 9223372036854775808)) v0 (.int .u64 9223372036854775808)) fun x0 =>
  some (x0, G)) (
  bP (bn Q q .andNot 41 (.tmp 8) (.const (.int .u64 9223372036854775808)) v0 (.int .u64 9223372036854775808)) fun x1 =>
  some (x1, G))
theorem m194 {e : Ex} {E : Ev} (h : ExLe Q e E) (v0 v1 : Value) (G : GS) : Ref (s194 true e v0 v1 G) (s194 false (Ex.of E) v0 v1 G) := by
  unfold s194
  exact Ref.gq
theorem f194 {orc : FuncId → Bool} {e : Ex} (h : ExLe Q e (E orc)) (v0 v1 : Value) (G : GS) : Ref (s194 true e v0 v1 G) ((E orc).cl 194 [v0, v1] G) :=
  fun r hr => cl_sxE_some Q orc (vs := [v0, v1]) G Tryz.func194 (by kernel_rfl) (by kernel_rfl) (by kernel_rfl) (by kernel_rfl) (by kernel_rfl) (by kernel_rfl) (m194 h v0 v1 G r hr)
/-- (*coxswain/cells.Mem).Add -/
noncomputable def s198 (q : Bool) (e : Ex) (v0 v1 v2 : Value) (G : GS) : Option (Value × GS) :=
  bS (e.ev.cl 158 [v0, v1] G) fun x0 G1 =>
  bP (bd Q q 246 z246 [(0, 0, 1), (1, 1, 1)] [x0, v2]) fun x2 =>
  bS (al Q q 246 z246 G1) fun x3 G4 =>
  bP (st Q q 246 3 x3 x2 G4) fun G5 =>
  bP (fa Q q 246 0 0 x3) fun x6 =>
  bP (ld Q q 243 x6 G5) fun x7 =>
  bP (lda Q q 246 3 x3 G5) fun x8 =>
  bS (e.ev.cl 159 [v0, (.int .i64 4), v1, x7, (.func (.func 279) #[x8] #[])] G5) fun x9 G10 =>
  bP (fd Q q 68 3 3 x9) fun x11 =>
  some (x11, G10)
theorem m198 {e : Ex} {E : Ev} (h : ExLe Q e E) (v0 v1 v2 : Value) (G : GS) : Ref (s198 true e v0 v1 v2 G) (s198 false (Ex.of E) v0 v1 v2 G) := by
  unfold s198
  exact Ref.gq
theorem f198 {orc : FuncId → Bool} {e : Ex} (h : ExLe Q e (E orc)) (v0 v1 v2 : Value) (G : GS) : Ref (s198 true e v0 v1 v2 G) ((E orc).cl 198 [v0, v1, v2] G) :=
  fun r hr => cl_sxE_some Q orc (vs := [v0, v1, v2]) G Tryz.func198 (by kernel_rfl) (by kernel_rfl) (by kernel_rfl) (by kernel_rfl) (by kernel_rfl) (by kernel_rfl) (m198 h v0 v1 v2 G r hr)
/-- (*coxswain/cells.place).is -/
noncomputable def s248 (q : Bool) (e : Ex) (v0 : Value) (G : GS) : Option (Value × GS) :=
  bP (ep Q q true 243 (.tmp 3) (.const (.pointer none)) v0 (.pointer none)) fun x0 =>
  some (x0, G)
theorem m248 {e : Ex} {E : Ev} (h : ExLe Q e E) (v0 : Value) (G : GS) : Ref (s248 true e v0 G) (s248 false (Ex.of E) v0 G) := by
  unfold s248
  exact Ref.gq
theorem f248 {orc : FuncId → Bool} {e : Ex} (h : ExLe Q e (E orc)) (v0 : Value) (G : GS) : Ref (s248 true e v0 G) ((E orc).cl 248 [v0] G) :=
  fun r hr => cl_sxE_some Q orc (vs := [v0]) G Tryz.func248 (by kernel_rfl) (by kernel_rfl) (by kernel_rfl) (by kernel_rfl) (by kernel_rfl) (by kernel_rfl) (m248 h v0 G r hr)
/-- coxswain/stack.sized -/
noncomputable def s254 (q : Bool) (e : Ex) (v0 : Value) (G : GS) : Option (Value × GS) :=
  bS (bx q v0 G) fun x0 G1 =>
  bP (fa Q q 23 2 2 x0) fun x2 =>
  bP (ld Q q 3 x2 G1) fun x3 =>
  bP (bn Q q .geq 3 (.tmp 4) (.const (.int .i64 1)) x3 (.int .i64 1)) fun x4 =>
  bS (gd x4 true (bP (fa Q q 23 2 2 x0) fun y => some (y, G1)) G1) fun x5 G6 =>
  bS (gd x4 true (bP (ld Q q 3 x5 G6) fun y => some (y, G6)) G6) fun x7 G8 =>
  bS (gd x4 true (bP (bn Q q .leq 3 (.tmp 8) (.const (.int .i64 4096)) x7 (.int .i64 4096)) fun y => some (y, G8)) G8) fun x9 G10 =>
  bP (pickV x4 x9 (.bool false)) fun x11 =>
  some (x11, G10)
theorem m254 {e : Ex} {E : Ev} (h : ExLe Q e E) (v0 : Value) (G : GS) : Ref (s254 true e v0 G) (s254 false (Ex.of E) v0 G) := by
  unfold s254
  exact Ref.gq
theorem f254 {orc : FuncId → Bool} {e : Ex} (h : ExLe Q e (E orc)) (v0 : Value) (G : GS) : Ref (s254 true e v0 G) ((E orc).cl 254 [v0] G) :=
  fun r hr => cl_sxE_some Q orc (vs := [v0]) G Tryz.func254 (by kernel_rfl) (by kernel_rfl) (by kernel_rfl) (by kernel_rfl) (by kernel_rfl) (by kernel_rfl) (m254 h v0 G r hr)
/-- coxswain/arena.counted$1 -/
noncomputable def s255 (q : Bool) (e : Ex) (v0 v1 v2 : Value) (G : GS) : Option (Value × GS) :=
  bP (ld Q q 3 v0 G) fun x0 =>
  bP (ld Q q 3 v1 G) fun x1 =>
  bP (bn Q q .geq 3 (.tmp 4) (.tmp 5) x0 x1) fun x2 =>
  ifV x2 (
  some ((.int .i64 (-1)), G)) (
  bP (ld Q q 3 v0 G) fun x3 =>
  bP (bn Q q .add 3 (.tmp 7) (.const (.int .i64 1)) x3 (.int .i64 1)) fun x4 =>
  bP (st Q q 3 1 v0 x4 G) fun G5 =>
  bP (ld Q q 3 v2 G5) fun x6 =>
  bP (ld Q q 3 v0 G5) fun x7 =>
  bP (bn Q q .add 3 (.tmp 9) (.tmp 10) x6 x7) fun x8 =>
  bP (bn Q q .sub 3 (.tmp 11) (.const (.int .i64 1)) x8 (.int .i64 1)) fun x9 =>
  some (x9, G5))
theorem m255 {e : Ex} {E : Ev} (h : ExLe Q e E) (v0 v1 v2 : Value) (G : GS) : Ref (s255 true e v0 v1 v2 G) (s255 false (Ex.of E) v0 v1 v2 G) := by
  unfold s255
  exact Ref.gq
theorem f255 {orc : FuncId → Bool} {e : Ex} (h : ExLe Q e (E orc)) (v0 v1 v2 : Value) (G : GS) : Ref (s255 true e v0 v1 v2 G) ((E orc).cl 255 [v0, v1, v2] G) :=
  fun r hr => cl_sxE_some Q orc (vs := [v0, v1, v2]) G Tryz.func255 (by kernel_rfl) (by kernel_rfl) (by kernel_rfl) (by kernel_rfl) (by kernel_rfl) (by kernel_rfl) (m255 h v0 v1 v2 G r hr)
/-- coxswain/arena.sized -/
noncomputable def s256 (q : Bool) (e : Ex) (v0 : Value) (G : GS) : Option (Value × GS) :=
  bS (bx q v0 G) fun x0 G1 =>
  bP (fa Q q 25 0 0 x0) fun x2 =>
  bP (fa Q q 23 2 2 x2) fun x3 =>
  bP (ld Q q 3 x3 G1) fun x4 =>
  bP (bn Q q .geq 3 (.tmp 5) (.const (.int .i64 1)) x4 (.int .i64 1)) fun x5 =>
  bS (gd x5 true (bP (fa Q q 25 0 0 x0) fun y => some (y, G1)) G1) fun x6 G7 =>
  bS (gd x5 true (bP (fa Q q 23 2 2 x6) fun y => some (y, G7)) G7) fun x8 G9 =>
  bS (gd x5 true (bP (ld Q q 3 x8 G9) fun y => some (y, G9)) G9) fun x10 G11 =>
  bS (gd x5 true (bP (bn Q q .leq 3 (.tmp 10) (.const (.int .i64 4096)) x10 (.int .i64 4096)) fun y => some (y, G11)) G11) fun x12 G13 =>
  bP (pickV x5 x12 (.bool false)) fun x14 =>
  some (x14, G13)
theorem m256 {e : Ex} {E : Ev} (h : ExLe Q e E) (v0 : Value) (G : GS) : Ref (s256 true e v0 G) (s256 false (Ex.of E) v0 G) := by
  unfold s256
  exact Ref.gq
theorem f256 {orc : FuncId → Bool} {e : Ex} (h : ExLe Q e (E orc)) (v0 : Value) (G : GS) : Ref (s256 true e v0 G) ((E orc).cl 256 [v0] G) :=
  fun r hr => cl_sxE_some Q orc (vs := [v0]) G Tryz.func256 (by kernel_rfl) (by kernel_rfl) (by kernel_rfl) (by kernel_rfl) (by kernel_rfl) (by kernel_rfl) (m256 h v0 G r hr)
noncomputable def jbl257_0_0 (q : Bool) (e : Ex) (lp : Env → GS → Option (Exit × Env × GS)) (τ : Env) (G : GS) : Option (Exit × Env × GS) :=
  bV q (τ 1) fun a1_ =>
  bV q (τ 2) fun a2_ =>
  bV q (τ 4) fun a4_ =>
  bV q (τ 5) fun a5_ =>
  bV q (τ 15) fun a15_ =>
  bV q (τ 16) fun a16_ =>
  bP (fa Q q 23 1 1 a2_) fun x2 =>
  bP (ld Q q 3 x2 (G.room 8)) fun x3 =>
  bP (bn Q q .add 3 (.tmp 27) (.tmp 28) x3 a4_) fun x4 =>
  bS (e.ev.cl 334 [a5_] (G.room 8)) fun x6 G5 =>
  chk ((sameO (ld Q q 3 x2 G5) x3 && true)) <|
  bS (e.ev.cl 45 [a1_, x4, x6] G5) fun x8 G7 =>
  bP (bn Q q .add 3 (.tmp 16) (.const (.int .i64 1)) a16_ (.int .i64 1)) fun x9 =>
  lp (xq q 34 τ [(16, x9), (33, x9), (32, x8), (31, x6), (30, a5_), (29, x4), (28, a4_), (27, x3), (26, x2), (25, a1_)] [(1, a1_), (2, a2_), (4, a4_), (5, a5_), (15, a15_)]) G7
noncomputable def jl257_0_0 (q : Bool) (e : Ex) (lp : Env → GS → Option (Exit × Env × GS)) (τ : Env) (G : GS) : Option (Exit × Env × GS) := jbl257_0_0 q e lp τ G
theorem mjl257_0_0 {e : Ex} {E : Ev} (h : ExLe Q e E) {lp lp' : Env → GS → Option (Exit × Env × GS)} (hlp : LpLe lp lp') (τ : Env) (G : GS) : Ref (jl257_0_0 true e lp τ G) (jl257_0_0 false (Ex.of E) lp' τ G) := by
  unfold jl257_0_0 jbl257_0_0
  exact Ref.gq
theorem mkjl257_0_0 {e : Ex} {E : Ev} (h : ExLe Q e E) {lp lp' : Env → GS → Option (Exit × Env × GS)} (hlp : LpLe lp lp') {τ : Env} {l U : List (Nat × Value)} {G : GS} (hU : UOk τ U) : Ref (jl257_0_0 true e lp (xq true 34 τ l U) G) (jl257_0_0 false (Ex.of E) lp' (xq false 34 τ l U) G) := by
  rw [xq_eq hU]
  exact mjl257_0_0 h hlp _ _
noncomputable def bb257_0 (q : Bool) (e : Ex) (lp : Env → GS → Option (Exit × Env × GS)) (J0 : Env → GS → Option (Exit × Env × GS)) (τ : Env) (G : GS) : Option (Exit × Env × GS) :=
  bV q (τ 1) fun a1_ =>
  bV q (τ 2) fun a2_ =>
  bV q (τ 4) fun a4_ =>
  bV q (τ 5) fun a5_ =>
  bV q (τ 15) fun a15_ =>
  bV q (τ 16) fun a16_ =>
  bP (bn Q q .lss 3 (.tmp 16) (.tmp 15) a16_ a15_) fun x0 =>
  ifV x0 (
  bP (bn Q q .add 3 (.tmp 19) (.const (.int .i64 1)) a16_ (.int .i64 1)) fun x1 =>
  bP (fa Q q 23 2 2 a2_) fun x10 =>
  bP (ld Q q 3 x10 G) fun x11 =>
  bP (bn Q q .eql 3 (.tmp 21) (.tmp 23) x1 x11) fun x12 =>
  ifV x12 (
  J0 (xq q 34 τ [(5, (.int .i64 (-1))), (24, x12), (23, x11), (22, x10), (21, x1), (5, x1), (20, x1), (19, a16_), (4, a16_), (18, a16_), (17, x0)] [(1, a1_), (2, a2_), (15, a15_), (16, a16_)]) G) (
  J0 (xq q 34 τ [(24, x12), (23, x11), (22, x10), (21, x1), (5, x1), (20, x1), (19, a16_), (4, a16_), (18, a16_), (17, x0)] [(1, a1_), (2, a2_), (15, a15_), (16, a16_)]) G)) (
  some ((.exit 0), xq q 34 τ [(17, x0)] [(1, a1_), (2, a2_), (4, a4_), (5, a5_), (15, a15_), (16, a16_)], G))
noncomputable def b257_0 (q : Bool) (e : Ex) (lp : Env → GS → Option (Exit × Env × GS)) (τ : Env) (G : GS) : Option (Exit × Env × GS) := bb257_0 q e lp (jl257_0_0 q e lp) τ G
theorem mb257_0 {e : Ex} {E : Ev} (h : ExLe Q e E) {lp lp' : Env → GS → Option (Exit × Env × GS)} (hlp : LpLe lp lp') (τ : Env) (G : GS) : Ref (b257_0 true e lp τ G) (b257_0 false (Ex.of E) lp' τ G) := by
  unfold b257_0 bb257_0
  repeat' (with_reducible first | exact Ref.rfl' _ | exact ROp.r | refine Ref.bP ?_ fun _ => ?_ | refine Ref.bS ?_ fun _ _ => ?_ | exact Ref.cl (by assumption) | refine Ref.ifV ?_ ?_ | refine LpLe.rx (by assumption) ?_ | refine Ref.xitq ?_ | exact UOk.z | refine UOk.c (by assumption) ?_ | exact Ref.nil _ | refine Ref.bVe fun _ _ => ?_ | refine Ref.bLq (by assumption) ?_ fun _ _ _ => ?_ | refine Ref.ifE ?_ ?_ | refine Ref.chk ?_ ?_ | refine Imp.and ?_ ?_ | refine Imp.or ?_ | exact Imp.rfl' _ | refine Imp.sameO ?_ | refine Ref.gd ?_ | exact Ref.cValue (by assumption) | refine Ref.bX ?_ fun _ _ _ => ?_ | exact Ref.scQ (by assumption) | exact Ref.xRangeQ (by assumption) | exact Ref.cInvoke (by assumption) | refine mkjl257_0_0 (by assumption) (by assumption) ?_)
noncomputable def jtl257_0 (J0 : Env → GS → Option (Exit × Env × GS)) : JT (Exit × Env × GS) :=
  (.n none .e (.n none .e (.n none (.n none (.n none .e (.n none .e (.n (some (fun T G => J0 (nth undef T) G)) .e .e))) .e) .e)))
theorem jrl257_0_0 (orc : FuncId → Bool) (J0 : Env → GS → Option (Exit × Env × GS)) (T : List Value) (G : GS) : runC Q (evL Q orc) 34 (jtl257_0 J0) (subAt [1, 1, 1, 1, 0, 0] (bodyOf Tryz.f257)) (seqXE (fun τ G' => mapE ((E orc).lp (subAt [1, 1, 1, 1, 0, 0] (bodyOf Tryz.f257)) (lst 34 (nth undef (lst 34 τ))) G')) fun e τ G' => some (e, nth undef (lst 34 τ), G')) [true, true, false, false, true, true] (nth undef T) G = jbl257_0_0 false (Ex.of (E orc)) (fun τ G => mapE ((E orc).lp (subAt [1, 1, 1, 1, 0, 0] (bodyOf Tryz.f257)) (lst 34 τ) G))  (nth undef T) G := by kernel_rfl
theorem jol257_0 (orc : FuncId → Bool) : JOk Q orc 34 (jtl257_0 (jl257_0_0 false (Ex.of (E orc)) (fun τ G => mapE ((E orc).lp (subAt [1, 1, 1, 1, 0, 0] (bodyOf Tryz.f257)) (lst 34 τ) G))) ) (subAt [1, 1, 1, 1, 0, 0] (bodyOf Tryz.f257)) (seqXE (fun τ G' => mapE ((E orc).lp (subAt [1, 1, 1, 1, 0, 0] (bodyOf Tryz.f257)) (lst 34 (nth undef (lst 34 τ))) G')) fun e τ G' => some (e, nth undef (lst 34 τ), G')) :=
  jOk Q orc (l := [([true, true, false, false, true, true], (fun T G => jl257_0_0 false (Ex.of (E orc)) (fun τ G => mapE ((E orc).lp (subAt [1, 1, 1, 1, 0, 0] (bodyOf Tryz.f257)) (lst 34 τ) G)) (nth undef T) G))]) (by kernel_rfl) (AllE.c (fun T G => jrl257_0_0 orc (jl257_0_0 false (Ex.of (E orc)) (fun τ G => mapE ((E orc).lp (subAt [1, 1, 1, 1, 0, 0] (bodyOf Tryz.f257)) (lst 34 τ) G))) T G) (AllE.z))
theorem jel257_0 (orc : FuncId → Bool) (J0 : Env → GS → Option (Exit × Env × GS)) (T : List Value) (G : GS) : sxC Q (evL Q orc) 34 (jtl257_0 J0) (subAt [1, 1, 1, 1, 0, 0] (bodyOf Tryz.f257)) (nth undef T) G (seqXE (fun τ G' => mapE ((E orc).lp (subAt [1, 1, 1, 1, 0, 0] (bodyOf Tryz.f257)) (lst 34 (nth undef (lst 34 τ))) G')) fun e τ G' => some (e, nth undef (lst 34 τ), G')) = bb257_0 false (Ex.of (E orc)) (fun τ G => mapE ((E orc).lp (subAt [1, 1, 1, 1, 0, 0] (bodyOf Tryz.f257)) (lst 34 τ) G)) J0 (nth undef T) G := by kernel_rfl
theorem l257_0 {orc : FuncId → Bool} {e : Ex} (h : ExLe Q e (E orc)) (lp : Env → GS → Option (Exit × Env × GS)) (hlp : ∀ τ G, Ref (lp τ G) (mapE ((E orc).lp (subAt [1, 1, 1, 1, 0, 0] (bodyOf Tryz.f257)) (lst 34 τ) G))) (T : List Value) (G : GS) (hT : T.length = 34) : Ref (b257_0 true e lp (nth undef T) G) (mapE ((E orc).lp (subAt [1, 1, 1, 1, 0, 0] (bodyOf Tryz.f257)) T G)) :=
  fun r hr => lp_sxC Q orc G (jtl257_0 (jl257_0_0 false (Ex.of (E orc)) (fun τ G => mapE ((E orc).lp (subAt [1, 1, 1, 1, 0, 0] (bodyOf Tryz.f257)) (lst 34 τ) G))) ) hT (jol257_0 orc) (jel257_0 orc (jl257_0_0 false (Ex.of (E orc)) (fun τ G => mapE ((E orc).lp (subAt [1, 1, 1, 1, 0, 0] (bodyOf Tryz.f257)) (lst 34 τ) G))) T G) (mb257_0 h ⟨hlp⟩ _ _ r hr)
/-- coxswain/stack.Fill -/
noncomputable def s257 (q : Bool) (e : Ex) (v0 v1 : Value) (G : GS) : Option (Value × GS) :=
  bS (bx q v0 G) fun x0 G1 =>
  bP (lda Q q 23 3 x0 G1) fun x2 =>
  bS (e.ev.cl 254 [x2] G1) fun x3 G4 =>
  bP (un Q q .not x3) fun x5 =>
  ifV x5 (
  some (.tuple #[], G4)) (
  bP (fa Q q 23 0 0 x0) fun x6 =>
  bP (ld Q q 3 x6 (G4.room 5)) fun x7 =>
  bS (e.ev.cl 334 [(.int .i64 0)] (G4.room 5)) fun x9 G8 =>
  chk ((sameO (ld Q q 3 x6 G8) x7 && true)) <|
  bS (e.ev.cl 45 [v1, x7, x9] G8) fun x11 G10 =>
  bP (fa Q q 23 2 2 x0) fun x12 =>
  bP (ld Q q 3 x12 G10) fun x13 =>
  bLq q e 257 0 (subAt [1, 1, 1, 1, 0, 0] (bodyOf Tryz.f257)) 34 (nth undef [v0, v1]) [(16, (.int .i64 0)), (15, x13), (14, x12), (13, x11), (12, x9), (11, x7), (10, x6), (9, v1), (8, x5), (7, x3), (6, x2), (2, x0)] [] G10 fun e14 t15 G16 =>
  ifE e14 (.exit 0) (
  some (.tuple #[], G16)) (none))
theorem m257 {e : Ex} {E : Ev} (h : ExLe Q e E) (v0 v1 : Value) (G : GS) : Ref (s257 true e v0 v1 G) (s257 false (Ex.of E) v0 v1 G) := by
  unfold s257
  exact Ref.gq
theorem f257 {orc : FuncId → Bool} {e : Ex} (h : ExLe Q e (E orc)) (v0 v1 : Value) (G : GS) : Ref (s257 true e v0 v1 G) ((E orc).cl 257 [v0, v1] G) :=
  fun r hr => cl_sxE_some Q orc (vs := [v0, v1]) G Tryz.func257 (by kernel_rfl) (by kernel_rfl) (by kernel_rfl) (by kernel_rfl) (by kernel_rfl) (by kernel_rfl) (m257 h v0 v1 G r hr)
/-- coxswain/stack.NewPop -/
noncomputable def s258 (q : Bool) (e : Ex) (v0 : Value) (G : GS) : Option (Value × GS) :=
  bS (bx q v0 G) fun x0 G1 =>
  bP (lda Q q 23 3 x0 G1) fun x2 =>
  bP (bd Q q 486 z486 [(0, 0, 3), (4, 6, 1)] [x2, (.bool true)]) fun x3 =>
  bP (bd Q q 489 z489 [(0, 0, 9), (1, 9, 1)] [x3, (.func (.func 335) #[] #[])]) fun x4 =>
  bS (bx q x4 G1) fun x5 G6 =>
  some (x5, G6)
theorem m258 {e : Ex} {E : Ev} (h : ExLe Q e E) (v0 : Value) (G : GS) : Ref (s258 true e v0 G) (s258 false (Ex.of E) v0 G) := by
  unfold s258
  exact Ref.gq
theorem f258 {orc : FuncId → Bool} {e : Ex} (h : ExLe Q e (E orc)) (v0 : Value) (G : GS) : Ref (s258 true e v0 G) ((E orc).cl 258 [v0] G) :=
  fun r hr => cl_sxE_some Q orc (vs := [v0]) G Tryz.func258 (by kernel_rfl) (by kernel_rfl) (by kernel_rfl) (by kernel_rfl) (by kernel_rfl) (by kernel_rfl) (m258 h v0 G r hr)
/-- (*coxswain/arena.Alloc).pop -/
noncomputable def s259 (q : Bool) (e : Ex) (v0 v1 : Value) (G : GS) : Option (Value × GS) :=
  bP (pNil v0) fun x0 =>
  bP (fa Q q 375 0 0 x0) fun x1 =>
  bP (ld Q q 371 x1 G) fun x2 =>
  bS (e.ev.cl 336 [x2, v1] G) fun x3 G4 =>
  bP (un Q q .not x3) fun x5 =>
  ifV x5 (
  some (.tuple #[], G4)) (
  bP (pNil v0) fun x6 =>
  bP (fa Q q 375 0 0 x6) fun x7 =>
  bP (ld Q q 371 x7 G4) fun x8 =>
  bS (e.ev.cl 337 [x8] G4) fun x9 G10 =>
  bP (pExtract x9 0) fun x11 =>
  bP (pExtract x9 1) fun x12 =>
  bP (pNil v0) fun x13 =>
  bP (fa Q q 375 4 9 x13) fun x14 =>
  bP (st Q q 3 1 x14 x11 G10) fun G15 =>
  bP (pNil v0) fun x16 =>
  bP (fa Q q 375 3 8 x16) fun x17 =>
  bP (st Q q 373 1 x17 (.func (.func 338) #[] #[]) G15) fun G18 =>
  bP (bn Q q .neq 33 (.tmp 28) (.const (.int .i64 0)) x12 (.int .i64 0)) fun x19 =>
  ifV x19 (
  bP (pNil v0) fun x20 =>
  bP (fa Q q 375 3 8 x20) fun x21 =>
  bP (st Q q 373 1 x21 (.func (.func 339) #[] #[]) G18) fun G22 =>
  some (.tuple #[], G22)) (
  some (.tuple #[], G18)))
theorem m259 {e : Ex} {E : Ev} (h : ExLe Q e E) (v0 v1 : Value) (G : GS) : Ref (s259 true e v0 v1 G) (s259 false (Ex.of E) v0 v1 G) := by
  unfold s259
  exact Ref.gq
theorem f259 {orc : FuncId → Bool} {e : Ex} (h : ExLe Q e (E orc)) (v0 v1 : Value) (G : GS) : Ref (s259 true e v0 v1 G) ((E orc).cl 259 [v0, v1] G) :=
  fun r hr => cl_sxE_some Q orc (vs := [v0, v1]) G Tryz.func259 (by kernel_rfl) (by kernel_rfl) (by kernel_rfl) (by kernel_rfl) (by kernel_rfl) (by kernel_rfl) (m259 h v0 v1 G r hr)
/-- (coxswain/cells.deed).load -/
noncomputable def s260 (q : Bool) (e : Ex) (v0 : Value) (G : GS) : Option (Value × GS) :=
  bS (bx q v0 G) fun x0 G1 =>
  bP (fa Q q 246 0 0 x0) fun x2 =>
  bP (ld Q q 243 x2 G1) fun x3 =>
  bP (pNil x3) fun x4 =>
  bP (ld Q q 154 x4 G1) fun x5 =>
  some (.tuple #[x5, (.bool false)], G1)
theorem m260 {e : Ex} {E : Ev} (h : ExLe Q e E) (v0 : Value) (G : GS) : Ref (s260 true e v0 G) (s260 false (Ex.of E) v0 G) := by
  unfold s260
  exact Ref.gq
theorem f260 {orc : FuncId → Bool} {e : Ex} (h : ExLe Q e (E orc)) (v0 : Value) (G : GS) : Ref (s260 true e v0 G) ((E orc).cl 260 [v0] G) :=
  fun r hr => cl_sxE_some Q orc (vs := [v0]) G Tryz.func260 (by kernel_rfl) (by kernel_rfl) (by kernel_rfl) (by kernel_rfl) (by kernel_rfl) (by kernel_rfl) (m260 h v0 G r hr)
noncomputable def b261_0 (q : Bool) (e : Ex) (lp : Env → GS → Option (Exit × Env × GS)) (τ : Env) (G : GS) : Option (Exit × Env × GS) :=
  bV q (τ 1) fun a1_ =>
  bV q (τ 2) fun a2_ =>
  bV q (τ 4) fun a4_ =>
  bP (fa Q q 23 2 2 a2_) fun x0 =>
  bP (ld Q q 3 x0 G) fun x1 =>
  bP (bn Q q .sub 3 (.tmp 19) (.const (.int .i64 1)) x1 (.int .i64 1)) fun x2 =>
  bP (bn Q q .lss 3 (.tmp 17) (.tmp 20) a4_ x2) fun x3 =>
  ifV x3 (
  bP (fa Q q 23 1 1 a2_) fun x4 =>
  bP (ld Q q 3 x4 G) fun x5 =>
  bP (bn Q q .add 3 (.tmp 26) (.tmp 27) x5 a4_) fun x6 =>
  bP (bn Q q .add 3 (.tmp 29) (.const (.int .i64 2)) a4_ (.int .i64 2)) fun x7 =>
  bP (cv Q q 3 41 .i64 .u64 x7) fun x8 =>
  bS (e.ev.cl 46 [a1_, x6, x8] G) fun x9 G10 =>
  bP (bn Q q .add 3 (.tmp 22) (.const (.int .i64 1)) a4_ (.int .i64 1)) fun x11 =>
  lp (xq q 41 τ [(4, x11), (23, x11), (22, a4_), (32, x9), (31, x8), (30, x7), (29, a4_), (28, x6), (27, a4_), (26, x5), (25, x4), (24, a1_), (21, x3), (20, x2), (19, x1), (18, x0), (17, a4_)] [(1, a1_), (2, a2_)]) G10) (
  some ((.exit 0), xq q 41 τ [(21, x3), (20, x2), (19, x1), (18, x0), (17, a4_)] [(1, a1_), (2, a2_), (4, a4_)], G))
theorem mb261_0 {e : Ex} {E : Ev} (h : ExLe Q e E) {lp lp' : Env → GS → Option (Exit × Env × GS)} (hlp : LpLe lp lp') (τ : Env) (G : GS) : Ref (b261_0 true e lp τ G) (b261_0 false (Ex.of E) lp' τ G) := by
  unfold b261_0
  exact Ref.gq
theorem l261_0 {orc : FuncId → Bool} {e : Ex} (h : ExLe Q e (E orc)) (lp : Env → GS → Option (Exit × Env × GS)) (hlp : ∀ τ G, Ref (lp τ G) (mapE ((E orc).lp (subAt [1, 1, 1, 0, 1, 0, 0] (bodyOf Tryz.f261)) (lst 41 τ) G))) (T : List Value) (G : GS) (hT : T.length = 41) : Ref (b261_0 true e lp (nth undef T) G) (mapE ((E orc).lp (subAt [1, 1, 1, 0, 1, 0, 0] (bodyOf Tryz.f261)) T G)) :=
  fun r hr => lp_sxN Q orc G hT (by kernel_rfl) (mb261_0 h ⟨hlp⟩ _ _ r hr)
/-- coxswain/coxswainref10.Fill -/
noncomputable def s261 (q : Bool) (e : Ex) (v0 v1 : Value) (G : GS) : Option (Value × GS) :=
  bS (bx q v0 G) fun x0 G1 =>
  bP (fa Q q 23 2 2 x0) fun x2 =>
  bP (ld Q q 3 x2 G1) fun x3 =>
  bP (bn Q q .lss 3 (.tmp 6) (.const (.int .i64 1)) x3 (.int .i64 1)) fun x4 =>
  bS (gd x4 false (bP (fa Q q 23 2 2 x0) fun y => some (y, G1)) G1) fun x5 G6 =>
  bS (gd x4 false (bP (ld Q q 3 x5 G6) fun y => some (y, G6)) G6) fun x7 G8 =>
  bS (gd x4 false (bP (bn Q q .gtr 3 (.tmp 10) (.const (.int .i64 4096)) x7 (.int .i64 4096)) fun y => some (y, G8)) G8) fun x9 G10 =>
  bP (pickV x4 (.bool true) x9) fun x11 =>
  ifV x11 (
  some (.tuple #[], G10)) (
  bP (fa Q q 23 0 0 x0) fun x12 =>
  bP (ld Q q 3 x12 G10) fun x13 =>
  bS (e.ev.cl 46 [v1, x13, (.int .u64 1)] G10) fun x14 G15 =>
  bLq q e 261 0 (subAt [1, 1, 1, 0, 1, 0, 0] (bodyOf Tryz.f261)) 41 (nth undef [v0, v1]) [(4, (.int .i64 0)), (16, x14), (15, x13), (14, x12), (13, v1), (12, x11), (11, x9), (10, x7), (9, x5), (8, x4), (7, x4), (6, x3), (5, x2), (2, x0)] [] G15 fun e16 t17 G18 =>
  bV q (t17 1) fun t17x1_ =>
  bV q (t17 2) fun t17x2_ =>
  ifE e16 (.exit 0) (
  bP (fa Q q 23 1 1 t17x2_) fun x19 =>
  bP (ld Q q 3 x19 G18) fun x20 =>
  bP (fa Q q 23 2 2 t17x2_) fun x21 =>
  bP (ld Q q 3 x21 G18) fun x22 =>
  bP (bn Q q .add 3 (.tmp 35) (.tmp 37) x20 x22) fun x23 =>
  bP (bn Q q .sub 3 (.tmp 38) (.const (.int .i64 1)) x23 (.int .i64 1)) fun x24 =>
  bS (e.ev.cl 46 [t17x1_, x24, (.int .u64 0)] G18) fun x25 G26 =>
  some (.tuple #[], G26)) (none))
theorem m261 {e : Ex} {E : Ev} (h : ExLe Q e E) (v0 v1 : Value) (G : GS) : Ref (s261 true e v0 v1 G) (s261 false (Ex.of E) v0 v1 G) := by
  unfold s261
  exact Ref.gq
theorem f261 {orc : FuncId → Bool} {e : Ex} (h : ExLe Q e (E orc)) (v0 v1 : Value) (G : GS) : Ref (s261 true e v0 v1 G) ((E orc).cl 261 [v0, v1] G) :=
  fun r hr => cl_sxE_some Q orc (vs := [v0, v1]) G Tryz.func261 (by kernel_rfl) (by kernel_rfl) (by kernel_rfl) (by kernel_rfl) (by kernel_rfl) (by kernel_rfl) (m261 h v0 v1 G r hr)
noncomputable def jb262_0 (q : Bool) (e : Ex) (τ : Env) (G : GS) : Option (Value × GS) :=
  bV q (τ 0) fun a0_ =>
  bP (pNil a0_) fun x0 =>
  bP (fa Q q 491 1 3 x0) fun x1 =>
  bP (ld Q q 3 x1 G) fun x2 =>
  bP (bn Q q .eql 3 (.tmp 100) (.const (.int .i64 9)) x2 (.int .i64 9)) fun x3 =>
  some (x3, G)
noncomputable def j262_0 (q : Bool) (e : Ex) (τ : Env) (G : GS) : Option (Value × GS) := jb262_0 q e τ G
theorem mj262_0 {e : Ex} {E : Ev} (h : ExLe Q e E) (τ : Env) (G : GS) : Ref (j262_0 true e τ G) (j262_0 false (Ex.of E) τ G) := by
  unfold j262_0 jb262_0
  exact Ref.gq
theorem mkj262_0 {e : Ex} {E : Ev} (h : ExLe Q e E) {τ : Env} {l U : List (Nat × Value)} {G : GS} (hU : UOk τ U) : Ref (j262_0 true e (xq true 102 τ l U) G) (j262_0 false (Ex.of E) (xq false 102 τ l U) G) := by
  rw [xq_eq hU]
  exact mj262_0 h _ _
noncomputable def sb262 (q : Bool) (e : Ex) (J0 : Env → GS → Option (Value × GS)) (v0 v1 : Value) (G : GS) : Option (Value × GS) :=
  bP (pNil v0) fun x4 =>
  bP (fa Q q 491 1 3 x4) fun x5 =>
  bP (ld Q q 3 x5 G) fun x6 =>
  bP (bn Q q .eql 3 (.tmp 8) (.const (.int .i64 1)) x6 (.int .i64 1)) fun x7 =>
  ifV x7 (
  bP (pNil v0) fun x8 =>
  bP (fa Q q 491 0 0 x8) fun x9 =>
  bP (fa Q q 23 0 0 x9) fun x10 =>
  bP (ld Q q 3 x10 G) fun x11 =>
  bS (e.ev.cl 264 [v1, x11] G) fun x12 G13 =>
  bP (pNil v0) fun x14 =>
  bP (fa Q q 491 2 4 x14) fun x15 =>
  bP (st Q q 41 1 x15 x12 G13) fun G16 =>
  bP (pNil v0) fun x17 =>
  bP (fa Q q 491 0 0 x17) fun x18 =>
  bP (lda Q q 23 3 x18 (G16.room 13)) fun x19 =>
  bP (pNil v0) fun x20 =>
  bP (fa Q q 491 2 4 x20) fun x21 =>
  bP (ld Q q 41 x21 (G16.room 13)) fun x22 =>
  bS (e.ev.cl 340 [x19, x22] (G16.room 13)) fun x24 G23 =>
  bP (pNil v0) fun x25 =>
  bP (fa Q q 491 3 5 x25) fun x26 =>
  bP (st Q q 3 1 x26 x24 G23) fun G27 =>
  bP (pNil v0) fun x28 =>
  bP (fa Q q 491 1 3 x28) fun x29 =>
  bP (st Q q 3 1 x29 (.int .i64 2) G27) fun G30 =>
  bP (pNil v0) fun x31 =>
  bP (fa Q q 491 3 5 x31) fun x32 =>
  bP (ld Q q 3 x32 G30) fun x33 =>
  bP (bn Q q .lss 3 (.tmp 39) (.const (.int .i64 0)) x33 (.int .i64 0)) fun x34 =>
  ifV x34 (
  bP (pNil v0) fun x35 =>
  bP (fa Q q 491 1 3 x35) fun x36 =>
  bP (st Q q 3 1 x36 (.int .i64 9) G30) fun G37 =>
  J0 (xq q 102 (nth undef [v0, v1]) [(43, x36), (42, x35), (41, v0), (40, x34), (39, x33), (38, x32), (37, x31), (36, v0), (35, x29), (34, x28), (33, v0), (32, x26), (31, x25), (30, x24), (29, x22), (28, x21), (27, x20), (26, v0), (25, x19), (24, x18), (23, x17), (22, v0), (21, v0), (20, x15), (19, x14), (18, x12), (17, x11), (16, x10), (15, x9), (14, x8), (13, v0), (12, v1), (11, v0), (9, x7), (10, x7), (8, x6), (7, x5), (6, x4), (5, v0), (4, (.bool false))] []) G37) (
  J0 (xq q 102 (nth undef [v0, v1]) [(40, x34), (39, x33), (38, x32), (37, x31), (36, v0), (35, x29), (34, x28), (33, v0), (32, x26), (31, x25), (30, x24), (29, x22), (28, x21), (27, x20), (26, v0), (25, x19), (24, x18), (23, x17), (22, v0), (21, v0), (20, x15), (19, x14), (18, x12), (17, x11), (16, x10), (15, x9), (14, x8), (13, v0), (12, v1), (11, v0), (9, x7), (10, x7), (8, x6), (7, x5), (6, x4), (5, v0), (4, (.bool false))] []) G30)) (
  bP (bn Q q .eql 3 (.tmp 8) (.const (.int .i64 2)) x6 (.int .i64 2)) fun x38 =>
  ifV x38 (
  bP (pNil v0) fun x39 =>
  bP (fa Q q 491 0 0 x39) fun x40 =>
  bP (lda Q q 23 3 x40 (G.room 21)) fun x41 =>
  bP (pNil v0) fun x42 =>
  bP (fa Q q 491 0 0 x42) fun x43 =>
  bP (fa Q q 23 1 1 x43) fun x44 =>
  bP (ld Q q 3 x44 (G.room 21)) fun x45 =>
  bP (pNil v0) fun x46 =>
  bP (fa Q q 491 3 5 x46) fun x47 =>
  bP (ld Q q 3 x47 (G.room 21)) fun x48 =>
  bP (bn Q q .add 3 (.tmp 56) (.tmp 60) x45 x48) fun x49 =>
  bS (e.ev.cl 264 [v1, x49] (G.room 21)) fun x51 G50 =>
  chk ((sameO (lda Q q 23 3 x40 G50) x41 && true)) <|
  bS (e.ev.cl 340 [x41, x51] G50) fun x53 G52 =>
  bP (pNil v0) fun x54 =>
  bP (fa Q q 491 4 6 x54) fun x55 =>
  bP (st Q q 3 1 x55 x53 G52) fun G56 =>
  bP (pNil v0) fun x57 =>
  bP (fa Q q 491 1 3 x57) fun x58 =>
  bP (st Q q 3 1 x58 (.int .i64 3) G56) fun G59 =>
  J0 (xq q 102 (nth undef [v0, v1]) [(68, x58), (67, x57), (66, v0), (65, x55), (64, x54), (63, x53), (62, x51), (61, x49), (60, x48), (59, x47), (58, x46), (57, v0), (56, x45), (55, x44), (54, x43), (53, x42), (52, v0), (51, v1), (50, x41), (49, x40), (48, x39), (47, v0), (46, v0), (44, x38), (45, x38), (9, x7), (10, x7), (8, x6), (7, x5), (6, x4), (5, v0), (4, (.bool false))] []) G59) (
  bP (bn Q q .eql 3 (.tmp 8) (.const (.int .i64 3)) x6 (.int .i64 3)) fun x60 =>
  ifV x60 (
  bP (pNil v0) fun x61 =>
  bP (fa Q q 491 1 3 x61) fun x62 =>
  bP (st Q q 3 1 x62 (.int .i64 1) G) fun G63 =>
  bP (pNil v0) fun x64 =>
  bP (fa Q q 491 0 0 x64) fun x65 =>
  bP (fa Q q 23 0 0 x65) fun x66 =>
  bP (ld Q q 3 x66 (G63.room 20)) fun x67 =>
  bP (pNil v0) fun x68 =>
  bP (fa Q q 491 2 4 x68) fun x69 =>
  bP (ld Q q 41 x69 (G63.room 20)) fun x70 =>
  bP (pNil v0) fun x71 =>
  bP (fa Q q 491 4 6 x71) fun x72 =>
  bP (ld Q q 3 x72 (G63.room 20)) fun x73 =>
  bP (pNil v0) fun x74 =>
  bP (fa Q q 491 2 4 x74) fun x75 =>
  bP (ld Q q 41 x75 (G63.room 20)) fun x76 =>
  bS (e.ev.cl 341 [x73, x76] (G63.room 20)) fun x78 G77 =>
  chk ((sameO (ld Q q 41 x69 G77) x70 && (sameO (ld Q q 3 x66 G77) x67 && true))) <|
  bS (e.ev.cl 326 [v1, x67, x70, x78] G77) fun x80 G79 =>
  ifV x80 (
  bP (pNil v0) fun x81 =>
  bP (fa Q q 491 1 3 x81) fun x82 =>
  bP (st Q q 3 1 x82 (.int .i64 9) G79) fun G83 =>
  J0 (xq q 102 (nth undef [v0, v1]) [(96, x82), (95, x81), (94, v0), (93, x80), (92, x78), (91, x76), (90, x75), (89, x74), (88, v0), (87, x73), (86, x72), (85, x71), (84, v0), (83, x70), (82, x69), (81, x68), (80, v0), (79, x67), (78, x66), (77, x65), (76, x64), (75, v0), (74, v1), (73, x62), (72, x61), (71, v0), (69, x60), (70, x60), (44, x38), (45, x38), (9, x7), (10, x7), (8, x6), (7, x5), (6, x4), (5, v0), (4, (.bool false))] []) G83) (
  J0 (xq q 102 (nth undef [v0, v1]) [(93, x80), (92, x78), (91, x76), (90, x75), (89, x74), (88, v0), (87, x73), (86, x72), (85, x71), (84, v0), (83, x70), (82, x69), (81, x68), (80, v0), (79, x67), (78, x66), (77, x65), (76, x64), (75, v0), (74, v1), (73, x62), (72, x61), (71, v0), (69, x60), (70, x60), (44, x38), (45, x38), (9, x7), (10, x7), (8, x6), (7, x5), (6, x4), (5, v0), (4, (.bool false))] []) G79)) (
  J0 (xq q 102 (nth undef [v0, v1]) [(69, x60), (70, x60), (44, x38), (45, x38), (9, x7), (10, x7), (8, x6), (7, x5), (6, x4), (5, v0), (4, (.bool false))] []) G)))
/-- (*coxswain/coxswainref10.Pop).Step -/
noncomputable def s262 (q : Bool) (e : Ex) (v0 v1 : Value) (G : GS) : Option (Value × GS) := sb262 q e (j262_0 q e) v0 v1 G
theorem m262 {e : Ex} {E : Ev} (h : ExLe Q e E) (v0 v1 : Value) (G : GS) : Ref (s262 true e v0 v1 G) (s262 false (Ex.of E) v0 v1 G) := by
  unfold s262 sb262
  repeat' (with_reducible first | exact Ref.rfl' _ | exact ROp.r | refine Ref.bP ?_ fun _ => ?_ | refine Ref.bS ?_ fun _ _ => ?_ | exact Ref.cl (by assumption) | refine Ref.ifV ?_ ?_ | refine LpLe.rx (by assumption) ?_ | refine Ref.xitq ?_ | exact UOk.z | refine UOk.c (by assumption) ?_ | exact Ref.nil _ | refine Ref.bVe fun _ _ => ?_ | refine Ref.bLq (by assumption) ?_ fun _ _ _ => ?_ | refine Ref.ifE ?_ ?_ | refine Ref.chk ?_ ?_ | refine Imp.and ?_ ?_ | refine Imp.or ?_ | exact Imp.rfl' _ | refine Imp.sameO ?_ | refine Ref.gd ?_ | exact Ref.cValue (by assumption) | refine Ref.bX ?_ fun _ _ _ => ?_ | exact Ref.scQ (by assumption) | exact Ref.xRangeQ (by assumption) | exact Ref.cInvoke (by assumption) | refine mkj262_0 (by assumption) ?_)
noncomputable def jt262 (J0 : Env → GS → Option (Value × GS)) : JT (Value × GS) :=
  (.n none .e (.n (some (fun T G => J0 (nth undef T) G)) .e .e))
set_option maxHeartbeats 8000000 in
theorem jr262_0 (orc : FuncId → Bool) (J0 : Env → GS → Option (Value × GS)) (T : List Value) (G : GS) : runC Q (evL Q orc) Tryz.f262.ntmps (jt262 J0) (bodyOf Tryz.f262) (retE Q Tryz.f262.results.toList) [true] (nth undef T) G = jb262_0 false (Ex.of (E orc))  (nth undef T) G := by kernel_rfl
set_option maxHeartbeats 8000000 in
theorem jo262 (orc : FuncId → Bool) : JOk Q orc Tryz.f262.ntmps (jt262 (j262_0 false (Ex.of (E orc))) ) (bodyOf Tryz.f262) (retE Q Tryz.f262.results.toList) :=
  jOk Q orc (l := [([true], (fun T G => j262_0 false (Ex.of (E orc)) (nth undef T) G))]) (by kernel_rfl) (AllE.c (fun T G => jr262_0 orc (j262_0 false (Ex.of (E orc))) T G) (AllE.z))
set_option maxHeartbeats 8000000 in
theorem je262 (orc : FuncId → Bool) (J0 : Env → GS → Option (Value × GS)) (v0 v1 : Value) (G : GS) : sxC Q (evL Q orc) Tryz.f262.ntmps (jt262 J0) (bodyOf Tryz.f262) (nth undef [v0, v1]) G (retE Q Tryz.f262.results.toList) = sb262 false (Ex.of (E orc)) J0 v0 v1 G := by kernel_rfl
set_option maxHeartbeats 8000000 in
theorem f262 {orc : FuncId → Bool} {e : Ex} (h : ExLe Q e (E orc)) (v0 v1 : Value) (G : GS) : Ref (s262 true e v0 v1 G) ((E orc).cl 262 [v0, v1] G) :=
  fun r hr => cl_sxC Q orc (vs := [v0, v1]) G (jt262 (j262_0 false (Ex.of (E orc))) ) Tryz.func262 (by kernel_rfl) (by kernel_rfl) (by kernel_rfl) (by kernel_rfl) (by kernel_rfl) (jo262 orc) (je262 orc (j262_0 false (Ex.of (E orc))) v0 v1 G) (m262 h v0 v1 G r hr)
/-- (*coxswain/coxswainref10.Pop).Index -/
noncomputable def s263 (q : Bool) (e : Ex) (v0 : Value) (G : GS) : Option (Value × GS) :=
  bP (pNil v0) fun x0 =>
  bP (fa Q q 491 1 3 x0) fun x1 =>
  bP (ld Q q 3 x1 (G.room 13)) fun x2 =>
  bP (pNil v0) fun x3 =>
  bP (fa Q q 491 3 5 x3) fun x4 =>
  bP (ld Q q 3 x4 (G.room 13)) fun x5 =>
  bS (e.ev.cl 342 [x2, x5] (G.room 13)) fun x7 G6 =>
  bP (pExtract x7 0) fun x8 =>
  bP (pExtract x7 1) fun x9 =>
  some (.tuple #[x8, x9], G6)
theorem m263 {e : Ex} {E : Ev} (h : ExLe Q e E) (v0 : Value) (G : GS) : Ref (s263 true e v0 G) (s263 false (Ex.of E) v0 G) := by
  unfold s263
  exact Ref.gq
theorem f263 {orc : FuncId → Bool} {e : Ex} (h : ExLe Q e (E orc)) (v0 : Value) (G : GS) : Ref (s263 true e v0 G) ((E orc).cl 263 [v0] G) :=
  fun r hr => cl_sxE_some Q orc (vs := [v0]) G Tryz.func263 (by kernel_rfl) (by kernel_rfl) (by kernel_rfl) (by kernel_rfl) (by kernel_rfl) (by kernel_rfl) (m263 h v0 G r hr)
/-- (*coxswain/coxswainref02.Mem).Load -/
noncomputable def s264 (q : Bool) (e : Ex) (v0 v1 : Value) (G : GS) : Option (Value × GS) :=
  bS (e.ev.cl 161 [v0, (.int .i64 1), v1, (.bool false), (.int .u64 0)] G) fun x0 G1 =>
  bP (pNil v0) fun x2 =>
  bP (fa Q q 252 1 1 x2) fun x3 =>
  bP (fa Q q 68 3 3 x3) fun x4 =>
  bP (ld Q q 41 x4 G1) fun x5 =>
  some (x5, G1)
theorem m264 {e : Ex} {E : Ev} (h : ExLe Q e E) (v0 v1 : Value) (G : GS) : Ref (s264 true e v0 v1 G) (s264 false (Ex.of E) v0 v1 G) := by
  unfold s264
  exact Ref.gq
theorem f264 {orc : FuncId → Bool} {e : Ex} (h : ExLe Q e (E orc)) (v0 v1 : Value) (G : GS) : Ref (s264 true e v0 v1 G) ((E orc).cl 264 [v0, v1] G) :=
  fun r hr => cl_sxE_some Q orc (vs := [v0, v1]) G Tryz.func264 (by kernel_rfl) (by kernel_rfl) (by kernel_rfl) (by kernel_rfl) (by kernel_rfl) (by kernel_rfl) (m264 h v0 v1 G r hr)
noncomputable def jb265_0 (q : Bool) (e : Ex) (τ : Env) (G : GS) : Option (Value × GS) :=
  bV q (τ 0) fun a0_ =>
  bP (pNil a0_) fun x0 =>
  bP (fa Q q 495 1 3 x0) fun x1 =>
  bP (ld Q q 3 x1 G) fun x2 =>
  bP (bn Q q .eql 3 (.tmp 83) (.const (.int .i64 9)) x2 (.int .i64 9)) fun x3 =>
  some (x3, G)
noncomputable def j265_0 (q : Bool) (e : Ex) (τ : Env) (G : GS) : Option (Value × GS) := jb265_0 q e τ G
theorem mj265_0 {e : Ex} {E : Ev} (h : ExLe Q e E) (τ : Env) (G : GS) : Ref (j265_0 true e τ G) (j265_0 false (Ex.of E) τ G) := by
  unfold j265_0 jb265_0
  exact Ref.gq
theorem mkj265_0 {e : Ex} {E : Ev} (h : ExLe Q e E) {τ : Env} {l U : List (Nat × Value)} {G : GS} (hU : UOk τ U) : Ref (j265_0 true e (xq true 85 τ l U) G) (j265_0 false (Ex.of E) (xq false 85 τ l U) G) := by
  rw [xq_eq hU]
  exact mj265_0 h _ _
noncomputable def sb265 (q : Bool) (e : Ex) (J0 : Env → GS → Option (Value × GS)) (v0 v1 : Value) (G : GS) : Option (Value × GS) :=
  bP (pNil v0) fun x4 =>
  bP (fa Q q 495 1 3 x4) fun x5 =>
  bP (ld Q q 3 x5 G) fun x6 =>
  bP (bn Q q .eql 3 (.tmp 8) (.const (.int .i64 1)) x6 (.int .i64 1)) fun x7 =>
  ifV x7 (
  bP (pNil v0) fun x8 =>
  bP (fa Q q 495 0 0 x8) fun x9 =>
  bP (fa Q q 23 0 0 x9) fun x10 =>
  bP (ld Q q 3 x10 G) fun x11 =>
  bS (e.ev.cl 264 [v1, x11] G) fun x12 G13 =>
  bP (pNil v0) fun x14 =>
  bP (fa Q q 495 2 4 x14) fun x15 =>
  bP (st Q q 41 1 x15 x12 G13) fun G16 =>
  bP (pNil v0) fun x17 =>
  bP (fa Q q 495 1 3 x17) fun x18 =>
  bP (st Q q 3 1 x18 (.int .i64 2) G16) fun G19 =>
  J0 (xq q 85 (nth undef [v0, v1]) [(23, x18), (22, x17), (21, v0), (20, x15), (19, x14), (18, x12), (17, x11), (16, x10), (15, x9), (14, x8), (13, v0), (12, v1), (11, v0), (9, x7), (10, x7), (8, x6), (7, x5), (6, x4), (5, v0), (4, (.bool false))] []) G19) (
  bP (bn Q q .eql 3 (.tmp 8) (.const (.int .i64 2)) x6 (.int .i64 2)) fun x20 =>
  ifV x20 (
  bP (pNil v0) fun x21 =>
  bP (fa Q q 495 0 0 x21) fun x22 =>
  bP (fa Q q 23 1 1 x22) fun x23 =>
  bP (ld Q q 3 x23 (G.room 23)) fun x24 =>
  bP (pNil v0) fun x25 =>
  bP (fa Q q 495 3 5 x25) fun x26 =>
  bP (ld Q q 3 x26 (G.room 23)) fun x27 =>
  bP (bn Q q .add 3 (.tmp 31) (.tmp 35) x24 x27) fun x28 =>
  bP (pNil v0) fun x29 =>
  bP (fa Q q 495 0 0 x29) fun x30 =>
  bP (lda Q q 23 3 x30 (G.room 23)) fun x31 =>
  bP (pNil v0) fun x32 =>
  bP (fa Q q 495 2 4 x32) fun x33 =>
  bP (ld Q q 41 x33 (G.room 23)) fun x34 =>
  bS (e.ev.cl 340 [x31, x34] (G.room 23)) fun x36 G35 =>
  chk ((sameO (ld Q q 3 x26 G35) x27 && (sameO (ld Q q 3 x23 G35) x24 && true))) <|
  bP (bn Q q .add 3 (.tmp 45) (.const (.int .i64 1)) x36 (.int .i64 1)) fun x37 =>
  bP (cv Q q 3 41 .i64 .u64 x37) fun x38 =>
  bS (e.ev.cl 46 [v1, x28, x38] G35) fun x40 G39 =>
  bP (pNil v0) fun x41 =>
  bP (fa Q q 495 1 3 x41) fun x42 =>
  bP (st Q q 3 1 x42 (.int .i64 3) G39) fun G43 =>
  J0 (xq q 85 (nth undef [v0, v1]) [(51, x42), (50, x41), (49, v0), (48, x40), (47, x38), (46, x37), (45, x36), (44, x34), (43, x33), (42, x32), (41, v0), (40, x31), (39, x30), (38, x29), (37, v0), (36, x28), (35, x27), (34, x26), (33, x25), (32, v0), (31, x24), (30, x23), (29, x22), (28, x21), (27, v0), (26, v1), (24, x20), (25, x20), (9, x7), (10, x7), (8, x6), (7, x5), (6, x4), (5, v0), (4, (.bool false))] []) G43) (
  bP (bn Q q .eql 3 (.tmp 8) (.const (.int .i64 3)) x6 (.int .i64 3)) fun x44 =>
  ifV x44 (
  bP (pNil v0) fun x45 =>
  bP (fa Q q 495 1 3 x45) fun x46 =>
  bP (st Q q 3 1 x46 (.int .i64 1) G) fun G47 =>
  bP (pNil v0) fun x48 =>
  bP (fa Q q 495 0 0 x48) fun x49 =>
  bP (fa Q q 23 0 0 x49) fun x50 =>
  bP (ld Q q 3 x50 (G47.room 20)) fun x51 =>
  bP (pNil v0) fun x52 =>
  bP (fa Q q 495 2 4 x52) fun x53 =>
  bP (ld Q q 41 x53 (G47.room 20)) fun x54 =>
  bP (pNil v0) fun x55 =>
  bP (fa Q q 495 3 5 x55) fun x56 =>
  bP (ld Q q 3 x56 (G47.room 20)) fun x57 =>
  bP (pNil v0) fun x58 =>
  bP (fa Q q 495 2 4 x58) fun x59 =>
  bP (ld Q q 41 x59 (G47.room 20)) fun x60 =>
  bS (e.ev.cl 341 [x57, x60] (G47.room 20)) fun x62 G61 =>
  chk ((sameO (ld Q q 41 x53 G61) x54 && (sameO (ld Q q 3 x50 G61) x51 && true))) <|
  bS (e.ev.cl 326 [v1, x51, x54, x62] G61) fun x64 G63 =>
  ifV x64 (
  bP (pNil v0) fun x65 =>
  bP (fa Q q 495 1 3 x65) fun x66 =>
  bP (st Q q 3 1 x66 (.int .i64 9) G63) fun G67 =>
  J0 (xq q 85 (nth undef [v0, v1]) [(79, x66), (78, x65), (77, v0), (76, x64), (75, x62), (74, x60), (73, x59), (72, x58), (71, v0), (70, x57), (69, x56), (68, x55), (67, v0), (66, x54), (65, x53), (64, x52), (63, v0), (62, x51), (61, x50), (60, x49), (59, x48), (58, v0), (57, v1), (56, x46), (55, x45), (54, v0), (52, x44), (53, x44), (24, x20), (25, x20), (9, x7), (10, x7), (8, x6), (7, x5), (6, x4), (5, v0), (4, (.bool false))] []) G67) (
  J0 (xq q 85 (nth undef [v0, v1]) [(76, x64), (75, x62), (74, x60), (73, x59), (72, x58), (71, v0), (70, x57), (69, x56), (68, x55), (67, v0), (66, x54), (65, x53), (64, x52), (63, v0), (62, x51), (61, x50), (60, x49), (59, x48), (58, v0), (57, v1), (56, x46), (55, x45), (54, v0), (52, x44), (53, x44), (24, x20), (25, x20), (9, x7), (10, x7), (8, x6), (7, x5), (6, x4), (5, v0), (4, (.bool false))] []) G63)) (
  J0 (xq q 85 (nth undef [v0, v1]) [(52, x44), (53, x44), (24, x20), (25, x20), (9, x7), (10, x7), (8, x6), (7, x5), (6, x4), (5, v0), (4, (.bool false))] []) G)))
/-- (*coxswain/coxswainref10.Push).Step -/
noncomputable def s265 (q : Bool) (e : Ex) (v0 v1 : Value) (G : GS) : Option (Value × GS) := sb265 q e (j265_0 q e) v0 v1 G
theorem m265 {e : Ex} {E : Ev} (h : ExLe Q e E) (v0 v1 : Value) (G : GS) : Ref (s265 true e v0 v1 G) (s265 false (Ex.of E) v0 v1 G) := by
  unfold s265 sb265
  repeat' (with_reducible first | exact Ref.rfl' _ | exact ROp.r | refine Ref.bP ?_ fun _ => ?_ | refine Ref.bS ?_ fun _ _ => ?_ | exact Ref.cl (by assumption) | refine Ref.ifV ?_ ?_ | refine LpLe.rx (by assumption) ?_ | refine Ref.xitq ?_ | exact UOk.z | refine UOk.c (by assumption) ?_ | exact Ref.nil _ | refine Ref.bVe fun _ _ => ?_ | refine Ref.bLq (by assumption) ?_ fun _ _ _ => ?_ | refine Ref.ifE ?_ ?_ | refine Ref.chk ?_ ?_ | refine Imp.and ?_ ?_ | refine Imp.or ?_ | exact Imp.rfl' _ | refine Imp.sameO ?_ | refine Ref.gd ?_ | exact Ref.cValue (by assumption) | refine Ref.bX ?_ fun _ _ _ => ?_ | exact Ref.scQ (by assumption) | exact Ref.xRangeQ (by assumption) | exact Ref.cInvoke (by assumption) | refine mkj265_0 (by assumption) ?_)
noncomputable def jt265 (J0 : Env → GS → Option (Value × GS)) : JT (Value × GS) :=
  (.n none .e (.n (some (fun T G => J0 (nth undef T) G)) .e .e))
theorem jr265_0 (orc : FuncId → Bool) (J0 : Env → GS → Option (Value × GS)) (T : List Value) (G : GS) : runC Q (evL Q orc) Tryz.f265.ntmps (jt265 J0) (bodyOf Tryz.f265) (retE Q Tryz.f265.results.toList) [true] (nth undef T) G = jb265_0 false (Ex.of (E orc))  (nth undef T) G := by kernel_rfl
theorem jo265 (orc : FuncId → Bool) : JOk Q orc Tryz.f265.ntmps (jt265 (j265_0 false (Ex.of (E orc))) ) (bodyOf Tryz.f265) (retE Q Tryz.f265.results.toList) :=
  jOk Q orc (l := [([true], (fun T G => j265_0 false (Ex.of (E orc)) (nth undef T) G))]) (by kernel_rfl) (AllE.c (fun T G => jr265_0 orc (j265_0 false (Ex.of (E orc))) T G) (AllE.z))
theorem je265 (orc : FuncId → Bool) (J0 : Env → GS → Option (Value × GS)) (v0 v1 : Value) (G : GS) : sxC Q (evL Q orc) Tryz.f265.ntmps (jt265 J0) (bodyOf Tryz.f265) (nth undef [v0, v1]) G (retE Q Tryz.f265.results.toList) = sb265 false (Ex.of (E orc)) J0 v0 v1 G := by kernel_rfl
theorem f265 {orc : FuncId → Bool} {e : Ex} (h : ExLe Q e (E orc)) (v0 v1 : Value) (G : GS) : Ref (s265 true e v0 v1 G) ((E orc).cl 265 [v0, v1] G) :=
  fun r hr => cl_sxC Q orc (vs := [v0, v1]) G (jt265 (j265_0 false (Ex.of (E orc))) ) Tryz.func265 (by kernel_rfl) (by kernel_rfl) (by kernel_rfl) (by kernel_rfl) (by kernel_rfl) (jo265 orc) (je265 orc (j265_0 false (Ex.of (E orc))) v0 v1 G) (m265 h v0 v1 G r hr)
/-- (*coxswain/coxswainref02.Mem).Add -/
noncomputable def s266 (q : Bool) (e : Ex) (v0 v1 v2 : Value) (G : GS) : Option (Value × GS) :=
  bS (e.ev.cl 343 [v0, v1] G) fun x0 G1 =>
  bP (bn Q q .add 41 (.tmp 11) (.tmp 12) x0 v2) fun x2 =>
  bS (e.ev.cl 161 [v0, (.int .i64 4), v1, (.bool true), x2] G1) fun x3 G4 =>
  bP (pNil v0) fun x5 =>
  bP (fa Q q 252 1 1 x5) fun x6 =>
  bP (fa Q q 68 3 3 x6) fun x7 =>
  bP (ld Q q 41 x7 G4) fun x8 =>
  some (x8, G4)
theorem m266 {e : Ex} {E : Ev} (h : ExLe Q e E) (v0 v1 v2 : Value) (G : GS) : Ref (s266 true e v0 v1 v2 G) (s266 false (Ex.of E) v0 v1 v2 G) := by
  unfold s266
  exact Ref.gq
theorem f266 {orc : FuncId → Bool} {e : Ex} (h : ExLe Q e (E orc)) (v0 v1 v2 : Value) (G : GS) : Ref (s266 true e v0 v1 v2 G) ((E orc).cl 266 [v0, v1, v2] G) :=
  fun r hr => cl_sxE_some Q orc (vs := [v0, v1, v2]) G Tryz.func266 (by kernel_rfl) (by kernel_rfl) (by kernel_rfl) (by kernel_rfl) (by kernel_rfl) (by kernel_rfl) (m266 h v0 v1 v2 G r hr)
/-- coxswain/coxswainref10.NewPop -/
noncomputable def s267 (q : Bool) (e : Ex) (v0 : Value) (G : GS) : Option (Value × GS) :=
  bS (bx q v0 G) fun x0 G1 =>
  bP (lda Q q 23 3 x0 G1) fun x2 =>
  bP (bd Q q 491 z491 [(0, 0, 3), (1, 3, 1)] [x2, (.int .i64 1)]) fun x3 =>
  bS (bx q x3 G1) fun x4 G5 =>
  some (x4, G5)
theorem m267 {e : Ex} {E : Ev} (h : ExLe Q e E) (v0 : Value) (G : GS) : Ref (s267 true e v0 G) (s267 false (Ex.of E) v0 G) := by
  unfold s267
  exact Ref.gq
theorem f267 {orc : FuncId → Bool} {e : Ex} (h : ExLe Q e (E orc)) (v0 : Value) (G : GS) : Ref (s267 true e v0 G) ((E orc).cl 267 [v0] G) :=
  fun r hr => cl_sxE_some Q orc (vs := [v0]) G Tryz.func267 (by kernel_rfl) (by kernel_rfl) (by kernel_rfl) (by kernel_rfl) (by kernel_rfl) (by kernel_rfl) (m267 h v0 G r hr)
/-- coxswain/stack.NewPush -/
noncomputable def s268 (q : Bool) (e : Ex) (v0 v1 : Value) (G : GS) : Option (Value × GS) :=
  bS (bx q v0 G) fun x0 G1 =>
  bP (lda Q q 23 3 x0 G1) fun x2 =>
  bP (bd Q q 486 z486 [(0, 0, 3), (2, 4, 1), (4, 6, 1)] [x2, v1, (.bool true)]) fun x3 =>
  bP (bd Q q 498 z498 [(0, 0, 9), (1, 9, 1)] [x3, (.func (.func 344) #[] #[])]) fun x4 =>
  bS (bx q x4 G1) fun x5 G6 =>
  bP (bn Q q .lss 3 (.tmp 11) (.const (.int .i64 0)) v1 (.int .i64 0)) fun x7 =>
  bS (gd x7 false (some (v1, G6)) G6) fun x8 G9 =>
  bS (gd x7 false (bP (fa Q q 23 2 2 x0) fun y => some (y, G9)) G9) fun x10 G11 =>
  bS (gd x7 false (bP (ld Q q 3 x10 G11) fun y => some (y, G11)) G11) fun x12 G13 =>
  bS (gd x7 false (bP (bn Q q .geq 3 (.tmp 14) (.tmp 16) x8 x12) fun y => some (y, G13)) G13) fun x14 G15 =>
  bP (pickV x7 (.bool true) x14) fun x16 =>
  ifV x16 (
  bP (pNil x5) fun x17 =>
  bP (fa Q q 498 0 0 x17) fun x18 =>
  bS (e.ev.cl 345 [x18, (.int .i64 3)] G15) fun x19 G20 =>
  some (x5, G20)) (
  some (x5, G15))
theorem m268 {e : Ex} {E : Ev} (h : ExLe Q e E) (v0 v1 : Value) (G : GS) : Ref (s268 true e v0 v1 G) (s268 false (Ex.of E) v0 v1 G) := by
  unfold s268
  exact Ref.gq
theorem f268 {orc : FuncId → Bool} {e : Ex} (h : ExLe Q e (E orc)) (v0 v1 : Value) (G : GS) : Ref (s268 true e v0 v1 G) ((E orc).cl 268 [v0, v1] G) :=
  fun r hr => cl_sxE_some Q orc (vs := [v0, v1]) G Tryz.func268 (by kernel_rfl) (by kernel_rfl) (by kernel_rfl) (by kernel_rfl) (by kernel_rfl) (by kernel_rfl) (m268 h v0 v1 G r hr)
/-- (*coxswain/arena.Free).looks -/
noncomputable def s269 (q : Bool) (e : Ex) (v0 v1 : Value) (G : GS) : Option (Value × GS) :=
  bP (pNil v0) fun x0 =>
  bP (fa Q q 384 1 1 x0) fun x1 =>
  bP (fa Q q 25 1 3 x1) fun x2 =>
  bP (ld Q q 3 x2 (G.room 16)) fun x3 =>
  bP (pNil v0) fun x4 =>
  bP (fa Q q 384 4 9 x4) fun x5 =>
  bP (ld Q q 3 x5 (G.room 16)) fun x6 =>
  bP (bn Q q .add 3 (.tmp 10) (.tmp 14) x3 x6) fun x7 =>
  bS (e.ev.cl 177 [v1, x7] (G.room 16)) fun x9 G8 =>
  bP (pNil v0) fun x10 =>
  bP (fa Q q 384 5 10 x10) fun x11 =>
  bP (st Q q 41 1 x11 x9 G8) fun G12 =>
  bP (pNil v0) fun x13 =>
  bP (fa Q q 384 3 8 x13) fun x14 =>
  bP (st Q q 382 1 x14 (.func (.func 346) #[] #[]) G12) fun G15 =>
  bP (pNil v0) fun x16 =>
  bP (fa Q q 384 5 10 x16) fun x17 =>
  bP (ld Q q 41 x17 (G15.room 11)) fun x18 =>
  bS (e.ev.cl 347 [x18] (G15.room 11)) fun x20 G19 =>
  bP (pNil v0) fun x21 =>
  bP (fa Q q 384 1 1 x21) fun x22 =>
  bP (fa Q q 25 3 5 x22) fun x23 =>
  bP (ld Q q 3 x23 G19) fun x24 =>
  chk ((sameO (ld Q q 3 x23 (G15.room 11)) x24 && true)) <|
  bP (bn Q q .geq 3 (.tmp 26) (.tmp 31) x20 x24) fun x25 =>
  ifV x25 (
  bP (pNil v0) fun x26 =>
  bP (fa Q q 384 3 8 x26) fun x27 =>
  bP (st Q q 382 1 x27 (.func (.func 348) #[] #[]) G19) fun G28 =>
  some (.tuple #[], G28)) (
  some (.tuple #[], G19))
theorem m269 {e : Ex} {E : Ev} (h : ExLe Q e E) (v0 v1 : Value) (G : GS) : Ref (s269 true e v0 v1 G) (s269 false (Ex.of E) v0 v1 G) := by
  unfold s269
  exact Ref.gq
theorem f269 {orc : FuncId → Bool} {e : Ex} (h : ExLe Q e (E orc)) (v0 v1 : Value) (G : GS) : Ref (s269 true e v0 v1 G) ((E orc).cl 269 [v0, v1] G) :=
  fun r hr => cl_sxE_some Q orc (vs := [v0, v1]) G Tryz.func269 (by kernel_rfl) (by kernel_rfl) (by kernel_rfl) (by kernel_rfl) (by kernel_rfl) (by kernel_rfl) (m269 h v0 v1 G r hr)
/-- coxswain/coxswainref10.NewPush -/
noncomputable def s270 (q : Bool) (e : Ex) (v0 v1 : Value) (G : GS) : Option (Value × GS) :=
  bS (bx q v0 G) fun x0 G1 =>
  bP (bn Q q .lss 3 (.tmp 5) (.const (.int .i64 0)) v1 (.int .i64 0)) fun x2 =>
  bS (gd x2 false (some (v1, G1)) G1) fun x3 G4 =>
  bS (gd x2 false (bP (fa Q q 23 2 2 x0) fun y => some (y, G4)) G4) fun x5 G6 =>
  bS (gd x2 false (bP (ld Q q 3 x5 G6) fun y => some (y, G6)) G6) fun x7 G8 =>
  bS (gd x2 false (bP (bn Q q .geq 3 (.tmp 8) (.tmp 10) x3 x7) fun y => some (y, G8)) G8) fun x9 G10 =>
  bP (pickV x2 (.bool true) x9) fun x11 =>
  ifV x11 (
  bP (lda Q q 23 3 x0 G10) fun x12 =>
  bP (bd Q q 495 z495 [(0, 0, 3), (1, 3, 1), (4, 6, 1)] [x12, (.int .i64 9), (.int .i64 3)]) fun x13 =>
  bS (bx q x13 G10) fun x14 G15 =>
  some (x14, G15)) (
  bP (lda Q q 23 3 x0 G10) fun x16 =>
  bP (bd Q q 495 z495 [(0, 0, 3), (1, 3, 1), (3, 5, 1)] [x16, (.int .i64 1), v1]) fun x17 =>
  bS (bx q x17 G10) fun x18 G19 =>
  some (x18, G19))
theorem m270 {e : Ex} {E : Ev} (h : ExLe Q e E) (v0 v1 : Value) (G : GS) : Ref (s270 true e v0 v1 G) (s270 false (Ex.of E) v0 v1 G) := by
  unfold s270
  exact Ref.gq
theorem f270 {orc : FuncId → Bool} {e : Ex} (h : ExLe Q e (E orc)) (v0 v1 : Value) (G : GS) : Ref (s270 true e v0 v1 G) ((E orc).cl 270 [v0, v1] G) :=
  fun r hr => cl_sxE_some Q orc (vs := [v0, v1]) G Tryz.func270 (by kernel_rfl) (by kernel_rfl) (by kernel_rfl) (by kernel_rfl) (by kernel_rfl) (by kernel_rfl) (m270 h v0 v1 G r hr)
/-- coxswain/word.tops -/
noncomputable def s271 (q : Bool) (e : Ex) (G : GS) : Option (Value × GS) :=
  bS (al Q q 393 z393 G) fun x0 G1 =>
  bP (bd Q q 392 z392 [(0, 0, 1), (1, 1, 1)] [(.int .i64 0), (.int .i64 16)]) fun x2 =>
  bP (bd Q q 392 z392 [(0, 0, 1), (1, 1, 1)] [(.int .i64 16), (.int .i64 48)]) fun x3 =>
  bP (bd Q q 393 z393 [(0, 0, 2), (1, 2, 2)] [x2, x3]) fun x4 =>
  bP (st Q q 393 4 x0 x4 G1) fun G5 =>
  bP (lda Q q 393 4 x0 G5) fun x6 =>
  some (x6, G5)
theorem m271 {e : Ex} {E : Ev} (h : ExLe Q e E) (G : GS) : Ref (s271 true e  G) (s271 false (Ex.of E)  G) := by
  unfold s271
  exact Ref.gq
theorem f271 {orc : FuncId → Bool} {e : Ex} (h : ExLe Q e (E orc)) (ho : orc 271 = false) (G : GS) : Ref (s271 true e  G) ((E orc).cl 271 [] G) :=
  fun r hr => cl_sxE_some Q orc (vs := []) G Tryz.func271 (by kernel_rfl) (by kernel_rfl) ho (by kernel_rfl) (by kernel_rfl) (by kernel_rfl) (m271 h  G r hr)
/-- (coxswain/word.raw).take -/
noncomputable def s272 (q : Bool) (e : Ex) (v0 v1 : Value) (G : GS) : Option (Value × GS) :=
  bS (bx q v1 G) fun x0 G1 =>
  bP (fa Q q 392 0 0 x0) fun x2 =>
  bP (ld Q q 3 x2 (G1.room 11)) fun x3 =>
  bP (bn Q q .shr 41 (.tmp 5) (.tmp 7) v0 x3) fun x4 =>
  bP (fa Q q 392 1 1 x0) fun x5 =>
  bP (ld Q q 3 x5 (G1.room 11)) fun x6 =>
  bP (bn Q q .shl 41 (.const (.int .u64 1)) (.tmp 10) (.int .u64 1) x6) fun x7 =>
  bP (bn Q q .sub 41 (.tmp 11) (.const (.int .u64 1)) x7 (.int .u64 1)) fun x8 =>
  bP (bn Q q .and 41 (.tmp 8) (.tmp 12) x4 x8) fun x9 =>
  bP (cv Q q 41 3 .u64 .i64 x9) fun x10 =>
  some (x10, (G1.room 11))
theorem m272 {e : Ex} {E : Ev} (h : ExLe Q e E) (v0 v1 : Value) (G : GS) : Ref (s272 true e v0 v1 G) (s272 false (Ex.of E) v0 v1 G) := by
  unfold s272
  exact Ref.gq
theorem f272 {orc : FuncId → Bool} {e : Ex} (h : ExLe Q e (E orc)) (v0 v1 : Value) (G : GS) : Ref (s272 true e v0 v1 G) ((E orc).cl 272 [v0, v1] G) :=
  fun r hr => cl_sxE_some Q orc (vs := [v0, v1]) G Tryz.func272 (by kernel_rfl) (by kernel_rfl) (by kernel_rfl) (by kernel_rfl) (by kernel_rfl) (by kernel_rfl) (m272 h v0 v1 G r hr)
/-- (coxswain/cells.deed).add -/
noncomputable def s279 (q : Bool) (e : Ex) (v0 : Value) (G : GS) : Option (Value × GS) :=
  bS (bx q v0 G) fun x0 G1 =>
  bP (fa Q q 246 0 0 x0) fun x2 =>
  bP (ld Q q 243 x2 (G1.room 9)) fun x3 =>
  bP (pNil x3) fun x4 =>
  bP (ld Q q 154 x4 (G1.room 9)) fun x5 =>
  bP (fa Q q 246 1 1 x0) fun x6 =>
  bP (ld Q q 41 x6 (G1.room 9)) fun x7 =>
  bP (bn Q q .add 41 (.tmp 7) (.tmp 9) x5 x7) fun x8 =>
  some (.tuple #[x8, (.bool true)], (G1.room 9))
theorem m279 {e : Ex} {E : Ev} (h : ExLe Q e E) (v0 : Value) (G : GS) : Ref (s279 true e v0 G) (s279 false (Ex.of E) v0 G) := by
  unfold s279
  exact Ref.gq
theorem f279 {orc : FuncId → Bool} {e : Ex} (h : ExLe Q e (E orc)) (v0 : Value) (G : GS) : Ref (s279 true e v0 G) ((E orc).cl 279 [v0] G) :=
  fun r hr => cl_sxE_some Q orc (vs := [v0]) G Tryz.func279 (by kernel_rfl) (by kernel_rfl) (by kernel_rfl) (by kernel_rfl) (by kernel_rfl) (by kernel_rfl) (m279 h v0 G r hr)
/-- coxswain/word.refs -/
noncomputable def s284 (q : Bool) (e : Ex) (G : GS) : Option (Value × GS) :=
  bS (al Q q 393 z393 G) fun x0 G1 =>
  bP (bd Q q 392 z392 [(0, 0, 1), (1, 1, 1)] [(.int .i64 0), (.int .i64 16)]) fun x2 =>
  bP (bd Q q 392 z392 [(0, 0, 1), (1, 1, 1)] [(.int .i64 16), (.int .i64 32)]) fun x3 =>
  bP (bd Q q 393 z393 [(0, 0, 2), (1, 2, 2)] [x2, x3]) fun x4 =>
  bP (st Q q 393 4 x0 x4 G1) fun G5 =>
  bP (lda Q q 393 4 x0 G5) fun x6 =>
  some (x6, G5)
theorem m284 {e : Ex} {E : Ev} (h : ExLe Q e E) (G : GS) : Ref (s284 true e  G) (s284 false (Ex.of E)  G) := by
  unfold s284
  exact Ref.gq
theorem f284 {orc : FuncId → Bool} {e : Ex} (h : ExLe Q e (E orc)) (ho : orc 284 = false) (G : GS) : Ref (s284 true e  G) ((E orc).cl 284 [] G) :=
  fun r hr => cl_sxE_some Q orc (vs := []) G Tryz.func284 (by kernel_rfl) (by kernel_rfl) ho (by kernel_rfl) (by kernel_rfl) (by kernel_rfl) (m284 h  G r hr)
/-- coxswain/word.PutRef -/
noncomputable def s285 (q : Bool) (e : Ex) (v0 : Value) (G : GS) : Option (Value × GS) :=
  bS (bx q v0 G) fun x0 G1 =>
  bP (fa Q q 289 0 0 x0) fun x2 =>
  bP (ld Q q 3 x2 G1) fun x3 =>
  bP (bd Q q 505 z505 [(0, 0, 1), (1, 1, 1), (2, 2, 1)] [x3, (.int .i64 (-1)), (.int .i64 65534)]) fun x4 =>
  bP (fa Q q 289 1 1 x0) fun x5 =>
  bP (ld Q q 3 x5 G1) fun x6 =>
  bP (bd Q q 505 z505 [(0, 0, 1), (1, 1, 1), (2, 2, 1)] [x6, (.int .i64 0), (.int .i64 4294967295)]) fun x7 =>
  bS (bs Q q 538 2 (rep z505 2) 3 [(0, 0, 3), (1, 3, 3)] [x4, x7] G1) fun x8 G9 =>
  bS (e.ev.cl 357 [x8] G9) fun x10 G11 =>
  bP (un Q q .not x10) fun x12 =>
  ifV x12 (
  some (.tuple #[(.int .u64 0), (.int .i64 3)], G11)) (
  bP (fa Q q 289 0 0 x0) fun x13 =>
  bP (ld Q q 3 x13 G11) fun x14 =>
  bP (bn Q q .eql 3 (.tmp 17) (.const (.int .i64 (-1))) x14 (.int .i64 (-1))) fun x15 =>
  bS (gd x15 true (bP (fa Q q 289 1 1 x0) fun y => some (y, G11)) G11) fun x16 G17 =>
  bS (gd x15 true (bP (ld Q q 3 x16 G17) fun y => some (y, G17)) G17) fun x18 G19 =>
  bS (gd x15 true (bP (bn Q q .neq 3 (.tmp 21) (.const (.int .i64 0)) x18 (.int .i64 0)) fun y => some (y, G19)) G19) fun x20 G21 =>
  bP (pickV x15 x20 (.bool false)) fun x22 =>
  ifV x22 (
  some (.tuple #[(.int .u64 0), (.int .i64 5)], G21)) (
  bS (e.ev.cl 284 [] G21) fun x23 G24 =>
  bS (al Q q 393 z393 G24) fun x25 G26 =>
  bP (st Q q 393 4 x25 x23 G26) fun G27 =>
  bP (sla Q q 393 2 2 x25 none none none (G27.room 13)) fun x28 =>
  bP (fa Q q 289 0 0 x0) fun x29 =>
  bP (ld Q q 3 x29 (G27.room 13)) fun x30 =>
  bP (bn Q q .add 3 (.tmp 27) (.const (.int .i64 1)) x30 (.int .i64 1)) fun x31 =>
  bP (fa Q q 289 1 1 x0) fun x32 =>
  bP (ld Q q 3 x32 (G27.room 13)) fun x33 =>
  bS (bs Q q 78 2 (rep z3 2) 1 [(0, 0, 1), (1, 1, 1)] [x31, x33] ((G27.room 13).at' (G27.nx + 6))) fun x34 G35 =>
  bS (e.ev.cl 358 [x28, x34] (G35.back (G27.room 13))) fun x37 G36 =>
  bP (fa Q q 289 2 2 x0) fun x38 =>
  bP (ld Q q 4 x38 G36) fun x39 =>
  chk ((sameO (ld Q q 4 x38 (G35.back (G27.room 13))) x39 && true)) <|
  bS (e.ev.cl 194 [x37, x39] G36) fun x41 G40 =>
  some (.tuple #[x41, (.int .i64 0)], G40)))
theorem m285 {e : Ex} {E : Ev} (h : ExLe Q e E) (v0 : Value) (G : GS) : Ref (s285 true e v0 G) (s285 false (Ex.of E) v0 G) := by
  unfold s285
  exact Ref.gq
theorem f285 {orc : FuncId → Bool} {e : Ex} (h : ExLe Q e (E orc)) (v0 : Value) (G : GS) : Ref (s285 true e v0 G) ((E orc).cl 285 [v0] G) :=
  fun r hr => cl_sxE_some Q orc (vs := [v0]) G Tryz.func285 (by kernel_rfl) (by kernel_rfl) (by kernel_rfl) (by kernel_rfl) (by kernel_rfl) (by kernel_rfl) (m285 h v0 G r hr)
/-- (*coxswain/coxswainref02.Mem).CAS -/
noncomputable def s326 (q : Bool) (e : Ex) (v0 v1 v2 v3 : Value) (G : GS) : Option (Value × GS) :=
  bS (e.ev.cl 343 [v0, v1] G) fun x0 G1 =>
  bP (bn Q q .eql 41 (.tmp 13) (.tmp 14) x0 v2) fun x2 =>
  bS (e.ev.cl 161 [v0, (.int .i64 3), v1, x2, v3] G1) fun x3 G4 =>
  bP (pNil v0) fun x5 =>
  bP (fa Q q 252 1 1 x5) fun x6 =>
  bP (fa Q q 68 4 4 x6) fun x7 =>
  bP (ld Q q 4 x7 G4) fun x8 =>
  some (x8, G4)
theorem m326 {e : Ex} {E : Ev} (h : ExLe Q e E) (v0 v1 v2 v3 : Value) (G : GS) : Ref (s326 true e v0 v1 v2 v3 G) (s326 false (Ex.of E) v0 v1 v2 v3 G) := by
  unfold s326
  exact Ref.gq
theorem f326 {orc : FuncId → Bool} {e : Ex} (h : ExLe Q e (E orc)) (v0 v1 v2 v3 : Value) (G : GS) : Ref (s326 true e v0 v1 v2 v3 G) ((E orc).cl 326 [v0, v1, v2, v3] G) :=
  fun r hr => cl_sxE_some Q orc (vs := [v0, v1, v2, v3]) G Tryz.func326 (by kernel_rfl) (by kernel_rfl) (by kernel_rfl) (by kernel_rfl) (by kernel_rfl) (by kernel_rfl) (m326 h v0 v1 v2 v3 G r hr)
/-- coxswain/stack.link -/
noncomputable def s334 (q : Bool) (e : Ex) (v0 : Value) (G : GS) : Option (Value × GS) :=
  bP (bd Q q 274 z274 [(0, 0, 1)] [v0]) fun x0 =>
  bS (e.ev.cl 390 [x0] G) fun x1 G2 =>
  bP (pExtract x1 0) fun x3 =>
  bP (pExtract x1 1) fun x4 =>
  some (x3, G2)
theorem m334 {e : Ex} {E : Ev} (h : ExLe Q e E) (v0 : Value) (G : GS) : Ref (s334 true e v0 G) (s334 false (Ex.of E) v0 G) := by
  unfold s334
  exact Ref.gq
theorem f334 {orc : FuncId → Bool} {e : Ex} (h : ExLe Q e (E orc)) (v0 : Value) (G : GS) : Ref (s334 true e v0 G) ((E orc).cl 334 [v0] G) :=
  fun r hr => cl_sxE_some Q orc (vs := [v0]) G Tryz.func334 (by kernel_rfl) (by kernel_rfl) (by kernel_rfl) (by kernel_rfl) (by kernel_rfl) (by kernel_rfl) (m334 h v0 G r hr)
/-- (*coxswain/stack.Pop).first -/
noncomputable def s335 (q : Bool) (e : Ex) (v0 v1 : Value) (G : GS) : Option (Value × GS) :=
  bP (pNil v0) fun x0 =>
  bP (fa Q q 489 1 9 x0) fun x1 =>
  bP (st Q q 487 1 x1 (.func (.func 391) #[] #[]) G) fun G2 =>
  bP (pNil v0) fun x3 =>
  bP (fa Q q 489 0 0 x3) fun x4 =>
  bS (e.ev.cl 392 [x4, v1] G2) fun x5 G6 =>
  bP (pNil v0) fun x7 =>
  bP (fa Q q 489 0 0 x7) fun x8 =>
  bP (fa Q q 486 2 4 x8) fun x9 =>
  bP (st Q q 3 1 x9 x5 G6) fun G10 =>
  bP (pNil v0) fun x11 =>
  bP (fa Q q 489 0 0 x11) fun x12 =>
  bP (fa Q q 486 2 4 x12) fun x13 =>
  bP (ld Q q 3 x13 G10) fun x14 =>
  bP (bn Q q .lss 3 (.tmp 20) (.const (.int .i64 0)) x14 (.int .i64 0)) fun x15 =>
  ifV x15 (
  bP (pNil v0) fun x16 =>
  bP (fa Q q 489 0 0 x16) fun x17 =>
  bS (e.ev.cl 345 [x17, (.int .i64 15)] G10) fun x18 G19 =>
  some (.tuple #[], G19)) (
  some (.tuple #[], G10))
theorem m335 {e : Ex} {E : Ev} (h : ExLe Q e E) (v0 v1 : Value) (G : GS) : Ref (s335 true e v0 v1 G) (s335 false (Ex.of E) v0 v1 G) := by
  unfold s335
  exact Ref.gq
theorem f335 {orc : FuncId → Bool} {e : Ex} (h : ExLe Q e (E orc)) (v0 v1 : Value) (G : GS) : Ref (s335 true e v0 v1 G) ((E orc).cl 335 [v0, v1] G) :=
  fun r hr => cl_sxE_some Q orc (vs := [v0, v1]) G Tryz.func335 (by kernel_rfl) (by kernel_rfl) (by kernel_rfl) (by kernel_rfl) (by kernel_rfl) (by kernel_rfl) (m335 h v0 v1 G r hr)
/-- (*coxswain/stack.Pop).Step -/
noncomputable def s336 (q : Bool) (e : Ex) (v0 v1 : Value) (G : GS) : Option (Value × GS) :=
  bP (ep Q q false 371 (.tmp 5) (.const (.pointer none)) v0 (.pointer none)) fun x0 =>
  bS (gd x0 false (some (v0, G)) G) fun x1 G2 =>
  bS (gd x0 false (bP (pNil x1) fun y => some (y, G2)) G2) fun x3 G4 =>
  bS (gd x0 false (bP (fa Q q 489 0 0 x3) fun y => some (y, G4)) G4) fun x5 G6 =>
  bS (gd x0 false (bS (e.ev.cl 393 [x5] G6) fun y G => some (y, G)) G6) fun x7 G8 =>
  bP (pickV x0 (.bool true) x7) fun x9 =>
  ifV x9 (
  some ((.bool true), G8)) (
  bP (pNil v0) fun x10 =>
  bP (fa Q q 489 1 9 x10) fun x11 =>
  bP (ld Q q 487 x11 G8) fun x12 =>
  bS (cValue e.ev x12 [v0, v1] G8) fun x13 G14 =>
  bP (pNil v0) fun x15 =>
  bP (fa Q q 489 0 0 x15) fun x16 =>
  bP (fa Q q 486 5 7 x16) fun x17 =>
  bP (ld Q q 4 x17 G14) fun x18 =>
  some (x18, G14))
theorem m336 {e : Ex} {E : Ev} (h : ExLe Q e E) (v0 v1 : Value) (G : GS) : Ref (s336 true e v0 v1 G) (s336 false (Ex.of E) v0 v1 G) := by
  unfold s336
  exact Ref.gq
theorem f336 {orc : FuncId → Bool} {e : Ex} (h : ExLe Q e (E orc)) (v0 v1 : Value) (G : GS) : Ref (s336 true e v0 v1 G) ((E orc).cl 336 [v0, v1] G) :=
  fun r hr => cl_sxE_some Q orc (vs := [v0, v1]) G Tryz.func336 (by kernel_rfl) (by kernel_rfl) (by kernel_rfl) (by kernel_rfl) (by kernel_rfl) (by kernel_rfl) (m336 h v0 v1 G r hr)
/-- (*coxswain/stack.Pop).Index -/
noncomputable def s337 (q : Bool) (e : Ex) (v0 : Value) (G : GS) : Option (Value × GS) :=
  bP (ep Q q false 371 (.tmp 4) (.const (.pointer none)) v0 (.pointer none)) fun x0 =>
  ifV x0 (
  some (.tuple #[(.int .i64 0), (.int .i64 1)], G)) (
  bP (pNil v0) fun x1 =>
  bP (fa Q q 489 0 0 x1) fun x2 =>
  bS (e.ev.cl 394 [x2] G) fun x3 G4 =>
  bP (pExtract x3 0) fun x5 =>
  bP (pExtract x3 1) fun x6 =>
  some (.tuple #[x5, x6], G4))
theorem m337 {e : Ex} {E : Ev} (h : ExLe Q e E) (v0 : Value) (G : GS) : Ref (s337 true e v0 G) (s337 false (Ex.of E) v0 G) := by
  unfold s337
  exact Ref.gq
theorem f337 {orc : FuncId → Bool} {e : Ex} (h : ExLe Q e (E orc)) (v0 : Value) (G : GS) : Ref (s337 true e v0 G) ((E orc).cl 337 [v0] G) :=
  fun r hr => cl_sxE_some Q orc (vs := [v0]) G Tryz.func337 (by kernel_rfl) (by kernel_rfl) (by kernel_rfl) (by kernel_rfl) (by kernel_rfl) (by kernel_rfl) (m337 h v0 G r hr)
/-- (*coxswain/arena.Alloc).gives -/
noncomputable def s338 (q : Bool) (e : Ex) (v0 v1 : Value) (G : GS) : Option (Value × GS) :=
  bP (pNil v0) fun x0 =>
  bP (fa Q q 375 4 9 x0) fun x1 =>
  bP (ld Q q 3 x1 (G.room 26)) fun x2 =>
  bP (pNil v0) fun x3 =>
  bP (fa Q q 375 1 1 x3) fun x4 =>
  bP (fa Q q 25 1 3 x4) fun x5 =>
  bP (ld Q q 3 x5 (G.room 26)) fun x6 =>
  bP (pNil v0) fun x7 =>
  bP (fa Q q 375 4 9 x7) fun x8 =>
  bP (ld Q q 3 x8 (G.room 26)) fun x9 =>
  bP (bn Q q .add 3 (.tmp 15) (.tmp 19) x6 x9) fun x10 =>
  bS (e.ev.cl 177 [v1, x10] (G.room 26)) fun x12 G11 =>
  chk ((sameO (ld Q q 3 x1 G11) x2 && true)) <|
  bS (e.ev.cl 347 [x12] G11) fun x14 G13 =>
  chk ((sameO (ld Q q 3 x1 G13) x2 && true)) <|
  bP (bd Q q 289 z289 [(0, 0, 1), (1, 1, 1)] [x2, x14]) fun x15 =>
  bS (e.ev.cl 285 [x15] G13) fun x17 G16 =>
  bP (pExtract x17 0) fun x18 =>
  bP (pExtract x17 1) fun x19 =>
  bP (pNil v0) fun x20 =>
  bP (fa Q q 375 5 10 x20) fun x21 =>
  bP (st Q q 41 1 x21 x18 G16) fun G22 =>
  bP (pNil v0) fun x23 =>
  bP (fa Q q 375 3 8 x23) fun x24 =>
  bP (st Q q 373 1 x24 .nilFunc G22) fun G25 =>
  some (.tuple #[], G25)
theorem m338 {e : Ex} {E : Ev} (h : ExLe Q e E) (v0 v1 : Value) (G : GS) : Ref (s338 true e v0 v1 G) (s338 false (Ex.of E) v0 v1 G) := by
  unfold s338
  exact Ref.gq
theorem f338 {orc : FuncId → Bool} {e : Ex} (h : ExLe Q e (E orc)) (v0 v1 : Value) (G : GS) : Ref (s338 true e v0 v1 G) ((E orc).cl 338 [v0, v1] G) :=
  fun r hr => cl_sxE_some Q orc (vs := [v0, v1]) G Tryz.func338 (by kernel_rfl) (by kernel_rfl) (by kernel_rfl) (by kernel_rfl) (by kernel_rfl) (by kernel_rfl) (m338 h v0 v1 G r hr)
noncomputable def jb339_0 (q : Bool) (e : Ex) (τ : Env) (G : GS) : Option (Value × GS) :=
  bV q (τ 0) fun a0_ =>
  bP (pNil a0_) fun x3 =>
  bP (fa Q q 375 3 8 x3) fun x4 =>
  bP (st Q q 373 1 x4 .nilFunc G) fun G5 =>
  some (.tuple #[], G5)
noncomputable def j339_0 (q : Bool) (e : Ex) (τ : Env) (G : GS) : Option (Value × GS) := jb339_0 q e τ G
theorem mj339_0 {e : Ex} {E : Ev} (h : ExLe Q e E) (τ : Env) (G : GS) : Ref (j339_0 true e τ G) (j339_0 false (Ex.of E) τ G) := by
  unfold j339_0 jb339_0
  exact Ref.gq
theorem mkj339_0 {e : Ex} {E : Ev} (h : ExLe Q e E) {τ : Env} {l U : List (Nat × Value)} {G : GS} (hU : UOk τ U) : Ref (j339_0 true e (xq true 28 τ l U) G) (j339_0 false (Ex.of E) (xq false 28 τ l U) G) := by
  rw [xq_eq hU]
  exact mj339_0 h _ _
noncomputable def sb339 (q : Bool) (e : Ex) (J0 : Env → GS → Option (Value × GS)) (v0 v1 : Value) (G : GS) : Option (Value × GS) :=
  bP (pNil v0) fun x0 =>
  bP (fa Q q 375 6 11 x0) fun x1 =>
  bP (st Q q 33 1 x1 (.int .i64 7) G) fun G2 =>
  bP (pNil v0) fun x6 =>
  bP (fa Q q 375 1 1 x6) fun x7 =>
  bP (fa Q q 25 2 4 x7) fun x8 =>
  bP (ld Q q 3 x8 (G2.room 15)) fun x9 =>
  bS (e.ev.cl 177 [v1, x9] (G2.room 15)) fun x11 G10 =>
  bP (pNil v0) fun x12 =>
  bP (fa Q q 375 1 1 x12) fun x13 =>
  bP (fa Q q 25 0 0 x13) fun x14 =>
  bP (fa Q q 23 2 2 x14) fun x15 =>
  bP (ld Q q 3 x15 G10) fun x16 =>
  chk ((sameO (ld Q q 3 x15 (G2.room 15)) x16 && true)) <|
  bP (cv Q q 3 41 .i64 .u64 x16) fun x17 =>
  bP (bn Q q .geq 41 (.tmp 13) (.tmp 20) x11 x17) fun x18 =>
  ifV x18 (
  bP (pNil v0) fun x19 =>
  bP (fa Q q 375 6 11 x19) fun x20 =>
  bP (st Q q 33 1 x20 (.int .i64 12) G10) fun G21 =>
  J0 (xq q 28 (nth undef [v0, v1]) [(24, x20), (23, x19), (22, v0), (21, x18), (20, x17), (19, x16), (18, x15), (17, x14), (16, x13), (15, x12), (14, v0), (13, x11), (12, x9), (11, x8), (10, x7), (9, x6), (8, v0), (7, v1), (6, x1), (5, x0), (4, v0)] []) G21) (
  J0 (xq q 28 (nth undef [v0, v1]) [(21, x18), (20, x17), (19, x16), (18, x15), (17, x14), (16, x13), (15, x12), (14, v0), (13, x11), (12, x9), (11, x8), (10, x7), (9, x6), (8, v0), (7, v1), (6, x1), (5, x0), (4, v0)] []) G10)
/-- (*coxswain/arena.Alloc).lacks -/
noncomputable def s339 (q : Bool) (e : Ex) (v0 v1 : Value) (G : GS) : Option (Value × GS) := sb339 q e (j339_0 q e) v0 v1 G
theorem m339 {e : Ex} {E : Ev} (h : ExLe Q e E) (v0 v1 : Value) (G : GS) : Ref (s339 true e v0 v1 G) (s339 false (Ex.of E) v0 v1 G) := by
  unfold s339 sb339
  repeat' (with_reducible first | exact Ref.rfl' _ | exact ROp.r | refine Ref.bP ?_ fun _ => ?_ | refine Ref.bS ?_ fun _ _ => ?_ | exact Ref.cl (by assumption) | refine Ref.ifV ?_ ?_ | refine LpLe.rx (by assumption) ?_ | refine Ref.xitq ?_ | exact UOk.z | refine UOk.c (by assumption) ?_ | exact Ref.nil _ | refine Ref.bVe fun _ _ => ?_ | refine Ref.bLq (by assumption) ?_ fun _ _ _ => ?_ | refine Ref.ifE ?_ ?_ | refine Ref.chk ?_ ?_ | refine Imp.and ?_ ?_ | refine Imp.or ?_ | exact Imp.rfl' _ | refine Imp.sameO ?_ | refine Ref.gd ?_ | exact Ref.cValue (by assumption) | refine Ref.bX ?_ fun _ _ _ => ?_ | exact Ref.scQ (by assumption) | exact Ref.xRangeQ (by assumption) | exact Ref.cInvoke (by assumption) | refine mkj339_0 (by assumption) ?_)
noncomputable def jt339 (J0 : Env → GS → Option (Value × GS)) : JT (Value × GS) :=
  (.n none .e (.n (some (fun T G => J0 (nth undef T) G)) .e .e))
theorem jr339_0 (orc : FuncId → Bool) (J0 : Env → GS → Option (Value × GS)) (T : List Value) (G : GS) : runC Q (evL Q orc) Tryz.f339.ntmps (jt339 J0) (bodyOf Tryz.f339) (retE Q Tryz.f339.results.toList) [true] (nth undef T) G = jb339_0 false (Ex.of (E orc))  (nth undef T) G := by kernel_rfl
theorem jo339 (orc : FuncId → Bool) : JOk Q orc Tryz.f339.ntmps (jt339 (j339_0 false (Ex.of (E orc))) ) (bodyOf Tryz.f339) (retE Q Tryz.f339.results.toList) :=
  jOk Q orc (l := [([true], (fun T G => j339_0 false (Ex.of (E orc)) (nth undef T) G))]) (by kernel_rfl) (AllE.c (fun T G => jr339_0 orc (j339_0 false (Ex.of (E orc))) T G) (AllE.z))
theorem je339 (orc : FuncId → Bool) (J0 : Env → GS → Option (Value × GS)) (v0 v1 : Value) (G : GS) : sxC Q (evL Q orc) Tryz.f339.ntmps (jt339 J0) (bodyOf Tryz.f339) (nth undef [v0, v1]) G (retE Q Tryz.f339.results.toList) = sb339 false (Ex.of (E orc)) J0 v0 v1 G := by kernel_rfl
theorem f339 {orc : FuncId → Bool} {e : Ex} (h : ExLe Q e (E orc)) (v0 v1 : Value) (G : GS) : Ref (s339 true e v0 v1 G) ((E orc).cl 339 [v0, v1] G) :=
  fun r hr => cl_sxC Q orc (vs := [v0, v1]) G (jt339 (j339_0 false (Ex.of (E orc))) ) Tryz.func339 (by kernel_rfl) (by kernel_rfl) (by kernel_rfl) (by kernel_rfl) (by kernel_rfl) (jo339 orc) (je339 orc (j339_0 false (Ex.of (E orc))) v0 v1 G) (m339 h v0 v1 G r hr)
/-- coxswain/coxswainref10.Index -/
noncomputable def s340 (q : Bool) (e : Ex) (v0 v1 : Value) (G : GS) : Option (Value × GS) :=
  bS (bx q v0 G) fun x0 G1 =>
  bP (bn Q q .rem 41 (.tmp 6) (.const (.int .u64 65536)) v1 (.int .u64 65536)) fun x2 =>
  bP (cv Q q 41 3 .u64 .i64 x2) fun x3 =>
  bP (bn Q q .sub 3 (.tmp 8) (.const (.int .i64 1)) x3 (.int .i64 1)) fun x4 =>
  bP (fa Q q 23 2 2 x0) fun x5 =>
  bP (ld Q q 3 x5 G1) fun x6 =>
  bP (bn Q q .geq 3 (.tmp 10) (.tmp 12) x4 x6) fun x7 =>
  ifV x7 (
  some ((.int .i64 (-1)), G1)) (
  some (x4, G1))
theorem m340 {e : Ex} {E : Ev} (h : ExLe Q e E) (v0 v1 : Value) (G : GS) : Ref (s340 true e v0 v1 G) (s340 false (Ex.of E) v0 v1 G) := by
  unfold s340
  exact Ref.gq
theorem f340 {orc : FuncId → Bool} {e : Ex} (h : ExLe Q e (E orc)) (v0 v1 : Value) (G : GS) : Ref (s340 true e v0 v1 G) ((E orc).cl 340 [v0, v1] G) :=
  fun r hr => cl_sxE_some Q orc (vs := [v0, v1]) G Tryz.func340 (by kernel_rfl) (by kernel_rfl) (by kernel_rfl) (by kernel_rfl) (by kernel_rfl) (by kernel_rfl) (m340 h v0 v1 G r hr)
/-- coxswain/coxswainref10.top -/
noncomputable def s341 (q : Bool) (e : Ex) (v0 v1 : Value) (G : GS) : Option (Value × GS) :=
  bP (bn Q q .add 3 (.tmp 5) (.const (.int .i64 1)) v0 (.int .i64 1)) fun x0 =>
  bP (cv Q q 3 41 .i64 .u64 x0) fun x1 =>
  bP (bn Q q .shr 41 (.tmp 8) (.const (.int .u64 16)) v1 (.int .u64 16)) fun x2 =>
  bP (bn Q q .add 41 (.tmp 9) (.const (.int .u64 1)) x2 (.int .u64 1)) fun x3 =>
  bP (bn Q q .shl 41 (.tmp 10) (.const (.int .u64 16)) x3 (.int .u64 16)) fun x4 =>
  bP (bn Q q .or 41 (.tmp 7) (.tmp 11) x1 x4) fun x5 =>
  some (x5, G)
theorem m341 {e : Ex} {E : Ev} (h : ExLe Q e E) (v0 v1 : Value) (G : GS) : Ref (s341 true e v0 v1 G) (s341 false (Ex.of E) v0 v1 G) := by
  unfold s341
  exact Ref.gq
theorem f341 {orc : FuncId → Bool} {e : Ex} (h : ExLe Q e (E orc)) (v0 v1 : Value) (G : GS) : Ref (s341 true e v0 v1 G) ((E orc).cl 341 [v0, v1] G) :=
  fun r hr => cl_sxE_some Q orc (vs := [v0, v1]) G Tryz.func341 (by kernel_rfl) (by kernel_rfl) (by kernel_rfl) (by kernel_rfl) (by kernel_rfl) (by kernel_rfl) (m341 h v0 v1 G r hr)
/-- coxswain/coxswainref10.told -/
noncomputable def s342 (q : Bool) (e : Ex) (v0 v1 : Value) (G : GS) : Option (Value × GS) :=
  bP (bn Q q .neq 3 (.tmp 7) (.const (.int .i64 9)) v0 (.int .i64 9)) fun x0 =>
  ifV x0 (
  some (.tuple #[(.int .i64 0), (.int .i64 14)], G)) (
  bP (bn Q q .lss 3 (.tmp 10) (.const (.int .i64 0)) v1 (.int .i64 0)) fun x1 =>
  ifV x1 (
  some (.tuple #[(.int .i64 0), (.int .i64 15)], G)) (
  some (.tuple #[v1, (.int .i64 0)], G)))
theorem m342 {e : Ex} {E : Ev} (h : ExLe Q e E) (v0 v1 : Value) (G : GS) : Ref (s342 true e v0 v1 G) (s342 false (Ex.of E) v0 v1 G) := by
  unfold s342
  exact Ref.gq
theorem f342 {orc : FuncId → Bool} {e : Ex} (h : ExLe Q e (E orc)) (v0 v1 : Value) (G : GS) : Ref (s342 true e v0 v1 G) ((E orc).cl 342 [v0, v1] G) :=
  fun r hr => cl_sxE_some Q orc (vs := [v0, v1]) G Tryz.func342 (by kernel_rfl) (by kernel_rfl) (by kernel_rfl) (by kernel_rfl) (by kernel_rfl) (by kernel_rfl) (m342 h v0 v1 G r hr)
/-- (*coxswain/coxswainref02.Mem).At -/
noncomputable def s343 (q : Bool) (e : Ex) (v0 v1 : Value) (G : GS) : Option (Value × GS) :=
  bP (bn Q q .lss 3 (.tmp 5) (.const (.int .i64 0)) v1 (.int .i64 0)) fun x0 =>
  bS (gd x0 false (some (v1, G)) G) fun x1 G2 =>
  bS (gd x0 false (some (v0, G2)) G2) fun x3 G4 =>
  bS (gd x0 false (bP (pNil x3) fun y => some (y, G4)) G4) fun x5 G6 =>
  bS (gd x0 false (bP (fa Q q 252 0 0 x5) fun y => some (y, G6)) G6) fun x7 G8 =>
  bS (gd x0 false (bP (ld Q q 111 x7 G8) fun y => some (y, G8)) G8) fun x9 G10 =>
  bS (gd x0 false (bP (ln Q q 111 x9) fun y => some (y, G10)) G10) fun x11 G12 =>
  bS (gd x0 false (bP (bn Q q .geq 3 (.tmp 8) (.tmp 13) x1 x11) fun y => some (y, G12)) G12) fun x13 G14 =>
  bP (pickV x0 (.bool true) x13) fun x15 =>
  ifV x15 (
  some ((.int .u64 0), G14)) (
  bP (pNil v0) fun x16 =>
  bP (fa Q q 252 0 0 x16) fun x17 =>
  bP (ld Q q 111 x17 G14) fun x18 =>
  bP (ias Q q 111 1 x18 v1) fun x19 =>
  bP (ld Q q 41 x19 G14) fun x20 =>
  some (x20, G14))
theorem m343 {e : Ex} {E : Ev} (h : ExLe Q e E) (v0 v1 : Value) (G : GS) : Ref (s343 true e v0 v1 G) (s343 false (Ex.of E) v0 v1 G) := by
  unfold s343
  exact Ref.gq
theorem f343 {orc : FuncId → Bool} {e : Ex} (h : ExLe Q e (E orc)) (v0 v1 : Value) (G : GS) : Ref (s343 true e v0 v1 G) ((E orc).cl 343 [v0, v1] G) :=
  fun r hr => cl_sxE_some Q orc (vs := [v0, v1]) G Tryz.func343 (by kernel_rfl) (by kernel_rfl) (by kernel_rfl) (by kernel_rfl) (by kernel_rfl) (by kernel_rfl) (m343 h v0 v1 G r hr)
/-- (*coxswain/stack.Push).first -/
noncomputable def s344 (q : Bool) (e : Ex) (v0 v1 : Value) (G : GS) : Option (Value × GS) :=
  bP (pNil v0) fun x0 =>
  bP (fa Q q 498 0 0 x0) fun x1 =>
  bS (e.ev.cl 392 [x1, v1] G) fun x2 G3 =>
  bP (pNil v0) fun x4 =>
  bP (fa Q q 498 0 0 x4) fun x5 =>
  bP (fa Q q 486 3 5 x5) fun x6 =>
  bP (st Q q 3 1 x6 x2 G3) fun G7 =>
  bP (pNil v0) fun x8 =>
  bP (fa Q q 498 1 9 x8) fun x9 =>
  bP (st Q q 496 1 x9 (.func (.func 395) #[] #[]) G7) fun G10 =>
  some (.tuple #[], G10)
theorem m344 {e : Ex} {E : Ev} (h : ExLe Q e E) (v0 v1 : Value) (G : GS) : Ref (s344 true e v0 v1 G) (s344 false (Ex.of E) v0 v1 G) := by
  unfold s344
  exact Ref.gq
theorem f344 {orc : FuncId → Bool} {e : Ex} (h : ExLe Q e (E orc)) (v0 v1 : Value) (G : GS) : Ref (s344 true e v0 v1 G) ((E orc).cl 344 [v0, v1] G) :=
  fun r hr => cl_sxE_some Q orc (vs := [v0, v1]) G Tryz.func344 (by kernel_rfl) (by kernel_rfl) (by kernel_rfl) (by kernel_rfl) (by kernel_rfl) (by kernel_rfl) (m344 h v0 v1 G r hr)
/-- (*coxswain/stack.held).ends -/
noncomputable def s345 (q : Bool) (e : Ex) (v0 v1 : Value) (G : GS) : Option (Value × GS) :=
  bP (pNil v0) fun x0 =>
  bP (fa Q q 486 5 7 x0) fun x1 =>
  bP (st Q q 4 1 x1 (.bool true) G) fun G2 =>
  bP (pNil v0) fun x3 =>
  bP (fa Q q 486 6 8 x3) fun x4 =>
  bP (st Q q 33 1 x4 v1 G2) fun G5 =>
  some (.tuple #[], G5)
theorem m345 {e : Ex} {E : Ev} (h : ExLe Q e E) (v0 v1 : Value) (G : GS) : Ref (s345 true e v0 v1 G) (s345 false (Ex.of E) v0 v1 G) := by
  unfold s345
  exact Ref.gq
theorem f345 {orc : FuncId → Bool} {e : Ex} (h : ExLe Q e (E orc)) (v0 v1 : Value) (G : GS) : Ref (s345 true e v0 v1 G) ((E orc).cl 345 [v0, v1] G) :=
  fun r hr => cl_sxE_some Q orc (vs := [v0, v1]) G Tryz.func345 (by kernel_rfl) (by kernel_rfl) (by kernel_rfl) (by kernel_rfl) (by kernel_rfl) (by kernel_rfl) (m345 h v0 v1 G r hr)
/-- (*coxswain/arena.Free).raises -/
noncomputable def s346 (q : Bool) (e : Ex) (v0 v1 : Value) (G : GS) : Option (Value × GS) :=
  bP (pNil v0) fun x0 =>
  bP (fa Q q 384 1 1 x0) fun x1 =>
  bP (fa Q q 25 1 3 x1) fun x2 =>
  bP (ld Q q 3 x2 (G.room 17)) fun x3 =>
  bP (pNil v0) fun x4 =>
  bP (fa Q q 384 4 9 x4) fun x5 =>
  bP (ld Q q 3 x5 (G.room 17)) fun x6 =>
  bP (bn Q q .add 3 (.tmp 9) (.tmp 13) x3 x6) fun x7 =>
  bP (pNil v0) fun x8 =>
  bP (fa Q q 384 5 10 x8) fun x9 =>
  bP (ld Q q 41 x9 (G.room 17)) fun x10 =>
  bP (bn Q q .add 41 (.tmp 18) (.const (.int .u64 1)) x10 (.int .u64 1)) fun x11 =>
  bS (e.ev.cl 45 [v1, x7, x11] (G.room 17)) fun x13 G12 =>
  bP (pNil v0) fun x14 =>
  bP (fa Q q 384 3 8 x14) fun x15 =>
  bP (st Q q 382 1 x15 (.func (.func 396) #[] #[]) G12) fun G16 =>
  some (.tuple #[], G16)
theorem m346 {e : Ex} {E : Ev} (h : ExLe Q e E) (v0 v1 : Value) (G : GS) : Ref (s346 true e v0 v1 G) (s346 false (Ex.of E) v0 v1 G) := by
  unfold s346
  exact Ref.gq
theorem f346 {orc : FuncId → Bool} {e : Ex} (h : ExLe Q e (E orc)) (v0 v1 : Value) (G : GS) : Ref (s346 true e v0 v1 G) ((E orc).cl 346 [v0, v1] G) :=
  fun r hr => cl_sxE_some Q orc (vs := [v0, v1]) G Tryz.func346 (by kernel_rfl) (by kernel_rfl) (by kernel_rfl) (by kernel_rfl) (by kernel_rfl) (by kernel_rfl) (m346 h v0 v1 G r hr)
/-- coxswain/arena.gen -/
noncomputable def s347 (q : Bool) (e : Ex) (v0 : Value) (G : GS) : Option (Value × GS) :=
  bP (bn Q q .and 41 (.tmp 3) (.const (.int .u64 4294967295)) v0 (.int .u64 4294967295)) fun x0 =>
  bP (cv Q q 41 3 .u64 .i64 x0) fun x1 =>
  some (x1, G)
theorem m347 {e : Ex} {E : Ev} (h : ExLe Q e E) (v0 : Value) (G : GS) : Ref (s347 true e v0 G) (s347 false (Ex.of E) v0 G) := by
  unfold s347
  exact Ref.gq
theorem f347 {orc : FuncId → Bool} {e : Ex} (h : ExLe Q e (E orc)) (v0 : Value) (G : GS) : Ref (s347 true e v0 G) ((E orc).cl 347 [v0] G) :=
  fun r hr => cl_sxE_some Q orc (vs := [v0]) G Tryz.func347 (by kernel_rfl) (by kernel_rfl) (by kernel_rfl) (by kernel_rfl) (by kernel_rfl) (by kernel_rfl) (m347 h v0 G r hr)
/-- (*coxswain/arena.Free).wears -/
noncomputable def s348 (q : Bool) (e : Ex) (v0 v1 : Value) (G : GS) : Option (Value × GS) :=
  bP (pNil v0) fun x0 =>
  bP (fa Q q 384 1 1 x0) fun x1 =>
  bP (fa Q q 25 2 4 x1) fun x2 =>
  bP (ld Q q 3 x2 G) fun x3 =>
  bS (e.ev.cl 198 [v1, x3, (.int .u64 1)] G) fun x4 G5 =>
  bP (pNil v0) fun x6 =>
  bP (fa Q q 384 3 8 x6) fun x7 =>
  bP (st Q q 382 1 x7 .nilFunc G5) fun G8 =>
  some (.tuple #[], G8)
theorem m348 {e : Ex} {E : Ev} (h : ExLe Q e E) (v0 v1 : Value) (G : GS) : Ref (s348 true e v0 v1 G) (s348 false (Ex.of E) v0 v1 G) := by
  unfold s348
  exact Ref.gq
theorem f348 {orc : FuncId → Bool} {e : Ex} (h : ExLe Q e (E orc)) (v0 v1 : Value) (G : GS) : Ref (s348 true e v0 v1 G) ((E orc).cl 348 [v0, v1] G) :=
  fun r hr => cl_sxE_some Q orc (vs := [v0, v1]) G Tryz.func348 (by kernel_rfl) (by kernel_rfl) (by kernel_rfl) (by kernel_rfl) (by kernel_rfl) (by kernel_rfl) (m348 h v0 v1 G r hr)
/-- coxswain/stack.read -/
noncomputable def s356 (q : Bool) (e : Ex) (v0 v1 : Value) (G : GS) : Option (Value × GS) :=
  bS (bx q v0 G) fun x0 G1 =>
  bS (e.ev.cl 189 [v1] G1) fun x2 G3 =>
  bP (pExtract x2 0) fun x4 =>
  bP (pExtract x2 1) fun x5 =>
  bS (al Q q 274 z274 G3) fun x6 G7 =>
  bP (st Q q 274 2 x6 x4 G7) fun G8 =>
  bP (fa Q q 274 0 0 x6) fun x9 =>
  bP (ld Q q 3 x9 G8) fun x10 =>
  bP (fa Q q 23 2 2 x0) fun x11 =>
  bP (ld Q q 3 x11 G8) fun x12 =>
  bP (bn Q q .geq 3 (.tmp 13) (.tmp 15) x10 x12) fun x13 =>
  ifV x13 (
  some ((.int .i64 (-1)), G8)) (
  bP (fa Q q 274 0 0 x6) fun x14 =>
  bP (ld Q q 3 x14 G8) fun x15 =>
  some (x15, G8))
theorem m356 {e : Ex} {E : Ev} (h : ExLe Q e E) (v0 v1 : Value) (G : GS) : Ref (s356 true e v0 v1 G) (s356 false (Ex.of E) v0 v1 G) := by
  unfold s356
  exact Ref.gq
theorem f356 {orc : FuncId → Bool} {e : Ex} (h : ExLe Q e (E orc)) (v0 v1 : Value) (G : GS) : Ref (s356 true e v0 v1 G) ((E orc).cl 356 [v0, v1] G) :=
  fun r hr => cl_sxE_some Q orc (vs := [v0, v1]) G Tryz.func356 (by kernel_rfl) (by kernel_rfl) (by kernel_rfl) (by kernel_rfl) (by kernel_rfl) (by kernel_rfl) (m356 h v0 v1 G r hr)
noncomputable def b357_0 (q : Bool) (e : Ex) (lp : Env → GS → Option (Exit × Env × GS)) (τ : Env) (G : GS) : Option (Exit × Env × GS) :=
  bV q (τ 5) fun a5_ =>
  bV q (τ 6) fun a6_ =>
  bV q (τ 7) fun a7_ =>
  bP (bn Q q .lss 3 (.tmp 7) (.tmp 6) a7_ a6_) fun x0 =>
  ifV x0 (
  bP (ias Q q 538 3 a5_ a7_) fun x1 =>
  bP (lda Q q 505 3 x1 G) fun x2 =>
  bS (al Q q 505 z505 G) fun x3 G4 =>
  bP (st Q q 505 3 x3 x2 G4) fun G5 =>
  bP (fa Q q 505 0 0 x3) fun x6 =>
  bP (ld Q q 3 x6 G5) fun x7 =>
  bP (fa Q q 505 1 1 x3) fun x8 =>
  bP (ld Q q 3 x8 G5) fun x9 =>
  bP (bn Q q .lss 3 (.tmp 12) (.tmp 14) x7 x9) fun x10 =>
  bS (gd x10 false (bP (fa Q q 505 0 0 x3) fun y => some (y, G5)) G5) fun x11 G12 =>
  bS (gd x10 false (bP (ld Q q 3 x11 G12) fun y => some (y, G12)) G12) fun x13 G14 =>
  bS (gd x10 false (bP (fa Q q 505 2 2 x3) fun y => some (y, G14)) G14) fun x15 G16 =>
  bS (gd x10 false (bP (ld Q q 3 x15 G16) fun y => some (y, G16)) G16) fun x17 G18 =>
  bS (gd x10 false (bP (bn Q q .gtr 3 (.tmp 18) (.tmp 20) x13 x17) fun y => some (y, G18)) G18) fun x19 G20 =>
  bP (pickV x10 (.bool true) x19) fun x21 =>
  ifV x21 (
  some (.ret, xq q 24 τ [(2, (.bool false)), (22, x21), (21, x19), (20, x17), (19, x15), (18, x13), (17, x11), (16, x10), (15, x10), (14, x9), (13, x8), (12, x7), (11, x6), (4, x3), (10, x2), (9, x1), (8, x0)] [(5, a5_), (6, a6_), (7, a7_)], G20)) (
  bP (bn Q q .add 3 (.tmp 7) (.const (.int .i64 1)) a7_ (.int .i64 1)) fun x22 =>
  lp (xq q 24 τ [(7, x22), (23, x22), (22, x21), (21, x19), (20, x17), (19, x15), (18, x13), (17, x11), (16, x10), (15, x10), (14, x9), (13, x8), (12, x7), (11, x6), (4, x3), (10, x2), (9, x1), (8, x0)] [(5, a5_), (6, a6_)]) G20)) (
  some ((.exit 0), xq q 24 τ [(8, x0)] [(5, a5_), (6, a6_), (7, a7_)], G))
theorem mb357_0 {e : Ex} {E : Ev} (h : ExLe Q e E) {lp lp' : Env → GS → Option (Exit × Env × GS)} (hlp : LpLe lp lp') (τ : Env) (G : GS) : Ref (b357_0 true e lp τ G) (b357_0 false (Ex.of E) lp' τ G) := by
  unfold b357_0
  exact Ref.gq
theorem l357_0 {orc : FuncId → Bool} {e : Ex} (h : ExLe Q e (E orc)) (lp : Env → GS → Option (Exit × Env × GS)) (hlp : ∀ τ G, Ref (lp τ G) (mapE ((E orc).lp (subAt [1, 0, 1, 0, 0] (bodyOf Tryz.f357)) (lst 24 τ) G))) (T : List Value) (G : GS) (hT : T.length = 24) : Ref (b357_0 true e lp (nth undef T) G) (mapE ((E orc).lp (subAt [1, 0, 1, 0, 0] (bodyOf Tryz.f357)) T G)) :=
  fun r hr => lp_sxN Q orc G hT (by kernel_rfl) (mb357_0 h ⟨hlp⟩ _ _ r hr)
/-- coxswain/word.within -/
noncomputable def s357 (q : Bool) (e : Ex) (v0 : Value) (G : GS) : Option (Value × GS) :=
  bP (ln Q q 538 v0) fun x0 =>
  bLq q e 357 0 (subAt [1, 0, 1, 0, 0] (bodyOf Tryz.f357)) 24 (nth undef [v0]) [(7, (.int .i64 0)), (6, x0), (5, v0), (2, (.bool false))] [] G fun e1 t2 G3 =>
  bV q (t2 2) fun t2x2_ =>
  ifE e1 (.exit 0) (
  some ((.bool true), G3)) (ifE e1 .ret (
  some (t2x2_, G3)) (none))
theorem m357 {e : Ex} {E : Ev} (h : ExLe Q e E) (v0 : Value) (G : GS) : Ref (s357 true e v0 G) (s357 false (Ex.of E) v0 G) := by
  unfold s357
  exact Ref.gq
theorem f357 {orc : FuncId → Bool} {e : Ex} (h : ExLe Q e (E orc)) (v0 : Value) (G : GS) : Ref (s357 true e v0 G) ((E orc).cl 357 [v0] G) :=
  fun r hr => cl_sxE_some Q orc (vs := [v0]) G Tryz.func357 (by kernel_rfl) (by kernel_rfl) (by kernel_rfl) (by kernel_rfl) (by kernel_rfl) (by kernel_rfl) (m357 h v0 G r hr)
noncomputable def b358_0 (q : Bool) (e : Ex) (lp : Env → GS → Option (Exit × Env × GS)) (τ : Env) (G : GS) : Option (Exit × Env × GS) :=
  bV q (τ 1) fun a1_ =>
  bV q (τ 5) fun a5_ =>
  bV q (τ 8) fun a8_ =>
  bV q (τ 9) fun a9_ =>
  bV q (τ 10) fun a10_ =>
  bP (bn Q q .lss 3 (.tmp 10) (.tmp 9) a10_ a9_) fun x0 =>
  ifV x0 (
  bP (ias Q q 507 2 a8_ a10_) fun x1 =>
  bP (lda Q q 392 2 x1 G) fun x2 =>
  bS (al Q q 392 z392 G) fun x3 G4 =>
  bP (st Q q 392 2 x3 x2 G4) fun G5 =>
  bP (lda Q q 392 2 x3 (G5.room 8)) fun x6 =>
  bP (ias Q q 78 1 a1_ a10_) fun x7 =>
  bP (ld Q q 3 x7 (G5.room 8)) fun x8 =>
  bS (e.ev.cl 399 [a5_, x6, x8] (G5.room 8)) fun x10 G9 =>
  bP (bn Q q .add 3 (.tmp 10) (.const (.int .i64 1)) a10_ (.int .i64 1)) fun x11 =>
  lp (xq q 24 τ [(10, x11), (22, x11), (5, x10), (21, x10), (20, x8), (19, x7), (18, a10_), (17, a1_), (16, x6), (15, a5_), (6, a10_), (7, x3), (14, x2), (13, x1), (12, a10_), (11, x0)] [(1, a1_), (8, a8_), (9, a9_)]) G9) (
  some ((.exit 0), xq q 24 τ [(11, x0)] [(1, a1_), (5, a5_), (8, a8_), (9, a9_), (10, a10_)], G))
theorem mb358_0 {e : Ex} {E : Ev} (h : ExLe Q e E) {lp lp' : Env → GS → Option (Exit × Env × GS)} (hlp : LpLe lp lp') (τ : Env) (G : GS) : Ref (b358_0 true e lp τ G) (b358_0 false (Ex.of E) lp' τ G) := by
  unfold b358_0
  exact Ref.gq
theorem l358_0 {orc : FuncId → Bool} {e : Ex} (h : ExLe Q e (E orc)) (lp : Env → GS → Option (Exit × Env × GS)) (hlp : ∀ τ G, Ref (lp τ G) (mapE ((E orc).lp (subAt [1, 1, 0, 1, 0, 0] (bodyOf Tryz.f358)) (lst 24 τ) G))) (T : List Value) (G : GS) (hT : T.length = 24) : Ref (b358_0 true e lp (nth undef T) G) (mapE ((E orc).lp (subAt [1, 1, 0, 1, 0, 0] (bodyOf Tryz.f358)) T G)) :=
  fun r hr => lp_sxN Q orc G hT (by kernel_rfl) (mb358_0 h ⟨hlp⟩ _ _ r hr)
/-- coxswain/word.lay -/
noncomputable def s358 (q : Bool) (e : Ex) (v0 v1 : Value) (G : GS) : Option (Value × GS) :=
  bP (ln Q q 507 v0) fun x0 =>
  bLq q e 358 0 (subAt [1, 1, 0, 1, 0, 0] (bodyOf Tryz.f358)) 24 (nth undef [v0, v1]) [(10, (.int .i64 0)), (9, x0), (8, v0), (5, (.int .u64 0)), (4, (.int .u64 0))] [] G fun e1 t2 G3 =>
  bV q (t2 5) fun t2x5_ =>
  ifE e1 (.exit 0) (
  some (t2x5_, G3)) (none)
theorem m358 {e : Ex} {E : Ev} (h : ExLe Q e E) (v0 v1 : Value) (G : GS) : Ref (s358 true e v0 v1 G) (s358 false (Ex.of E) v0 v1 G) := by
  unfold s358
  exact Ref.gq
theorem f358 {orc : FuncId → Bool} {e : Ex} (h : ExLe Q e (E orc)) (v0 v1 : Value) (G : GS) : Ref (s358 true e v0 v1 G) ((E orc).cl 358 [v0, v1] G) :=
  fun r hr => cl_sxE_some Q orc (vs := [v0, v1]) G Tryz.func358 (by kernel_rfl) (by kernel_rfl) (by kernel_rfl) (by kernel_rfl) (by kernel_rfl) (by kernel_rfl) (m358 h v0 v1 G r hr)
/-- coxswain/word.PutTop -/
noncomputable def s390 (q : Bool) (e : Ex) (v0 : Value) (G : GS) : Option (Value × GS) :=
  bS (bx q v0 G) fun x0 G1 =>
  bP (fa Q q 274 0 0 x0) fun x2 =>
  bP (ld Q q 3 x2 G1) fun x3 =>
  bP (bd Q q 505 z505 [(0, 0, 1), (1, 1, 1), (2, 2, 1)] [x3, (.int .i64 (-1)), (.int .i64 65534)]) fun x4 =>
  bP (fa Q q 274 1 1 x0) fun x5 =>
  bP (ld Q q 3 x5 G1) fun x6 =>
  bP (bd Q q 505 z505 [(0, 0, 1), (1, 1, 1), (2, 2, 1)] [x6, (.int .i64 0), (.int .i64 281474976710655)]) fun x7 =>
  bS (bs Q q 538 2 (rep z505 2) 3 [(0, 0, 3), (1, 3, 3)] [x4, x7] G1) fun x8 G9 =>
  bS (e.ev.cl 357 [x8] G9) fun x10 G11 =>
  bP (un Q q .not x10) fun x12 =>
  ifV x12 (
  some (.tuple #[(.int .u64 0), (.int .i64 3)], G11)) (
  bS (e.ev.cl 271 [] G11) fun x13 G14 =>
  bS (al Q q 393 z393 G14) fun x15 G16 =>
  bP (st Q q 393 4 x15 x13 G16) fun G17 =>
  bP (sla Q q 393 2 2 x15 none none none (G17.room 10)) fun x18 =>
  bP (fa Q q 274 0 0 x0) fun x19 =>
  bP (ld Q q 3 x19 (G17.room 10)) fun x20 =>
  bP (bn Q q .add 3 (.tmp 17) (.const (.int .i64 1)) x20 (.int .i64 1)) fun x21 =>
  bP (fa Q q 274 1 1 x0) fun x22 =>
  bP (ld Q q 3 x22 (G17.room 10)) fun x23 =>
  bS (bs Q q 78 2 (rep z3 2) 1 [(0, 0, 1), (1, 1, 1)] [x21, x23] ((G17.room 10).at' (G17.nx + 6))) fun x24 G25 =>
  bS (e.ev.cl 358 [x18, x24] (G25.back (G17.room 10))) fun x27 G26 =>
  some (.tuple #[x27, (.int .i64 0)], G26))
theorem m390 {e : Ex} {E : Ev} (h : ExLe Q e E) (v0 : Value) (G : GS) : Ref (s390 true e v0 G) (s390 false (Ex.of E) v0 G) := by
  unfold s390
  exact Ref.gq
theorem f390 {orc : FuncId → Bool} {e : Ex} (h : ExLe Q e (E orc)) (v0 : Value) (G : GS) : Ref (s390 true e v0 G) ((E orc).cl 390 [v0] G) :=
  fun r hr => cl_sxE_some Q orc (vs := [v0]) G Tryz.func390 (by kernel_rfl) (by kernel_rfl) (by kernel_rfl) (by kernel_rfl) (by kernel_rfl) (by kernel_rfl) (m390 h v0 G r hr)
/-- (*coxswain/stack.Pop).second -/
noncomputable def s391 (q : Bool) (e : Ex) (v0 v1 : Value) (G : GS) : Option (Value × GS) :=
  bP (pNil v0) fun x0 =>
  bP (fa Q q 489 0 0 x0) fun x1 =>
  bP (fa Q q 486 0 0 x1) fun x2 =>
  bP (lda Q q 23 3 x2 (G.room 25)) fun x3 =>
  bP (pNil v0) fun x4 =>
  bP (fa Q q 489 0 0 x4) fun x5 =>
  bP (fa Q q 486 0 0 x5) fun x6 =>
  bP (fa Q q 23 1 1 x6) fun x7 =>
  bP (ld Q q 3 x7 (G.room 25)) fun x8 =>
  bP (pNil v0) fun x9 =>
  bP (fa Q q 489 0 0 x9) fun x10 =>
  bP (fa Q q 486 2 4 x10) fun x11 =>
  bP (ld Q q 3 x11 (G.room 25)) fun x12 =>
  bP (bn Q q .add 3 (.tmp 16) (.tmp 21) x8 x12) fun x13 =>
  bS (e.ev.cl 177 [v1, x13] (G.room 25)) fun x15 G14 =>
  chk ((sameO (lda Q q 23 3 x2 G14) x3 && true)) <|
  bS (e.ev.cl 356 [x3, x15] G14) fun x17 G16 =>
  bP (pNil v0) fun x18 =>
  bP (fa Q q 489 0 0 x18) fun x19 =>
  bP (fa Q q 486 3 5 x19) fun x20 =>
  bP (st Q q 3 1 x20 x17 G16) fun G21 =>
  bP (pNil v0) fun x22 =>
  bP (fa Q q 489 1 9 x22) fun x23 =>
  bP (st Q q 487 1 x23 (.func (.func 419) #[] #[]) G21) fun G24 =>
  some (.tuple #[], G24)
theorem m391 {e : Ex} {E : Ev} (h : ExLe Q e E) (v0 v1 : Value) (G : GS) : Ref (s391 true e v0 v1 G) (s391 false (Ex.of E) v0 v1 G) := by
  unfold s391
  exact Ref.gq
theorem f391 {orc : FuncId → Bool} {e : Ex} (h : ExLe Q e (E orc)) (v0 v1 : Value) (G : GS) : Ref (s391 true e v0 v1 G) ((E orc).cl 391 [v0, v1] G) :=
  fun r hr => cl_sxE_some Q orc (vs := [v0, v1]) G Tryz.func391 (by kernel_rfl) (by kernel_rfl) (by kernel_rfl) (by kernel_rfl) (by kernel_rfl) (by kernel_rfl) (m391 h v0 v1 G r hr)
/-- (*coxswain/stack.held).load -/
noncomputable def s392 (q : Bool) (e : Ex) (v0 v1 : Value) (G : GS) : Option (Value × GS) :=
  bP (pNil v0) fun x0 =>
  bP (fa Q q 486 0 0 x0) fun x1 =>
  bP (fa Q q 23 0 0 x1) fun x2 =>
  bP (ld Q q 3 x2 G) fun x3 =>
  bS (e.ev.cl 177 [v1, x3] G) fun x4 G5 =>
  bP (pNil v0) fun x6 =>
  bP (fa Q q 486 1 3 x6) fun x7 =>
  bP (st Q q 41 1 x7 x4 G5) fun G8 =>
  bP (pNil v0) fun x9 =>
  bP (fa Q q 486 0 0 x9) fun x10 =>
  bP (lda Q q 23 3 x10 (G8.room 10)) fun x11 =>
  bP (pNil v0) fun x12 =>
  bP (fa Q q 486 1 3 x12) fun x13 =>
  bP (ld Q q 41 x13 (G8.room 10)) fun x14 =>
  bS (e.ev.cl 356 [x11, x14] (G8.room 10)) fun x16 G15 =>
  some (x16, G15)
theorem m392 {e : Ex} {E : Ev} (h : ExLe Q e E) (v0 v1 : Value) (G : GS) : Ref (s392 true e v0 v1 G) (s392 false (Ex.of E) v0 v1 G) := by
  unfold s392
  exact Ref.gq
theorem f392 {orc : FuncId → Bool} {e : Ex} (h : ExLe Q e (E orc)) (v0 v1 : Value) (G : GS) : Ref (s392 true e v0 v1 G) ((E orc).cl 392 [v0, v1] G) :=
  fun r hr => cl_sxE_some Q orc (vs := [v0, v1]) G Tryz.func392 (by kernel_rfl) (by kernel_rfl) (by kernel_rfl) (by kernel_rfl) (by kernel_rfl) (by kernel_rfl) (m392 h v0 v1 G r hr)
/-- (*coxswain/stack.held).over -/
noncomputable def s393 (q : Bool) (e : Ex) (v0 : Value) (G : GS) : Option (Value × GS) :=
  bP (ep Q q false 536 (.tmp 3) (.const (.pointer none)) v0 (.pointer none)) fun x0 =>
  bS (gd x0 false (some (v0, G)) G) fun x1 G2 =>
  bS (gd x0 false (bP (pNil x1) fun y => some (y, G2)) G2) fun x3 G4 =>
  bS (gd x0 false (bP (fa Q q 486 4 6 x3) fun y => some (y, G4)) G4) fun x5 G6 =>
  bS (gd x0 false (bP (ld Q q 4 x5 G6) fun y => some (y, G6)) G6) fun x7 G8 =>
  bS (gd x0 false (bP (un Q q .not x7) fun y => some (y, G8)) G8) fun x9 G10 =>
  bP (pickV x0 (.bool true) x9) fun x11 =>
  bS (gd x11 false (some (v0, G10)) G10) fun x12 G13 =>
  bS (gd x11 false (bP (pNil x12) fun y => some (y, G13)) G13) fun x14 G15 =>
  bS (gd x11 false (bP (fa Q q 486 5 7 x14) fun y => some (y, G15)) G15) fun x16 G17 =>
  bS (gd x11 false (bP (ld Q q 4 x16 G17) fun y => some (y, G17)) G17) fun x18 G19 =>
  bP (pickV x11 (.bool true) x18) fun x20 =>
  some (x20, G19)
theorem m393 {e : Ex} {E : Ev} (h : ExLe Q e E) (v0 : Value) (G : GS) : Ref (s393 true e v0 G) (s393 false (Ex.of E) v0 G) := by
  unfold s393
  exact Ref.gq
theorem f393 {orc : FuncId → Bool} {e : Ex} (h : ExLe Q e (E orc)) (v0 : Value) (G : GS) : Ref (s393 true e v0 G) ((E orc).cl 393 [v0] G) :=
  fun r hr => cl_sxE_some Q orc (vs := [v0]) G Tryz.func393 (by kernel_rfl) (by kernel_rfl) (by kernel_rfl) (by kernel_rfl) (by kernel_rfl) (by kernel_rfl) (m393 h v0 G r hr)
/-- (*coxswain/stack.held).index -/
noncomputable def s394 (q : Bool) (e : Ex) (v0 : Value) (G : GS) : Option (Value × GS) :=
  bS (e.ev.cl 420 [v0] G) fun x0 G1 =>
  bP (bn Q q .neq 33 (.tmp 7) (.const (.int .i64 0)) x0 (.int .i64 0)) fun x2 =>
  ifV x2 (
  some (.tuple #[(.int .i64 0), x0], G1)) (
  bP (pNil v0) fun x3 =>
  bP (fa Q q 486 2 4 x3) fun x4 =>
  bP (ld Q q 3 x4 G1) fun x5 =>
  some (.tuple #[x5, (.int .i64 0)], G1))
theorem m394 {e : Ex} {E : Ev} (h : ExLe Q e E) (v0 : Value) (G : GS) : Ref (s394 true e v0 G) (s394 false (Ex.of E) v0 G) := by
  unfold s394
  exact Ref.gq
theorem f394 {orc : FuncId → Bool} {e : Ex} (h : ExLe Q e (E orc)) (v0 : Value) (G : GS) : Ref (s394 true e v0 G) ((E orc).cl 394 [v0] G) :=
  fun r hr => cl_sxE_some Q orc (vs := [v0]) G Tryz.func394 (by kernel_rfl) (by kernel_rfl) (by kernel_rfl) (by kernel_rfl) (by kernel_rfl) (by kernel_rfl) (m394 h v0 G r hr)
/-- (*coxswain/stack.Push).second -/
noncomputable def s395 (q : Bool) (e : Ex) (v0 v1 : Value) (G : GS) : Option (Value × GS) :=
  bP (pNil v0) fun x0 =>
  bP (fa Q q 498 0 0 x0) fun x1 =>
  bP (fa Q q 486 0 0 x1) fun x2 =>
  bP (fa Q q 23 1 1 x2) fun x3 =>
  bP (ld Q q 3 x3 (G.room 20)) fun x4 =>
  bP (pNil v0) fun x5 =>
  bP (fa Q q 498 0 0 x5) fun x6 =>
  bP (fa Q q 486 2 4 x6) fun x7 =>
  bP (ld Q q 3 x7 (G.room 20)) fun x8 =>
  bP (bn Q q .add 3 (.tmp 10) (.tmp 15) x4 x8) fun x9 =>
  bP (pNil v0) fun x10 =>
  bP (fa Q q 498 0 0 x10) fun x11 =>
  bP (fa Q q 486 3 5 x11) fun x12 =>
  bP (ld Q q 3 x12 (G.room 20)) fun x13 =>
  bS (e.ev.cl 334 [x13] (G.room 20)) fun x15 G14 =>
  chk ((sameO (ld Q q 3 x7 G14) x8 && (sameO (ld Q q 3 x3 G14) x4 && true))) <|
  bS (e.ev.cl 45 [v1, x9, x15] G14) fun x17 G16 =>
  bP (pNil v0) fun x18 =>
  bP (fa Q q 498 1 9 x18) fun x19 =>
  bP (st Q q 496 1 x19 (.func (.func 421) #[] #[]) G16) fun G20 =>
  some (.tuple #[], G20)
theorem m395 {e : Ex} {E : Ev} (h : ExLe Q e E) (v0 v1 : Value) (G : GS) : Ref (s395 true e v0 v1 G) (s395 false (Ex.of E) v0 v1 G) := by
  unfold s395
  exact Ref.gq
theorem f395 {orc : FuncId → Bool} {e : Ex} (h : ExLe Q e (E orc)) (v0 v1 : Value) (G : GS) : Ref (s395 true e v0 v1 G) ((E orc).cl 395 [v0, v1] G) :=
  fun r hr => cl_sxE_some Q orc (vs := [v0, v1]) G Tryz.func395 (by kernel_rfl) (by kernel_rfl) (by kernel_rfl) (by kernel_rfl) (by kernel_rfl) (by kernel_rfl) (m395 h v0 v1 G r hr)
/-- (*coxswain/arena.Free).push -/
noncomputable def s396 (q : Bool) (e : Ex) (v0 v1 : Value) (G : GS) : Option (Value × GS) :=
  bP (pNil v0) fun x0 =>
  bP (fa Q q 384 0 0 x0) fun x1 =>
  bP (ld Q q 381 x1 G) fun x2 =>
  bS (e.ev.cl 398 [x2, v1] G) fun x3 G4 =>
  ifV x3 (
  bP (pNil v0) fun x5 =>
  bP (fa Q q 384 3 8 x5) fun x6 =>
  bP (st Q q 382 1 x6 .nilFunc G4) fun G7 =>
  some (.tuple #[], G7)) (
  some (.tuple #[], G4))
theorem m396 {e : Ex} {E : Ev} (h : ExLe Q e E) (v0 v1 : Value) (G : GS) : Ref (s396 true e v0 v1 G) (s396 false (Ex.of E) v0 v1 G) := by
  unfold s396
  exact Ref.gq
theorem f396 {orc : FuncId → Bool} {e : Ex} (h : ExLe Q e (E orc)) (v0 v1 : Value) (G : GS) : Ref (s396 true e v0 v1 G) ((E orc).cl 396 [v0, v1] G) :=
  fun r hr => cl_sxE_some Q orc (vs := [v0, v1]) G Tryz.func396 (by kernel_rfl) (by kernel_rfl) (by kernel_rfl) (by kernel_rfl) (by kernel_rfl) (by kernel_rfl) (m396 h v0 v1 G r hr)
/-- (*coxswain/stack.Push).Step -/
noncomputable def s398 (q : Bool) (e : Ex) (v0 v1 : Value) (G : GS) : Option (Value × GS) :=
  bP (ep Q q false 381 (.tmp 5) (.const (.pointer none)) v0 (.pointer none)) fun x0 =>
  bS (gd x0 false (some (v0, G)) G) fun x1 G2 =>
  bS (gd x0 false (bP (pNil x1) fun y => some (y, G2)) G2) fun x3 G4 =>
  bS (gd x0 false (bP (fa Q q 498 0 0 x3) fun y => some (y, G4)) G4) fun x5 G6 =>
  bS (gd x0 false (bS (e.ev.cl 393 [x5] G6) fun y G => some (y, G)) G6) fun x7 G8 =>
  bP (pickV x0 (.bool true) x7) fun x9 =>
  ifV x9 (
  some ((.bool true), G8)) (
  bP (pNil v0) fun x10 =>
  bP (fa Q q 498 1 9 x10) fun x11 =>
  bP (ld Q q 496 x11 G8) fun x12 =>
  bS (cValue e.ev x12 [v0, v1] G8) fun x13 G14 =>
  bP (pNil v0) fun x15 =>
  bP (fa Q q 498 0 0 x15) fun x16 =>
  bP (fa Q q 486 5 7 x16) fun x17 =>
  bP (ld Q q 4 x17 G14) fun x18 =>
  some (x18, G14))
theorem m398 {e : Ex} {E : Ev} (h : ExLe Q e E) (v0 v1 : Value) (G : GS) : Ref (s398 true e v0 v1 G) (s398 false (Ex.of E) v0 v1 G) := by
  unfold s398
  exact Ref.gq
theorem f398 {orc : FuncId → Bool} {e : Ex} (h : ExLe Q e (E orc)) (v0 v1 : Value) (G : GS) : Ref (s398 true e v0 v1 G) ((E orc).cl 398 [v0, v1] G) :=
  fun r hr => cl_sxE_some Q orc (vs := [v0, v1]) G Tryz.func398 (by kernel_rfl) (by kernel_rfl) (by kernel_rfl) (by kernel_rfl) (by kernel_rfl) (by kernel_rfl) (m398 h v0 v1 G r hr)
/-- (coxswain/word.raw).with -/
noncomputable def s399 (q : Bool) (e : Ex) (v0 v1 v2 : Value) (G : GS) : Option (Value × GS) :=
  bS (bx q v1 G) fun x0 G1 =>
  bP (cv Q q 3 41 .i64 .u64 v2) fun x2 =>
  bP (fa Q q 392 0 0 x0) fun x3 =>
  bP (ld Q q 3 x3 G1) fun x4 =>
  bP (bn Q q .shl 41 (.tmp 9) (.tmp 11) x2 x4) fun x5 =>
  bP (bn Q q .or 395 (.tmp 7) (.tmp 12) v0 x5) fun x6 =>
  some (x6, G1)
theorem m399 {e : Ex} {E : Ev} (h : ExLe Q e E) (v0 v1 v2 : Value) (G : GS) : Ref (s399 true e v0 v1 v2 G) (s399 false (Ex.of E) v0 v1 v2 G) := by
  unfold s399
  exact Ref.gq
theorem f399 {orc : FuncId → Bool} {e : Ex} (h : ExLe Q e (E orc)) (v0 v1 v2 : Value) (G : GS) : Ref (s399 true e v0 v1 v2 G) ((E orc).cl 399 [v0, v1, v2] G) :=
  fun r hr => cl_sxE_some Q orc (vs := [v0, v1, v2]) G Tryz.func399 (by kernel_rfl) (by kernel_rfl) (by kernel_rfl) (by kernel_rfl) (by kernel_rfl) (by kernel_rfl) (m399 h v0 v1 v2 G r hr)
/-- (*coxswain/stack.Pop).third -/
noncomputable def s419 (q : Bool) (e : Ex) (v0 v1 : Value) (G : GS) : Option (Value × GS) :=
  bP (pNil v0) fun x0 =>
  bP (fa Q q 489 1 9 x0) fun x1 =>
  bP (st Q q 487 1 x1 (.func (.func 335) #[] #[]) G) fun G2 =>
  bP (pNil v0) fun x3 =>
  bP (fa Q q 489 0 0 x3) fun x4 =>
  bP (pNil v0) fun x5 =>
  bP (fa Q q 489 0 0 x5) fun x6 =>
  bP (fa Q q 486 3 5 x6) fun x7 =>
  bP (ld Q q 3 x7 (G2.room 10)) fun x8 =>
  bS (e.ev.cl 435 [x4, v1, x8] (G2.room 10)) fun x10 G9 =>
  ifV x10 (
  bP (pNil v0) fun x11 =>
  bP (fa Q q 489 0 0 x11) fun x12 =>
  bS (e.ev.cl 345 [x12, (.int .i64 0)] G9) fun x13 G14 =>
  some (.tuple #[], G14)) (
  some (.tuple #[], G9))
theorem m419 {e : Ex} {E : Ev} (h : ExLe Q e E) (v0 v1 : Value) (G : GS) : Ref (s419 true e v0 v1 G) (s419 false (Ex.of E) v0 v1 G) := by
  unfold s419
  exact Ref.gq
theorem f419 {orc : FuncId → Bool} {e : Ex} (h : ExLe Q e (E orc)) (v0 v1 : Value) (G : GS) : Ref (s419 true e v0 v1 G) ((E orc).cl 419 [v0, v1] G) :=
  fun r hr => cl_sxE_some Q orc (vs := [v0, v1]) G Tryz.func419 (by kernel_rfl) (by kernel_rfl) (by kernel_rfl) (by kernel_rfl) (by kernel_rfl) (by kernel_rfl) (m419 h v0 v1 G r hr)
/-- (*coxswain/stack.held).told -/
noncomputable def s420 (q : Bool) (e : Ex) (v0 : Value) (G : GS) : Option (Value × GS) :=
  bP (ep Q q false 536 (.tmp 4) (.const (.pointer none)) v0 (.pointer none)) fun x0 =>
  bS (gd x0 false (some (v0, G)) G) fun x1 G2 =>
  bS (gd x0 false (bP (pNil x1) fun y => some (y, G2)) G2) fun x3 G4 =>
  bS (gd x0 false (bP (fa Q q 486 4 6 x3) fun y => some (y, G4)) G4) fun x5 G6 =>
  bS (gd x0 false (bP (ld Q q 4 x5 G6) fun y => some (y, G6)) G6) fun x7 G8 =>
  bS (gd x0 false (bP (un Q q .not x7) fun y => some (y, G8)) G8) fun x9 G10 =>
  bP (pickV x0 (.bool true) x9) fun x11 =>
  ifV x11 (
  some ((.int .i64 1), G10)) (
  bP (pNil v0) fun x12 =>
  bP (fa Q q 486 5 7 x12) fun x13 =>
  bP (ld Q q 4 x13 G10) fun x14 =>
  bP (un Q q .not x14) fun x15 =>
  ifV x15 (
  some ((.int .i64 14), G10)) (
  bP (pNil v0) fun x16 =>
  bP (fa Q q 486 6 8 x16) fun x17 =>
  bP (ld Q q 33 x17 G10) fun x18 =>
  some (x18, G10)))
theorem m420 {e : Ex} {E : Ev} (h : ExLe Q e E) (v0 : Value) (G : GS) : Ref (s420 true e v0 G) (s420 false (Ex.of E) v0 G) := by
  unfold s420
  exact Ref.gq
theorem f420 {orc : FuncId → Bool} {e : Ex} (h : ExLe Q e (E orc)) (v0 : Value) (G : GS) : Ref (s420 true e v0 G) ((E orc).cl 420 [v0] G) :=
  fun r hr => cl_sxE_some Q orc (vs := [v0]) G Tryz.func420 (by kernel_rfl) (by kernel_rfl) (by kernel_rfl) (by kernel_rfl) (by kernel_rfl) (by kernel_rfl) (m420 h v0 G r hr)
/-- (*coxswain/stack.Push).third -/
noncomputable def s421 (q : Bool) (e : Ex) (v0 v1 : Value) (G : GS) : Option (Value × GS) :=
  bP (pNil v0) fun x0 =>
  bP (fa Q q 498 1 9 x0) fun x1 =>
  bP (st Q q 496 1 x1 (.func (.func 344) #[] #[]) G) fun G2 =>
  bP (pNil v0) fun x3 =>
  bP (fa Q q 498 0 0 x3) fun x4 =>
  bP (pNil v0) fun x5 =>
  bP (fa Q q 498 0 0 x5) fun x6 =>
  bP (fa Q q 486 2 4 x6) fun x7 =>
  bP (ld Q q 3 x7 (G2.room 10)) fun x8 =>
  bS (e.ev.cl 435 [x4, v1, x8] (G2.room 10)) fun x10 G9 =>
  ifV x10 (
  bP (pNil v0) fun x11 =>
  bP (fa Q q 498 0 0 x11) fun x12 =>
  bS (e.ev.cl 345 [x12, (.int .i64 0)] G9) fun x13 G14 =>
  some (.tuple #[], G14)) (
  some (.tuple #[], G9))
theorem m421 {e : Ex} {E : Ev} (h : ExLe Q e E) (v0 v1 : Value) (G : GS) : Ref (s421 true e v0 v1 G) (s421 false (Ex.of E) v0 v1 G) := by
  unfold s421
  exact Ref.gq
theorem f421 {orc : FuncId → Bool} {e : Ex} (h : ExLe Q e (E orc)) (v0 v1 : Value) (G : GS) : Ref (s421 true e v0 v1 G) ((E orc).cl 421 [v0, v1] G) :=
  fun r hr => cl_sxE_some Q orc (vs := [v0, v1]) G Tryz.func421 (by kernel_rfl) (by kernel_rfl) (by kernel_rfl) (by kernel_rfl) (by kernel_rfl) (by kernel_rfl) (m421 h v0 v1 G r hr)
/-- (*coxswain/stack.held).swap -/
noncomputable def s435 (q : Bool) (e : Ex) (v0 v1 v2 : Value) (G : GS) : Option (Value × GS) :=
  bP (pNil v0) fun x0 =>
  bP (fa Q q 486 1 3 x0) fun x1 =>
  bP (ld Q q 41 x1 G) fun x2 =>
  bS (e.ev.cl 189 [x2] G) fun x3 G4 =>
  bP (pExtract x3 0) fun x5 =>
  bP (pExtract x3 1) fun x6 =>
  bS (al Q q 274 z274 G4) fun x7 G8 =>
  bP (st Q q 274 2 x7 x5 G8) fun G9 =>
  bP (fa Q q 274 1 1 x7) fun x10 =>
  bP (ld Q q 3 x10 G9) fun x11 =>
  bP (bn Q q .add 3 (.tmp 22) (.const (.int .i64 1)) x11 (.int .i64 1)) fun x12 =>
  bP (bn Q q .and 3 (.tmp 23) (.const (.int .i64 281474976710655)) x12 (.int .i64 281474976710655)) fun x13 =>
  bP (bd Q q 274 z274 [(0, 0, 1), (1, 1, 1)] [v2, x13]) fun x14 =>
  bS (e.ev.cl 390 [x14] G9) fun x15 G16 =>
  bP (pExtract x15 0) fun x17 =>
  bP (pExtract x15 1) fun x18 =>
  bP (pNil v0) fun x19 =>
  bP (fa Q q 486 0 0 x19) fun x20 =>
  bP (fa Q q 23 0 0 x20) fun x21 =>
  bP (ld Q q 3 x21 (G16.room 13)) fun x22 =>
  bP (pNil v0) fun x23 =>
  bP (fa Q q 486 1 3 x23) fun x24 =>
  bP (ld Q q 41 x24 (G16.room 13)) fun x25 =>
  bS (e.ev.cl 68 [v1, x22, x25, x17] (G16.room 13)) fun x27 G26 =>
  some (x27, G26)
theorem m435 {e : Ex} {E : Ev} (h : ExLe Q e E) (v0 v1 v2 : Value) (G : GS) : Ref (s435 true e v0 v1 v2 G) (s435 false (Ex.of E) v0 v1 v2 G) := by
  unfold s435
  exact Ref.gq
theorem f435 {orc : FuncId → Bool} {e : Ex} (h : ExLe Q e (E orc)) (v0 v1 v2 : Value) (G : GS) : Ref (s435 true e v0 v1 v2 G) ((E orc).cl 435 [v0, v1, v2] G) :=
  fun r hr => cl_sxE_some Q orc (vs := [v0, v1, v2]) G Tryz.func435 (by kernel_rfl) (by kernel_rfl) (by kernel_rfl) (by kernel_rfl) (by kernel_rfl) (by kernel_rfl) (m435 h v0 v1 v2 G r hr)
end Go.Proofs.YtdohlgkmaeipjaaGreat.Lift
