/- the program's code, spelled out by a program of ours (lift3.lean) -/
import Derived.Test.YtdohlgkmaeipjaaGreatProg
import Derived.Test.YtdohlgkmaeipjaaGreatGhPJ
import Derived.Test.YtdohlgkmaeipjaaGreatGhPG
import Derived.KernelRfl
namespace Go.Proofs.YtdohlgkmaeipjaaGreat.Lift
open Go Go.Proofs.YtdohlgkmaeipjaaGreat.Gh Go.Proofs
set_option linter.unusedVariables false
set_option maxRecDepth 100000
@[reducible] noncomputable def Q : Program := Tryz.prog
@[reducible] noncomputable def E (orc : FuncId → Bool) : Ev := evL Tryz.prog orc
instance ilp26_0 : LpIs Q 26 0 (subAt [1, 1, 1, 0, 1, 0, 0] (bodyOf Tryz.f26)) 39 := ⟨by kernel_rfl, by kernel_rfl⟩
instance ilp29_0 : LpIs Q 29 0 (subAt [1, 0, 1, 0, 0] (bodyOf Tryz.f29)) 18 := ⟨by kernel_rfl, by kernel_rfl⟩
instance ilp53_0 : LpIs Q 53 0 (subAt [1, 1, 1, 0, 1, 0, 0] (bodyOf Tryz.f53)) 42 := ⟨by kernel_rfl, by kernel_rfl⟩
instance ilp96_0 : LpIs Q 96 0 (subAt [1, 0, 1, 0, 0] (bodyOf Tryz.f96)) 20 := ⟨by kernel_rfl, by kernel_rfl⟩
instance ilp205_0 : LpIs Q 205 0 (subAt [0, 1, 0, 0] (bodyOf Tryz.f205)) 74 := ⟨by kernel_rfl, by kernel_rfl⟩
instance ilp205_1 : LpIs Q 205 1 (subAt [1, 0, 1, 0, 0] (bodyOf Tryz.f205)) 74 := ⟨by kernel_rfl, by kernel_rfl⟩
instance ilp205_2 : LpIs Q 205 2 (subAt [1, 1, 1, 0, 0] (bodyOf Tryz.f205)) 74 := ⟨by kernel_rfl, by kernel_rfl⟩
instance ilp205_3 : LpIs Q 205 3 (subAt [1, 1, 1, 0, 0, 1, 1, 0, 0, 1, 1, 1, 1, 0, 0] (bodyOf Tryz.f205)) 74 := ⟨by kernel_rfl, by kernel_rfl⟩
instance ilp206_0 : LpIs Q 206 0 (subAt [1, 0, 1, 0, 0] (bodyOf Tryz.f206)) 26 := ⟨by kernel_rfl, by kernel_rfl⟩
instance ilp207_0 : LpIs Q 207 0 (subAt [1, 1, 0, 1, 0, 0] (bodyOf Tryz.f207)) 36 := ⟨by kernel_rfl, by kernel_rfl⟩
instance ilp209_0 : LpIs Q 209 0 (subAt [1, 0, 1, 0, 0] (bodyOf Tryz.f209)) 27 := ⟨by kernel_rfl, by kernel_rfl⟩
instance ilp210_0 : LpIs Q 210 0 (subAt [1, 0, 1, 0, 0] (bodyOf Tryz.f210)) 40 := ⟨by kernel_rfl, by kernel_rfl⟩
instance ilp351_0 : LpIs Q 351 0 (subAt [1, 1, 0, 0] (bodyOf Tryz.f351)) 40 := ⟨by kernel_rfl, by kernel_rfl⟩
instance ilp355_0 : LpIs Q 355 0 (subAt [1, 1, 0, 0] (bodyOf Tryz.f355)) 35 := ⟨by kernel_rfl, by kernel_rfl⟩
instance ilp357_0 : LpIs Q 357 0 (subAt [1, 0, 1, 0, 0] (bodyOf Tryz.f357)) 24 := ⟨by kernel_rfl, by kernel_rfl⟩
instance ilp358_0 : LpIs Q 358 0 (subAt [1, 1, 0, 1, 0, 0] (bodyOf Tryz.f358)) 24 := ⟨by kernel_rfl, by kernel_rfl⟩
instance ilp359_0 : LpIs Q 359 0 (subAt [1, 0, 0] (bodyOf Tryz.f359)) 18 := ⟨by kernel_rfl, by kernel_rfl⟩
instance iep32 : EpOk Q 32 := ⟨fun neg x y => by cases neg <;> kernel_rfl, fun neg x y a => by cases neg <;> kernel_rfl, fun neg x y a => by cases neg <;> kernel_rfl⟩
instance ilda31 : LdAOk Q 31 13 := ⟨fun b o s G => by kernel_rfl⟩
instance ilda68 : LdAOk Q 68 5 := ⟨fun b o s G => by kernel_rfl⟩
noncomputable abbrev z72 : List Value := [(.int .i64 0), (.int .i64 0), (.int .i64 0), (.int .i64 0), (.int .i64 0)]
instance ibd72_ : BdOk Q 72 z72 [] := bd_ok Q (by kernel_rfl) (by kernel_rfl) (by kernel_rfl)
instance ifa31_3 : FaOk Q 31 3 3 := ⟨fun b o s => by kernel_rfl⟩
instance ifa29_0 : FaOk Q 29 0 0 := ⟨fun b o s => by kernel_rfl⟩
instance ifa25_0 : FaOk Q 25 0 0 := ⟨fun b o s => by kernel_rfl⟩
instance ifa23_2 : FaOk Q 23 2 2 := ⟨fun b o s => by kernel_rfl⟩
instance ild3 : LdOk Q 3 := ⟨fun b o s G => (show _ = loadOne b o G by kernel_rfl).trans (loadOne_eq b o G)⟩
instance ifa68_1 : FaOk Q 68 1 1 := ⟨fun b o s => by kernel_rfl⟩
instance ibd72_4 : BdOk Q 72 z72 [(4, 4, 1)] := bd_ok Q (by kernel_rfl) (by kernel_rfl) (by kernel_rfl)
instance ial72 : AlOk Q 72 z72 := ⟨fun G => by kernel_rfl⟩
instance ist72 : StOk Q 72 5 := ⟨fun b o s v G => by kernel_rfl⟩
instance icv3_41 : CvOk Q 3 41 .i64 .u64 := ⟨fun n => by kernel_rfl⟩
instance ieb4 : EbOk Q 4 := ⟨fun neg x y a b => by cases neg <;> cases a <;> cases b <;> kernel_rfl⟩
instance ilda72 : LdAOk Q 72 5 := ⟨fun b o s G => by kernel_rfl⟩
noncomputable abbrev z3 : List Value := [(.int .i64 0)]
instance ibs78_2_0_1 : BsOk Q 78 2 (rep z3 2) 1 [(0, 0, 1), (1, 1, 1)] := bs_ok Q (z0 := z3) (by kernel_rfl) rfl (by decide) (by kernel_rfl)
noncomputable abbrev z156 : List Value := (zs 4096 (.int .u64 0))
instance ial156 : AlOk Q 156 z156 := ⟨fun G => by kernel_rfl⟩
noncomputable abbrev z158 : List Value := [(.pointer none), (.int .i64 0), (.int .i64 0), (.int .i64 0), (.int .u64 0), (.int .u64 0), (.bool false), (.int .i64 0)]
instance ibd158_0_1 : BdOk Q 158 z158 [(0, 0, 1), (1, 1, 1)] := bd_ok Q (by kernel_rfl) (by kernel_rfl) (by kernel_rfl)
instance ifa31_2 : FaOk Q 31 2 2 := ⟨fun b o s => by kernel_rfl⟩
instance ifa31_0 : FaOk Q 31 0 0 := ⟨fun b o s => by kernel_rfl⟩
instance ifa31_1 : FaOk Q 31 1 1 := ⟨fun b o s => by kernel_rfl⟩
instance ifa158_3 : FaOk Q 158 3 7 := ⟨fun b o s => by kernel_rfl⟩
instance ial3 : AlOk Q 3 z3 := ⟨fun G => by kernel_rfl⟩
instance ist3 : StOk Q 3 1 := ⟨fun b o s v G => by kernel_rfl⟩
noncomputable abbrev z174 : List Value := [(.int .i64 0), (.int .i64 0), (.int .i64 0), (.int .i64 0), (.int .i64 0), (.int .i64 0), (.int .i64 0), (.int .i64 0), (.int .i64 0), (.int .i64 0), (.int .i64 0), (.int .i64 0), (.int .i64 0), (.pointer none), (.slice none 0 0)]
instance ial174 : AlOk Q 174 z174 := ⟨fun G => by kernel_rfl⟩
instance ist174 : StOk Q 174 15 := ⟨fun b o s v G => by kernel_rfl⟩
instance ilda174 : LdAOk Q 174 15 := ⟨fun b o s G => by kernel_rfl⟩
instance ifa25_2 : FaOk Q 25 2 4 := ⟨fun b o s => by kernel_rfl⟩
instance icv41_3 : CvOk Q 41 3 .u64 .i64 := ⟨fun n => by kernel_rfl⟩
instance ibd72_3 : BdOk Q 72 z72 [(3, 3, 1)] := bd_ok Q (by kernel_rfl) (by kernel_rfl) (by kernel_rfl)
instance ifa72_0 : FaOk Q 72 0 0 := ⟨fun b o s => by kernel_rfl⟩
instance ifa72_1 : FaOk Q 72 1 1 := ⟨fun b o s => by kernel_rfl⟩
instance ifa72_2 : FaOk Q 72 2 2 := ⟨fun b o s => by kernel_rfl⟩
instance ifa72_3 : FaOk Q 72 3 3 := ⟨fun b o s => by kernel_rfl⟩
instance ifa72_4 : FaOk Q 72 4 4 := ⟨fun b o s => by kernel_rfl⟩
noncomputable abbrev z181 : List Value := [.nilFunc]
instance ibs182_6_0_1_2_3_4_5 : BsOk Q 182 6 (rep z181 6) 1 [(0, 0, 1), (1, 1, 1), (2, 2, 1), (3, 3, 1), (4, 4, 1), (5, 5, 1)] := bs_ok Q (z0 := z181) (by kernel_rfl) rfl (by decide) (by kernel_rfl)
instance iln182 : LnOk Q 182 := ⟨fun a n c => by kernel_rfl⟩
instance iias182 : IasOk Q 182 1 := ⟨fun b o s n c k j => by kernel_rfl⟩
instance ild181 : LdOk Q 181 := ⟨fun b o s G => (show _ = loadOne b o G by kernel_rfl).trans (loadOne_eq b o G)⟩
instance ibd72_0_1 : BdOk Q 72 z72 [(0, 0, 1), (1, 1, 1)] := bd_ok Q (by kernel_rfl) (by kernel_rfl) (by kernel_rfl)
instance iln78 : LnOk Q 78 := ⟨fun a n c => by kernel_rfl⟩
instance iias78 : IasOk Q 78 1 := ⟨fun b o s n c k j => by kernel_rfl⟩
instance ifa158_0 : FaOk Q 158 0 0 := ⟨fun b o s => by kernel_rfl⟩
instance ild153 : LdOk Q 153 := ⟨fun b o s G => (show _ = loadOne b o G by kernel_rfl).trans (loadOne_eq b o G)⟩
instance iep153 : EpOk Q 153 := ⟨fun neg x y => by cases neg <;> kernel_rfl, fun neg x y a => by cases neg <;> kernel_rfl, fun neg x y a => by cases neg <;> kernel_rfl⟩
instance ifa158_1 : FaOk Q 158 1 1 := ⟨fun b o s => by kernel_rfl⟩
noncomputable abbrev z41 : List Value := [(.int .u64 0)]
instance imk111 : MkSlOk Q 111 1 8 z41 := ⟨fun k k' l c G => by kernel_rfl⟩
instance isla156 : SlAOk Q 156 4096 1 := ⟨fun a lo hi mx G => by kernel_rfl⟩
instance iln253 : LnOk Q 253 := ⟨fun a n c => by kernel_rfl⟩
instance iias253 : IasOk Q 253 1 := ⟨fun b o s n c k j => by kernel_rfl⟩
instance ild154 : LdOk Q 154 := ⟨fun b o s G => (show _ = loadOne b o G by kernel_rfl).trans (loadOne_eq b o G)⟩
instance iias111 : IasOk Q 111 1 := ⟨fun b o s n c k j => by kernel_rfl⟩
instance ist41 : StOk Q 41 1 := ⟨fun b o s v G => by kernel_rfl⟩
instance ibd174_0_1_2 : BdOk Q 174 z174 [(0, 0, 13), (1, 13, 1), (2, 14, 1)] := bd_ok Q (by kernel_rfl) (by kernel_rfl) (by kernel_rfl)
noncomputable abbrev z289 : List Value := [(.int .i64 0), (.int .i64 0), (.bool false)]
instance ial289 : AlOk Q 289 z289 := ⟨fun G => by kernel_rfl⟩
instance ist289 : StOk Q 289 3 := ⟨fun b o s v G => by kernel_rfl⟩
instance ifa289_2 : FaOk Q 289 2 2 := ⟨fun b o s => by kernel_rfl⟩
instance ild4 : LdOk Q 4 := ⟨fun b o s G => (show _ = loadOne b o G by kernel_rfl).trans (loadOne_eq b o G)⟩
instance ifa289_0 : FaOk Q 289 0 0 := ⟨fun b o s => by kernel_rfl⟩
instance ifa289_1 : FaOk Q 289 1 1 := ⟨fun b o s => by kernel_rfl⟩
instance ifa174_0 : FaOk Q 174 0 0 := ⟨fun b o s => by kernel_rfl⟩
instance ifa25_1 : FaOk Q 25 1 3 := ⟨fun b o s => by kernel_rfl⟩
instance ifa174_2 : FaOk Q 174 2 14 := ⟨fun b o s => by kernel_rfl⟩
instance ild111 : LdOk Q 111 := ⟨fun b o s G => (show _ = loadOne b o G by kernel_rfl).trans (loadOne_eq b o G)⟩
instance iln111 : LnOk Q 111 := ⟨fun a n c => by kernel_rfl⟩
instance ild41 : LdOk Q 41 := ⟨fun b o s G => (show _ = loadOne b o G by kernel_rfl).trans (loadOne_eq b o G)⟩
noncomputable abbrev z180 : List Value := [.nilFunc]
instance ial180 : AlOk Q 180 z180 := ⟨fun G => by kernel_rfl⟩
instance ist180 : StOk Q 180 1 := ⟨fun b o s v G => by kernel_rfl⟩
instance ifa174_1 : FaOk Q 174 1 13 := ⟨fun b o s => by kernel_rfl⟩
instance ild32 : LdOk Q 32 := ⟨fun b o s G => (show _ = loadOne b o G by kernel_rfl).trans (loadOne_eq b o G)⟩
noncomputable abbrev z78 : List Value := [(.slice none 0 0)]
instance ial78 : AlOk Q 78 z78 := ⟨fun G => by kernel_rfl⟩
instance ist78 : StOk Q 78 1 := ⟨fun b o s v G => by kernel_rfl⟩
noncomputable abbrev z33 : List Value := [(.int .i64 0)]
instance ial33 : AlOk Q 33 z33 := ⟨fun G => by kernel_rfl⟩
noncomputable abbrev z4 : List Value := [(.bool false)]
instance imk256 : MkSlOk Q 256 1 1 z4 := ⟨fun k k' l c G => by kernel_rfl⟩
noncomputable abbrev z256 : List Value := [(.slice none 0 0)]
instance ial256 : AlOk Q 256 z256 := ⟨fun G => by kernel_rfl⟩
instance ist256 : StOk Q 256 1 := ⟨fun b o s v G => by kernel_rfl⟩
instance ild256 : LdOk Q 256 := ⟨fun b o s G => (show _ = loadOne b o G by kernel_rfl).trans (loadOne_eq b o G)⟩
instance iias256 : IasOk Q 256 1 := ⟨fun b o s n c k j => by kernel_rfl⟩
instance ist33 : StOk Q 33 1 := ⟨fun b o s v G => by kernel_rfl⟩
instance ist4 : StOk Q 4 1 := ⟨fun b o s v G => by kernel_rfl⟩
instance ild33 : LdOk Q 33 := ⟨fun b o s G => (show _ = loadOne b o G by kernel_rfl).trans (loadOne_eq b o G)⟩
instance ifa29_1 : FaOk Q 29 1 6 := ⟨fun b o s => by kernel_rfl⟩
instance ilda27 : LdAOk Q 27 3 := ⟨fun b o s G => by kernel_rfl⟩
instance ifd72_4 : FdOk Q 72 4 4 := ⟨fun l => by kernel_rfl⟩
noncomputable abbrev z187 : List Value := [(.int .i64 0), (.int .i64 0), (.int .i64 0)]
instance ial187 : AlOk Q 187 z187 := ⟨fun G => by kernel_rfl⟩
instance ibd187_0_1_2 : BdOk Q 187 z187 [(0, 0, 1), (1, 1, 1), (2, 2, 1)] := bd_ok Q (by kernel_rfl) (by kernel_rfl) (by kernel_rfl)
instance ist187 : StOk Q 187 3 := ⟨fun b o s v G => by kernel_rfl⟩
instance ilda187 : LdAOk Q 187 3 := ⟨fun b o s G => by kernel_rfl⟩
instance ifa187_0 : FaOk Q 187 0 0 := ⟨fun b o s => by kernel_rfl⟩
instance ifa187_1 : FaOk Q 187 1 1 := ⟨fun b o s => by kernel_rfl⟩
instance ifa187_2 : FaOk Q 187 2 2 := ⟨fun b o s => by kernel_rfl⟩
instance ild185 : LdOk Q 185 := ⟨fun b o s G => (show _ = loadOne b o G by kernel_rfl).trans (loadOne_eq b o G)⟩
instance iifc185 : IfcOk Q 185 := ⟨fun v => by kernel_rfl⟩
noncomputable abbrev z192 : List Value := [(.int .i64 0), (.int .i64 0), (.int .i64 0)]
instance ial192 : AlOk Q 192 z192 := ⟨fun G => by kernel_rfl⟩
instance ibd192_0_1_2 : BdOk Q 192 z192 [(0, 0, 1), (1, 1, 1), (2, 2, 1)] := bd_ok Q (by kernel_rfl) (by kernel_rfl) (by kernel_rfl)
instance ist192 : StOk Q 192 3 := ⟨fun b o s v G => by kernel_rfl⟩
instance ilda192 : LdAOk Q 192 3 := ⟨fun b o s G => by kernel_rfl⟩
instance ifa192_0 : FaOk Q 192 0 0 := ⟨fun b o s => by kernel_rfl⟩
instance ifa192_1 : FaOk Q 192 1 1 := ⟨fun b o s => by kernel_rfl⟩
instance ifa192_2 : FaOk Q 192 2 2 := ⟨fun b o s => by kernel_rfl⟩
instance ild190 : LdOk Q 190 := ⟨fun b o s G => (show _ = loadOne b o G by kernel_rfl).trans (loadOne_eq b o G)⟩
instance iifc190 : IfcOk Q 190 := ⟨fun v => by kernel_rfl⟩
noncomputable abbrev z274 : List Value := [(.int .i64 0), (.int .i64 0)]
instance ial274 : AlOk Q 274 z274 := ⟨fun G => by kernel_rfl⟩
noncomputable abbrev z393 : List Value := [(.int .i64 0), (.int .i64 0), (.int .i64 0), (.int .i64 0)]
instance ial393 : AlOk Q 393 z393 := ⟨fun G => by kernel_rfl⟩
instance ist393 : StOk Q 393 4 := ⟨fun b o s v G => by kernel_rfl⟩
instance iiaa393 : IaaOk Q 393 2 2 := ⟨fun b o s k j => by kernel_rfl⟩
instance ilda392 : LdAOk Q 392 2 := ⟨fun b o s G => by kernel_rfl⟩
instance ibd274_0_1 : BdOk Q 274 z274 [(0, 0, 1), (1, 1, 1)] := bd_ok Q (by kernel_rfl) (by kernel_rfl) (by kernel_rfl)
instance ist274 : StOk Q 274 2 := ⟨fun b o s v G => by kernel_rfl⟩
instance ilda274 : LdAOk Q 274 2 := ⟨fun b o s G => by kernel_rfl⟩
instance ild78 : LdOk Q 78 := ⟨fun b o s G => (show _ = loadOne b o G by kernel_rfl).trans (loadOne_eq b o G)⟩
instance ibs78_1_0 : BsOk Q 78 1 (rep z3 1) 1 [(0, 0, 1)] := bs_ok Q (z0 := z3) (by kernel_rfl) rfl (by decide) (by kernel_rfl)
instance iap78_78 : ApOk Q 78 78 1 8 := ⟨fun s x G => by kernel_rfl⟩
instance ilda23 : LdAOk Q 23 3 := ⟨fun b o s G => by kernel_rfl⟩
instance ibd289_0_1_2 : BdOk Q 289 z289 [(0, 0, 1), (1, 1, 1), (2, 2, 1)] := bd_ok Q (by kernel_rfl) (by kernel_rfl) (by kernel_rfl)
instance ilda289 : LdAOk Q 289 3 := ⟨fun b o s G => by kernel_rfl⟩
instance ibd289_ : BdOk Q 289 z289 [] := bd_ok Q (by kernel_rfl) (by kernel_rfl) (by kernel_rfl)
noncomputable abbrev z23 : List Value := [(.int .i64 0), (.int .i64 0), (.int .i64 0)]
instance ial23 : AlOk Q 23 z23 := ⟨fun G => by kernel_rfl⟩
instance ist23 : StOk Q 23 3 := ⟨fun b o s v G => by kernel_rfl⟩
instance ifa29_2 : FaOk Q 29 2 9 := ⟨fun b o s => by kernel_rfl⟩
instance ifa23_0 : FaOk Q 23 0 0 := ⟨fun b o s => by kernel_rfl⟩
instance ild180 : LdOk Q 180 := ⟨fun b o s G => (show _ = loadOne b o G by kernel_rfl).trans (loadOne_eq b o G)⟩
instance isl78 : SlOk Q 78 1 := ⟨fun a n c lo hi mx G => sl_eq Q (e := 3) (by kernel_rfl) (by kernel_rfl) a n c lo hi mx G⟩
noncomputable abbrev z111 : List Value := [(.slice none 0 0)]
instance ial111 : AlOk Q 111 z111 := ⟨fun G => by kernel_rfl⟩
instance ist111 : StOk Q 111 1 := ⟨fun b o s v G => by kernel_rfl⟩
instance icv41_415 : CvOk Q 41 415 .u64 .u32 := ⟨fun n => by kernel_rfl⟩
instance icv415_3 : CvOk Q 415 3 .u32 .i64 := ⟨fun n => by kernel_rfl⟩
noncomputable abbrev z392 : List Value := [(.int .i64 0), (.int .i64 0)]
instance ibd392_0_1 : BdOk Q 392 z392 [(0, 0, 1), (1, 1, 1)] := bd_ok Q (by kernel_rfl) (by kernel_rfl) (by kernel_rfl)
instance ibd393_0_1 : BdOk Q 393 z393 [(0, 0, 2), (1, 2, 2)] := bd_ok Q (by kernel_rfl) (by kernel_rfl) (by kernel_rfl)
instance ilda393 : LdAOk Q 393 4 := ⟨fun b o s G => by kernel_rfl⟩
instance ifa392_0 : FaOk Q 392 0 0 := ⟨fun b o s => by kernel_rfl⟩
instance ifa392_1 : FaOk Q 392 1 1 := ⟨fun b o s => by kernel_rfl⟩
noncomputable abbrev z505 : List Value := [(.int .i64 0), (.int .i64 0), (.int .i64 0)]
instance ibd505_0_1_2 : BdOk Q 505 z505 [(0, 0, 1), (1, 1, 1), (2, 2, 1)] := bd_ok Q (by kernel_rfl) (by kernel_rfl) (by kernel_rfl)
instance ibs538_2_0_1 : BsOk Q 538 2 (rep z505 2) 3 [(0, 0, 3), (1, 3, 3)] := bs_ok Q (z0 := z505) (by kernel_rfl) rfl (by decide) (by kernel_rfl)
instance isla393 : SlAOk Q 393 2 2 := ⟨fun a lo hi mx G => by kernel_rfl⟩
instance ifa27_2 : FaOk Q 27 2 2 := ⟨fun b o s => by kernel_rfl⟩
instance ild407 : LdOk Q 407 := ⟨fun b o s G => (show _ = loadOne b o G by kernel_rfl).trans (loadOne_eq b o G)⟩
instance ifa274_0 : FaOk Q 274 0 0 := ⟨fun b o s => by kernel_rfl⟩
instance iln407 : LnOk Q 407 := ⟨fun a n c => by kernel_rfl⟩
instance iias407 : IasOk Q 407 1 := ⟨fun b o s n c k j => by kernel_rfl⟩
instance ifa23_1 : FaOk Q 23 1 1 := ⟨fun b o s => by kernel_rfl⟩
instance iln538 : LnOk Q 538 := ⟨fun a n c => by kernel_rfl⟩
instance iias538 : IasOk Q 538 3 := ⟨fun b o s n c k j => by kernel_rfl⟩
instance ilda505 : LdAOk Q 505 3 := ⟨fun b o s G => by kernel_rfl⟩
instance ial505 : AlOk Q 505 z505 := ⟨fun G => by kernel_rfl⟩
instance ist505 : StOk Q 505 3 := ⟨fun b o s v G => by kernel_rfl⟩
instance ifa505_0 : FaOk Q 505 0 0 := ⟨fun b o s => by kernel_rfl⟩
instance ifa505_1 : FaOk Q 505 1 1 := ⟨fun b o s => by kernel_rfl⟩
instance ifa505_2 : FaOk Q 505 2 2 := ⟨fun b o s => by kernel_rfl⟩
instance iln507 : LnOk Q 507 := ⟨fun a n c => by kernel_rfl⟩
instance iias507 : IasOk Q 507 2 := ⟨fun b o s n c k j => by kernel_rfl⟩
instance ial392 : AlOk Q 392 z392 := ⟨fun G => by kernel_rfl⟩
instance ist392 : StOk Q 392 2 := ⟨fun b o s v G => by kernel_rfl⟩
instance ifa27_1 : FaOk Q 27 1 1 := ⟨fun b o s => by kernel_rfl⟩
noncomputable def jb4_0 (q : Bool) (e : Ex) (τ : Env) (G : GS) : Option (Value × GS) :=
  bV q (τ 2) fun a2_ =>
  bV q (τ 3) fun a3_ =>
  bV q (τ 4) fun a4_ =>
  bV q (τ 5) fun a5_ =>
  bV q (τ 11) fun a11_ =>
  bV q (τ 12) fun a12_ =>
  bP (lda Q q 31 13 a4_ G) fun x68 =>
  bP (fa Q q 68 1 1 a5_) fun x69 =>
  bP (ld Q q 3 x69 G) fun x70 =>
  bS (e.ev.cl 28 [x68, x70] G) fun x71 G72 =>
  bP (pExtract x71 0) fun x73 =>
  bP (pExtract x71 1) fun x74 =>
  bP (pExtract x71 2) fun x75 =>
  bP (bd Q q 72 z72 [(4, 4, 1)] [a11_]) fun x76 =>
  bS (al Q q 72 z72 G72) fun x77 G78 =>
  bP (st Q q 72 5 x77 x76 G78) fun G79 =>
  bP (un Q q .not x75) fun x80 =>
  bS (gd x80 false (some (x73, G79)) G79) fun x81 G82 =>
  bS (gd x80 false (bP (bn Q q .lss 3 (.tmp 89) (.const (.int .i64 0)) x81 (.int .i64 0)) fun y => some (y, G82)) G82) fun x83 G84 =>
  bP (pickV x80 (.bool true) x83) fun x85 =>
  bS (gd x85 false (some (a2_, G84)) G84) fun x86 G87 =>
  bS (gd x85 false (some (x73, G87)) G87) fun x88 G89 =>
  bS (gd x85 false (bP (bn Q q .add 3 (.tmp 94) (.const (.int .i64 1)) x88 (.int .i64 1)) fun y => some (y, G89)) G89) fun x90 G91 =>
  bS (gd x85 false (bP (cv Q q 3 41 .i64 .u64 x90) fun y => some (y, G91)) G91) fun x92 G93 =>
  bS (gd x85 false (bP (bn Q q .eql 41 (.tmp 93) (.tmp 96) x86 x92) fun y => some (y, G93)) G93) fun x94 G95 =>
  bP (pickV x85 (.bool true) x94) fun x96 =>
  bP (lda Q q 31 13 a4_ (G95.room 33)) fun x97 =>
  bP (lda Q q 68 5 a5_ (G95.room 33)) fun x98 =>
  bS (e.ev.cl 23 [x97, (.pointer none), x98, a2_] (G95.room 33)) fun x100 G99 =>
  bP (eb Q q false 4 (.tmp 102) (.tmp 103) x100 x96) fun x101 =>
  bS (gd x101 true (bP (lda Q q 31 13 a4_ G99) fun y => some (y, G99)) G99) fun x102 _ =>
  bS (gd x101 true (some (a3_, G99)) G99) fun x103 _ =>
  bS (gd x101 true (bS (e.ev.cl 24 [x102, (.pointer none), x103] G99) fun y G => some (y, G)) G99) fun x105 G104 =>
  bS (gd x101 true (some (a12_, G104)) G104) fun x106 _ =>
  bS (gd x101 true (bP (bn Q q .eql 3 (.tmp 108) (.tmp 109) x105 x106) fun y => some (y, G104)) G104) fun x107 _ =>
  bP (pickV x101 x107 (.bool false)) fun x108 =>
  bS (gd x108 true (bP (lda Q q 31 13 a4_ G104) fun y => some (y, G104)) G104) fun x109 _ =>
  bS (gd x108 true (bS (e.ev.cl 25 [x109, (.pointer none)] G104) fun y G => some (y, G)) G104) fun x111 G110 =>
  bS (gd x108 true (bP (lda Q q 72 5 x77 G110) fun y => some (y, G110)) G110) fun x112 _ =>
  chk (((!(gB x108 true) || (!(gB x108 true) || sameO (lda Q q 72 5 x77 G104) x112)) && true)) <|
  bS (gd x108 true (bP (bn Q q .eql 72 (.tmp 114) (.tmp 115) x111 x112) fun y => some (y, G110)) G110) fun x113 _ =>
  bP (pickV x108 x113 (.bool false)) fun x114 =>
  bS (gd x114 true (bP (lda Q q 31 13 a4_ G110) fun y => some (y, G110)) G110) fun x115 _ =>
  bS (gd x114 true (bS (e.ev.cl 26 [x115, (.pointer none)] G110) fun y G => some (y, G)) G110) fun x117 G116 =>
  bS (gd x114 true (bP (bn Q q .eql 33 (.tmp 120) (.const (.int .i64 10)) x117 (.int .i64 10)) fun y => some (y, G116)) G116) fun x118 _ =>
  bP (pickV x114 x118 (.bool false)) fun x119 =>
  bS (gd x119 true (bS (bs Q q 78 2 (rep z3 2) 1 [(0, 0, 1), (1, 1, 1)] [(.int .i64 (-1)), (.int .i64 0)] (G116.at' (G95.nx + 25))) fun y G' => some (y, (G'.back G116))) G116) fun x120 G121 =>
  bS (gd x119 true (some (a12_, G121)) G121) fun x122 _ =>
  bS (gd x119 true (bS (e.ev.cl 29 [x120, x122] G121) fun y G => some (y, G)) G121) fun x124 G123 =>
  bP (pickV x119 x124 (.bool false)) fun x125 =>
  bS (gd x125 true (bS (e.ev.cl 27 [] G123) fun y G => some (y, G)) G123) fun x127 G126 =>
  bP (pickV x125 x127 (.bool false)) fun x128 =>
  some (x128, G126)
noncomputable def j4_0 (q : Bool) (e : Ex) (τ : Env) (G : GS) : Option (Value × GS) := jb4_0 q e τ G
theorem mj4_0 {e : Ex} {E : Ev} (h : ExLe Q e E) (τ : Env) (G : GS) : Ref (j4_0 true e τ G) (j4_0 false (Ex.of E) τ G) := by
  unfold j4_0 jb4_0
  exact Ref.gq
theorem mkj4_0 {e : Ex} {E : Ev} (h : ExLe Q e E) {τ : Env} {l U : List (Nat × Value)} {G : GS} (hU : UOk τ U) : Ref (j4_0 true e (xq true 131 τ l U) G) (j4_0 false (Ex.of E) (xq false 131 τ l U) G) := by
  rw [xq_eq hU]
  exact mj4_0 h _ _
noncomputable def sb4 (q : Bool) (e : Ex) (J0 : Env → GS → Option (Value × GS)) (v0 v1 v2 v3 : Value) (G : GS) : Option (Value × GS) :=
  bS (bx q v0 G) fun x0 G1 =>
  bS (bx q v1 G1) fun x2 G3 =>
  bS (e.ev.cl 9 [(.int .i64 34)] G3) fun x4 G5 =>
  bP (pExtract x4 0) fun x6 =>
  bP (pExtract x4 1) fun x7 =>
  bP (bn Q q .neq 33 (.tmp 22) (.const (.int .i64 0)) x7 (.int .i64 0)) fun x8 =>
  bS (gd x8 false (some (x6, G5)) G5) fun x9 G10 =>
  bS (gd x8 false (bP (ep Q q false 32 (.tmp 25) (.const (.pointer none)) x9 (.pointer none)) fun y => some (y, G10)) G10) fun x11 G12 =>
  bP (pickV x8 (.bool true) x11) fun x13 =>
  ifV x13 (
  some ((.bool false), G12)) (
  bP (lda Q q 31 13 x0 G12) fun x14 =>
  bS (e.ev.cl 18 [x14] G12) fun x15 G16 =>
  bP (un Q q .not x15) fun x17 =>
  ifV x17 (
  bP (lda Q q 31 13 x0 G16) fun x18 =>
  bP (lda Q q 68 5 x2 G16) fun x19 =>
  bS (e.ev.cl 23 [x18, x6, x19, v2] G16) fun x20 G21 =>
  bS (gd x20 true (bP (lda Q q 31 13 x0 G21) fun y => some (y, G21)) G21) fun x22 G23 =>
  bS (gd x20 true (some (x6, G23)) G23) fun x24 G25 =>
  bS (gd x20 true (some (v3, G25)) G25) fun x26 G27 =>
  bS (gd x20 true (bS (e.ev.cl 24 [x22, x24, x26] G27) fun y G => some (y, G)) G27) fun x28 G29 =>
  bS (gd x20 true (bP (bn Q q .eql 3 (.tmp 40) (.const (.int .i64 (-1))) x28 (.int .i64 (-1))) fun y => some (y, G29)) G29) fun x30 G31 =>
  bP (pickV x20 x30 (.bool false)) fun x32 =>
  bS (gd x32 true (bP (lda Q q 31 13 x0 G31) fun y => some (y, G31)) G31) fun x33 G34 =>
  bS (gd x32 true (some (x6, G34)) G34) fun x35 G36 =>
  bS (gd x32 true (bS (e.ev.cl 25 [x33, x35] G36) fun y G => some (y, G)) G36) fun x37 G38 =>
  bS (gd x32 true (bP (bd Q q 72 z72 [] []) fun y => some (y, G38)) G38) fun x39 G40 =>
  bS (gd x32 true (bP (bn Q q .eql 72 (.tmp 46) (.tmp 47) x37 x39) fun y => some (y, G40)) G40) fun x41 G42 =>
  bP (pickV x32 x41 (.bool false)) fun x43 =>
  bS (gd x43 true (bP (lda Q q 31 13 x0 G42) fun y => some (y, G42)) G42) fun x44 G45 =>
  bS (gd x43 true (some (x6, G45)) G45) fun x46 G47 =>
  bS (gd x43 true (bS (e.ev.cl 26 [x44, x46] G47) fun y G => some (y, G)) G47) fun x48 G49 =>
  bS (gd x43 true (bP (bn Q q .eql 33 (.tmp 53) (.const (.int .i64 2)) x48 (.int .i64 2)) fun y => some (y, G49)) G49) fun x50 G51 =>
  bP (pickV x43 x50 (.bool false)) fun x52 =>
  bS (gd x52 true (some (x6, G51)) G51) fun x53 G54 =>
  bS (gd x52 true (bS (e.ev.cl 21 [x53] G54) fun y G => some (y, G)) G54) fun x55 G56 =>
  bS (gd x52 true (bP (bn Q q .eql 3 (.tmp 58) (.const (.int .i64 0)) x55 (.int .i64 0)) fun y => some (y, G56)) G56) fun x57 G58 =>
  bP (pickV x52 x57 (.bool false)) fun x59 =>
  bS (gd x59 true (bS (e.ev.cl 27 [] G58) fun y G => some (y, G)) G58) fun x60 G61 =>
  bP (pickV x59 x60 (.bool false)) fun x62 =>
  some (x62, G61)) (
  bP (fa Q q 31 3 3 x0) fun x63 =>
  bP (fa Q q 29 0 0 x63) fun x64 =>
  bP (fa Q q 25 0 0 x64) fun x65 =>
  bP (fa Q q 23 2 2 x65) fun x66 =>
  bP (ld Q q 3 x66 G16) fun x67 =>
  bP (bn Q q .lss 3 (.tmp 69) (.const (.int .i64 0)) v3 (.int .i64 0)) fun x129 =>
  bS (gd x129 false (some (v3, G16)) G16) fun x130 G131 =>
  bS (gd x129 false (some (x67, G131)) G131) fun x132 G133 =>
  bS (gd x129 false (bP (bn Q q .geq 3 (.tmp 72) (.tmp 73) x130 x132) fun y => some (y, G133)) G133) fun x134 G135 =>
  bP (pickV x129 (.bool true) x134) fun x136 =>
  ifV x136 (
  J0 (xq q 131 (nth undef [v0, v1, v2, v3]) [(12, (.int .i64 (-1))), (75, x136), (74, x134), (73, x132), (72, x130), (71, x129), (70, x129), (69, v3), (12, (.int .i64 0)), (11, x67), (68, x67), (67, x66), (66, x65), (65, x64), (64, x63), (30, x17), (29, x15), (28, x14), (27, x13), (26, x11), (25, x9), (24, x8), (23, x8), (22, x7), (10, x7), (9, x6), (21, x7), (20, x6), (18, x4), (19, x4), (8, (.bool false)), (5, x2), (4, x0)] []) G135) (
  J0 (xq q 131 (nth undef [v0, v1, v2, v3]) [(75, x136), (74, x134), (73, x132), (72, x130), (71, x129), (70, x129), (69, v3), (12, (.int .i64 0)), (11, x67), (68, x67), (67, x66), (66, x65), (65, x64), (64, x63), (30, x17), (29, x15), (28, x14), (27, x13), (26, x11), (25, x9), (24, x8), (23, x8), (22, x7), (10, x7), (9, x6), (21, x7), (20, x6), (18, x4), (19, x4), (8, (.bool false)), (5, x2), (4, x0)] []) G135)))
/-- coxswain/coxswainlaw20.AuditNone -/
noncomputable def s4 (q : Bool) (e : Ex) (v0 v1 v2 v3 : Value) (G : GS) : Option (Value × GS) := sb4 q e (j4_0 q e) v0 v1 v2 v3 G
theorem m4 {e : Ex} {E : Ev} (h : ExLe Q e E) (v0 v1 v2 v3 : Value) (G : GS) : Ref (s4 true e v0 v1 v2 v3 G) (s4 false (Ex.of E) v0 v1 v2 v3 G) := by
  unfold s4 sb4
  repeat' (with_reducible first | exact Ref.rfl' _ | exact ROp.r | refine Ref.bP ?_ fun _ => ?_ | refine Ref.bS ?_ fun _ _ => ?_ | exact Ref.cl (by assumption) | refine Ref.ifV ?_ ?_ | refine LpLe.rx (by assumption) ?_ | refine Ref.xitq ?_ | exact UOk.z | refine UOk.c (by assumption) ?_ | exact Ref.nil _ | refine Ref.bVe fun _ _ => ?_ | refine Ref.bLq (by assumption) ?_ fun _ _ _ => ?_ | refine Ref.ifE ?_ ?_ | refine Ref.chk ?_ ?_ | refine Imp.and ?_ ?_ | refine Imp.or ?_ | exact Imp.rfl' _ | refine Imp.sameO ?_ | refine Ref.gd ?_ | exact Ref.cValue (by assumption) | refine Ref.bX ?_ fun _ _ _ => ?_ | exact Ref.scQ (by assumption) | exact Ref.xRangeQ (by assumption) | exact Ref.cInvoke (by assumption) | refine mkj4_0 (by assumption) ?_)
noncomputable def jt4 (J0 : Env → GS → Option (Value × GS)) : JT (Value × GS) :=
  (.n none .e (.n none .e (.n none .e (.n none .e (.n none .e (.n none .e (.n (some (fun T G => J0 (nth undef T) G)) .e .e)))))))
set_option maxHeartbeats 8000000 in
theorem jr4_0 (orc : FuncId → Bool) (J0 : Env → GS → Option (Value × GS)) (T : List Value) (G : GS) : runC Q (evL Q orc) Tryz.f4.ntmps (jt4 J0) (bodyOf Tryz.f4) (retE Q Tryz.f4.results.toList) [true, true, true, true, true, true] (nth undef T) G = jb4_0 false (Ex.of (E orc))  (nth undef T) G := by kernel_rfl
set_option maxHeartbeats 8000000 in
theorem jo4 (orc : FuncId → Bool) : JOk Q orc Tryz.f4.ntmps (jt4 (j4_0 false (Ex.of (E orc))) ) (bodyOf Tryz.f4) (retE Q Tryz.f4.results.toList) :=
  jOk Q orc (l := [([true, true, true, true, true, true], (fun T G => j4_0 false (Ex.of (E orc)) (nth undef T) G))]) (by kernel_rfl) (AllE.c (fun T G => jr4_0 orc (j4_0 false (Ex.of (E orc))) T G) (AllE.z))
set_option maxHeartbeats 8000000 in
theorem je4 (orc : FuncId → Bool) (J0 : Env → GS → Option (Value × GS)) (v0 v1 v2 v3 : Value) (G : GS) : sxC Q (evL Q orc) Tryz.f4.ntmps (jt4 J0) (bodyOf Tryz.f4) (nth undef [v0, v1, v2, v3]) G (retE Q Tryz.f4.results.toList) = sb4 false (Ex.of (E orc)) J0 v0 v1 v2 v3 G := by kernel_rfl
set_option maxHeartbeats 8000000 in
theorem f4 {orc : FuncId → Bool} {e : Ex} (h : ExLe Q e (E orc)) (v0 v1 v2 v3 : Value) (G : GS) : Ref (s4 true e v0 v1 v2 v3 G) ((E orc).cl 4 [v0, v1, v2, v3] G) :=
  fun r hr => cl_sxC Q orc (vs := [v0, v1, v2, v3]) G (jt4 (j4_0 false (Ex.of (E orc))) ) Tryz.func4 (by kernel_rfl) (by kernel_rfl) (by kernel_rfl) (by kernel_rfl) (by kernel_rfl) (jo4 orc) (je4 orc (j4_0 false (Ex.of (E orc))) v0 v1 v2 v3 G) (m4 h v0 v1 v2 v3 G r hr)
/-- coxswain/cells.New -/
noncomputable def s9 (q : Bool) (e : Ex) (v0 : Value) (G : GS) : Option (Value × GS) :=
  bP (bn Q q .lss 3 (.tmp 4) (.const (.int .i64 1)) v0 (.int .i64 1)) fun x0 =>
  bS (gd x0 false (some (v0, G)) G) fun x1 G2 =>
  bS (gd x0 false (bP (bn Q q .gtr 3 (.tmp 7) (.const (.int .i64 4096)) x1 (.int .i64 4096)) fun y => some (y, G2)) G2) fun x3 G4 =>
  bP (pickV x0 (.bool true) x3) fun x5 =>
  ifV x5 (
  some (.tuple #[(.pointer none), (.int .i64 3)], G4)) (
  bS (al Q q 156 z156 G4) fun x6 G7 =>
  bP (bd Q q 158 z158 [(0, 0, 1), (1, 1, 1)] [x6, v0]) fun x8 =>
  bS (bx q x8 G7) fun x9 G10 =>
  some (.tuple #[x9, (.int .i64 0)], G10))
theorem m9 {e : Ex} {E : Ev} (h : ExLe Q e E) (v0 : Value) (G : GS) : Ref (s9 true e v0 G) (s9 false (Ex.of E) v0 G) := by
  unfold s9
  exact Ref.gq
theorem f9 {orc : FuncId → Bool} {e : Ex} (h : ExLe Q e (E orc)) (v0 : Value) (G : GS) : Ref (s9 true e v0 G) ((E orc).cl 9 [v0] G) :=
  fun r hr => cl_sxE_some Q orc (vs := [v0]) G Tryz.func9 (by kernel_rfl) (by kernel_rfl) (by kernel_rfl) (by kernel_rfl) (by kernel_rfl) (by kernel_rfl) (m9 h v0 G r hr)
/-- coxswain/coxswainref15.Sound -/
noncomputable def s18 (q : Bool) (e : Ex) (v0 : Value) (G : GS) : Option (Value × GS) :=
  bS (bx q v0 G) fun x0 G1 =>
  bP (fa Q q 31 3 3 x0) fun x2 =>
  bP (fa Q q 29 0 0 x2) fun x3 =>
  bP (fa Q q 25 0 0 x3) fun x4 =>
  bP (fa Q q 23 2 2 x4) fun x5 =>
  bP (ld Q q 3 x5 G1) fun x6 =>
  bP (fa Q q 31 2 2 x0) fun x7 =>
  bP (ld Q q 3 x7 G1) fun x8 =>
  bP (bn Q q .geq 3 (.tmp 10) (.const (.int .i64 1)) x8 (.int .i64 1)) fun x9 =>
  bS (gd x9 true (bP (fa Q q 31 2 2 x0) fun y => some (y, G1)) G1) fun x10 G11 =>
  bS (gd x9 true (bP (ld Q q 3 x10 G11) fun y => some (y, G11)) G11) fun x12 G13 =>
  bS (gd x9 true (bP (bn Q q .leq 3 (.tmp 14) (.const (.int .i64 4)) x12 (.int .i64 4)) fun y => some (y, G13)) G13) fun x14 G15 =>
  bP (pickV x9 x14 (.bool false)) fun x16 =>
  bS (gd x16 true (some (x6, G15)) G15) fun x17 G18 =>
  bS (gd x16 true (bP (bn Q q .geq 3 (.tmp 18) (.const (.int .i64 1)) x17 (.int .i64 1)) fun y => some (y, G18)) G18) fun x19 G20 =>
  bP (pickV x16 x19 (.bool false)) fun x21 =>
  bS (gd x21 true (some (x6, G20)) G20) fun x22 G23 =>
  bS (gd x21 true (bP (bn Q q .leq 3 (.tmp 22) (.const (.int .i64 128)) x22 (.int .i64 128)) fun y => some (y, G23)) G23) fun x24 G25 =>
  bP (pickV x21 x24 (.bool false)) fun x26 =>
  bS (gd x26 true (bP (fa Q q 31 0 0 x0) fun y => some (y, G25)) G25) fun x27 G28 =>
  bS (gd x26 true (bP (ld Q q 3 x27 G28) fun y => some (y, G28)) G28) fun x29 G30 =>
  bS (gd x26 true (bP (bn Q q .geq 3 (.tmp 27) (.const (.int .i64 0)) x29 (.int .i64 0)) fun y => some (y, G30)) G30) fun x31 G32 =>
  bP (pickV x26 x31 (.bool false)) fun x33 =>
  bS (gd x33 true (bP (fa Q q 31 0 0 x0) fun y => some (y, G32)) G32) fun x34 G35 =>
  bS (gd x33 true (bP (ld Q q 3 x34 G35) fun y => some (y, G35)) G35) fun x36 G37 =>
  bS (gd x33 true (bP (bn Q q .lss 3 (.tmp 32) (.const (.int .i64 4096)) x36 (.int .i64 4096)) fun y => some (y, G37)) G37) fun x38 G39 =>
  bP (pickV x33 x38 (.bool false)) fun x40 =>
  bS (gd x40 true (bP (fa Q q 31 1 1 x0) fun y => some (y, G39)) G39) fun x41 G42 =>
  bS (gd x40 true (bP (ld Q q 3 x41 G42) fun y => some (y, G42)) G42) fun x43 G44 =>
  bS (gd x40 true (bP (bn Q q .geq 3 (.tmp 37) (.const (.int .i64 0)) x43 (.int .i64 0)) fun y => some (y, G44)) G44) fun x45 G46 =>
  bP (pickV x40 x45 (.bool false)) fun x47 =>
  bS (gd x47 true (bP (fa Q q 31 1 1 x0) fun y => some (y, G46)) G46) fun x48 G49 =>
  bS (gd x47 true (bP (ld Q q 3 x48 G49) fun y => some (y, G49)) G49) fun x50 G51 =>
  bS (gd x47 true (bP (bn Q q .lss 3 (.tmp 42) (.const (.int .i64 4096)) x50 (.int .i64 4096)) fun y => some (y, G51)) G51) fun x52 G53 =>
  bP (pickV x47 x52 (.bool false)) fun x54 =>
  some (x54, G53)
theorem m18 {e : Ex} {E : Ev} (h : ExLe Q e E) (v0 : Value) (G : GS) : Ref (s18 true e v0 G) (s18 false (Ex.of E) v0 G) := by
  unfold s18
  exact Ref.gq
theorem f18 {orc : FuncId → Bool} {e : Ex} (h : ExLe Q e (E orc)) (v0 : Value) (G : GS) : Ref (s18 true e v0 G) ((E orc).cl 18 [v0] G) :=
  fun r hr => cl_sxE_some Q orc (vs := [v0]) G Tryz.func18 (by kernel_rfl) (by kernel_rfl) (by kernel_rfl) (by kernel_rfl) (by kernel_rfl) (by kernel_rfl) (m18 h v0 G r hr)
/-- (*coxswain/cells.Mem).Count -/
noncomputable def s21 (q : Bool) (e : Ex) (v0 : Value) (G : GS) : Option (Value × GS) :=
  bP (ep Q q false 32 (.tmp 3) (.const (.pointer none)) v0 (.pointer none)) fun x0 =>
  ifV x0 (
  some ((.int .i64 0), G)) (
  bP (pNil v0) fun x1 =>
  bP (fa Q q 158 3 7 x1) fun x2 =>
  bP (ld Q q 3 x2 G) fun x3 =>
  some (x3, G))
theorem m21 {e : Ex} {E : Ev} (h : ExLe Q e E) (v0 : Value) (G : GS) : Ref (s21 true e v0 G) (s21 false (Ex.of E) v0 G) := by
  unfold s21
  exact Ref.gq
theorem f21 {orc : FuncId → Bool} {e : Ex} (h : ExLe Q e (E orc)) (v0 : Value) (G : GS) : Ref (s21 true e v0 G) ((E orc).cl 21 [v0] G) :=
  fun r hr => cl_sxE_some Q orc (vs := [v0]) G Tryz.func21 (by kernel_rfl) (by kernel_rfl) (by kernel_rfl) (by kernel_rfl) (by kernel_rfl) (by kernel_rfl) (m21 h v0 G r hr)
/-- coxswain/audit.Held -/
noncomputable def s23 (q : Bool) (e : Ex) (v0 v1 v2 v3 : Value) (G : GS) : Option (Value × GS) :=
  bS (bx q v0 G) fun x0 G1 =>
  bS (bx q v2 G1) fun x2 G3 =>
  bP (lda Q q 31 13 x0 G3) fun x4 =>
  bP (fa Q q 68 1 1 x2) fun x5 =>
  bP (ld Q q 3 x5 G3) fun x6 =>
  bS (e.ev.cl 28 [x4, x6] G3) fun x7 G8 =>
  bP (pExtract x7 0) fun x9 =>
  bP (pExtract x7 1) fun x10 =>
  bP (pExtract x7 2) fun x11 =>
  bP (un Q q .not x11) fun x12 =>
  bS (gd x12 false (some (x9, G8)) G8) fun x13 G14 =>
  bS (gd x12 false (bP (bn Q q .lss 3 (.tmp 23) (.const (.int .i64 0)) x13 (.int .i64 0)) fun y => some (y, G14)) G14) fun x15 G16 =>
  bP (pickV x12 (.bool true) x15) fun x17 =>
  bS (gd x17 false (bP (lda Q q 31 13 x0 G16) fun y => some (y, G16)) G16) fun x18 G19 =>
  bS (gd x17 false (some (v1, G19)) G19) fun x20 G21 =>
  bS (gd x17 false (bS (e.ev.cl 87 [x18, x20] G21) fun y G => some (y, G)) G21) fun x22 G23 =>
  bS (gd x17 false (some (v3, G23)) G23) fun x24 G25 =>
  bS (gd x17 false (some (x9, G25)) G25) fun x26 G27 =>
  bS (gd x17 false (bS (e.ev.cl 88 [x22, x24, x26] G27) fun y G => some (y, G)) G27) fun x28 G29 =>
  bP (pickV x17 (.bool true) x28) fun x30 =>
  some (x30, G29)
theorem m23 {e : Ex} {E : Ev} (h : ExLe Q e E) (v0 v1 v2 v3 : Value) (G : GS) : Ref (s23 true e v0 v1 v2 v3 G) (s23 false (Ex.of E) v0 v1 v2 v3 G) := by
  unfold s23
  exact Ref.gq
theorem f23 {orc : FuncId → Bool} {e : Ex} (h : ExLe Q e (E orc)) (v0 v1 v2 v3 : Value) (G : GS) : Ref (s23 true e v0 v1 v2 v3 G) ((E orc).cl 23 [v0, v1, v2, v3] G) :=
  fun r hr => cl_sxE_some Q orc (vs := [v0, v1, v2, v3]) G Tryz.func23 (by kernel_rfl) (by kernel_rfl) (by kernel_rfl) (by kernel_rfl) (by kernel_rfl) (by kernel_rfl) (m23 h v0 v1 v2 v3 G r hr)
/-- coxswain/audit.Where -/
noncomputable def s24 (q : Bool) (e : Ex) (v0 v1 v2 : Value) (G : GS) : Option (Value × GS) :=
  bS (bx q v0 G) fun x0 G1 =>
  bS (bx q v2 G1) fun x2 G3 =>
  bS (al Q q 3 z3 G3) fun x4 G5 =>
  bP (lda Q q 31 13 x0 G5) fun x6 =>
  bS (e.ev.cl 89 [x6] G5) fun x7 G8 =>
  bP (un Q q .not x7) fun x9 =>
  bS (gd x9 false (bP (ld Q q 3 x2 G8) fun y => some (y, G8)) G8) fun x10 G11 =>
  bS (gd x9 false (bP (bn Q q .lss 3 (.tmp 13) (.const (.int .i64 0)) x10 (.int .i64 0)) fun y => some (y, G11)) G11) fun x12 G13 =>
  bP (pickV x9 (.bool true) x12) fun x14 =>
  bS (gd x14 false (bP (ld Q q 3 x2 G13) fun y => some (y, G13)) G13) fun x15 G16 =>
  bS (gd x14 false (bP (fa Q q 31 3 3 x0) fun y => some (y, G16)) G16) fun x17 G18 =>
  bS (gd x14 false (bP (fa Q q 29 0 0 x17) fun y => some (y, G18)) G18) fun x19 G20 =>
  bS (gd x14 false (bP (fa Q q 25 0 0 x19) fun y => some (y, G20)) G20) fun x21 G22 =>
  bS (gd x14 false (bP (fa Q q 23 2 2 x21) fun y => some (y, G22)) G22) fun x23 G24 =>
  bS (gd x14 false (bP (ld Q q 3 x23 G24) fun y => some (y, G24)) G24) fun x25 G26 =>
  bS (gd x14 false (bP (bn Q q .geq 3 (.tmp 17) (.tmp 22) x15 x25) fun y => some (y, G26)) G26) fun x27 G28 =>
  bP (pickV x14 (.bool true) x27) fun x29 =>
  ifV x29 (
  bP (st Q q 3 1 x4 (.int .i64 (-1)) G28) fun G30 =>
  bP (ld Q q 3 x4 G30) fun x31 =>
  some (x31, G30)) (
  bP (lda Q q 31 13 x0 G28) fun x32 =>
  bS (e.ev.cl 87 [x32, v1] G28) fun x33 G34 =>
  bS (e.ev.cl 90 [x33] G34) fun x35 G36 =>
  bX (xRange e.ev x35 #[29, 30] (subAt [1, 1, 0, 1, 0, 0] (bodyOf Tryz.f24)) (subAt [1, 1, 0, 1, 0, 1] (bodyOf Tryz.f24)) (lsq q 35 (nth undef [v0, v1, v2]) [(28, x35), (27, x33), (26, v1), (25, x32), (24, x29), (23, x27), (22, x25), (21, x23), (20, x21), (19, x19), (18, x17), (17, x15), (16, x14), (15, x14), (14, x12), (13, x10), (12, x9), (11, x9), (10, x7), (9, x6), (6, x4), (5, x2), (3, x0)]) G36) fun e37 T38 G39 =>
  bV q (nth undef T38 6) fun T38x6_ =>
  ifE e37 .normal (
  bP (st Q q 3 1 T38x6_ (.int .i64 0) G39) fun G40 =>
  bP (ld Q q 3 T38x6_ G40) fun x41 =>
  some (x41, G40)) (ifE e37 .ret (
  bP (ld Q q 3 T38x6_ G39) fun x42 =>
  some (x42, G39)) (none)))
theorem m24 {e : Ex} {E : Ev} (h : ExLe Q e E) (v0 v1 v2 : Value) (G : GS) : Ref (s24 true e v0 v1 v2 G) (s24 false (Ex.of E) v0 v1 v2 G) := by
  unfold s24
  exact Ref.gq
theorem f24 {orc : FuncId → Bool} {e : Ex} (h : ExLe Q e (E orc)) (v0 v1 v2 : Value) (G : GS) : Ref (s24 true e v0 v1 v2 G) ((E orc).cl 24 [v0, v1, v2] G) :=
  fun r hr => cl_sxE_some Q orc (vs := [v0, v1, v2]) G Tryz.func24 (by kernel_rfl) (by kernel_rfl) (by kernel_rfl) (by kernel_rfl) (by kernel_rfl) (by kernel_rfl) (m24 h v0 v1 v2 G r hr)
noncomputable def r24_0 (q : Bool) (e : Ex) (l : Nat) (τ : Env) (u0 u1 : Value) (G : GS) : Option (Value × GS) :=
  bV q (τ 5) fun a5_ =>
  bV q (τ 6) fun a6_ =>
  bP (G.loop l) fun r0 => if r0.st = .ready then
  bP (ld Q q 3 a5_ (G.putLoop l (Lp.setSt r0 .busy))) fun x1 =>
  bP (bn Q q .eql 3 (.tmp 31) (.tmp 32) u0 x1) fun x2 =>
  ifV x2 (
  bP (st Q q 3 1 a6_ u1 (G.putLoop l (Lp.setSt r0 .busy))) fun G3 =>
  roundEnd l .ret G3) (
  roundEnd l .normal (G.putLoop l (Lp.setSt r0 .busy)))
  else none
theorem mr24_0 {e : Ex} {E : Ev} (h : ExLe Q e E) (l : Nat) (τ : Env) (u0 u1 : Value) (G : GS) : Ref (r24_0 true e l τ u0 u1 G) (r24_0 false (Ex.of E) l τ u0 u1 G) := by
  unfold r24_0
  repeat' (with_reducible first | exact Ref.rfl' _ | exact ROp.r | refine Ref.bP ?_ fun _ => ?_ | refine Ref.bS ?_ fun _ _ => ?_ | exact Ref.cl (by assumption) | refine Ref.ifV ?_ ?_ | refine LpLe.rx (by assumption) ?_ | refine Ref.xitq ?_ | exact UOk.z | refine UOk.c (by assumption) ?_ | exact Ref.nil _ | refine Ref.bVe fun _ _ => ?_ | refine Ref.bLq (by assumption) ?_ fun _ _ _ => ?_ | refine Ref.ifE ?_ ?_ | refine Ref.chk ?_ ?_ | refine Imp.and ?_ ?_ | refine Imp.or ?_ | exact Imp.rfl' _ | refine Imp.sameO ?_ | refine Ref.gd ?_ | exact Ref.cValue (by assumption) | refine Ref.bX ?_ fun _ _ _ => ?_ | exact Ref.scQ (by assumption) | exact Ref.xRangeQ (by assumption) | exact Ref.cInvoke (by assumption) | refine Ref.rdy ?_)
theorem d24_0 {orc : FuncId → Bool} {e : Ex} (h : ExLe Q e (E orc)) (l : Nat) (T : List Value) (u0 u1 : Value) (G : GS) {st : LoopState} {pend : Option Code} (hl : G.loop l = some ⟨st, pend, T, [29, 30], (subAt [1, 1, 0, 1, 0, 0] (bodyOf Tryz.f24)), (subAt [1, 1, 0, 1, 0, 1] (bodyOf Tryz.f24))⟩) (hT : T.length = 35) : Ref (r24_0 true e l (nth undef T) u0 u1 G) ((E orc).rd l [u0, u1] G) :=
  fun r hr => rd_sxE Q orc hl (by kernel_rfl) hT (by kernel_rfl) (mr24_0 h l _ u0 u1 G r hr)
/-- coxswain/audit.Sums -/
noncomputable def s25 (q : Bool) (e : Ex) (v0 v1 : Value) (G : GS) : Option (Value × GS) :=
  bS (bx q v0 G) fun x0 G1 =>
  bS (al Q q 72 z72 G1) fun x2 G3 =>
  bP (lda Q q 31 13 x0 G3) fun x4 =>
  bS (e.ev.cl 89 [x4] G3) fun x5 G6 =>
  bP (un Q q .not x5) fun x7 =>
  ifV x7 (
  bP (bd Q q 72 z72 [] []) fun x8 =>
  bP (st Q q 72 5 x2 x8 G6) fun G9 =>
  bP (lda Q q 72 5 x2 G9) fun x10 =>
  some (x10, G9)) (
  bP (lda Q q 31 13 x0 G6) fun x11 =>
  bS (e.ev.cl 87 [x11, v1] G6) fun x12 G13 =>
  bS (al Q q 174 z174 G13) fun x14 G15 =>
  bP (st Q q 174 15 x14 x12 G15) fun G16 =>
  bP (fa Q q 31 3 3 x0) fun x17 =>
  bP (fa Q q 29 0 0 x17) fun x18 =>
  bP (fa Q q 25 0 0 x18) fun x19 =>
  bP (fa Q q 23 2 2 x19) fun x20 =>
  bP (ld Q q 3 x20 G16) fun x21 =>
  bP (lda Q q 174 15 x14 G16) fun x22 =>
  bP (fa Q q 31 3 3 x0) fun x23 =>
  bP (fa Q q 29 0 0 x23) fun x24 =>
  bP (fa Q q 25 2 4 x24) fun x25 =>
  bP (ld Q q 3 x25 G16) fun x26 =>
  bS (e.ev.cl 91 [x22, x26] G16) fun x27 G28 =>
  bP (cv Q q 3 41 .i64 .u64 x21) fun x29 =>
  bP (mn Q q #[41, 41] x27 x29) fun x30 =>
  bP (cv Q q 41 3 .u64 .i64 x30) fun x31 =>
  bP (bd Q q 72 z72 [(3, 3, 1)] [x31]) fun x32 =>
  bS (al Q q 72 z72 G28) fun x33 G34 =>
  bP (st Q q 72 5 x33 x32 G34) fun G35 =>
  bP (lda Q q 174 15 x14 G35) fun x36 =>
  bS (e.ev.cl 90 [x36] G35) fun x37 G38 =>
  bX (xRange e.ev x37 #[35, 36] (subAt [1, 1, 1, 1, 1, 0, 1, 0, 0] (bodyOf Tryz.f25)) (subAt [1, 1, 1, 1, 1, 0, 1, 0, 1] (bodyOf Tryz.f25)) (lsq q 69 (nth undef [v0, v1]) [(34, x37), (33, x36), (7, x33), (32, x32), (31, x31), (30, x30), (29, x29), (28, x21), (27, x27), (26, x26), (25, x25), (24, x24), (23, x23), (22, x22), (6, x21), (21, x21), (20, x20), (19, x19), (18, x18), (17, x17), (5, x14), (16, x12), (15, v1), (14, x11), (12, x7), (11, x5), (10, x4), (4, x2), (2, x0)]) G38) fun e39 T40 G41 =>
  bV q (nth undef T40 4) fun T40x4_ =>
  bV q (nth undef T40 6) fun T40x6_ =>
  bV q (nth undef T40 7) fun T40x7_ =>
  ifE e39 .normal (
  bP (fa Q q 72 0 0 T40x7_) fun x42 =>
  bP (ld Q q 3 x42 G41) fun x43 =>
  bP (bn Q q .sub 3 (.tmp 54) (.tmp 56) T40x6_ x43) fun x44 =>
  bP (fa Q q 72 1 1 T40x7_) fun x45 =>
  bP (ld Q q 3 x45 G41) fun x46 =>
  bP (bn Q q .sub 3 (.tmp 57) (.tmp 59) x44 x46) fun x47 =>
  bP (fa Q q 72 2 2 T40x7_) fun x48 =>
  bP (ld Q q 3 x48 G41) fun x49 =>
  bP (bn Q q .sub 3 (.tmp 60) (.tmp 62) x47 x49) fun x50 =>
  bP (fa Q q 72 3 3 T40x7_) fun x51 =>
  bP (ld Q q 3 x51 G41) fun x52 =>
  bP (bn Q q .sub 3 (.tmp 63) (.tmp 65) x50 x52) fun x53 =>
  bP (fa Q q 72 4 4 T40x7_) fun x54 =>
  bP (st Q q 3 1 x54 x53 G41) fun G55 =>
  bP (lda Q q 72 5 T40x7_ G55) fun x56 =>
  bP (st Q q 72 5 T40x4_ x56 G55) fun G57 =>
  bP (lda Q q 72 5 T40x4_ G57) fun x58 =>
  some (x58, G57)) (none))
theorem m25 {e : Ex} {E : Ev} (h : ExLe Q e E) (v0 v1 : Value) (G : GS) : Ref (s25 true e v0 v1 G) (s25 false (Ex.of E) v0 v1 G) := by
  unfold s25
  exact Ref.gq
theorem f25 {orc : FuncId → Bool} {e : Ex} (h : ExLe Q e (E orc)) (v0 v1 : Value) (G : GS) : Ref (s25 true e v0 v1 G) ((E orc).cl 25 [v0, v1] G) :=
  fun r hr => cl_sxE_some Q orc (vs := [v0, v1]) G Tryz.func25 (by kernel_rfl) (by kernel_rfl) (by kernel_rfl) (by kernel_rfl) (by kernel_rfl) (by kernel_rfl) (m25 h v0 v1 G r hr)
noncomputable def r25_0 (q : Bool) (e : Ex) (l : Nat) (τ : Env) (u0 u1 : Value) (G : GS) : Option (Value × GS) :=
  bV q (τ 7) fun a7_ =>
  bP (G.loop l) fun r0 => if r0.st = .ready then
  bP (bn Q q .eql 3 (.tmp 37) (.const (.int .i64 1)) u1 (.int .i64 1)) fun x1 =>
  ifV x1 (
  bP (fa Q q 72 0 0 a7_) fun x2 =>
  bP (ld Q q 3 x2 (G.putLoop l (Lp.setSt r0 .busy))) fun x3 =>
  bP (bn Q q .add 3 (.tmp 45) (.const (.int .i64 1)) x3 (.int .i64 1)) fun x4 =>
  bP (fa Q q 72 0 0 a7_) fun x5 =>
  bP (st Q q 3 1 x5 x4 (G.putLoop l (Lp.setSt r0 .busy))) fun G6 =>
  roundEnd l .normal G6) (
  bP (bn Q q .eql 3 (.tmp 37) (.const (.int .i64 2)) u1 (.int .i64 2)) fun x7 =>
  ifV x7 (
  bP (fa Q q 72 1 1 a7_) fun x8 =>
  bP (ld Q q 3 x8 (G.putLoop l (Lp.setSt r0 .busy))) fun x9 =>
  bP (bn Q q .add 3 (.tmp 51) (.const (.int .i64 1)) x9 (.int .i64 1)) fun x10 =>
  bP (fa Q q 72 1 1 a7_) fun x11 =>
  bP (st Q q 3 1 x11 x10 (G.putLoop l (Lp.setSt r0 .busy))) fun G12 =>
  roundEnd l .normal G12) (
  bP (fa Q q 72 2 2 a7_) fun x13 =>
  bP (ld Q q 3 x13 (G.putLoop l (Lp.setSt r0 .busy))) fun x14 =>
  bP (bn Q q .add 3 (.tmp 39) (.const (.int .i64 1)) x14 (.int .i64 1)) fun x15 =>
  bP (fa Q q 72 2 2 a7_) fun x16 =>
  bP (st Q q 3 1 x16 x15 (G.putLoop l (Lp.setSt r0 .busy))) fun G17 =>
  roundEnd l .normal G17))
  else none
theorem mr25_0 {e : Ex} {E : Ev} (h : ExLe Q e E) (l : Nat) (τ : Env) (u0 u1 : Value) (G : GS) : Ref (r25_0 true e l τ u0 u1 G) (r25_0 false (Ex.of E) l τ u0 u1 G) := by
  unfold r25_0
  repeat' (with_reducible first | exact Ref.rfl' _ | exact ROp.r | refine Ref.bP ?_ fun _ => ?_ | refine Ref.bS ?_ fun _ _ => ?_ | exact Ref.cl (by assumption) | refine Ref.ifV ?_ ?_ | refine LpLe.rx (by assumption) ?_ | refine Ref.xitq ?_ | exact UOk.z | refine UOk.c (by assumption) ?_ | exact Ref.nil _ | refine Ref.bVe fun _ _ => ?_ | refine Ref.bLq (by assumption) ?_ fun _ _ _ => ?_ | refine Ref.ifE ?_ ?_ | refine Ref.chk ?_ ?_ | refine Imp.and ?_ ?_ | refine Imp.or ?_ | exact Imp.rfl' _ | refine Imp.sameO ?_ | refine Ref.gd ?_ | exact Ref.cValue (by assumption) | refine Ref.bX ?_ fun _ _ _ => ?_ | exact Ref.scQ (by assumption) | exact Ref.xRangeQ (by assumption) | exact Ref.cInvoke (by assumption) | refine Ref.rdy ?_)
theorem d25_0 {orc : FuncId → Bool} {e : Ex} (h : ExLe Q e (E orc)) (l : Nat) (T : List Value) (u0 u1 : Value) (G : GS) {st : LoopState} {pend : Option Code} (hl : G.loop l = some ⟨st, pend, T, [35, 36], (subAt [1, 1, 1, 1, 1, 0, 1, 0, 0] (bodyOf Tryz.f25)), (subAt [1, 1, 1, 1, 1, 0, 1, 0, 1] (bodyOf Tryz.f25))⟩) (hT : T.length = 69) : Ref (r25_0 true e l (nth undef T) u0 u1 G) ((E orc).rd l [u0, u1] G) :=
  fun r hr => rd_sxE Q orc hl (by kernel_rfl) hT (by kernel_rfl) (mr25_0 h l _ u0 u1 G r hr)
noncomputable def b26_0 (q : Bool) (e : Ex) (lp : Env → GS → Option (Exit × Env × GS)) (τ : Env) (G : GS) : Option (Exit × Env × GS) :=
  bV q (τ 27) fun a27_ =>
  bV q (τ 28) fun a28_ =>
  bV q (τ 29) fun a29_ =>
  bP (bn Q q .lss 3 (.tmp 29) (.tmp 28) a29_ a28_) fun x0 =>
  ifV x0 (
  bP (ias Q q 182 1 a27_ a29_) fun x1 =>
  bP (ld Q q 181 x1 G) fun x2 =>
  bS (cValue e.ev x2 [] G) fun x3 G4 =>
  bP (bn Q q .neq 33 (.tmp 35) (.const (.int .i64 0)) x3 (.int .i64 0)) fun x5 =>
  ifV x5 (
  some (.ret, xq q 39 τ [(4, x3), (37, x3), (36, x5), (35, x3), (8, x3), (34, x3), (33, x2), (7, x2), (32, x2), (31, x1), (30, x0)] [(27, a27_), (28, a28_), (29, a29_)], G4)) (
  bP (bn Q q .add 3 (.tmp 29) (.const (.int .i64 1)) a29_ (.int .i64 1)) fun x6 =>
  lp (xq q 39 τ [(29, x6), (38, x6), (36, x5), (35, x3), (8, x3), (34, x3), (33, x2), (7, x2), (32, x2), (31, x1), (30, x0)] [(27, a27_), (28, a28_)]) G4)) (
  some ((.exit 0), xq q 39 τ [(30, x0)] [(27, a27_), (28, a28_), (29, a29_)], G))
theorem mb26_0 {e : Ex} {E : Ev} (h : ExLe Q e E) {lp lp' : Env → GS → Option (Exit × Env × GS)} (hlp : LpLe lp lp') (τ : Env) (G : GS) : Ref (b26_0 true e lp τ G) (b26_0 false (Ex.of E) lp' τ G) := by
  unfold b26_0
  exact Ref.gq
theorem l26_0 {orc : FuncId → Bool} {e : Ex} (h : ExLe Q e (E orc)) (lp : Env → GS → Option (Exit × Env × GS)) (hlp : ∀ τ G, Ref (lp τ G) (mapE ((E orc).lp (subAt [1, 1, 1, 0, 1, 0, 0] (bodyOf Tryz.f26)) (lst 39 τ) G))) (T : List Value) (G : GS) (hT : T.length = 39) : Ref (b26_0 true e lp (nth undef T) G) (mapE ((E orc).lp (subAt [1, 1, 1, 0, 1, 0, 0] (bodyOf Tryz.f26)) T G)) :=
  fun r hr => lp_sxN Q orc G hT (by kernel_rfl) (mb26_0 h ⟨hlp⟩ _ _ r hr)
/-- coxswain/audit.Whole -/
noncomputable def s26 (q : Bool) (e : Ex) (v0 v1 : Value) (G : GS) : Option (Value × GS) :=
  bS (bx q v0 G) fun x0 G1 =>
  bP (lda Q q 31 13 x0 G1) fun x2 =>
  bS (e.ev.cl 89 [x2] G1) fun x3 G4 =>
  bP (un Q q .not x3) fun x5 =>
  ifV x5 (
  some ((.int .i64 2), G4)) (
  bP (lda Q q 31 13 x0 G4) fun x6 =>
  bS (e.ev.cl 87 [x6, v1] G4) fun x7 G8 =>
  bS (al Q q 174 z174 G8) fun x9 G10 =>
  bP (st Q q 174 15 x9 x7 G10) fun G11 =>
  bP (lda Q q 174 15 x9 G11) fun x12 =>
  bP (lda Q q 174 15 x9 G11) fun x13 =>
  bP (lda Q q 174 15 x9 G11) fun x14 =>
  bP (lda Q q 174 15 x9 G11) fun x15 =>
  bP (lda Q q 174 15 x9 G11) fun x16 =>
  bP (lda Q q 174 15 x9 G11) fun x17 =>
  bS (bs Q q 182 6 (rep z181 6) 1 [(0, 0, 1), (1, 1, 1), (2, 2, 1), (3, 3, 1), (4, 4, 1), (5, 5, 1)] [(.func (.func 92) #[x12] #[]), (.func (.func 93) #[x13] #[]), (.func (.func 94) #[x14] #[]), (.func (.func 95) #[x15] #[]), (.func (.func 96) #[x16] #[]), (.func (.func 97) #[x17] #[])] G11) fun x18 G19 =>
  bP (ln Q q 182 x18) fun x20 =>
  bLq q e 26 0 (subAt [1, 1, 1, 0, 1, 0, 0] (bodyOf Tryz.f26)) 39 (nth undef [v0, v1]) [(29, (.int .i64 0)), (28, x20), (27, x18), (26, (.func (.func 97) #[x17] #[])), (25, x17), (24, (.func (.func 96) #[x16] #[])), (23, x16), (22, (.func (.func 95) #[x15] #[])), (21, x15), (20, (.func (.func 94) #[x14] #[])), (19, x14), (18, (.func (.func 93) #[x13] #[])), (17, x13), (16, (.func (.func 92) #[x12] #[])), (15, x12), (5, x9), (14, x7), (13, v1), (12, x6), (11, x5), (10, x3), (9, x2), (4, (.int .i64 0)), (2, x0)] [] G19 fun e21 t22 G23 =>
  bV q (t22 4) fun t22x4_ =>
  ifE e21 (.exit 0) (
  some ((.int .i64 0), G23)) (ifE e21 .ret (
  some (t22x4_, G23)) (none)))
theorem m26 {e : Ex} {E : Ev} (h : ExLe Q e E) (v0 v1 : Value) (G : GS) : Ref (s26 true e v0 v1 G) (s26 false (Ex.of E) v0 v1 G) := by
  unfold s26
  exact Ref.gq
theorem f26 {orc : FuncId → Bool} {e : Ex} (h : ExLe Q e (E orc)) (v0 v1 : Value) (G : GS) : Ref (s26 true e v0 v1 G) ((E orc).cl 26 [v0, v1] G) :=
  fun r hr => cl_sxE_some Q orc (vs := [v0, v1]) G Tryz.func26 (by kernel_rfl) (by kernel_rfl) (by kernel_rfl) (by kernel_rfl) (by kernel_rfl) (by kernel_rfl) (m26 h v0 v1 G r hr)
/-- coxswain/coxswainlaw20.awake -/
noncomputable def s27 (q : Bool) (e : Ex) (G : GS) : Option (Value × GS) :=
  bS (e.ev.cl 98 [] G) fun x0 G1 =>
  bP (ep Q q true 32 (.tmp 3) (.const (.pointer none)) x0 (.pointer none)) fun x2 =>
  bS (gd x2 true (bS (e.ev.cl 99 [] G1) fun y G => some (y, G)) G1) fun x3 G4 =>
  bS (gd x2 true (some (x0, G4)) G4) fun x5 G6 =>
  bS (gd x2 true (bS (e.ev.cl 26 [x3, x5] G6) fun y G => some (y, G)) G6) fun x7 G8 =>
  bS (gd x2 true (bP (bn Q q .eql 33 (.tmp 8) (.const (.int .i64 0)) x7 (.int .i64 0)) fun y => some (y, G8)) G8) fun x9 G10 =>
  bP (pickV x2 x9 (.bool false)) fun x11 =>
  bS (gd x11 true (bS (e.ev.cl 99 [] G10) fun y G => some (y, G)) G10) fun x12 G13 =>
  bS (gd x11 true (some (x0, G13)) G13) fun x14 G15 =>
  bS (gd x11 true (bS (e.ev.cl 25 [x12, x14] G15) fun y G => some (y, G)) G15) fun x16 G17 =>
  bS (gd x11 true (bP (bd Q q 72 z72 [(0, 0, 1), (1, 1, 1)] [(.int .i64 1), (.int .i64 2)]) fun y => some (y, G17)) G17) fun x18 G19 =>
  bS (gd x11 true (bP (bn Q q .eql 72 (.tmp 14) (.tmp 15) x16 x18) fun y => some (y, G19)) G19) fun x20 G21 =>
  bP (pickV x11 x20 (.bool false)) fun x22 =>
  bS (gd x22 true (bS (e.ev.cl 99 [] G21) fun y G => some (y, G)) G21) fun x23 G24 =>
  bS (gd x22 true (some (x0, G24)) G24) fun x25 G26 =>
  bS (gd x22 true (bS (e.ev.cl 24 [x23, x25, (.int .i64 0)] G26) fun y G => some (y, G)) G26) fun x27 G28 =>
  bS (gd x22 true (bP (bn Q q .eql 3 (.tmp 21) (.const (.int .i64 2)) x27 (.int .i64 2)) fun y => some (y, G28)) G28) fun x29 G30 =>
  bP (pickV x22 x29 (.bool false)) fun x31 =>
  bS (gd x31 true (some (x0, G30)) G30) fun x32 G33 =>
  bS (gd x31 true (bS (e.ev.cl 100 [x32, (.int .i64 16), (.int .u64 65537)] G33) fun y G => some (y, G)) G33) fun x34 G35 =>
  bP (pickV x31 x34 (.bool false)) fun x36 =>
  bS (gd x36 true (some (x0, G35)) G35) fun x37 G38 =>
  bS (gd x36 true (bS (e.ev.cl 100 [x37, (.int .i64 16), (.int .u64 131073)] G38) fun y G => some (y, G)) G38) fun x39 G40 =>
  bS (gd x36 true (bP (un Q q .not x39) fun y => some (y, G40)) G40) fun x41 G42 =>
  bP (pickV x36 x41 (.bool false)) fun x43 =>
  bS (gd x43 true (bS (e.ev.cl 101 [(.int .i64 16), (.int .u64 3)] G42) fun y G => some (y, G)) G42) fun x44 G45 =>
  bS (gd x43 true (bP (bn Q q .eql 33 (.tmp 34) (.const (.int .i64 9)) x44 (.int .i64 9)) fun y => some (y, G45)) G45) fun x46 G47 =>
  bP (pickV x43 x46 (.bool false)) fun x48 =>
  some (x48, G47)
theorem m27 {e : Ex} {E : Ev} (h : ExLe Q e E) (G : GS) : Ref (s27 true e  G) (s27 false (Ex.of E)  G) := by
  unfold s27
  exact Ref.gq
theorem f27 {orc : FuncId → Bool} {e : Ex} (h : ExLe Q e (E orc)) (ho : orc 27 = false) (G : GS) : Ref (s27 true e  G) ((E orc).cl 27 [] G) :=
  fun r hr => cl_sxE_some Q orc (vs := []) G Tryz.func27 (by kernel_rfl) (by kernel_rfl) ho (by kernel_rfl) (by kernel_rfl) (by kernel_rfl) (m27 h  G r hr)
/-- coxswain/tower.Whose -/
noncomputable def s28 (q : Bool) (e : Ex) (v0 v1 : Value) (G : GS) : Option (Value × GS) :=
  bS (bx q v0 G) fun x0 G1 =>
  bP (lda Q q 31 13 x0 G1) fun x2 =>
  bS (e.ev.cl 102 [x2] G1) fun x3 G4 =>
  bP (un Q q .not x3) fun x5 =>
  ifV x5 (
  some (.tuple #[(.int .i64 0), (.int .i64 0), (.bool false)], G4)) (
  bP (lda Q q 31 13 x0 G4) fun x6 =>
  bS (e.ev.cl 103 [x6] G4) fun x7 G8 =>
  bS (e.ev.cl 104 [x7, v1] G8) fun x9 G10 =>
  bP (pExtract x9 0) fun x11 =>
  bP (pExtract x9 1) fun x12 =>
  bP (pExtract x9 2) fun x13 =>
  ifV x13 (
  some (.tuple #[x11, x12, (.bool true)], G10)) (
  bP (lda Q q 31 13 x0 G10) fun x14 =>
  bS (e.ev.cl 105 [x14] G10) fun x15 G16 =>
  bS (e.ev.cl 106 [x15, v1] G16) fun x17 G18 =>
  bP (pExtract x17 0) fun x19 =>
  bP (pExtract x17 1) fun x20 =>
  bP (pExtract x17 2) fun x21 =>
  ifV x21 (
  bP (bn Q q .add 3 (.const (.int .i64 4)) (.tmp 36) (.int .i64 4) x20) fun x22 =>
  some (.tuple #[(.int .i64 (-1)), x22, (.bool true)], G18)) (
  some (.tuple #[(.int .i64 0), (.int .i64 0), (.bool false)], G18))))
theorem m28 {e : Ex} {E : Ev} (h : ExLe Q e E) (v0 v1 : Value) (G : GS) : Ref (s28 true e v0 v1 G) (s28 false (Ex.of E) v0 v1 G) := by
  unfold s28
  exact Ref.gq
theorem f28 {orc : FuncId → Bool} {e : Ex} (h : ExLe Q e (E orc)) (v0 v1 : Value) (G : GS) : Ref (s28 true e v0 v1 G) ((E orc).cl 28 [v0, v1] G) :=
  fun r hr => cl_sxE_some Q orc (vs := [v0, v1]) G Tryz.func28 (by kernel_rfl) (by kernel_rfl) (by kernel_rfl) (by kernel_rfl) (by kernel_rfl) (by kernel_rfl) (m28 h v0 v1 G r hr)
noncomputable def b29_0 (q : Bool) (e : Ex) (lp : Env → GS → Option (Exit × Env × GS)) (τ : Env) (G : GS) : Option (Exit × Env × GS) :=
  bV q (τ 0) fun a0_ =>
  bV q (τ 1) fun a1_ =>
  bV q (τ 5) fun a5_ =>
  bP (ln Q q 78 a0_) fun x0 =>
  bP (bn Q q .lss 3 (.tmp 6) (.tmp 8) a5_ x0) fun x1 =>
  ifV x1 (
  bP (ias Q q 78 1 a0_ a5_) fun x2 =>
  bP (ld Q q 3 x2 G) fun x3 =>
  bP (bn Q q .eql 3 (.tmp 15) (.tmp 16) x3 a1_) fun x4 =>
  ifV x4 (
  some (.ret, xq q 18 τ [(4, (.bool true)), (17, x4), (16, a1_), (15, x3), (14, x2), (13, a5_), (12, a0_), (9, x1), (8, x0), (7, a0_), (6, a5_)] [(0, a0_), (1, a1_), (5, a5_)], G)) (
  bP (bn Q q .add 3 (.tmp 10) (.const (.int .i64 1)) a5_ (.int .i64 1)) fun x5 =>
  lp (xq q 18 τ [(5, x5), (11, x5), (10, a5_), (17, x4), (16, a1_), (15, x3), (14, x2), (13, a5_), (12, a0_), (9, x1), (8, x0), (7, a0_), (6, a5_)] [(0, a0_), (1, a1_)]) G)) (
  some ((.exit 0), xq q 18 τ [(9, x1), (8, x0), (7, a0_), (6, a5_)] [(0, a0_), (1, a1_), (5, a5_)], G))
theorem mb29_0 {e : Ex} {E : Ev} (h : ExLe Q e E) {lp lp' : Env → GS → Option (Exit × Env × GS)} (hlp : LpLe lp lp') (τ : Env) (G : GS) : Ref (b29_0 true e lp τ G) (b29_0 false (Ex.of E) lp' τ G) := by
  unfold b29_0
  exact Ref.gq
theorem l29_0 {orc : FuncId → Bool} {e : Ex} (h : ExLe Q e (E orc)) (lp : Env → GS → Option (Exit × Env × GS)) (hlp : ∀ τ G, Ref (lp τ G) (mapE ((E orc).lp (subAt [1, 0, 1, 0, 0] (bodyOf Tryz.f29)) (lst 18 τ) G))) (T : List Value) (G : GS) (hT : T.length = 18) : Ref (b29_0 true e lp (nth undef T) G) (mapE ((E orc).lp (subAt [1, 0, 1, 0, 0] (bodyOf Tryz.f29)) T G)) :=
  fun r hr => lp_sxN Q orc G hT (by kernel_rfl) (mb29_0 h ⟨hlp⟩ _ _ r hr)
/-- coxswain/coxswainkit.Among -/
noncomputable def s29 (q : Bool) (e : Ex) (v0 v1 : Value) (G : GS) : Option (Value × GS) :=
  bLq q e 29 0 (subAt [1, 0, 1, 0, 0] (bodyOf Tryz.f29)) 18 (nth undef [v0, v1]) [(5, (.int .i64 0)), (4, (.bool false))] [] G fun e0 t1 G2 =>
  bV q (t1 4) fun t1x4_ =>
  ifE e0 (.exit 0) (
  some ((.bool false), G2)) (ifE e0 .ret (
  some (t1x4_, G2)) (none))
theorem m29 {e : Ex} {E : Ev} (h : ExLe Q e E) (v0 v1 : Value) (G : GS) : Ref (s29 true e v0 v1 G) (s29 false (Ex.of E) v0 v1 G) := by
  unfold s29
  exact Ref.gq
theorem f29 {orc : FuncId → Bool} {e : Ex} (h : ExLe Q e (E orc)) (v0 v1 : Value) (G : GS) : Ref (s29 true e v0 v1 G) ((E orc).cl 29 [v0, v1] G) :=
  fun r hr => cl_sxE_some Q orc (vs := [v0, v1]) G Tryz.func29 (by kernel_rfl) (by kernel_rfl) (by kernel_rfl) (by kernel_rfl) (by kernel_rfl) (by kernel_rfl) (m29 h v0 v1 G r hr)
noncomputable def b53_0 (q : Bool) (e : Ex) (lp : Env → GS → Option (Exit × Env × GS)) (τ : Env) (G : GS) : Option (Exit × Env × GS) :=
  bV q (τ 3) fun a3_ =>
  bV q (τ 29) fun a29_ =>
  bV q (τ 30) fun a30_ =>
  bV q (τ 31) fun a31_ =>
  bP (bn Q q .lss 3 (.tmp 31) (.tmp 30) a31_ a30_) fun x0 =>
  ifV x0 (
  bP (ias Q q 253 1 a29_ a31_) fun x1 =>
  bP (ld Q q 154 x1 G) fun x2 =>
  bP (ias Q q 111 1 a3_ a31_) fun x3 =>
  bP (st Q q 41 1 x3 x2 G) fun G4 =>
  bP (bn Q q .add 3 (.tmp 31) (.const (.int .i64 1)) a31_ (.int .i64 1)) fun x5 =>
  lp (xq q 42 τ [(31, x5), (40, x5), (39, x3), (38, x2), (37, a31_), (36, a3_), (5, x2), (4, a31_), (35, x2), (34, x1), (33, a31_), (32, x0)] [(3, a3_), (29, a29_), (30, a30_)]) G4) (
  some ((.exit 0), xq q 42 τ [(32, x0)] [(3, a3_), (29, a29_), (30, a30_), (31, a31_)], G))
theorem mb53_0 {e : Ex} {E : Ev} (h : ExLe Q e E) {lp lp' : Env → GS → Option (Exit × Env × GS)} (hlp : LpLe lp lp') (τ : Env) (G : GS) : Ref (b53_0 true e lp τ G) (b53_0 false (Ex.of E) lp' τ G) := by
  unfold b53_0
  exact Ref.gq
theorem l53_0 {orc : FuncId → Bool} {e : Ex} (h : ExLe Q e (E orc)) (lp : Env → GS → Option (Exit × Env × GS)) (hlp : ∀ τ G, Ref (lp τ G) (mapE ((E orc).lp (subAt [1, 1, 1, 0, 1, 0, 0] (bodyOf Tryz.f53)) (lst 42 τ) G))) (T : List Value) (G : GS) (hT : T.length = 42) : Ref (b53_0 true e lp (nth undef T) G) (mapE ((E orc).lp (subAt [1, 1, 1, 0, 1, 0, 0] (bodyOf Tryz.f53)) T G)) :=
  fun r hr => lp_sxN Q orc G hT (by kernel_rfl) (mb53_0 h ⟨hlp⟩ _ _ r hr)
/-- (*coxswain/cells.Mem).Words -/
noncomputable def s53 (q : Bool) (e : Ex) (v0 : Value) (G : GS) : Option (Value × GS) :=
  bP (ep Q q false 32 (.tmp 6) (.const (.pointer none)) v0 (.pointer none)) fun x0 =>
  bS (gd x0 false (some (v0, G)) G) fun x1 G2 =>
  bS (gd x0 false (bP (pNil x1) fun y => some (y, G2)) G2) fun x3 G4 =>
  bS (gd x0 false (bP (fa Q q 158 0 0 x3) fun y => some (y, G4)) G4) fun x5 G6 =>
  bS (gd x0 false (bP (ld Q q 153 x5 G6) fun y => some (y, G6)) G6) fun x7 G8 =>
  bS (gd x0 false (bP (ep Q q false 153 (.tmp 12) (.const (.pointer none)) x7 (.pointer none)) fun y => some (y, G8)) G8) fun x9 G10 =>
  bP (pickV x0 (.bool true) x9) fun x11 =>
  ifV x11 (
  some ((.slice none 0 0), G10)) (
  bP (pNil v0) fun x12 =>
  bP (fa Q q 158 1 1 x12) fun x13 =>
  bP (ld Q q 3 x13 G10) fun x14 =>
  bS (mk Q q 111 1 8 z41 x14 x14 G10) fun x15 G16 =>
  bP (pNil v0) fun x17 =>
  bP (fa Q q 158 0 0 x17) fun x18 =>
  bP (ld Q q 153 x18 (G16.room 12)) fun x19 =>
  bP (pNil x19) fun x20 =>
  bP (pNil v0) fun x21 =>
  bP (fa Q q 158 1 1 x21) fun x22 =>
  bP (ld Q q 3 x22 (G16.room 12)) fun x23 =>
  bP (sla Q q 156 4096 1 x20 none (some x23) none (G16.room 12)) fun x24 =>
  bP (ln Q q 253 x24) fun x25 =>
  bLq q e 53 0 (subAt [1, 1, 1, 0, 1, 0, 0] (bodyOf Tryz.f53)) 42 (nth undef [v0]) [(31, (.int .i64 0)), (30, x25), (29, x24), (28, x23), (27, x22), (26, x21), (25, v0), (24, x20), (23, x19), (22, x18), (21, x17), (20, v0), (3, x15), (19, x15), (18, x14), (17, x13), (16, x12), (15, v0), (14, x11), (13, x9), (12, x7), (11, x5), (10, x3), (9, x1), (8, x0), (7, x0), (6, v0), (2, (.slice none 0 0))] [] (G16.room 12) fun e26 t27 G28 =>
  bV q (t27 3) fun t27x3_ =>
  ifE e26 (.exit 0) (
  some (t27x3_, G28)) (none))
theorem m53 {e : Ex} {E : Ev} (h : ExLe Q e E) (v0 : Value) (G : GS) : Ref (s53 true e v0 G) (s53 false (Ex.of E) v0 G) := by
  unfold s53
  exact Ref.gq
theorem f53 {orc : FuncId → Bool} {e : Ex} (h : ExLe Q e (E orc)) (v0 : Value) (G : GS) : Ref (s53 true e v0 G) ((E orc).cl 53 [v0] G) :=
  fun r hr => cl_sxE_some Q orc (vs := [v0]) G Tryz.func53 (by kernel_rfl) (by kernel_rfl) (by kernel_rfl) (by kernel_rfl) (by kernel_rfl) (by kernel_rfl) (m53 h v0 G r hr)
/-- coxswain/tower.Next -/
noncomputable def s69 (q : Bool) (e : Ex) (v0 v1 v2 : Value) (G : GS) : Option (Value × GS) :=
  bS (bx q v0 G) fun x0 G1 =>
  bP (bn Q q .lss 3 (.tmp 7) (.const (.int .i64 0)) v2 (.int .i64 0)) fun x2 =>
  bS (gd x2 false (some (v2, G1)) G1) fun x3 G4 =>
  bS (gd x2 false (bP (bn Q q .geq 3 (.tmp 10) (.const (.int .i64 4)) x3 (.int .i64 4)) fun y => some (y, G4)) G4) fun x5 G6 =>
  bP (pickV x2 (.bool true) x5) fun x7 =>
  ifV x7 (
  some ((.int .i64 (-1)), G6)) (
  bP (lda Q q 31 13 x0 G6) fun x8 =>
  bP (bn Q q .add 3 (.const (.int .i64 4)) (.tmp 15) (.int .i64 4) v2) fun x9 =>
  bS (e.ev.cl 191 [x8, v1, x9] G6) fun x10 G11 =>
  some (x10, G11))
theorem m69 {e : Ex} {E : Ev} (h : ExLe Q e E) (v0 v1 v2 : Value) (G : GS) : Ref (s69 true e v0 v1 v2 G) (s69 false (Ex.of E) v0 v1 v2 G) := by
  unfold s69
  exact Ref.gq
theorem f69 {orc : FuncId → Bool} {e : Ex} (h : ExLe Q e (E orc)) (v0 v1 v2 : Value) (G : GS) : Ref (s69 true e v0 v1 v2 G) ((E orc).cl 69 [v0, v1, v2] G) :=
  fun r hr => cl_sxE_some Q orc (vs := [v0, v1, v2]) G Tryz.func69 (by kernel_rfl) (by kernel_rfl) (by kernel_rfl) (by kernel_rfl) (by kernel_rfl) (by kernel_rfl) (m69 h v0 v1 v2 G r hr)
/-- coxswain/audit.of -/
noncomputable def s87 (q : Bool) (e : Ex) (v0 v1 : Value) (G : GS) : Option (Value × GS) :=
  bS (bx q v0 G) fun x0 G1 =>
  bS (al Q q 174 z174 G1) fun x2 G3 =>
  bP (lda Q q 31 13 x0 (G3.room 6)) fun x4 =>
  bS (e.ev.cl 53 [v1] (G3.room 6)) fun x6 G5 =>
  chk ((sameO (lda Q q 31 13 x0 G5) x4 && true)) <|
  bP (bd Q q 174 z174 [(0, 0, 13), (1, 13, 1), (2, 14, 1)] [x4, v1, x6]) fun x7 =>
  bP (st Q q 174 15 x2 x7 G5) fun G8 =>
  bP (lda Q q 174 15 x2 G8) fun x9 =>
  some (x9, G8)
theorem m87 {e : Ex} {E : Ev} (h : ExLe Q e E) (v0 v1 : Value) (G : GS) : Ref (s87 true e v0 v1 G) (s87 false (Ex.of E) v0 v1 G) := by
  unfold s87
  exact Ref.gq
theorem f87 {orc : FuncId → Bool} {e : Ex} (h : ExLe Q e (E orc)) (v0 v1 : Value) (G : GS) : Ref (s87 true e v0 v1 G) ((E orc).cl 87 [v0, v1] G) :=
  fun r hr => cl_sxE_some Q orc (vs := [v0, v1]) G Tryz.func87 (by kernel_rfl) (by kernel_rfl) (by kernel_rfl) (by kernel_rfl) (by kernel_rfl) (by kernel_rfl) (m87 h v0 v1 G r hr)
/-- (coxswain/audit.whole).right -/
noncomputable def s88 (q : Bool) (e : Ex) (v0 v1 v2 : Value) (G : GS) : Option (Value × GS) :=
  bS (bx q v0 G) fun x0 G1 =>
  bS (e.ev.cl 203 [v1] G1) fun x2 G3 =>
  bP (pExtract x2 0) fun x4 =>
  bP (pExtract x2 1) fun x5 =>
  bS (al Q q 289 z289 G3) fun x6 G7 =>
  bP (st Q q 289 3 x6 x4 G7) fun G8 =>
  bP (bn Q q .eql 33 (.tmp 14) (.const (.int .i64 0)) x5 (.int .i64 0)) fun x9 =>
  bS (gd x9 true (bP (fa Q q 289 2 2 x6) fun y => some (y, (G8.room 30))) (G8.room 30)) fun x10 _ =>
  bS (gd x9 true (bP (ld Q q 4 x10 (G8.room 30)) fun y => some (y, (G8.room 30))) (G8.room 30)) fun x11 _ =>
  bS (gd x9 true (bP (un Q q .not x11) fun y => some (y, (G8.room 30))) (G8.room 30)) fun x12 _ =>
  bP (pickV x9 x12 (.bool false)) fun x13 =>
  bS (gd x13 true (bP (fa Q q 289 0 0 x6) fun y => some (y, (G8.room 30))) (G8.room 30)) fun x14 _ =>
  bS (gd x13 true (bP (ld Q q 3 x14 (G8.room 30)) fun y => some (y, (G8.room 30))) (G8.room 30)) fun x15 _ =>
  bS (gd x13 true (some (v2, (G8.room 30))) (G8.room 30)) fun x16 _ =>
  bS (gd x13 true (bP (bn Q q .eql 3 (.tmp 23) (.tmp 24) x15 x16) fun y => some (y, (G8.room 30))) (G8.room 30)) fun x17 _ =>
  bP (pickV x13 x17 (.bool false)) fun x18 =>
  bS (gd x18 true (bP (fa Q q 289 1 1 x6) fun y => some (y, (G8.room 30))) (G8.room 30)) fun x19 _ =>
  bS (gd x18 true (bP (ld Q q 3 x19 (G8.room 30)) fun y => some (y, (G8.room 30))) (G8.room 30)) fun x20 _ =>
  bS (gd x18 true (bP (cv Q q 3 41 .i64 .u64 x20) fun y => some (y, (G8.room 30))) (G8.room 30)) fun x21 _ =>
  bS (gd x18 true (bP (fa Q q 174 0 0 x0) fun y => some (y, (G8.room 30))) (G8.room 30)) fun x22 _ =>
  bS (gd x18 true (bP (fa Q q 31 3 3 x22) fun y => some (y, (G8.room 30))) (G8.room 30)) fun x23 _ =>
  bS (gd x18 true (bP (fa Q q 29 0 0 x23) fun y => some (y, (G8.room 30))) (G8.room 30)) fun x24 _ =>
  bS (gd x18 true (bP (fa Q q 25 1 3 x24) fun y => some (y, (G8.room 30))) (G8.room 30)) fun x25 _ =>
  bS (gd x18 true (bP (ld Q q 3 x25 (G8.room 30)) fun y => some (y, (G8.room 30))) (G8.room 30)) fun x26 _ =>
  bS (gd x18 true (some (v2, (G8.room 30))) (G8.room 30)) fun x27 _ =>
  bS (gd x18 true (bP (bn Q q .add 3 (.tmp 35) (.tmp 36) x26 x27) fun y => some (y, (G8.room 30))) (G8.room 30)) fun x28 _ =>
  bS (gd x18 true (bP (lda Q q 174 15 x0 (G8.room 30)) fun y => some (y, (G8.room 30))) (G8.room 30)) fun x29 _ =>
  bS (gd x18 true (some ((.func (.func 91) #[x29] #[]), (G8.room 30))) (G8.room 30)) fun x30 _ =>
  bS (gd x18 true (bS (e.ev.cl 204 [x28, x30, (.int .u64 4294967296)] (G8.room 30)) fun y G => some (y, G)) (G8.room 30)) fun x32 G31 =>
  chk (((!(gB x18 true) || (!(gB x18 true) || sameO (ld Q q 3 x19 G31) x20)) && true)) <|
  bS (gd x18 true (bP (bn Q q .eql 41 (.tmp 30) (.tmp 40) x21 x32) fun y => some (y, G31)) G31) fun x33 _ =>
  bP (pickV x18 x33 (.bool false)) fun x34 =>
  some (x34, G31)
theorem m88 {e : Ex} {E : Ev} (h : ExLe Q e E) (v0 v1 v2 : Value) (G : GS) : Ref (s88 true e v0 v1 v2 G) (s88 false (Ex.of E) v0 v1 v2 G) := by
  unfold s88
  exact Ref.gq
theorem f88 {orc : FuncId → Bool} {e : Ex} (h : ExLe Q e (E orc)) (v0 v1 v2 : Value) (G : GS) : Ref (s88 true e v0 v1 v2 G) ((E orc).cl 88 [v0, v1, v2] G) :=
  fun r hr => cl_sxE_some Q orc (vs := [v0, v1, v2]) G Tryz.func88 (by kernel_rfl) (by kernel_rfl) (by kernel_rfl) (by kernel_rfl) (by kernel_rfl) (by kernel_rfl) (m88 h v0 v1 v2 G r hr)
/-- coxswain/audit.sound -/
noncomputable def s89 (q : Bool) (e : Ex) (v0 : Value) (G : GS) : Option (Value × GS) :=
  bS (bx q v0 G) fun x0 G1 =>
  bP (lda Q q 31 13 x0 G1) fun x2 =>
  bS (e.ev.cl 69 [x2, (.int .i64 (-1)), (.int .i64 0)] G1) fun x3 G4 =>
  bP (bn Q q .geq 3 (.tmp 4) (.const (.int .i64 0)) x3 (.int .i64 0)) fun x5 =>
  some (x5, G4)
theorem m89 {e : Ex} {E : Ev} (h : ExLe Q e E) (v0 : Value) (G : GS) : Ref (s89 true e v0 G) (s89 false (Ex.of E) v0 G) := by
  unfold s89
  exact Ref.gq
theorem f89 {orc : FuncId → Bool} {e : Ex} (h : ExLe Q e (E orc)) (v0 : Value) (G : GS) : Ref (s89 true e v0 G) ((E orc).cl 89 [v0] G) :=
  fun r hr => cl_sxE_some Q orc (vs := [v0]) G Tryz.func89 (by kernel_rfl) (by kernel_rfl) (by kernel_rfl) (by kernel_rfl) (by kernel_rfl) (by kernel_rfl) (m89 h v0 G r hr)
/-- (coxswain/audit.whole).places -/
noncomputable def s90 (q : Bool) (e : Ex) (v0 : Value) (G : GS) : Option (Value × GS) :=
  bS (bx q v0 G) fun x0 G1 =>
  some ((.func (.func 205) #[] #[x0]), G1)
theorem m90 {e : Ex} {E : Ev} (h : ExLe Q e E) (v0 : Value) (G : GS) : Ref (s90 true e v0 G) (s90 false (Ex.of E) v0 G) := by
  unfold s90
  exact Ref.gq
theorem f90 {orc : FuncId → Bool} {e : Ex} (h : ExLe Q e (E orc)) (v0 : Value) (G : GS) : Ref (s90 true e v0 G) ((E orc).cl 90 [v0] G) :=
  fun r hr => cl_sxE_some Q orc (vs := [v0]) G Tryz.func90 (by kernel_rfl) (by kernel_rfl) (by kernel_rfl) (by kernel_rfl) (by kernel_rfl) (by kernel_rfl) (m90 h v0 G r hr)
/-- (coxswain/audit.whole).at -/
noncomputable def s91 (q : Bool) (e : Ex) (v0 v1 : Value) (G : GS) : Option (Value × GS) :=
  bS (bx q v0 G) fun x0 G1 =>
  bP (bn Q q .lss 3 (.tmp 5) (.const (.int .i64 0)) v1 (.int .i64 0)) fun x2 =>
  bS (gd x2 false (some (v1, G1)) G1) fun x3 G4 =>
  bS (gd x2 false (bP (fa Q q 174 2 14 x0) fun y => some (y, G4)) G4) fun x5 G6 =>
  bS (gd x2 false (bP (ld Q q 111 x5 G6) fun y => some (y, G6)) G6) fun x7 G8 =>
  bS (gd x2 false (bP (ln Q q 111 x7) fun y => some (y, G8)) G8) fun x9 G10 =>
  bS (gd x2 false (bP (bn Q q .geq 3 (.tmp 8) (.tmp 11) x3 x9) fun y => some (y, G10)) G10) fun x11 G12 =>
  bP (pickV x2 (.bool true) x11) fun x13 =>
  ifV x13 (
  some ((.int .u64 0), G12)) (
  bP (fa Q q 174 2 14 x0) fun x14 =>
  bP (ld Q q 111 x14 G12) fun x15 =>
  bP (ias Q q 111 1 x15 v1) fun x16 =>
  bP (ld Q q 41 x16 G12) fun x17 =>
  some (x17, G12))
theorem m91 {e : Ex} {E : Ev} (h : ExLe Q e E) (v0 v1 : Value) (G : GS) : Ref (s91 true e v0 v1 G) (s91 false (Ex.of E) v0 v1 G) := by
  unfold s91
  exact Ref.gq
theorem f91 {orc : FuncId → Bool} {e : Ex} (h : ExLe Q e (E orc)) (v0 v1 : Value) (G : GS) : Ref (s91 true e v0 v1 G) ((E orc).cl 91 [v0, v1] G) :=
  fun r hr => cl_sxE_some Q orc (vs := [v0, v1]) G Tryz.func91 (by kernel_rfl) (by kernel_rfl) (by kernel_rfl) (by kernel_rfl) (by kernel_rfl) (by kernel_rfl) (m91 h v0 v1 G r hr)
/-- (coxswain/audit.whole).linked -/
noncomputable def s92 (q : Bool) (e : Ex) (v0 : Value) (G : GS) : Option (Value × GS) :=
  bS (bx q v0 G) fun x0 G1 =>
  bP (lda Q q 174 15 x0 G1) fun x2 =>
  bS (e.ev.cl 206 [x2, (.int .i64 0), (.func (.func 207) #[] #[x0])] G1) fun x3 G4 =>
  bP (un Q q .not x3) fun x5 =>
  ifV x5 (
  some ((.int .i64 5), G4)) (
  some ((.int .i64 0), G4))
theorem m92 {e : Ex} {E : Ev} (h : ExLe Q e E) (v0 : Value) (G : GS) : Ref (s92 true e v0 G) (s92 false (Ex.of E) v0 G) := by
  unfold s92
  exact Ref.gq
theorem f92 {orc : FuncId → Bool} {e : Ex} (h : ExLe Q e (E orc)) (v0 : Value) (G : GS) : Ref (s92 true e v0 G) ((E orc).cl 92 [v0] G) :=
  fun r hr => cl_sxE_some Q orc (vs := [v0]) G Tryz.func92 (by kernel_rfl) (by kernel_rfl) (by kernel_rfl) (by kernel_rfl) (by kernel_rfl) (by kernel_rfl) (m92 h v0 G r hr)
/-- (coxswain/audit.whole).rises -/
noncomputable def s93 (q : Bool) (e : Ex) (v0 : Value) (G : GS) : Option (Value × GS) :=
  bS (bx q v0 G) fun x0 G1 =>
  bS (al Q q 180 z180 G1) fun x2 G3 =>
  bP (st Q q 180 1 x2 (.func (.func 208) #[] #[x0]) G3) fun G4 =>
  bP (lda Q q 174 15 x0 G4) fun x5 =>
  bS (e.ev.cl 206 [x5, (.int .i64 0), (.func (.func 209) #[] #[x2])] G4) fun x6 G7 =>
  bP (un Q q .not x6) fun x8 =>
  ifV x8 (
  some ((.int .i64 9), G7)) (
  some ((.int .i64 0), G7))
theorem m93 {e : Ex} {E : Ev} (h : ExLe Q e E) (v0 : Value) (G : GS) : Ref (s93 true e v0 G) (s93 false (Ex.of E) v0 G) := by
  unfold s93
  exact Ref.gq
theorem f93 {orc : FuncId → Bool} {e : Ex} (h : ExLe Q e (E orc)) (v0 : Value) (G : GS) : Ref (s93 true e v0 G) ((E orc).cl 93 [v0] G) :=
  fun r hr => cl_sxE_some Q orc (vs := [v0]) G Tryz.func93 (by kernel_rfl) (by kernel_rfl) (by kernel_rfl) (by kernel_rfl) (by kernel_rfl) (by kernel_rfl) (m93 h v0 G r hr)
/-- (coxswain/audit.whole).stands -/
noncomputable def s94 (q : Bool) (e : Ex) (v0 : Value) (G : GS) : Option (Value × GS) :=
  bS (bx q v0 G) fun x0 G1 =>
  bP (fa Q q 174 0 0 x0) fun x2 =>
  bP (lda Q q 31 13 x2 G1) fun x3 =>
  bP (fa Q q 174 1 13 x0) fun x4 =>
  bP (ld Q q 32 x4 G1) fun x5 =>
  bS (e.ev.cl 201 [x3, (.int .i64 0), x5] G1) fun x6 G7 =>
  bS (al Q q 78 z78 G7) fun x8 G9 =>
  bP (st Q q 78 1 x8 x6 G9) fun G10 =>
  bP (lda Q q 174 15 x0 G10) fun x11 =>
  bS (e.ev.cl 206 [x11, (.int .i64 1), (.func (.func 210) #[] #[x8, x0])] G10) fun x12 G13 =>
  bP (un Q q .not x12) fun x14 =>
  ifV x14 (
  some ((.int .i64 11), G13)) (
  some ((.int .i64 0), G13))
theorem m94 {e : Ex} {E : Ev} (h : ExLe Q e E) (v0 : Value) (G : GS) : Ref (s94 true e v0 G) (s94 false (Ex.of E) v0 G) := by
  unfold s94
  exact Ref.gq
theorem f94 {orc : FuncId → Bool} {e : Ex} (h : ExLe Q e (E orc)) (v0 : Value) (G : GS) : Ref (s94 true e v0 G) ((E orc).cl 94 [v0] G) :=
  fun r hr => cl_sxE_some Q orc (vs := [v0]) G Tryz.func94 (by kernel_rfl) (by kernel_rfl) (by kernel_rfl) (by kernel_rfl) (by kernel_rfl) (by kernel_rfl) (m94 h v0 G r hr)
/-- (coxswain/audit.whole).once -/
noncomputable def s95 (q : Bool) (e : Ex) (v0 : Value) (G : GS) : Option (Value × GS) :=
  bS (bx q v0 G) fun x0 G1 =>
  bS (al Q q 33 z33 G1) fun x2 G3 =>
  bP (fa Q q 174 0 0 x0) fun x4 =>
  bP (fa Q q 31 3 3 x4) fun x5 =>
  bP (fa Q q 29 0 0 x5) fun x6 =>
  bP (fa Q q 25 0 0 x6) fun x7 =>
  bP (fa Q q 23 2 2 x7) fun x8 =>
  bP (ld Q q 3 x8 G3) fun x9 =>
  bS (mk Q q 256 1 1 z4 x9 x9 G3) fun x10 G11 =>
  bS (al Q q 256 z256 G11) fun x12 G13 =>
  bP (st Q q 256 1 x12 x10 G13) fun G14 =>
  bP (lda Q q 174 15 x0 G14) fun x15 =>
  bS (e.ev.cl 90 [x15] G14) fun x16 G17 =>
  bX (xRange e.ev x16 #[14, 15] (subAt [1, 1, 0, 1, 0, 0] (bodyOf Tryz.f95)) (subAt [1, 1, 0, 1, 0, 1] (bodyOf Tryz.f95)) (lsq q 23 (nth undef [v0]) [(13, x16), (12, x15), (3, x12), (11, x10), (10, x9), (9, x8), (8, x7), (7, x6), (6, x5), (5, x4), (2, x2), (1, x0)]) G17) fun e18 T19 G20 =>
  bV q (nth undef T19 2) fun T19x2_ =>
  ifE e18 .normal (
  bP (st Q q 33 1 T19x2_ (.int .i64 0) G20) fun G21 =>
  bP (ld Q q 33 T19x2_ G21) fun x22 =>
  some (x22, G21)) (ifE e18 .ret (
  bP (ld Q q 33 T19x2_ G20) fun x23 =>
  some (x23, G20)) (none))
theorem m95 {e : Ex} {E : Ev} (h : ExLe Q e E) (v0 : Value) (G : GS) : Ref (s95 true e v0 G) (s95 false (Ex.of E) v0 G) := by
  unfold s95
  exact Ref.gq
theorem f95 {orc : FuncId → Bool} {e : Ex} (h : ExLe Q e (E orc)) (v0 : Value) (G : GS) : Ref (s95 true e v0 G) ((E orc).cl 95 [v0] G) :=
  fun r hr => cl_sxE_some Q orc (vs := [v0]) G Tryz.func95 (by kernel_rfl) (by kernel_rfl) (by kernel_rfl) (by kernel_rfl) (by kernel_rfl) (by kernel_rfl) (m95 h v0 G r hr)
noncomputable def r95_0 (q : Bool) (e : Ex) (l : Nat) (τ : Env) (u0 u1 : Value) (G : GS) : Option (Value × GS) :=
  bV q (τ 2) fun a2_ =>
  bV q (τ 3) fun a3_ =>
  bP (G.loop l) fun r0 => if r0.st = .ready then
  bP (ld Q q 256 a3_ (G.putLoop l (Lp.setSt r0 .busy))) fun x1 =>
  bP (ias Q q 256 1 x1 u0) fun x2 =>
  bP (ld Q q 4 x2 (G.putLoop l (Lp.setSt r0 .busy))) fun x3 =>
  ifV x3 (
  bP (st Q q 33 1 a2_ (.int .i64 8) (G.putLoop l (Lp.setSt r0 .busy))) fun G4 =>
  roundEnd l .ret G4) (
  bP (ld Q q 256 a3_ (G.putLoop l (Lp.setSt r0 .busy))) fun x5 =>
  bP (ias Q q 256 1 x5 u0) fun x6 =>
  bP (st Q q 4 1 x6 (.bool true) (G.putLoop l (Lp.setSt r0 .busy))) fun G7 =>
  roundEnd l .normal G7)
  else none
theorem mr95_0 {e : Ex} {E : Ev} (h : ExLe Q e E) (l : Nat) (τ : Env) (u0 u1 : Value) (G : GS) : Ref (r95_0 true e l τ u0 u1 G) (r95_0 false (Ex.of E) l τ u0 u1 G) := by
  unfold r95_0
  repeat' (with_reducible first | exact Ref.rfl' _ | exact ROp.r | refine Ref.bP ?_ fun _ => ?_ | refine Ref.bS ?_ fun _ _ => ?_ | exact Ref.cl (by assumption) | refine Ref.ifV ?_ ?_ | refine LpLe.rx (by assumption) ?_ | refine Ref.xitq ?_ | exact UOk.z | refine UOk.c (by assumption) ?_ | exact Ref.nil _ | refine Ref.bVe fun _ _ => ?_ | refine Ref.bLq (by assumption) ?_ fun _ _ _ => ?_ | refine Ref.ifE ?_ ?_ | refine Ref.chk ?_ ?_ | refine Imp.and ?_ ?_ | refine Imp.or ?_ | exact Imp.rfl' _ | refine Imp.sameO ?_ | refine Ref.gd ?_ | exact Ref.cValue (by assumption) | refine Ref.bX ?_ fun _ _ _ => ?_ | exact Ref.scQ (by assumption) | exact Ref.xRangeQ (by assumption) | exact Ref.cInvoke (by assumption) | refine Ref.rdy ?_)
theorem d95_0 {orc : FuncId → Bool} {e : Ex} (h : ExLe Q e (E orc)) (l : Nat) (T : List Value) (u0 u1 : Value) (G : GS) {st : LoopState} {pend : Option Code} (hl : G.loop l = some ⟨st, pend, T, [14, 15], (subAt [1, 1, 0, 1, 0, 0] (bodyOf Tryz.f95)), (subAt [1, 1, 0, 1, 0, 1] (bodyOf Tryz.f95))⟩) (hT : T.length = 23) : Ref (r95_0 true e l (nth undef T) u0 u1 G) ((E orc).rd l [u0, u1] G) :=
  fun r hr => rd_sxE Q orc hl (by kernel_rfl) hT (by kernel_rfl) (mr95_0 h l _ u0 u1 G r hr)
noncomputable def b96_0 (q : Bool) (e : Ex) (lp : Env → GS → Option (Exit × Env × GS)) (τ : Env) (G : GS) : Option (Exit × Env × GS) :=
  bV q (τ 11) fun a11_ =>
  bV q (τ 12) fun a12_ =>
  bV q (τ 13) fun a13_ =>
  bP (bn Q q .lss 3 (.tmp 13) (.tmp 12) a13_ a12_) fun x0 =>
  ifV x0 (
  bP (ias Q q 78 1 a11_ a13_) fun x1 =>
  bP (ld Q q 3 x1 G) fun x2 =>
  bP (bn Q q .geq 3 (.tmp 17) (.const (.int .i64 0)) x2 (.int .i64 0)) fun x3 =>
  ifV x3 (
  some (.ret, xq q 20 τ [(2, (.int .i64 14)), (18, x3), (17, x2), (4, x2), (16, x2), (15, x1), (14, x0)] [(11, a11_), (12, a12_), (13, a13_)], G)) (
  bP (bn Q q .add 3 (.tmp 13) (.const (.int .i64 1)) a13_ (.int .i64 1)) fun x4 =>
  lp (xq q 20 τ [(13, x4), (19, x4), (18, x3), (17, x2), (4, x2), (16, x2), (15, x1), (14, x0)] [(11, a11_), (12, a12_)]) G)) (
  some ((.exit 0), xq q 20 τ [(14, x0)] [(11, a11_), (12, a12_), (13, a13_)], G))
theorem mb96_0 {e : Ex} {E : Ev} (h : ExLe Q e E) {lp lp' : Env → GS → Option (Exit × Env × GS)} (hlp : LpLe lp lp') (τ : Env) (G : GS) : Ref (b96_0 true e lp τ G) (b96_0 false (Ex.of E) lp' τ G) := by
  unfold b96_0
  exact Ref.gq
theorem l96_0 {orc : FuncId → Bool} {e : Ex} (h : ExLe Q e (E orc)) (lp : Env → GS → Option (Exit × Env × GS)) (hlp : ∀ τ G, Ref (lp τ G) (mapE ((E orc).lp (subAt [1, 0, 1, 0, 0] (bodyOf Tryz.f96)) (lst 20 τ) G))) (T : List Value) (G : GS) (hT : T.length = 20) : Ref (b96_0 true e lp (nth undef T) G) (mapE ((E orc).lp (subAt [1, 0, 1, 0, 0] (bodyOf Tryz.f96)) T G)) :=
  fun r hr => lp_sxN Q orc G hT (by kernel_rfl) (mb96_0 h ⟨hlp⟩ _ _ r hr)
/-- (coxswain/audit.whole).idle -/
noncomputable def s96 (q : Bool) (e : Ex) (v0 : Value) (G : GS) : Option (Value × GS) :=
  bS (bx q v0 G) fun x0 G1 =>
  bP (fa Q q 174 0 0 x0) fun x2 =>
  bP (fa Q q 31 3 3 x2) fun x3 =>
  bP (fa Q q 29 1 6 x3) fun x4 =>
  bP (lda Q q 27 3 x4 G1) fun x5 =>
  bP (fa Q q 174 1 13 x0) fun x6 =>
  bP (ld Q q 32 x6 G1) fun x7 =>
  bS (e.ev.cl 211 [x5, x7] G1) fun x8 G9 =>
  bP (ln Q q 78 x8) fun x10 =>
  bLq q e 96 0 (subAt [1, 0, 1, 0, 0] (bodyOf Tryz.f96)) 20 (nth undef [v0]) [(13, (.int .i64 0)), (12, x10), (11, x8), (10, x7), (9, x6), (8, x5), (7, x4), (6, x3), (5, x2), (2, (.int .i64 0)), (1, x0)] [] G9 fun e11 t12 G13 =>
  bV q (t12 2) fun t12x2_ =>
  ifE e11 (.exit 0) (
  some ((.int .i64 0), G13)) (ifE e11 .ret (
  some (t12x2_, G13)) (none))
theorem m96 {e : Ex} {E : Ev} (h : ExLe Q e E) (v0 : Value) (G : GS) : Ref (s96 true e v0 G) (s96 false (Ex.of E) v0 G) := by
  unfold s96
  exact Ref.gq
theorem f96 {orc : FuncId → Bool} {e : Ex} (h : ExLe Q e (E orc)) (v0 : Value) (G : GS) : Ref (s96 true e v0 G) ((E orc).cl 96 [v0] G) :=
  fun r hr => cl_sxE_some Q orc (vs := [v0]) G Tryz.func96 (by kernel_rfl) (by kernel_rfl) (by kernel_rfl) (by kernel_rfl) (by kernel_rfl) (by kernel_rfl) (m96 h v0 G r hr)
/-- (coxswain/audit.whole).all -/
noncomputable def s97 (q : Bool) (e : Ex) (v0 : Value) (G : GS) : Option (Value × GS) :=
  bS (bx q v0 G) fun x0 G1 =>
  bP (fa Q q 174 0 0 x0) fun x2 =>
  bP (lda Q q 31 13 x2 G1) fun x3 =>
  bP (fa Q q 174 1 13 x0) fun x4 =>
  bP (ld Q q 32 x4 G1) fun x5 =>
  bS (e.ev.cl 25 [x3, x5] G1) fun x6 G7 =>
  bP (fd Q q 72 4 4 x6) fun x8 =>
  bP (bn Q q .neq 3 (.tmp 8) (.const (.int .i64 0)) x8 (.int .i64 0)) fun x9 =>
  ifV x9 (
  some ((.int .i64 10), G7)) (
  some ((.int .i64 0), G7))
theorem m97 {e : Ex} {E : Ev} (h : ExLe Q e E) (v0 : Value) (G : GS) : Ref (s97 true e v0 G) (s97 false (Ex.of E) v0 G) := by
  unfold s97
  exact Ref.gq
theorem f97 {orc : FuncId → Bool} {e : Ex} (h : ExLe Q e (E orc)) (v0 : Value) (G : GS) : Ref (s97 true e v0 G) ((E orc).cl 97 [v0] G) :=
  fun r hr => cl_sxE_some Q orc (vs := [v0]) G Tryz.func97 (by kernel_rfl) (by kernel_rfl) (by kernel_rfl) (by kernel_rfl) (by kernel_rfl) (by kernel_rfl) (m97 h v0 G r hr)
/-- coxswain/tower.sound -/
noncomputable def s102 (q : Bool) (e : Ex) (v0 : Value) (G : GS) : Option (Value × GS) :=
  bS (bx q v0 G) fun x0 G1 =>
  bP (fa Q q 31 3 3 x0) fun x2 =>
  bP (fa Q q 29 0 0 x2) fun x3 =>
  bP (fa Q q 25 0 0 x3) fun x4 =>
  bP (fa Q q 23 2 2 x4) fun x5 =>
  bP (ld Q q 3 x5 G1) fun x6 =>
  bP (fa Q q 31 2 2 x0) fun x7 =>
  bP (ld Q q 3 x7 G1) fun x8 =>
  bP (bn Q q .geq 3 (.tmp 10) (.const (.int .i64 1)) x8 (.int .i64 1)) fun x9 =>
  bS (gd x9 true (bP (fa Q q 31 2 2 x0) fun y => some (y, G1)) G1) fun x10 G11 =>
  bS (gd x9 true (bP (ld Q q 3 x10 G11) fun y => some (y, G11)) G11) fun x12 G13 =>
  bS (gd x9 true (bP (bn Q q .leq 3 (.tmp 14) (.const (.int .i64 4)) x12 (.int .i64 4)) fun y => some (y, G13)) G13) fun x14 G15 =>
  bP (pickV x9 x14 (.bool false)) fun x16 =>
  bS (gd x16 true (some (x6, G15)) G15) fun x17 G18 =>
  bS (gd x16 true (bP (bn Q q .geq 3 (.tmp 18) (.const (.int .i64 1)) x17 (.int .i64 1)) fun y => some (y, G18)) G18) fun x19 G20 =>
  bP (pickV x16 x19 (.bool false)) fun x21 =>
  bS (gd x21 true (some (x6, G20)) G20) fun x22 G23 =>
  bS (gd x21 true (bP (bn Q q .leq 3 (.tmp 22) (.const (.int .i64 128)) x22 (.int .i64 128)) fun y => some (y, G23)) G23) fun x24 G25 =>
  bP (pickV x21 x24 (.bool false)) fun x26 =>
  bS (gd x26 true (bP (fa Q q 31 0 0 x0) fun y => some (y, G25)) G25) fun x27 G28 =>
  bS (gd x26 true (bP (ld Q q 3 x27 G28) fun y => some (y, G28)) G28) fun x29 G30 =>
  bS (gd x26 true (bP (bn Q q .geq 3 (.tmp 27) (.const (.int .i64 0)) x29 (.int .i64 0)) fun y => some (y, G30)) G30) fun x31 G32 =>
  bP (pickV x26 x31 (.bool false)) fun x33 =>
  bS (gd x33 true (bP (fa Q q 31 0 0 x0) fun y => some (y, G32)) G32) fun x34 G35 =>
  bS (gd x33 true (bP (ld Q q 3 x34 G35) fun y => some (y, G35)) G35) fun x36 G37 =>
  bS (gd x33 true (bP (bn Q q .lss 3 (.tmp 32) (.const (.int .i64 4096)) x36 (.int .i64 4096)) fun y => some (y, G37)) G37) fun x38 G39 =>
  bP (pickV x33 x38 (.bool false)) fun x40 =>
  bS (gd x40 true (bP (fa Q q 31 1 1 x0) fun y => some (y, G39)) G39) fun x41 G42 =>
  bS (gd x40 true (bP (ld Q q 3 x41 G42) fun y => some (y, G42)) G42) fun x43 G44 =>
  bS (gd x40 true (bP (bn Q q .geq 3 (.tmp 37) (.const (.int .i64 0)) x43 (.int .i64 0)) fun y => some (y, G44)) G44) fun x45 G46 =>
  bP (pickV x40 x45 (.bool false)) fun x47 =>
  bS (gd x47 true (bP (fa Q q 31 1 1 x0) fun y => some (y, G46)) G46) fun x48 G49 =>
  bS (gd x47 true (bP (ld Q q 3 x48 G49) fun y => some (y, G49)) G49) fun x50 G51 =>
  bS (gd x47 true (bP (bn Q q .lss 3 (.tmp 42) (.const (.int .i64 4096)) x50 (.int .i64 4096)) fun y => some (y, G51)) G51) fun x52 G53 =>
  bP (pickV x47 x52 (.bool false)) fun x54 =>
  some (x54, G53)
theorem m102 {e : Ex} {E : Ev} (h : ExLe Q e E) (v0 : Value) (G : GS) : Ref (s102 true e v0 G) (s102 false (Ex.of E) v0 G) := by
  unfold s102
  exact Ref.gq
theorem f102 {orc : FuncId → Bool} {e : Ex} (h : ExLe Q e (E orc)) (v0 : Value) (G : GS) : Ref (s102 true e v0 G) ((E orc).cl 102 [v0] G) :=
  fun r hr => cl_sxE_some Q orc (vs := [v0]) G Tryz.func102 (by kernel_rfl) (by kernel_rfl) (by kernel_rfl) (by kernel_rfl) (by kernel_rfl) (by kernel_rfl) (m102 h v0 G r hr)
/-- coxswain/tower.nodes -/
noncomputable def s103 (q : Bool) (e : Ex) (v0 : Value) (G : GS) : Option (Value × GS) :=
  bS (bx q v0 G) fun x0 G1 =>
  bS (al Q q 187 z187 G1) fun x2 G3 =>
  bP (fa Q q 31 0 0 x0) fun x4 =>
  bP (ld Q q 3 x4 G3) fun x5 =>
  bP (fa Q q 31 3 3 x0) fun x6 =>
  bP (fa Q q 29 0 0 x6) fun x7 =>
  bP (fa Q q 25 0 0 x7) fun x8 =>
  bP (fa Q q 23 2 2 x8) fun x9 =>
  bP (ld Q q 3 x9 G3) fun x10 =>
  bP (fa Q q 31 2 2 x0) fun x11 =>
  bP (ld Q q 3 x11 G3) fun x12 =>
  bP (bd Q q 187 z187 [(0, 0, 1), (1, 1, 1), (2, 2, 1)] [x5, x10, x12]) fun x13 =>
  bP (st Q q 187 3 x2 x13 G3) fun G14 =>
  bP (lda Q q 187 3 x2 G14) fun x15 =>
  some (x15, G14)
theorem m103 {e : Ex} {E : Ev} (h : ExLe Q e E) (v0 : Value) (G : GS) : Ref (s103 true e v0 G) (s103 false (Ex.of E) v0 G) := by
  unfold s103
  exact Ref.gq
theorem f103 {orc : FuncId → Bool} {e : Ex} (h : ExLe Q e (E orc)) (v0 : Value) (G : GS) : Ref (s103 true e v0 G) ((E orc).cl 103 [v0] G) :=
  fun r hr => cl_sxE_some Q orc (vs := [v0]) G Tryz.func103 (by kernel_rfl) (by kernel_rfl) (by kernel_rfl) (by kernel_rfl) (by kernel_rfl) (by kernel_rfl) (m103 h v0 G r hr)
/-- (coxswain/tower.rows[coxswain/tower.node]).whose -/
noncomputable def s104 (q : Bool) (e : Ex) (v0 v1 : Value) (G : GS) : Option (Value × GS) :=
  bS (bx q v0 G) fun x0 G1 =>
  bP (fa Q q 187 0 0 x0) fun x2 =>
  bP (ld Q q 3 x2 (G1.room 18)) fun x3 =>
  bP (bn Q q .lss 3 (.tmp 7) (.tmp 9) v1 x3) fun x4 =>
  bS (gd x4 false (some (v1, (G1.room 18))) (G1.room 18)) fun x5 _ =>
  bS (gd x4 false (bP (fa Q q 187 0 0 x0) fun y => some (y, (G1.room 18))) (G1.room 18)) fun x6 _ =>
  bS (gd x4 false (bP (ld Q q 3 x6 (G1.room 18)) fun y => some (y, (G1.room 18))) (G1.room 18)) fun x7 _ =>
  bS (gd x4 false (bP (fa Q q 187 1 1 x0) fun y => some (y, (G1.room 18))) (G1.room 18)) fun x8 _ =>
  bS (gd x4 false (bP (ld Q q 3 x8 (G1.room 18)) fun y => some (y, (G1.room 18))) (G1.room 18)) fun x9 _ =>
  bS (gd x4 false (bP (fa Q q 187 2 2 x0) fun y => some (y, (G1.room 18))) (G1.room 18)) fun x10 _ =>
  bS (gd x4 false (bP (ld Q q 185 x10 (G1.room 18)) fun y => some (y, (G1.room 18))) (G1.room 18)) fun x11 _ =>
  bS (gd x4 false (bP (ifc Q q 185 x11) fun y => some (y, (G1.room 18))) (G1.room 18)) fun x12 _ =>
  bS (gd x4 false (bS (cInvoke Q e.ev x12 "coxswain/tower.cells" [] (G1.room 18)) fun y G => some (y, G)) (G1.room 18)) fun x14 G13 =>
  chk (((!(gB x4 false) || (!(gB x4 false) || sameO (ld Q q 3 x8 G13) x9)) && ((!(gB x4 false) || (!(gB x4 false) || sameO (ld Q q 3 x6 G13) x7)) && true))) <|
  bS (gd x4 false (bP (bn Q q .mul 3 (.tmp 16) (.tmp 20) x9 x14) fun y => some (y, G13)) G13) fun x15 _ =>
  bS (gd x4 false (bP (bn Q q .add 3 (.tmp 14) (.tmp 21) x7 x15) fun y => some (y, G13)) G13) fun x16 _ =>
  bS (gd x4 false (bP (bn Q q .geq 3 (.tmp 12) (.tmp 22) x5 x16) fun y => some (y, G13)) G13) fun x17 _ =>
  bP (pickV x4 (.bool true) x17) fun x18 =>
  ifV x18 (
  some (.tuple #[(.int .i64 0), (.int .i64 0), (.bool false)], G13)) (
  bP (fa Q q 187 0 0 x0) fun x19 =>
  bP (ld Q q 3 x19 (G13.room 21)) fun x20 =>
  bP (bn Q q .sub 3 (.tmp 25) (.tmp 27) v1 x20) fun x21 =>
  bP (fa Q q 187 2 2 x0) fun x22 =>
  bP (ld Q q 185 x22 (G13.room 21)) fun x23 =>
  bP (ifc Q q 185 x23) fun x24 =>
  bS (cInvoke Q e.ev x24 "coxswain/tower.cells" [] (G13.room 21)) fun x26 G25 =>
  chk ((sameO (ld Q q 3 x19 G25) x20 && true)) <|
  bP (bn Q q .quo 3 (.tmp 28) (.tmp 32) x21 x26) fun x27 =>
  bP (fa Q q 187 0 0 x0) fun x28 =>
  bP (ld Q q 3 x28 G25) fun x29 =>
  chk ((sameO (ld Q q 3 x28 (G13.room 21)) x29 && true)) <|
  bP (bn Q q .sub 3 (.tmp 34) (.tmp 36) v1 x29) fun x30 =>
  bP (fa Q q 187 2 2 x0) fun x31 =>
  bP (ld Q q 185 x31 G25) fun x32 =>
  chk ((sameO (ld Q q 185 x31 (G13.room 21)) x32 && true)) <|
  bP (ifc Q q 185 x32) fun x33 =>
  bS (cInvoke Q e.ev x33 "coxswain/tower.cells" [] G25) fun x35 G34 =>
  chk ((sameO (ld Q q 3 x28 G34) x29 && (sameO (ld Q q 3 x19 G34) x20 && true))) <|
  bP (bn Q q .rem 3 (.tmp 37) (.tmp 41) x30 x35) fun x36 =>
  some (.tuple #[x27, x36, (.bool true)], G34))
theorem m104 {e : Ex} {E : Ev} (h : ExLe Q e E) (v0 v1 : Value) (G : GS) : Ref (s104 true e v0 v1 G) (s104 false (Ex.of E) v0 v1 G) := by
  unfold s104
  exact Ref.gq
theorem f104 {orc : FuncId → Bool} {e : Ex} (h : ExLe Q e (E orc)) (v0 v1 : Value) (G : GS) : Ref (s104 true e v0 v1 G) ((E orc).cl 104 [v0, v1] G) :=
  fun r hr => cl_sxE_some Q orc (vs := [v0, v1]) G Tryz.func104 (by kernel_rfl) (by kernel_rfl) (by kernel_rfl) (by kernel_rfl) (by kernel_rfl) (by kernel_rfl) (m104 h v0 v1 G r hr)
/-- coxswain/tower.heads -/
noncomputable def s105 (q : Bool) (e : Ex) (v0 : Value) (G : GS) : Option (Value × GS) :=
  bS (bx q v0 G) fun x0 G1 =>
  bS (al Q q 192 z192 G1) fun x2 G3 =>
  bP (fa Q q 31 1 1 x0) fun x4 =>
  bP (ld Q q 3 x4 G3) fun x5 =>
  bP (fa Q q 31 2 2 x0) fun x6 =>
  bP (ld Q q 3 x6 G3) fun x7 =>
  bP (bd Q q 192 z192 [(0, 0, 1), (1, 1, 1), (2, 2, 1)] [x5, (.int .i64 1), x7]) fun x8 =>
  bP (st Q q 192 3 x2 x8 G3) fun G9 =>
  bP (lda Q q 192 3 x2 G9) fun x10 =>
  some (x10, G9)
theorem m105 {e : Ex} {E : Ev} (h : ExLe Q e E) (v0 : Value) (G : GS) : Ref (s105 true e v0 G) (s105 false (Ex.of E) v0 G) := by
  unfold s105
  exact Ref.gq
theorem f105 {orc : FuncId → Bool} {e : Ex} (h : ExLe Q e (E orc)) (v0 : Value) (G : GS) : Ref (s105 true e v0 G) ((E orc).cl 105 [v0] G) :=
  fun r hr => cl_sxE_some Q orc (vs := [v0]) G Tryz.func105 (by kernel_rfl) (by kernel_rfl) (by kernel_rfl) (by kernel_rfl) (by kernel_rfl) (by kernel_rfl) (m105 h v0 G r hr)
/-- (coxswain/tower.rows[coxswain/tower.head]).whose -/
noncomputable def s106 (q : Bool) (e : Ex) (v0 v1 : Value) (G : GS) : Option (Value × GS) :=
  bS (bx q v0 G) fun x0 G1 =>
  bP (fa Q q 192 0 0 x0) fun x2 =>
  bP (ld Q q 3 x2 (G1.room 18)) fun x3 =>
  bP (bn Q q .lss 3 (.tmp 7) (.tmp 9) v1 x3) fun x4 =>
  bS (gd x4 false (some (v1, (G1.room 18))) (G1.room 18)) fun x5 _ =>
  bS (gd x4 false (bP (fa Q q 192 0 0 x0) fun y => some (y, (G1.room 18))) (G1.room 18)) fun x6 _ =>
  bS (gd x4 false (bP (ld Q q 3 x6 (G1.room 18)) fun y => some (y, (G1.room 18))) (G1.room 18)) fun x7 _ =>
  bS (gd x4 false (bP (fa Q q 192 1 1 x0) fun y => some (y, (G1.room 18))) (G1.room 18)) fun x8 _ =>
  bS (gd x4 false (bP (ld Q q 3 x8 (G1.room 18)) fun y => some (y, (G1.room 18))) (G1.room 18)) fun x9 _ =>
  bS (gd x4 false (bP (fa Q q 192 2 2 x0) fun y => some (y, (G1.room 18))) (G1.room 18)) fun x10 _ =>
  bS (gd x4 false (bP (ld Q q 190 x10 (G1.room 18)) fun y => some (y, (G1.room 18))) (G1.room 18)) fun x11 _ =>
  bS (gd x4 false (bP (ifc Q q 190 x11) fun y => some (y, (G1.room 18))) (G1.room 18)) fun x12 _ =>
  bS (gd x4 false (bS (cInvoke Q e.ev x12 "coxswain/tower.cells" [] (G1.room 18)) fun y G => some (y, G)) (G1.room 18)) fun x14 G13 =>
  chk (((!(gB x4 false) || (!(gB x4 false) || sameO (ld Q q 3 x8 G13) x9)) && ((!(gB x4 false) || (!(gB x4 false) || sameO (ld Q q 3 x6 G13) x7)) && true))) <|
  bS (gd x4 false (bP (bn Q q .mul 3 (.tmp 16) (.tmp 20) x9 x14) fun y => some (y, G13)) G13) fun x15 _ =>
  bS (gd x4 false (bP (bn Q q .add 3 (.tmp 14) (.tmp 21) x7 x15) fun y => some (y, G13)) G13) fun x16 _ =>
  bS (gd x4 false (bP (bn Q q .geq 3 (.tmp 12) (.tmp 22) x5 x16) fun y => some (y, G13)) G13) fun x17 _ =>
  bP (pickV x4 (.bool true) x17) fun x18 =>
  ifV x18 (
  some (.tuple #[(.int .i64 0), (.int .i64 0), (.bool false)], G13)) (
  bP (fa Q q 192 0 0 x0) fun x19 =>
  bP (ld Q q 3 x19 (G13.room 21)) fun x20 =>
  bP (bn Q q .sub 3 (.tmp 25) (.tmp 27) v1 x20) fun x21 =>
  bP (fa Q q 192 2 2 x0) fun x22 =>
  bP (ld Q q 190 x22 (G13.room 21)) fun x23 =>
  bP (ifc Q q 190 x23) fun x24 =>
  bS (cInvoke Q e.ev x24 "coxswain/tower.cells" [] (G13.room 21)) fun x26 G25 =>
  chk ((sameO (ld Q q 3 x19 G25) x20 && true)) <|
  bP (bn Q q .quo 3 (.tmp 28) (.tmp 32) x21 x26) fun x27 =>
  bP (fa Q q 192 0 0 x0) fun x28 =>
  bP (ld Q q 3 x28 G25) fun x29 =>
  chk ((sameO (ld Q q 3 x28 (G13.room 21)) x29 && true)) <|
  bP (bn Q q .sub 3 (.tmp 34) (.tmp 36) v1 x29) fun x30 =>
  bP (fa Q q 192 2 2 x0) fun x31 =>
  bP (ld Q q 190 x31 G25) fun x32 =>
  chk ((sameO (ld Q q 190 x31 (G13.room 21)) x32 && true)) <|
  bP (ifc Q q 190 x32) fun x33 =>
  bS (cInvoke Q e.ev x33 "coxswain/tower.cells" [] G25) fun x35 G34 =>
  chk ((sameO (ld Q q 3 x28 G34) x29 && (sameO (ld Q q 3 x19 G34) x20 && true))) <|
  bP (bn Q q .rem 3 (.tmp 37) (.tmp 41) x30 x35) fun x36 =>
  some (.tuple #[x27, x36, (.bool true)], G34))
theorem m106 {e : Ex} {E : Ev} (h : ExLe Q e E) (v0 v1 : Value) (G : GS) : Ref (s106 true e v0 v1 G) (s106 false (Ex.of E) v0 v1 G) := by
  unfold s106
  exact Ref.gq
theorem f106 {orc : FuncId → Bool} {e : Ex} (h : ExLe Q e (E orc)) (v0 v1 : Value) (G : GS) : Ref (s106 true e v0 v1 G) ((E orc).cl 106 [v0, v1] G) :=
  fun r hr => cl_sxE_some Q orc (vs := [v0, v1]) G Tryz.func106 (by kernel_rfl) (by kernel_rfl) (by kernel_rfl) (by kernel_rfl) (by kernel_rfl) (by kernel_rfl) (m106 h v0 v1 G r hr)
/-- coxswain/word.GetTop -/
noncomputable def s189 (q : Bool) (e : Ex) (v0 : Value) (G : GS) : Option (Value × GS) :=
  bS (al Q q 274 z274 G) fun x0 G1 =>
  bS (e.ev.cl 271 [] G1) fun x2 G3 =>
  bS (al Q q 393 z393 G3) fun x4 G5 =>
  bP (st Q q 393 4 x4 x2 G5) fun G6 =>
  bP (iaa Q q 393 2 2 x4 (.int .i64 0)) fun x7 =>
  bP (lda Q q 392 2 x7 (G6.room 12)) fun x8 =>
  bS (e.ev.cl 272 [v0, x8] (G6.room 12)) fun x10 G9 =>
  bP (bn Q q .sub 3 (.tmp 9) (.const (.int .i64 1)) x10 (.int .i64 1)) fun x11 =>
  bP (iaa Q q 393 2 2 x4 (.int .i64 1)) fun x12 =>
  bP (lda Q q 392 2 x12 G9) fun x13 =>
  chk ((sameO (lda Q q 392 2 x12 (G6.room 12)) x13 && true)) <|
  bS (e.ev.cl 272 [v0, x13] G9) fun x15 G14 =>
  bP (bd Q q 274 z274 [(0, 0, 1), (1, 1, 1)] [x11, x15]) fun x16 =>
  bP (st Q q 274 2 x0 x16 G14) fun G17 =>
  bP (lda Q q 274 2 x0 G17) fun x18 =>
  some (.tuple #[x18, (.int .i64 0)], G17)
theorem m189 {e : Ex} {E : Ev} (h : ExLe Q e E) (v0 : Value) (G : GS) : Ref (s189 true e v0 G) (s189 false (Ex.of E) v0 G) := by
  unfold s189
  exact Ref.gq
theorem f189 {orc : FuncId → Bool} {e : Ex} (h : ExLe Q e (E orc)) (v0 : Value) (G : GS) : Ref (s189 true e v0 G) ((E orc).cl 189 [v0] G) :=
  fun r hr => cl_sxE_some Q orc (vs := [v0]) G Tryz.func189 (by kernel_rfl) (by kernel_rfl) (by kernel_rfl) (by kernel_rfl) (by kernel_rfl) (by kernel_rfl) (m189 h v0 G r hr)
/-- coxswain/tower.At -/
noncomputable def s191 (q : Bool) (e : Ex) (v0 v1 v2 : Value) (G : GS) : Option (Value × GS) :=
  bS (bx q v0 G) fun x0 G1 =>
  bP (lda Q q 31 13 x0 G1) fun x2 =>
  bS (e.ev.cl 102 [x2] G1) fun x3 G4 =>
  bP (un Q q .not x3) fun x5 =>
  ifV x5 (
  some ((.int .i64 (-1)), G4)) (
  bP (bn Q q .neq 3 (.tmp 12) (.const (.int .i64 (-1))) v1 (.int .i64 (-1))) fun x6 =>
  ifV x6 (
  bP (lda Q q 31 13 x0 G4) fun x7 =>
  bS (e.ev.cl 103 [x7] G4) fun x8 G9 =>
  bS (e.ev.cl 273 [x8, v1, v2] G9) fun x10 G11 =>
  some (x10, G11)) (
  bP (bn Q q .lss 3 (.tmp 20) (.const (.int .i64 4)) v2 (.int .i64 4)) fun x12 =>
  bS (gd x12 false (some (v2, G4)) G4) fun x13 G14 =>
  bS (gd x12 false (bP (fa Q q 31 2 2 x0) fun y => some (y, G14)) G14) fun x15 G16 =>
  bS (gd x12 false (bP (ld Q q 3 x15 G16) fun y => some (y, G16)) G16) fun x17 G18 =>
  bS (gd x12 false (bP (bn Q q .add 3 (.const (.int .i64 4)) (.tmp 25) (.int .i64 4) x17) fun y => some (y, G18)) G18) fun x19 G20 =>
  bS (gd x12 false (bP (bn Q q .geq 3 (.tmp 23) (.tmp 26) x13 x19) fun y => some (y, G20)) G20) fun x21 G22 =>
  bP (pickV x12 (.bool true) x21) fun x23 =>
  ifV x23 (
  some ((.int .i64 (-1)), G22)) (
  bP (lda Q q 31 13 x0 G22) fun x24 =>
  bS (e.ev.cl 105 [x24] G22) fun x25 G26 =>
  bP (bn Q q .sub 3 (.tmp 31) (.const (.int .i64 4)) v2 (.int .i64 4)) fun x27 =>
  bS (e.ev.cl 274 [x25, (.int .i64 0), x27] G26) fun x28 G29 =>
  some (x28, G29))))
theorem m191 {e : Ex} {E : Ev} (h : ExLe Q e E) (v0 v1 v2 : Value) (G : GS) : Ref (s191 true e v0 v1 v2 G) (s191 false (Ex.of E) v0 v1 v2 G) := by
  unfold s191
  exact Ref.gq
theorem f191 {orc : FuncId → Bool} {e : Ex} (h : ExLe Q e (E orc)) (v0 v1 v2 : Value) (G : GS) : Ref (s191 true e v0 v1 v2 G) ((E orc).cl 191 [v0, v1, v2] G) :=
  fun r hr => cl_sxE_some Q orc (vs := [v0, v1, v2]) G Tryz.func191 (by kernel_rfl) (by kernel_rfl) (by kernel_rfl) (by kernel_rfl) (by kernel_rfl) (by kernel_rfl) (m191 h v0 v1 v2 G r hr)
/-- coxswain/word.Marked -/
noncomputable def s192 (q : Bool) (e : Ex) (v0 : Value) (G : GS) : Option (Value × GS) :=
  bP (bn Q q .shr 41 (.tmp 3) (.const (.int .u64 63)) v0 (.int .u64 63)) fun x0 =>
  bP (bn Q q .eql 41 (.tmp 4) (.const (.int .u64 1)) x0 (.int .u64 1)) fun x1 =>
  some (x1, G)
theorem m192 {e : Ex} {E : Ev} (h : ExLe Q e E) (v0 : Value) (G : GS) : Ref (s192 true e v0 G) (s192 false (Ex.of E) v0 G) := by
  unfold s192
  exact Ref.gq
theorem f192 {orc : FuncId → Bool} {e : Ex} (h : ExLe Q e (E orc)) (v0 : Value) (G : GS) : Ref (s192 true e v0 G) ((E orc).cl 192 [v0] G) :=
  fun r hr => cl_sxE_some Q orc (vs := [v0]) G Tryz.func192 (by kernel_rfl) (by kernel_rfl) (by kernel_rfl) (by kernel_rfl) (by kernel_rfl) (by kernel_rfl) (m192 h v0 G r hr)
/-- coxswain/word.Marks -/
noncomputable def s194 (q : Bool) (e : Ex) (v0 v1 : Value) (G : GS) : Option (Value × GS) :=
  ifV v1 (
  bP (bn Q q .or 41 (.tmp 6) (.const (.int .u64 9223372036854775808)) v0 (.int .u64 9223372036854775808)) fun x0 =>
  some (x0, G)) (
  bP (bn Q q .andNot 41 (.tmp 8) (.const (.int .u64 9223372036854775808)) v0 (.int .u64 9223372036854775808)) fun x1 =>
  some (x1, G))
theorem m194 {e : Ex} {E : Ev} (h : ExLe Q e E) (v0 v1 : Value) (G : GS) : Ref (s194 true e v0 v1 G) (s194 false (Ex.of E) v0 v1 G) := by
  unfold s194
  exact Ref.gq
theorem f194 {orc : FuncId → Bool} {e : Ex} (h : ExLe Q e (E orc)) (v0 v1 : Value) (G : GS) : Ref (s194 true e v0 v1 G) ((E orc).cl 194 [v0, v1] G) :=
  fun r hr => cl_sxE_some Q orc (vs := [v0, v1]) G Tryz.func194 (by kernel_rfl) (by kernel_rfl) (by kernel_rfl) (by kernel_rfl) (by kernel_rfl) (by kernel_rfl) (m194 h v0 v1 G r hr)
/-- coxswain/tower.Level -/
noncomputable def s201 (q : Bool) (e : Ex) (v0 v1 v2 : Value) (G : GS) : Option (Value × GS) :=
  bS (bx q v0 G) fun x0 G1 =>
  bS (al Q q 78 z78 G1) fun x2 G3 =>
  bP (lda Q q 31 13 x0 G3) fun x4 =>
  bS (e.ev.cl 69 [x4, (.int .i64 (-1)), v1] G3) fun x5 G6 =>
  bP (bn Q q .lss 3 (.tmp 11) (.const (.int .i64 0)) x5 (.int .i64 0)) fun x7 =>
  ifV x7 (
  bP (ld Q q 78 x2 G6) fun x8 =>
  some (x8, G6)) (
  bS (e.ev.cl 53 [v2] (G6.room 5)) fun x10 G9 =>
  bP (lda Q q 31 13 x0 G9) fun x11 =>
  chk ((sameO (lda Q q 31 13 x0 (G6.room 5)) x11 && true)) <|
  bS (e.ev.cl 282 [x10, x11, v1] G9) fun x13 G12 =>
  bX (xRange e.ev x13 #[19] (subAt [1, 1, 1, 0, 1, 0, 0] (bodyOf Tryz.f201)) (subAt [1, 1, 1, 0, 1, 0, 1] (bodyOf Tryz.f201)) (lsq q 25 (nth undef [v0, v1, v2]) [(18, x13), (17, v1), (16, x11), (15, x10), (14, v2), (12, x7), (11, x5), (10, v1), (9, x4), (7, x2), (6, (.slice none 0 0)), (3, x0)]) G12) fun e14 T15 G16 =>
  bV q (nth undef T15 7) fun T15x7_ =>
  ifE e14 .normal (
  bP (ld Q q 78 T15x7_ G16) fun x17 =>
  some (x17, G16)) (none))
theorem m201 {e : Ex} {E : Ev} (h : ExLe Q e E) (v0 v1 v2 : Value) (G : GS) : Ref (s201 true e v0 v1 v2 G) (s201 false (Ex.of E) v0 v1 v2 G) := by
  unfold s201
  exact Ref.gq
theorem f201 {orc : FuncId → Bool} {e : Ex} (h : ExLe Q e (E orc)) (v0 v1 v2 : Value) (G : GS) : Ref (s201 true e v0 v1 v2 G) ((E orc).cl 201 [v0, v1, v2] G) :=
  fun r hr => cl_sxE_some Q orc (vs := [v0, v1, v2]) G Tryz.func201 (by kernel_rfl) (by kernel_rfl) (by kernel_rfl) (by kernel_rfl) (by kernel_rfl) (by kernel_rfl) (m201 h v0 v1 v2 G r hr)
noncomputable def r201_0 (q : Bool) (e : Ex) (l : Nat) (τ : Env) (u0 : Value) (G : GS) : Option (Value × GS) :=
  bV q (τ 7) fun a7_ =>
  bP (G.loop l) fun r0 => if r0.st = .ready then
  bP (ld Q q 78 a7_ (G.putLoop l (Lp.setSt r0 .busy))) fun x1 =>
  bS (bs Q q 78 1 (rep z3 1) 1 [(0, 0, 1)] [u0] (G.putLoop l (Lp.setSt r0 .busy))) fun x2 G3 =>
  bS (ap Q q 78 78 1 8 x1 x2 G3) fun x4 G5 =>
  bP (st Q q 78 1 a7_ x4 G5) fun G6 =>
  roundEnd l .normal G6
  else none
theorem mr201_0 {e : Ex} {E : Ev} (h : ExLe Q e E) (l : Nat) (τ : Env) (u0 : Value) (G : GS) : Ref (r201_0 true e l τ u0 G) (r201_0 false (Ex.of E) l τ u0 G) := by
  unfold r201_0
  repeat' (with_reducible first | exact Ref.rfl' _ | exact ROp.r | refine Ref.bP ?_ fun _ => ?_ | refine Ref.bS ?_ fun _ _ => ?_ | exact Ref.cl (by assumption) | refine Ref.ifV ?_ ?_ | refine LpLe.rx (by assumption) ?_ | refine Ref.xitq ?_ | exact UOk.z | refine UOk.c (by assumption) ?_ | exact Ref.nil _ | refine Ref.bVe fun _ _ => ?_ | refine Ref.bLq (by assumption) ?_ fun _ _ _ => ?_ | refine Ref.ifE ?_ ?_ | refine Ref.chk ?_ ?_ | refine Imp.and ?_ ?_ | refine Imp.or ?_ | exact Imp.rfl' _ | refine Imp.sameO ?_ | refine Ref.gd ?_ | exact Ref.cValue (by assumption) | refine Ref.bX ?_ fun _ _ _ => ?_ | exact Ref.scQ (by assumption) | exact Ref.xRangeQ (by assumption) | exact Ref.cInvoke (by assumption) | refine Ref.rdy ?_)
theorem d201_0 {orc : FuncId → Bool} {e : Ex} (h : ExLe Q e (E orc)) (l : Nat) (T : List Value) (u0 : Value) (G : GS) {st : LoopState} {pend : Option Code} (hl : G.loop l = some ⟨st, pend, T, [19], (subAt [1, 1, 1, 0, 1, 0, 0] (bodyOf Tryz.f201)), (subAt [1, 1, 1, 0, 1, 0, 1] (bodyOf Tryz.f201))⟩) (hT : T.length = 25) : Ref (r201_0 true e l (nth undef T) u0 G) ((E orc).rd l [u0] G) :=
  fun r hr => rd_sxE Q orc hl (by kernel_rfl) hT (by kernel_rfl) (mr201_0 h l _ u0 G r hr)
/-- coxswain/stack.Chain -/
noncomputable def s202 (q : Bool) (e : Ex) (v0 v1 : Value) (G : GS) : Option (Value × GS) :=
  bS (bx q v0 G) fun x0 G1 =>
  bS (al Q q 78 z78 G1) fun x2 G3 =>
  bP (lda Q q 23 3 x0 (G3.room 4)) fun x4 =>
  bS (e.ev.cl 53 [v1] (G3.room 4)) fun x6 G5 =>
  chk ((sameO (lda Q q 23 3 x0 G5) x4 && true)) <|
  bS (e.ev.cl 283 [x4, x6] G5) fun x8 G7 =>
  bX (xRange e.ev x8 #[11] (subAt [1, 1, 0, 1, 0, 0] (bodyOf Tryz.f202)) (subAt [1, 1, 0, 1, 0, 1] (bodyOf Tryz.f202)) (lsq q 17 (nth undef [v0, v1]) [(10, x8), (9, x6), (8, v1), (7, x4), (5, x2), (4, (.slice none 0 0)), (2, x0)]) G7) fun e9 T10 G11 =>
  bV q (nth undef T10 5) fun T10x5_ =>
  ifE e9 .normal (
  bP (ld Q q 78 T10x5_ G11) fun x12 =>
  some (x12, G11)) (none)
theorem m202 {e : Ex} {E : Ev} (h : ExLe Q e E) (v0 v1 : Value) (G : GS) : Ref (s202 true e v0 v1 G) (s202 false (Ex.of E) v0 v1 G) := by
  unfold s202
  exact Ref.gq
theorem f202 {orc : FuncId → Bool} {e : Ex} (h : ExLe Q e (E orc)) (v0 v1 : Value) (G : GS) : Ref (s202 true e v0 v1 G) ((E orc).cl 202 [v0, v1] G) :=
  fun r hr => cl_sxE_some Q orc (vs := [v0, v1]) G Tryz.func202 (by kernel_rfl) (by kernel_rfl) (by kernel_rfl) (by kernel_rfl) (by kernel_rfl) (by kernel_rfl) (m202 h v0 v1 G r hr)
noncomputable def r202_0 (q : Bool) (e : Ex) (l : Nat) (τ : Env) (u0 : Value) (G : GS) : Option (Value × GS) :=
  bV q (τ 5) fun a5_ =>
  bP (G.loop l) fun r0 => if r0.st = .ready then
  bP (ld Q q 78 a5_ (G.putLoop l (Lp.setSt r0 .busy))) fun x1 =>
  bS (bs Q q 78 1 (rep z3 1) 1 [(0, 0, 1)] [u0] (G.putLoop l (Lp.setSt r0 .busy))) fun x2 G3 =>
  bS (ap Q q 78 78 1 8 x1 x2 G3) fun x4 G5 =>
  bP (st Q q 78 1 a5_ x4 G5) fun G6 =>
  roundEnd l .normal G6
  else none
theorem mr202_0 {e : Ex} {E : Ev} (h : ExLe Q e E) (l : Nat) (τ : Env) (u0 : Value) (G : GS) : Ref (r202_0 true e l τ u0 G) (r202_0 false (Ex.of E) l τ u0 G) := by
  unfold r202_0
  repeat' (with_reducible first | exact Ref.rfl' _ | exact ROp.r | refine Ref.bP ?_ fun _ => ?_ | refine Ref.bS ?_ fun _ _ => ?_ | exact Ref.cl (by assumption) | refine Ref.ifV ?_ ?_ | refine LpLe.rx (by assumption) ?_ | refine Ref.xitq ?_ | exact UOk.z | refine UOk.c (by assumption) ?_ | exact Ref.nil _ | refine Ref.bVe fun _ _ => ?_ | refine Ref.bLq (by assumption) ?_ fun _ _ _ => ?_ | refine Ref.ifE ?_ ?_ | refine Ref.chk ?_ ?_ | refine Imp.and ?_ ?_ | refine Imp.or ?_ | exact Imp.rfl' _ | refine Imp.sameO ?_ | refine Ref.gd ?_ | exact Ref.cValue (by assumption) | refine Ref.bX ?_ fun _ _ _ => ?_ | exact Ref.scQ (by assumption) | exact Ref.xRangeQ (by assumption) | exact Ref.cInvoke (by assumption) | refine Ref.rdy ?_)
theorem d202_0 {orc : FuncId → Bool} {e : Ex} (h : ExLe Q e (E orc)) (l : Nat) (T : List Value) (u0 : Value) (G : GS) {st : LoopState} {pend : Option Code} (hl : G.loop l = some ⟨st, pend, T, [11], (subAt [1, 1, 0, 1, 0, 0] (bodyOf Tryz.f202)), (subAt [1, 1, 0, 1, 0, 1] (bodyOf Tryz.f202))⟩) (hT : T.length = 17) : Ref (r202_0 true e l (nth undef T) u0 G) ((E orc).rd l [u0] G) :=
  fun r hr => rd_sxE Q orc hl (by kernel_rfl) hT (by kernel_rfl) (mr202_0 h l _ u0 G r hr)
/-- coxswain/word.GetRef -/
noncomputable def s203 (q : Bool) (e : Ex) (v0 : Value) (G : GS) : Option (Value × GS) :=
  bS (al Q q 289 z289 G) fun x0 G1 =>
  bS (e.ev.cl 284 [] G1) fun x2 G3 =>
  bS (al Q q 393 z393 G3) fun x4 G5 =>
  bP (st Q q 393 4 x4 x2 G5) fun G6 =>
  bP (iaa Q q 393 2 2 x4 (.int .i64 0)) fun x7 =>
  bP (lda Q q 392 2 x7 (G6.room 14)) fun x8 =>
  bS (e.ev.cl 272 [v0, x8] (G6.room 14)) fun x10 G9 =>
  bP (bn Q q .sub 3 (.tmp 12) (.const (.int .i64 1)) x10 (.int .i64 1)) fun x11 =>
  bP (iaa Q q 393 2 2 x4 (.int .i64 1)) fun x12 =>
  bP (lda Q q 392 2 x12 G9) fun x13 =>
  chk ((sameO (lda Q q 392 2 x12 (G6.room 14)) x13 && true)) <|
  bS (e.ev.cl 272 [v0, x13] G9) fun x15 G14 =>
  bS (e.ev.cl 192 [v0] G14) fun x17 G16 =>
  bP (bd Q q 289 z289 [(0, 0, 1), (1, 1, 1), (2, 2, 1)] [x11, x15, x17]) fun x18 =>
  bS (al Q q 289 z289 (G16.at' (G6.nx + 12))) fun x19 G20 =>
  bP (st Q q 289 3 x19 x18 (G20.back G16)) fun G21 =>
  bP (lda Q q 289 3 x19 G21) fun x22 =>
  bS (e.ev.cl 285 [x22] G21) fun x23 G24 =>
  bP (pExtract x23 0) fun x25 =>
  bP (pExtract x23 1) fun x26 =>
  bP (bn Q q .neq 33 (.tmp 26) (.const (.int .i64 0)) x26 (.int .i64 0)) fun x27 =>
  bS (gd x27 false (some (x25, G24)) G24) fun x28 G29 =>
  bS (gd x27 false (some (v0, G29)) G29) fun x30 G31 =>
  bS (gd x27 false (bP (bn Q q .neq 41 (.tmp 29) (.tmp 30) x28 x30) fun y => some (y, G31)) G31) fun x32 G33 =>
  bP (pickV x27 (.bool true) x32) fun x34 =>
  ifV x34 (
  bP (bd Q q 289 z289 [] []) fun x35 =>
  bP (st Q q 289 3 x0 x35 G33) fun G36 =>
  bP (lda Q q 289 3 x0 G36) fun x37 =>
  some (.tuple #[x37, (.int .i64 5)], G36)) (
  bP (lda Q q 289 3 x19 G33) fun x38 =>
  bP (st Q q 289 3 x0 x38 G33) fun G39 =>
  bP (lda Q q 289 3 x0 G39) fun x40 =>
  some (.tuple #[x40, (.int .i64 0)], G39))
theorem m203 {e : Ex} {E : Ev} (h : ExLe Q e E) (v0 : Value) (G : GS) : Ref (s203 true e v0 G) (s203 false (Ex.of E) v0 G) := by
  unfold s203
  exact Ref.gq
theorem f203 {orc : FuncId → Bool} {e : Ex} (h : ExLe Q e (E orc)) (v0 : Value) (G : GS) : Ref (s203 true e v0 G) ((E orc).cl 203 [v0] G) :=
  fun r hr => cl_sxE_some Q orc (vs := [v0]) G Tryz.func203 (by kernel_rfl) (by kernel_rfl) (by kernel_rfl) (by kernel_rfl) (by kernel_rfl) (by kernel_rfl) (m203 h v0 G r hr)
/-- coxswain/audit.low[int] -/
noncomputable def s204 (q : Bool) (e : Ex) (v0 v1 v2 : Value) (G : GS) : Option (Value × GS) :=
  bS (cValue e.ev v1 [v0] G) fun x0 G1 =>
  bP (bn Q q .sub 41 (.tmp 10) (.const (.int .u64 1)) v2 (.int .u64 1)) fun x2 =>
  bP (bn Q q .and 41 (.tmp 9) (.tmp 11) x0 x2) fun x3 =>
  some (x3, G1)
theorem m204 {e : Ex} {E : Ev} (h : ExLe Q e E) (v0 v1 v2 : Value) (G : GS) : Ref (s204 true e v0 v1 v2 G) (s204 false (Ex.of E) v0 v1 v2 G) := by
  unfold s204
  exact Ref.gq
theorem f204 {orc : FuncId → Bool} {e : Ex} (h : ExLe Q e (E orc)) (v0 v1 v2 : Value) (G : GS) : Ref (s204 true e v0 v1 v2 G) ((E orc).cl 204 [v0, v1, v2] G) :=
  fun r hr => cl_sxE_some Q orc (vs := [v0, v1, v2]) G Tryz.func204 (by kernel_rfl) (by kernel_rfl) (by kernel_rfl) (by kernel_rfl) (by kernel_rfl) (by kernel_rfl) (m204 h v0 v1 v2 G r hr)
noncomputable def b205_0 (q : Bool) (e : Ex) (lp : Env → GS → Option (Exit × Env × GS)) (τ : Env) (G : GS) : Option (Exit × Env × GS) :=
  bV q (τ 0) fun a0_ =>
  bV q (τ 18) fun a18_ =>
  bV q (τ 19) fun a19_ =>
  bV q (τ 20) fun a20_ =>
  bP (bn Q q .lss 3 (.tmp 20) (.tmp 19) a20_ a19_) fun x0 =>
  ifV x0 (
  bP (ias Q q 78 1 a18_ a20_) fun x1 =>
  bP (ld Q q 3 x1 G) fun x2 =>
  bS (cValue e.ev a0_ [x2, (.int .i64 1)] G) fun x3 G4 =>
  bP (un Q q .not x3) fun x5 =>
  ifV x5 (
  some (.ret, xq q 74 τ [(27, x5), (26, x3), (25, x2), (24, a0_), (4, x2), (23, x2), (22, x1), (21, x0)] [(0, a0_), (18, a18_), (19, a19_), (20, a20_)], G4)) (
  bP (bn Q q .add 3 (.tmp 20) (.const (.int .i64 1)) a20_ (.int .i64 1)) fun x6 =>
  lp (xq q 74 τ [(20, x6), (28, x6), (27, x5), (26, x3), (25, x2), (24, a0_), (4, x2), (23, x2), (22, x1), (21, x0)] [(0, a0_), (18, a18_), (19, a19_)]) G4)) (
  some ((.exit 0), xq q 74 τ [(21, x0)] [(0, a0_), (18, a18_), (19, a19_), (20, a20_)], G))
theorem mb205_0 {e : Ex} {E : Ev} (h : ExLe Q e E) {lp lp' : Env → GS → Option (Exit × Env × GS)} (hlp : LpLe lp lp') (τ : Env) (G : GS) : Ref (b205_0 true e lp τ G) (b205_0 false (Ex.of E) lp' τ G) := by
  unfold b205_0
  exact Ref.gq
theorem l205_0 {orc : FuncId → Bool} {e : Ex} (h : ExLe Q e (E orc)) (lp : Env → GS → Option (Exit × Env × GS)) (hlp : ∀ τ G, Ref (lp τ G) (mapE ((E orc).lp (subAt [0, 1, 0, 0] (bodyOf Tryz.f205)) (lst 74 τ) G))) (T : List Value) (G : GS) (hT : T.length = 74) : Ref (b205_0 true e lp (nth undef T) G) (mapE ((E orc).lp (subAt [0, 1, 0, 0] (bodyOf Tryz.f205)) T G)) :=
  fun r hr => lp_sxN Q orc G hT (by kernel_rfl) (mb205_0 h ⟨hlp⟩ _ _ r hr)
noncomputable def b205_1 (q : Bool) (e : Ex) (lp : Env → GS → Option (Exit × Env × GS)) (τ : Env) (G : GS) : Option (Exit × Env × GS) :=
  bV q (τ 0) fun a0_ =>
  bV q (τ 33) fun a33_ =>
  bV q (τ 34) fun a34_ =>
  bV q (τ 35) fun a35_ =>
  bP (bn Q q .lss 3 (.tmp 35) (.tmp 34) a35_ a34_) fun x0 =>
  ifV x0 (
  bP (ias Q q 78 1 a33_ a35_) fun x1 =>
  bP (ld Q q 3 x1 G) fun x2 =>
  bS (cValue e.ev a0_ [x2, (.int .i64 2)] G) fun x3 G4 =>
  bP (un Q q .not x3) fun x5 =>
  ifV x5 (
  some (.ret, xq q 74 τ [(42, x5), (41, x3), (40, x2), (39, a0_), (6, x2), (38, x2), (37, x1), (36, x0)] [(0, a0_), (33, a33_), (34, a34_), (35, a35_)], G4)) (
  bP (bn Q q .add 3 (.tmp 35) (.const (.int .i64 1)) a35_ (.int .i64 1)) fun x6 =>
  lp (xq q 74 τ [(35, x6), (43, x6), (42, x5), (41, x3), (40, x2), (39, a0_), (6, x2), (38, x2), (37, x1), (36, x0)] [(0, a0_), (33, a33_), (34, a34_)]) G4)) (
  some ((.exit 2), xq q 74 τ [(36, x0)] [(0, a0_), (33, a33_), (34, a34_), (35, a35_)], G))
theorem mb205_1 {e : Ex} {E : Ev} (h : ExLe Q e E) {lp lp' : Env → GS → Option (Exit × Env × GS)} (hlp : LpLe lp lp') (τ : Env) (G : GS) : Ref (b205_1 true e lp τ G) (b205_1 false (Ex.of E) lp' τ G) := by
  unfold b205_1
  exact Ref.gq
theorem l205_1 {orc : FuncId → Bool} {e : Ex} (h : ExLe Q e (E orc)) (lp : Env → GS → Option (Exit × Env × GS)) (hlp : ∀ τ G, Ref (lp τ G) (mapE ((E orc).lp (subAt [1, 0, 1, 0, 0] (bodyOf Tryz.f205)) (lst 74 τ) G))) (T : List Value) (G : GS) (hT : T.length = 74) : Ref (b205_1 true e lp (nth undef T) G) (mapE ((E orc).lp (subAt [1, 0, 1, 0, 0] (bodyOf Tryz.f205)) T G)) :=
  fun r hr => lp_sxN Q orc G hT (by kernel_rfl) (mb205_1 h ⟨hlp⟩ _ _ r hr)
noncomputable def b205_2 (q : Bool) (e : Ex) (lp : Env → GS → Option (Exit × Env × GS)) (τ : Env) (G : GS) : Option (Exit × Env × GS) :=
  bV q (τ 1) fun a1_ =>
  bV q (τ 44) fun a44_ =>
  bP (bn Q q .lss 3 (.tmp 44) (.const (.int .i64 3)) a44_ (.int .i64 3)) fun x0 =>
  ifV x0 (
  bP (fa Q q 174 0 0 a1_) fun x1 =>
  bP (fa Q q 31 3 3 x1) fun x2 =>
  bP (fa Q q 29 0 0 x2) fun x3 =>
  bP (fa Q q 25 0 0 x3) fun x4 =>
  bP (lda Q q 23 3 x4 G) fun x5 =>
  bS (al Q q 23 z23 G) fun x6 G7 =>
  bP (st Q q 23 3 x6 x5 G7) fun G8 =>
  bP (fa Q q 174 0 0 a1_) fun x9 =>
  bP (fa Q q 31 3 3 x9) fun x10 =>
  bP (fa Q q 29 2 9 x10) fun x11 =>
  bP (ld Q q 3 x11 G8) fun x12 =>
  bP (bn Q q .add 3 (.tmp 55) (.tmp 56) x12 a44_) fun x13 =>
  bP (fa Q q 23 0 0 x6) fun x14 =>
  bP (st Q q 3 1 x14 x13 G8) fun G15 =>
  bP (lda Q q 23 3 x6 G15) fun x16 =>
  bP (fa Q q 174 1 13 a1_) fun x17 =>
  bP (ld Q q 32 x17 G15) fun x18 =>
  bS (e.ev.cl 202 [x16, x18] G15) fun x19 G20 =>
  bP (ln Q q 78 x19) fun x21 =>
  bLq q e 205 3 (subAt [1, 1, 1, 0, 0, 1, 1, 0, 0, 1, 1, 1, 1, 0, 0] (bodyOf Tryz.f205)) 74 τ [(64, (.int .i64 0)), (63, x21), (62, x19), (61, x18), (60, x17), (59, x16), (58, x14), (57, x13), (56, a44_), (55, x12), (54, x11), (53, x10), (52, x9), (8, x6), (51, x5), (50, x4), (49, x3), (48, x2), (47, x1), (7, a44_), (46, a44_), (45, x0)] [] G20 fun e22 t23 G24 =>
  bV q (t23 1) fun t23x1_ =>
  bV q (t23 44) fun t23x44_ =>
  ifE e22 (.exit 6) (
  bP (bn Q q .add 3 (.tmp 44) (.const (.int .i64 1)) t23x44_ (.int .i64 1)) fun x25 =>
  lp (xq q 74 t23 [(44, x25), (73, x25)] [(1, t23x1_)]) G24) (ifE e22 .ret (
  some (.ret, xq q 74 t23 [] [(1, t23x1_), (44, t23x44_)], G24)) (none))) (
  some ((.exit 4), xq q 74 τ [(45, x0)] [(1, a1_), (44, a44_)], G))
theorem mb205_2 {e : Ex} {E : Ev} (h : ExLe Q e E) {lp lp' : Env → GS → Option (Exit × Env × GS)} (hlp : LpLe lp lp') (τ : Env) (G : GS) : Ref (b205_2 true e lp τ G) (b205_2 false (Ex.of E) lp' τ G) := by
  unfold b205_2
  exact Ref.gq
theorem l205_2 {orc : FuncId → Bool} {e : Ex} (h : ExLe Q e (E orc)) (lp : Env → GS → Option (Exit × Env × GS)) (hlp : ∀ τ G, Ref (lp τ G) (mapE ((E orc).lp (subAt [1, 1, 1, 0, 0] (bodyOf Tryz.f205)) (lst 74 τ) G))) (T : List Value) (G : GS) (hT : T.length = 74) : Ref (b205_2 true e lp (nth undef T) G) (mapE ((E orc).lp (subAt [1, 1, 1, 0, 0] (bodyOf Tryz.f205)) T G)) :=
  fun r hr => lp_sxN Q orc G hT (by kernel_rfl) (mb205_2 h ⟨hlp⟩ _ _ r hr)
noncomputable def b205_3 (q : Bool) (e : Ex) (lp : Env → GS → Option (Exit × Env × GS)) (τ : Env) (G : GS) : Option (Exit × Env × GS) :=
  bV q (τ 0) fun a0_ =>
  bV q (τ 62) fun a62_ =>
  bV q (τ 63) fun a63_ =>
  bV q (τ 64) fun a64_ =>
  bP (bn Q q .lss 3 (.tmp 64) (.tmp 63) a64_ a63_) fun x0 =>
  ifV x0 (
  bP (ias Q q 78 1 a62_ a64_) fun x1 =>
  bP (ld Q q 3 x1 G) fun x2 =>
  bS (cValue e.ev a0_ [x2, (.int .i64 3)] G) fun x3 G4 =>
  bP (un Q q .not x3) fun x5 =>
  ifV x5 (
  some (.ret, xq q 74 τ [(71, x5), (70, x3), (69, x2), (68, a0_), (10, x2), (67, x2), (66, x1), (65, x0)] [(0, a0_), (62, a62_), (63, a63_), (64, a64_)], G4)) (
  bP (bn Q q .add 3 (.tmp 64) (.const (.int .i64 1)) a64_ (.int .i64 1)) fun x6 =>
  lp (xq q 74 τ [(64, x6), (72, x6), (71, x5), (70, x3), (69, x2), (68, a0_), (10, x2), (67, x2), (66, x1), (65, x0)] [(0, a0_), (62, a62_), (63, a63_)]) G4)) (
  some ((.exit 6), xq q 74 τ [(65, x0)] [(0, a0_), (62, a62_), (63, a63_), (64, a64_)], G))
theorem mb205_3 {e : Ex} {E : Ev} (h : ExLe Q e E) {lp lp' : Env → GS → Option (Exit × Env × GS)} (hlp : LpLe lp lp') (τ : Env) (G : GS) : Ref (b205_3 true e lp τ G) (b205_3 false (Ex.of E) lp' τ G) := by
  unfold b205_3
  exact Ref.gq
theorem l205_3 {orc : FuncId → Bool} {e : Ex} (h : ExLe Q e (E orc)) (lp : Env → GS → Option (Exit × Env × GS)) (hlp : ∀ τ G, Ref (lp τ G) (mapE ((E orc).lp (subAt [1, 1, 1, 0, 0, 1, 1, 0, 0, 1, 1, 1, 1, 0, 0] (bodyOf Tryz.f205)) (lst 74 τ) G))) (T : List Value) (G : GS) (hT : T.length = 74) : Ref (b205_3 true e lp (nth undef T) G) (mapE ((E orc).lp (subAt [1, 1, 1, 0, 0, 1, 1, 0, 0, 1, 1, 1, 1, 0, 0] (bodyOf Tryz.f205)) T G)) :=
  fun r hr => lp_sxN Q orc G hT (by kernel_rfl) (mb205_3 h ⟨hlp⟩ _ _ r hr)
/-- (coxswain/audit.whole).places$1 -/
noncomputable def s205 (q : Bool) (e : Ex) (v0 v1 : Value) (G : GS) : Option (Value × GS) :=
  bP (fa Q q 174 0 0 v1) fun x0 =>
  bP (fa Q q 31 3 3 x0) fun x1 =>
  bP (fa Q q 29 0 0 x1) fun x2 =>
  bP (fa Q q 25 0 0 x2) fun x3 =>
  bP (lda Q q 23 3 x3 G) fun x4 =>
  bP (fa Q q 174 1 13 v1) fun x5 =>
  bP (ld Q q 32 x5 G) fun x6 =>
  bS (e.ev.cl 202 [x4, x6] G) fun x7 G8 =>
  bP (ln Q q 78 x7) fun x9 =>
  bLq q e 205 0 (subAt [0, 1, 0, 0] (bodyOf Tryz.f205)) 74 (nth undef [v0, v1]) [(20, (.int .i64 0)), (19, x9), (18, x7), (17, x6), (16, x5), (15, x4), (14, x3), (13, x2), (12, x1), (11, x0)] [] G8 fun e10 t11 G12 =>
  bV q (t11 1) fun t11x1_ =>
  ifE e10 (.exit 0) (
  bP (fa Q q 174 0 0 t11x1_) fun x13 =>
  bP (lda Q q 31 13 x13 G12) fun x14 =>
  bP (fa Q q 174 1 13 t11x1_) fun x15 =>
  bP (ld Q q 32 x15 G12) fun x16 =>
  bS (e.ev.cl 201 [x14, (.int .i64 0), x16] G12) fun x17 G18 =>
  bP (ln Q q 78 x17) fun x19 =>
  bLq q e 205 1 (subAt [1, 0, 1, 0, 0] (bodyOf Tryz.f205)) 74 t11 [(35, (.int .i64 0)), (34, x19), (33, x17), (32, x16), (31, x15), (30, x14), (29, x13)] [] G18 fun e20 t21 G22 =>
  ifE e20 (.exit 2) (
  bLq q e 205 2 (subAt [1, 1, 1, 0, 0] (bodyOf Tryz.f205)) 74 t21 [(44, (.int .i64 0))] [] G22 fun e23 t24 G25 =>
  ifE e23 (.exit 4) (
  some (.tuple #[], G25)) (ifE e23 .ret (
  some (.tuple #[], G25)) (none))) (ifE e20 .ret (
  some (.tuple #[], G22)) (none))) (ifE e10 .ret (
  some (.tuple #[], G12)) (none))
theorem m205 {e : Ex} {E : Ev} (h : ExLe Q e E) (v0 v1 : Value) (G : GS) : Ref (s205 true e v0 v1 G) (s205 false (Ex.of E) v0 v1 G) := by
  unfold s205
  exact Ref.gq
theorem f205 {orc : FuncId → Bool} {e : Ex} (h : ExLe Q e (E orc)) (v0 v1 : Value) (G : GS) : Ref (s205 true e v0 v1 G) ((E orc).cl 205 [v0, v1] G) :=
  fun r hr => cl_sxE_some Q orc (vs := [v0, v1]) G Tryz.func205 (by kernel_rfl) (by kernel_rfl) (by kernel_rfl) (by kernel_rfl) (by kernel_rfl) (by kernel_rfl) (m205 h v0 v1 G r hr)
noncomputable def b206_0 (q : Bool) (e : Ex) (lp : Env → GS → Option (Exit × Env × GS)) (τ : Env) (G : GS) : Option (Exit × Env × GS) :=
  bV q (τ 2) fun a2_ =>
  bV q (τ 3) fun a3_ =>
  bV q (τ 7) fun a7_ =>
  bP (fa Q q 174 0 0 a3_) fun x0 =>
  bP (fa Q q 31 2 2 x0) fun x1 =>
  bP (ld Q q 3 x1 G) fun x2 =>
  bP (bn Q q .lss 3 (.tmp 9) (.tmp 12) a7_ x2) fun x3 =>
  ifV x3 (
  bP (fa Q q 174 0 0 a3_) fun x4 =>
  bP (lda Q q 31 13 x4 G) fun x5 =>
  bP (fa Q q 174 1 13 a3_) fun x6 =>
  bP (ld Q q 32 x6 G) fun x7 =>
  bS (e.ev.cl 201 [x5, a7_, x7] G) fun x8 G9 =>
  bS (cValue e.ev a2_ [a7_, x8] G9) fun x10 G11 =>
  bP (un Q q .not x10) fun x12 =>
  ifV x12 (
  some (.ret, xq q 26 τ [(6, (.bool false)), (25, x12), (24, x10), (23, x8), (22, x7), (21, x6), (20, a7_), (19, x5), (18, x4), (17, a7_), (16, a2_), (13, x3), (12, x2), (11, x1), (10, x0), (9, a7_)] [(2, a2_), (3, a3_), (7, a7_)], G11)) (
  bP (bn Q q .add 3 (.tmp 14) (.const (.int .i64 1)) a7_ (.int .i64 1)) fun x13 =>
  lp (xq q 26 τ [(7, x13), (15, x13), (14, a7_), (25, x12), (24, x10), (23, x8), (22, x7), (21, x6), (20, a7_), (19, x5), (18, x4), (17, a7_), (16, a2_), (13, x3), (12, x2), (11, x1), (10, x0), (9, a7_)] [(2, a2_), (3, a3_)]) G11)) (
  some ((.exit 0), xq q 26 τ [(13, x3), (12, x2), (11, x1), (10, x0), (9, a7_)] [(2, a2_), (3, a3_), (7, a7_)], G))
theorem mb206_0 {e : Ex} {E : Ev} (h : ExLe Q e E) {lp lp' : Env → GS → Option (Exit × Env × GS)} (hlp : LpLe lp lp') (τ : Env) (G : GS) : Ref (b206_0 true e lp τ G) (b206_0 false (Ex.of E) lp' τ G) := by
  unfold b206_0
  exact Ref.gq
theorem l206_0 {orc : FuncId → Bool} {e : Ex} (h : ExLe Q e (E orc)) (lp : Env → GS → Option (Exit × Env × GS)) (hlp : ∀ τ G, Ref (lp τ G) (mapE ((E orc).lp (subAt [1, 0, 1, 0, 0] (bodyOf Tryz.f206)) (lst 26 τ) G))) (T : List Value) (G : GS) (hT : T.length = 26) : Ref (b206_0 true e lp (nth undef T) G) (mapE ((E orc).lp (subAt [1, 0, 1, 0, 0] (bodyOf Tryz.f206)) T G)) :=
  fun r hr => lp_sxN Q orc G hT (by kernel_rfl) (mb206_0 h ⟨hlp⟩ _ _ r hr)
/-- (coxswain/audit.whole).levels -/
noncomputable def s206 (q : Bool) (e : Ex) (v0 v1 v2 : Value) (G : GS) : Option (Value × GS) :=
  bS (bx q v0 G) fun x0 G1 =>
  bLq q e 206 0 (subAt [1, 0, 1, 0, 0] (bodyOf Tryz.f206)) 26 (nth undef [v0, v1, v2]) [(7, v1), (8, v1), (6, (.bool false)), (3, x0)] [] G1 fun e2 t3 G4 =>
  bV q (t3 6) fun t3x6_ =>
  ifE e2 (.exit 0) (
  some ((.bool true), G4)) (ifE e2 .ret (
  some (t3x6_, G4)) (none))
theorem m206 {e : Ex} {E : Ev} (h : ExLe Q e E) (v0 v1 v2 : Value) (G : GS) : Ref (s206 true e v0 v1 v2 G) (s206 false (Ex.of E) v0 v1 v2 G) := by
  unfold s206
  exact Ref.gq
theorem f206 {orc : FuncId → Bool} {e : Ex} (h : ExLe Q e (E orc)) (v0 v1 v2 : Value) (G : GS) : Ref (s206 true e v0 v1 v2 G) ((E orc).cl 206 [v0, v1, v2] G) :=
  fun r hr => cl_sxE_some Q orc (vs := [v0, v1, v2]) G Tryz.func206 (by kernel_rfl) (by kernel_rfl) (by kernel_rfl) (by kernel_rfl) (by kernel_rfl) (by kernel_rfl) (m206 h v0 v1 v2 G r hr)
noncomputable def b207_0 (q : Bool) (e : Ex) (lp : Env → GS → Option (Exit × Env × GS)) (τ : Env) (G : GS) : Option (Exit × Env × GS) :=
  bV q (τ 0) fun a0_ =>
  bV q (τ 2) fun a2_ =>
  bV q (τ 6) fun a6_ =>
  bV q (τ 9) fun a9_ =>
  bV q (τ 10) fun a10_ =>
  bV q (τ 11) fun a11_ =>
  bP (bn Q q .lss 3 (.tmp 11) (.tmp 10) a11_ a10_) fun x0 =>
  ifV x0 (
  bP (ias Q q 78 1 a9_ a11_) fun x1 =>
  bP (ld Q q 3 x1 G) fun x2 =>
  bP (lda Q q 174 15 a2_ (G.room 11)) fun x3 =>
  bP (lda Q q 174 15 a2_ (G.room 11)) fun x4 =>
  bP (fa Q q 174 0 0 a2_) fun x5 =>
  bP (lda Q q 31 13 x5 (G.room 11)) fun x6 =>
  bS (e.ev.cl 69 [x6, a6_, a0_] (G.room 11)) fun x8 G7 =>
  chk ((sameO (lda Q q 174 15 a2_ G7) x4 && (sameO (lda Q q 174 15 a2_ G7) x3 && true))) <|
  bS (e.ev.cl 91 [x4, x8] G7) fun x10 G9 =>
  chk ((sameO (lda Q q 174 15 a2_ G9) x3 && true)) <|
  bS (e.ev.cl 88 [x3, x10, x2] G9) fun x12 G11 =>
  bP (un Q q .not x12) fun x13 =>
  ifV x13 (
  some (.ret, xq q 36 τ [(5, (.bool false)), (25, x13), (24, x12), (23, x2), (22, x10), (21, x8), (20, a0_), (19, a6_), (18, x6), (17, x5), (16, x4), (15, x3), (8, x2), (14, x2), (13, x1), (12, x0)] [(0, a0_), (2, a2_), (6, a6_), (9, a9_), (10, a10_), (11, a11_)], G11)) (
  bP (bn Q q .add 3 (.tmp 11) (.const (.int .i64 1)) a11_ (.int .i64 1)) fun x14 =>
  lp (xq q 36 τ [(11, x14), (27, x14), (6, x2), (26, x2), (25, x13), (24, x12), (23, x2), (22, x10), (21, x8), (20, a0_), (19, a6_), (18, x6), (17, x5), (16, x4), (15, x3), (8, x2), (14, x2), (13, x1), (12, x0)] [(0, a0_), (2, a2_), (9, a9_), (10, a10_)]) G11)) (
  some ((.exit 0), xq q 36 τ [(12, x0)] [(0, a0_), (2, a2_), (6, a6_), (9, a9_), (10, a10_), (11, a11_)], G))
theorem mb207_0 {e : Ex} {E : Ev} (h : ExLe Q e E) {lp lp' : Env → GS → Option (Exit × Env × GS)} (hlp : LpLe lp lp') (τ : Env) (G : GS) : Ref (b207_0 true e lp τ G) (b207_0 false (Ex.of E) lp' τ G) := by
  unfold b207_0
  exact Ref.gq
theorem l207_0 {orc : FuncId → Bool} {e : Ex} (h : ExLe Q e (E orc)) (lp : Env → GS → Option (Exit × Env × GS)) (hlp : ∀ τ G, Ref (lp τ G) (mapE ((E orc).lp (subAt [1, 1, 0, 1, 0, 0] (bodyOf Tryz.f207)) (lst 36 τ) G))) (T : List Value) (G : GS) (hT : T.length = 36) : Ref (b207_0 true e lp (nth undef T) G) (mapE ((E orc).lp (subAt [1, 1, 0, 1, 0, 0] (bodyOf Tryz.f207)) T G)) :=
  fun r hr => lp_sxN Q orc G hT (by kernel_rfl) (mb207_0 h ⟨hlp⟩ _ _ r hr)
/-- (coxswain/audit.whole).linked$1 -/
noncomputable def s207 (q : Bool) (e : Ex) (v0 v1 v2 : Value) (G : GS) : Option (Value × GS) :=
  bP (ln Q q 78 v1) fun x0 =>
  bLq q e 207 0 (subAt [1, 1, 0, 1, 0, 0] (bodyOf Tryz.f207)) 36 (nth undef [v0, v1, v2]) [(11, (.int .i64 0)), (10, x0), (9, v1), (6, (.int .i64 (-1))), (5, (.bool false))] [] G fun e1 t2 G3 =>
  bV q (t2 0) fun t2x0_ =>
  bV q (t2 2) fun t2x2_ =>
  bV q (t2 5) fun t2x5_ =>
  bV q (t2 6) fun t2x6_ =>
  ifE e1 (.exit 0) (
  bP (lda Q q 174 15 t2x2_ (G3.room 9)) fun x4 =>
  bP (fa Q q 174 0 0 t2x2_) fun x5 =>
  bP (lda Q q 31 13 x5 (G3.room 9)) fun x6 =>
  bS (e.ev.cl 69 [x6, t2x6_, t2x0_] (G3.room 9)) fun x8 G7 =>
  chk ((sameO (lda Q q 174 15 t2x2_ G7) x4 && true)) <|
  bS (e.ev.cl 91 [x4, x8] G7) fun x10 G9 =>
  bP (bn Q q .eql 41 (.tmp 34) (.const (.int .u64 0)) x10 (.int .u64 0)) fun x11 =>
  some (x11, G9)) (ifE e1 .ret (
  some (t2x5_, G3)) (none))
theorem m207 {e : Ex} {E : Ev} (h : ExLe Q e E) (v0 v1 v2 : Value) (G : GS) : Ref (s207 true e v0 v1 v2 G) (s207 false (Ex.of E) v0 v1 v2 G) := by
  unfold s207
  exact Ref.gq
theorem f207 {orc : FuncId → Bool} {e : Ex} (h : ExLe Q e (E orc)) (v0 v1 v2 : Value) (G : GS) : Ref (s207 true e v0 v1 v2 G) ((E orc).cl 207 [v0, v1, v2] G) :=
  fun r hr => cl_sxE_some Q orc (vs := [v0, v1, v2]) G Tryz.func207 (by kernel_rfl) (by kernel_rfl) (by kernel_rfl) (by kernel_rfl) (by kernel_rfl) (by kernel_rfl) (m207 h v0 v1 v2 G r hr)
/-- (coxswain/audit.whole).rises$1 -/
noncomputable def s208 (q : Bool) (e : Ex) (v0 v1 : Value) (G : GS) : Option (Value × GS) :=
  bP (lda Q q 174 15 v1 (G.room 7)) fun x0 =>
  bP (fa Q q 174 0 0 v1) fun x1 =>
  bP (lda Q q 31 13 x1 (G.room 7)) fun x2 =>
  bS (e.ev.cl 191 [x2, v0, (.int .i64 0)] (G.room 7)) fun x4 G3 =>
  chk ((sameO (lda Q q 174 15 v1 G3) x0 && true)) <|
  bS (e.ev.cl 91 [x0, x4] G3) fun x6 G5 =>
  some (x6, G5)
theorem m208 {e : Ex} {E : Ev} (h : ExLe Q e E) (v0 v1 : Value) (G : GS) : Ref (s208 true e v0 v1 G) (s208 false (Ex.of E) v0 v1 G) := by
  unfold s208
  exact Ref.gq
theorem f208 {orc : FuncId → Bool} {e : Ex} (h : ExLe Q e (E orc)) (v0 v1 : Value) (G : GS) : Ref (s208 true e v0 v1 G) ((E orc).cl 208 [v0, v1] G) :=
  fun r hr => cl_sxE_some Q orc (vs := [v0, v1]) G Tryz.func208 (by kernel_rfl) (by kernel_rfl) (by kernel_rfl) (by kernel_rfl) (by kernel_rfl) (by kernel_rfl) (m208 h v0 v1 G r hr)
noncomputable def b209_0 (q : Bool) (e : Ex) (lp : Env → GS → Option (Exit × Env × GS)) (τ : Env) (G : GS) : Option (Exit × Env × GS) :=
  bV q (τ 1) fun a1_ =>
  bV q (τ 2) fun a2_ =>
  bV q (τ 6) fun a6_ =>
  bP (ln Q q 78 a1_) fun x0 =>
  bP (bn Q q .lss 3 (.tmp 7) (.tmp 9) a6_ x0) fun x1 =>
  ifV x1 (
  bP (ld Q q 180 a2_ (G.room 14)) fun x2 =>
  bP (ias Q q 78 1 a1_ a6_) fun x3 =>
  bP (ld Q q 3 x3 (G.room 14)) fun x4 =>
  bS (cValue e.ev x2 [x4] (G.room 14)) fun x6 G5 =>
  bP (ld Q q 180 a2_ G5) fun x7 =>
  chk ((sameO (ld Q q 180 a2_ (G.room 14)) x7 && true)) <|
  bP (bn Q q .sub 3 (.tmp 21) (.const (.int .i64 1)) a6_ (.int .i64 1)) fun x8 =>
  bP (ias Q q 78 1 a1_ x8) fun x9 =>
  bP (ld Q q 3 x9 G5) fun x10 =>
  chk ((sameO (ld Q q 3 x9 (G.room 14)) x10 && true)) <|
  bS (cValue e.ev x7 [x10] G5) fun x12 G11 =>
  bP (bn Q q .leq 41 (.tmp 18) (.tmp 25) x6 x12) fun x13 =>
  ifV x13 (
  some (.ret, xq q 27 τ [(5, (.bool false)), (26, x13), (25, x12), (24, x10), (23, x9), (22, x8), (21, a6_), (20, a1_), (19, x7), (18, x6), (17, x4), (16, x3), (15, a6_), (14, a1_), (13, x2), (10, x1), (9, x0), (8, a1_), (7, a6_)] [(1, a1_), (2, a2_), (6, a6_)], G11)) (
  bP (bn Q q .add 3 (.tmp 11) (.const (.int .i64 1)) a6_ (.int .i64 1)) fun x14 =>
  lp (xq q 27 τ [(6, x14), (12, x14), (11, a6_), (26, x13), (25, x12), (24, x10), (23, x9), (22, x8), (21, a6_), (20, a1_), (19, x7), (18, x6), (17, x4), (16, x3), (15, a6_), (14, a1_), (13, x2), (10, x1), (9, x0), (8, a1_), (7, a6_)] [(1, a1_), (2, a2_)]) G11)) (
  some ((.exit 0), xq q 27 τ [(10, x1), (9, x0), (8, a1_), (7, a6_)] [(1, a1_), (2, a2_), (6, a6_)], G))
theorem mb209_0 {e : Ex} {E : Ev} (h : ExLe Q e E) {lp lp' : Env → GS → Option (Exit × Env × GS)} (hlp : LpLe lp lp') (τ : Env) (G : GS) : Ref (b209_0 true e lp τ G) (b209_0 false (Ex.of E) lp' τ G) := by
  unfold b209_0
  exact Ref.gq
theorem l209_0 {orc : FuncId → Bool} {e : Ex} (h : ExLe Q e (E orc)) (lp : Env → GS → Option (Exit × Env × GS)) (hlp : ∀ τ G, Ref (lp τ G) (mapE ((E orc).lp (subAt [1, 0, 1, 0, 0] (bodyOf Tryz.f209)) (lst 27 τ) G))) (T : List Value) (G : GS) (hT : T.length = 27) : Ref (b209_0 true e lp (nth undef T) G) (mapE ((E orc).lp (subAt [1, 0, 1, 0, 0] (bodyOf Tryz.f209)) T G)) :=
  fun r hr => lp_sxN Q orc G hT (by kernel_rfl) (mb209_0 h ⟨hlp⟩ _ _ r hr)
/-- (coxswain/audit.whole).rises$2 -/
noncomputable def s209 (q : Bool) (e : Ex) (v0 v1 v2 : Value) (G : GS) : Option (Value × GS) :=
  bLq q e 209 0 (subAt [1, 0, 1, 0, 0] (bodyOf Tryz.f209)) 27 (nth undef [v0, v1, v2]) [(6, (.int .i64 1)), (5, (.bool false))] [] G fun e0 t1 G2 =>
  bV q (t1 5) fun t1x5_ =>
  ifE e0 (.exit 0) (
  some ((.bool true), G2)) (ifE e0 .ret (
  some (t1x5_, G2)) (none))
theorem m209 {e : Ex} {E : Ev} (h : ExLe Q e E) (v0 v1 v2 : Value) (G : GS) : Ref (s209 true e v0 v1 v2 G) (s209 false (Ex.of E) v0 v1 v2 G) := by
  unfold s209
  exact Ref.gq
theorem f209 {orc : FuncId → Bool} {e : Ex} (h : ExLe Q e (E orc)) (v0 v1 v2 : Value) (G : GS) : Ref (s209 true e v0 v1 v2 G) ((E orc).cl 209 [v0, v1, v2] G) :=
  fun r hr => cl_sxE_some Q orc (vs := [v0, v1, v2]) G Tryz.func209 (by kernel_rfl) (by kernel_rfl) (by kernel_rfl) (by kernel_rfl) (by kernel_rfl) (by kernel_rfl) (m209 h v0 v1 v2 G r hr)
noncomputable def b210_0 (q : Bool) (e : Ex) (lp : Env → GS → Option (Exit × Env × GS)) (τ : Env) (G : GS) : Option (Exit × Env × GS) :=
  bV q (τ 0) fun a0_ =>
  bV q (τ 1) fun a1_ =>
  bV q (τ 3) fun a3_ =>
  bV q (τ 9) fun a9_ =>
  bV q (τ 10) fun a10_ =>
  bV q (τ 11) fun a11_ =>
  bP (bn Q q .lss 3 (.tmp 11) (.tmp 10) a11_ a10_) fun x0 =>
  ifV x0 (
  bP (ias Q q 78 1 a9_ a11_) fun x1 =>
  bP (ld Q q 3 x1 G) fun x2 =>
  bP (lda Q q 174 15 a3_ (G.room 9)) fun x3 =>
  bP (fa Q q 174 0 0 a3_) fun x4 =>
  bP (lda Q q 31 13 x4 (G.room 9)) fun x5 =>
  bS (e.ev.cl 191 [x5, x2, (.int .i64 2)] (G.room 9)) fun x7 G6 =>
  chk ((sameO (lda Q q 174 15 a3_ G6) x3 && true)) <|
  bS (e.ev.cl 91 [x3, x7] G6) fun x9 G8 =>
  bP (cv Q q 3 41 .i64 .u64 a0_) fun x10 =>
  bP (bn Q q .leq 41 (.tmp 20) (.tmp 22) x9 x10) fun x11 =>
  ifV x11 (
  bP (bn Q q .add 3 (.tmp 11) (.const (.int .i64 1)) a11_ (.int .i64 1)) fun x12 =>
  lp (xq q 40 τ [(11, x12), (36, x12), (23, x11), (22, x10), (21, a0_), (20, x9), (19, x7), (18, x2), (17, x5), (16, x4), (15, x3), (8, x2), (14, x2), (13, x1), (12, x0)] [(0, a0_), (1, a1_), (3, a3_), (9, a9_), (10, a10_)]) G8) (
  bP (ln Q q 78 a1_) fun x13 =>
  bP (bn Q q .eql 3 (.tmp 25) (.const (.int .i64 0)) x13 (.int .i64 0)) fun x14 =>
  bS (gd x14 false (some (a1_, G8)) G8) fun x15 G16 =>
  bS (gd x14 false (bP (ias Q q 78 1 x15 (.int .i64 0)) fun y => some (y, G16)) G16) fun x17 G18 =>
  bS (gd x14 false (bP (ld Q q 3 x17 G18) fun y => some (y, G18)) G18) fun x19 G20 =>
  bS (gd x14 false (some (x2, G20)) G20) fun x21 G22 =>
  bS (gd x14 false (bP (bn Q q .neq 3 (.tmp 30) (.tmp 31) x19 x21) fun y => some (y, G22)) G22) fun x23 G24 =>
  bP (pickV x14 (.bool true) x23) fun x25 =>
  ifV x25 (
  some (.ret, xq q 40 τ [(6, (.bool false)), (33, x25), (32, x23), (31, x21), (30, x19), (29, x17), (28, x15), (27, x14), (26, x14), (25, x13), (24, a1_), (23, x11), (22, x10), (21, a0_), (20, x9), (19, x7), (18, x2), (17, x5), (16, x4), (15, x3), (8, x2), (14, x2), (13, x1), (12, x0)] [(0, a0_), (1, a1_), (3, a3_), (9, a9_), (10, a10_), (11, a11_)], G24)) (
  bP (sl Q q 78 1 a1_ (some (.int .i64 1)) none none G24) fun x26 =>
  bP (bn Q q .add 3 (.tmp 11) (.const (.int .i64 1)) a11_ (.int .i64 1)) fun x27 =>
  lp (xq q 40 τ [(11, x27), (36, x27), (1, x26), (35, x26), (34, a1_), (33, x25), (32, x23), (31, x21), (30, x19), (29, x17), (28, x15), (27, x14), (26, x14), (25, x13), (24, a1_), (23, x11), (22, x10), (21, a0_), (20, x9), (19, x7), (18, x2), (17, x5), (16, x4), (15, x3), (8, x2), (14, x2), (13, x1), (12, x0)] [(0, a0_), (3, a3_), (9, a9_), (10, a10_)]) G24))) (
  some ((.exit 0), xq q 40 τ [(12, x0)] [(0, a0_), (1, a1_), (3, a3_), (9, a9_), (10, a10_), (11, a11_)], G))
theorem mb210_0 {e : Ex} {E : Ev} (h : ExLe Q e E) {lp lp' : Env → GS → Option (Exit × Env × GS)} (hlp : LpLe lp lp') (τ : Env) (G : GS) : Ref (b210_0 true e lp τ G) (b210_0 false (Ex.of E) lp' τ G) := by
  unfold b210_0
  exact Ref.gq
theorem l210_0 {orc : FuncId → Bool} {e : Ex} (h : ExLe Q e (E orc)) (lp : Env → GS → Option (Exit × Env × GS)) (hlp : ∀ τ G, Ref (lp τ G) (mapE ((E orc).lp (subAt [1, 0, 1, 0, 0] (bodyOf Tryz.f210)) (lst 40 τ) G))) (T : List Value) (G : GS) (hT : T.length = 40) : Ref (b210_0 true e lp (nth undef T) G) (mapE ((E orc).lp (subAt [1, 0, 1, 0, 0] (bodyOf Tryz.f210)) T G)) :=
  fun r hr => lp_sxN Q orc G hT (by kernel_rfl) (mb210_0 h ⟨hlp⟩ _ _ r hr)
/-- (coxswain/audit.whole).stands$1 -/
noncomputable def s210 (q : Bool) (e : Ex) (v0 v1 v2 v3 : Value) (G : GS) : Option (Value × GS) :=
  bP (ld Q q 78 v2 G) fun x0 =>
  bP (ln Q q 78 x0) fun x1 =>
  bLq q e 210 0 (subAt [1, 0, 1, 0, 0] (bodyOf Tryz.f210)) 40 (nth undef [v0, v1, v2, v3]) [(11, (.int .i64 0)), (10, x1), (9, x0), (6, (.bool false))] [] G fun e2 t3 G4 =>
  bV q (t3 1) fun t3x1_ =>
  bV q (t3 6) fun t3x6_ =>
  ifE e2 (.exit 0) (
  bP (ln Q q 78 t3x1_) fun x5 =>
  bP (bn Q q .eql 3 (.tmp 38) (.const (.int .i64 0)) x5 (.int .i64 0)) fun x6 =>
  some (x6, G4)) (ifE e2 .ret (
  some (t3x6_, G4)) (none))
theorem m210 {e : Ex} {E : Ev} (h : ExLe Q e E) (v0 v1 v2 v3 : Value) (G : GS) : Ref (s210 true e v0 v1 v2 v3 G) (s210 false (Ex.of E) v0 v1 v2 v3 G) := by
  unfold s210
  exact Ref.gq
theorem f210 {orc : FuncId → Bool} {e : Ex} (h : ExLe Q e (E orc)) (v0 v1 v2 v3 : Value) (G : GS) : Ref (s210 true e v0 v1 v2 v3 G) ((E orc).cl 210 [v0, v1, v2, v3] G) :=
  fun r hr => cl_sxE_some Q orc (vs := [v0, v1, v2, v3]) G Tryz.func210 (by kernel_rfl) (by kernel_rfl) (by kernel_rfl) (by kernel_rfl) (by kernel_rfl) (by kernel_rfl) (m210 h v0 v1 v2 v3 G r hr)
/-- coxswain/epoch.Pinned -/
noncomputable def s211 (q : Bool) (e : Ex) (v0 v1 : Value) (G : GS) : Option (Value × GS) :=
  bS (bx q v0 G) fun x0 G1 =>
  bP (lda Q q 27 3 x0 G1) fun x2 =>
  bS (e.ev.cl 286 [x2] G1) fun x3 G4 =>
  bP (un Q q .not x3) fun x5 =>
  ifV x5 (
  some ((.slice none 0 0), G4)) (
  bS (al Q q 78 z78 G4) fun x6 G7 =>
  bS (e.ev.cl 53 [v1] G7) fun x8 G9 =>
  bS (al Q q 111 z111 G9) fun x10 G11 =>
  bP (st Q q 111 1 x10 x8 G11) fun G12 =>
  bP (lda Q q 27 3 x0 G12) fun x13 =>
  bS (e.ev.cl 287 [x13] G12) fun x14 G15 =>
  bX (xRange e.ev x14 #[18, 19] (subAt [1, 1, 1, 1, 0, 1, 0, 0] (bodyOf Tryz.f211)) (subAt [1, 1, 1, 1, 0, 1, 0, 1] (bodyOf Tryz.f211)) (lsq q 34 (nth undef [v0, v1]) [(17, x14), (16, x13), (6, x10), (15, x8), (14, v1), (5, x6), (13, x5), (12, x3), (11, x2), (4, (.slice none 0 0)), (2, x0)]) G15) fun e16 T17 G18 =>
  bV q (nth undef T17 5) fun T17x5_ =>
  ifE e16 .normal (
  bP (ld Q q 78 T17x5_ G18) fun x19 =>
  some (x19, G18)) (none))
theorem m211 {e : Ex} {E : Ev} (h : ExLe Q e E) (v0 v1 : Value) (G : GS) : Ref (s211 true e v0 v1 G) (s211 false (Ex.of E) v0 v1 G) := by
  unfold s211
  exact Ref.gq
theorem f211 {orc : FuncId → Bool} {e : Ex} (h : ExLe Q e (E orc)) (v0 v1 : Value) (G : GS) : Ref (s211 true e v0 v1 G) ((E orc).cl 211 [v0, v1] G) :=
  fun r hr => cl_sxE_some Q orc (vs := [v0, v1]) G Tryz.func211 (by kernel_rfl) (by kernel_rfl) (by kernel_rfl) (by kernel_rfl) (by kernel_rfl) (by kernel_rfl) (m211 h v0 v1 G r hr)
noncomputable def r211_0 (q : Bool) (e : Ex) (l : Nat) (τ : Env) (u0 u1 : Value) (G : GS) : Option (Value × GS) :=
  bV q (τ 5) fun a5_ =>
  bV q (τ 6) fun a6_ =>
  bP (G.loop l) fun r0 => if r0.st = .ready then
  bP (ld Q q 111 a6_ (G.putLoop l (Lp.setSt r0 .busy))) fun x1 =>
  bS (e.ev.cl 288 [x1, u1] (G.putLoop l (Lp.setSt r0 .busy))) fun x2 G3 =>
  bP (bn Q q .neq 41 (.tmp 23) (.const (.int .u64 0)) x2 (.int .u64 0)) fun x4 =>
  ifV x4 (
  bP (bn Q q .sub 41 (.tmp 25) (.const (.int .u64 1)) x2 (.int .u64 1)) fun x5 =>
  bP (cv Q q 41 415 .u64 .u32 x5) fun x6 =>
  bP (cv Q q 415 3 .u32 .i64 x6) fun x7 =>
  bP (ld Q q 78 a5_ G3) fun x8 =>
  bS (bs Q q 78 1 (rep z3 1) 1 [(0, 0, 1)] [x7] G3) fun x9 G10 =>
  bS (ap Q q 78 78 1 8 x8 x9 G10) fun x11 G12 =>
  bP (st Q q 78 1 a5_ x11 G12) fun G13 =>
  roundEnd l .normal G13) (
  bP (ld Q q 78 a5_ G3) fun x14 =>
  bS (bs Q q 78 1 (rep z3 1) 1 [(0, 0, 1)] [(.int .i64 (-1))] G3) fun x15 G16 =>
  bS (ap Q q 78 78 1 8 x14 x15 G16) fun x17 G18 =>
  bP (st Q q 78 1 a5_ x17 G18) fun G19 =>
  roundEnd l .normal G19)
  else none
theorem mr211_0 {e : Ex} {E : Ev} (h : ExLe Q e E) (l : Nat) (τ : Env) (u0 u1 : Value) (G : GS) : Ref (r211_0 true e l τ u0 u1 G) (r211_0 false (Ex.of E) l τ u0 u1 G) := by
  unfold r211_0
  repeat' (with_reducible first | exact Ref.rfl' _ | exact ROp.r | refine Ref.bP ?_ fun _ => ?_ | refine Ref.bS ?_ fun _ _ => ?_ | exact Ref.cl (by assumption) | refine Ref.ifV ?_ ?_ | refine LpLe.rx (by assumption) ?_ | refine Ref.xitq ?_ | exact UOk.z | refine UOk.c (by assumption) ?_ | exact Ref.nil _ | refine Ref.bVe fun _ _ => ?_ | refine Ref.bLq (by assumption) ?_ fun _ _ _ => ?_ | refine Ref.ifE ?_ ?_ | refine Ref.chk ?_ ?_ | refine Imp.and ?_ ?_ | refine Imp.or ?_ | exact Imp.rfl' _ | refine Imp.sameO ?_ | refine Ref.gd ?_ | exact Ref.cValue (by assumption) | refine Ref.bX ?_ fun _ _ _ => ?_ | exact Ref.scQ (by assumption) | exact Ref.xRangeQ (by assumption) | exact Ref.cInvoke (by assumption) | refine Ref.rdy ?_)
theorem d211_0 {orc : FuncId → Bool} {e : Ex} (h : ExLe Q e (E orc)) (l : Nat) (T : List Value) (u0 u1 : Value) (G : GS) {st : LoopState} {pend : Option Code} (hl : G.loop l = some ⟨st, pend, T, [18, 19], (subAt [1, 1, 1, 1, 0, 1, 0, 0] (bodyOf Tryz.f211)), (subAt [1, 1, 1, 1, 0, 1, 0, 1] (bodyOf Tryz.f211))⟩) (hT : T.length = 34) : Ref (r211_0 true e l (nth undef T) u0 u1 G) ((E orc).rd l [u0, u1] G) :=
  fun r hr => rd_sxE Q orc hl (by kernel_rfl) hT (by kernel_rfl) (mr211_0 h l _ u0 u1 G r hr)
/-- coxswain/word.tops -/
noncomputable def s271 (q : Bool) (e : Ex) (G : GS) : Option (Value × GS) :=
  bS (al Q q 393 z393 G) fun x0 G1 =>
  bP (bd Q q 392 z392 [(0, 0, 1), (1, 1, 1)] [(.int .i64 0), (.int .i64 16)]) fun x2 =>
  bP (bd Q q 392 z392 [(0, 0, 1), (1, 1, 1)] [(.int .i64 16), (.int .i64 48)]) fun x3 =>
  bP (bd Q q 393 z393 [(0, 0, 2), (1, 2, 2)] [x2, x3]) fun x4 =>
  bP (st Q q 393 4 x0 x4 G1) fun G5 =>
  bP (lda Q q 393 4 x0 G5) fun x6 =>
  some (x6, G5)
theorem m271 {e : Ex} {E : Ev} (h : ExLe Q e E) (G : GS) : Ref (s271 true e  G) (s271 false (Ex.of E)  G) := by
  unfold s271
  exact Ref.gq
theorem f271 {orc : FuncId → Bool} {e : Ex} (h : ExLe Q e (E orc)) (ho : orc 271 = false) (G : GS) : Ref (s271 true e  G) ((E orc).cl 271 [] G) :=
  fun r hr => cl_sxE_some Q orc (vs := []) G Tryz.func271 (by kernel_rfl) (by kernel_rfl) ho (by kernel_rfl) (by kernel_rfl) (by kernel_rfl) (m271 h  G r hr)
/-- (coxswain/word.raw).take -/
noncomputable def s272 (q : Bool) (e : Ex) (v0 v1 : Value) (G : GS) : Option (Value × GS) :=
  bS (bx q v1 G) fun x0 G1 =>
  bP (fa Q q 392 0 0 x0) fun x2 =>
  bP (ld Q q 3 x2 (G1.room 11)) fun x3 =>
  bP (bn Q q .shr 41 (.tmp 5) (.tmp 7) v0 x3) fun x4 =>
  bP (fa Q q 392 1 1 x0) fun x5 =>
  bP (ld Q q 3 x5 (G1.room 11)) fun x6 =>
  bP (bn Q q .shl 41 (.const (.int .u64 1)) (.tmp 10) (.int .u64 1) x6) fun x7 =>
  bP (bn Q q .sub 41 (.tmp 11) (.const (.int .u64 1)) x7 (.int .u64 1)) fun x8 =>
  bP (bn Q q .and 41 (.tmp 8) (.tmp 12) x4 x8) fun x9 =>
  bP (cv Q q 41 3 .u64 .i64 x9) fun x10 =>
  some (x10, (G1.room 11))
theorem m272 {e : Ex} {E : Ev} (h : ExLe Q e E) (v0 v1 : Value) (G : GS) : Ref (s272 true e v0 v1 G) (s272 false (Ex.of E) v0 v1 G) := by
  unfold s272
  exact Ref.gq
theorem f272 {orc : FuncId → Bool} {e : Ex} (h : ExLe Q e (E orc)) (v0 v1 : Value) (G : GS) : Ref (s272 true e v0 v1 G) ((E orc).cl 272 [v0, v1] G) :=
  fun r hr => cl_sxE_some Q orc (vs := [v0, v1]) G Tryz.func272 (by kernel_rfl) (by kernel_rfl) (by kernel_rfl) (by kernel_rfl) (by kernel_rfl) (by kernel_rfl) (m272 h v0 v1 G r hr)
/-- (coxswain/tower.rows[coxswain/tower.node]).at -/
noncomputable def s273 (q : Bool) (e : Ex) (v0 v1 v2 : Value) (G : GS) : Option (Value × GS) :=
  bS (bx q v0 G) fun x0 G1 =>
  bP (bn Q q .lss 3 (.tmp 7) (.const (.int .i64 0)) v1 (.int .i64 0)) fun x2 =>
  bS (gd x2 false (some (v1, G1)) G1) fun x3 G4 =>
  bS (gd x2 false (bP (fa Q q 187 1 1 x0) fun y => some (y, G4)) G4) fun x5 G6 =>
  bS (gd x2 false (bP (ld Q q 3 x5 G6) fun y => some (y, G6)) G6) fun x7 G8 =>
  bS (gd x2 false (bP (bn Q q .geq 3 (.tmp 10) (.tmp 12) x3 x7) fun y => some (y, G8)) G8) fun x9 G10 =>
  bP (pickV x2 (.bool true) x9) fun x11 =>
  bS (gd x11 false (some (v2, G10)) G10) fun x12 G13 =>
  bS (gd x11 false (bP (bn Q q .lss 3 (.tmp 16) (.const (.int .i64 0)) x12 (.int .i64 0)) fun y => some (y, G13)) G13) fun x14 G15 =>
  bP (pickV x11 (.bool true) x14) fun x16 =>
  bS (gd x16 false (some (v2, G15)) G15) fun x17 G18 =>
  bS (gd x16 false (bP (fa Q q 187 2 2 x0) fun y => some (y, G18)) G18) fun x19 G20 =>
  bS (gd x16 false (bP (ld Q q 185 x19 G20) fun y => some (y, G20)) G20) fun x21 G22 =>
  bS (gd x16 false (bP (ifc Q q 185 x21) fun y => some (y, G22)) G22) fun x23 G24 =>
  bS (gd x16 false (bS (cInvoke Q e.ev x23 "coxswain/tower.cells" [] G24) fun y G => some (y, G)) G24) fun x25 G26 =>
  bS (gd x16 false (bP (bn Q q .geq 3 (.tmp 20) (.tmp 24) x17 x25) fun y => some (y, G26)) G26) fun x27 G28 =>
  bP (pickV x16 (.bool true) x27) fun x29 =>
  ifV x29 (
  some ((.int .i64 (-1)), G28)) (
  bP (fa Q q 187 0 0 x0) fun x30 =>
  bP (ld Q q 3 x30 (G28.room 12)) fun x31 =>
  bP (fa Q q 187 2 2 x0) fun x32 =>
  bP (ld Q q 185 x32 (G28.room 12)) fun x33 =>
  bP (ifc Q q 185 x33) fun x34 =>
  bS (cInvoke Q e.ev x34 "coxswain/tower.cells" [] (G28.room 12)) fun x36 G35 =>
  chk ((sameO (ld Q q 3 x30 G35) x31 && true)) <|
  bP (bn Q q .mul 3 (.tmp 29) (.tmp 33) v1 x36) fun x37 =>
  bP (bn Q q .add 3 (.tmp 28) (.tmp 34) x31 x37) fun x38 =>
  bP (bn Q q .add 3 (.tmp 35) (.tmp 36) x38 v2) fun x39 =>
  some (x39, G35))
theorem m273 {e : Ex} {E : Ev} (h : ExLe Q e E) (v0 v1 v2 : Value) (G : GS) : Ref (s273 true e v0 v1 v2 G) (s273 false (Ex.of E) v0 v1 v2 G) := by
  unfold s273
  exact Ref.gq
theorem f273 {orc : FuncId → Bool} {e : Ex} (h : ExLe Q e (E orc)) (v0 v1 v2 : Value) (G : GS) : Ref (s273 true e v0 v1 v2 G) ((E orc).cl 273 [v0, v1, v2] G) :=
  fun r hr => cl_sxE_some Q orc (vs := [v0, v1, v2]) G Tryz.func273 (by kernel_rfl) (by kernel_rfl) (by kernel_rfl) (by kernel_rfl) (by kernel_rfl) (by kernel_rfl) (m273 h v0 v1 v2 G r hr)
/-- (coxswain/tower.rows[coxswain/tower.head]).at -/
noncomputable def s274 (q : Bool) (e : Ex) (v0 v1 v2 : Value) (G : GS) : Option (Value × GS) :=
  bS (bx q v0 G) fun x0 G1 =>
  bP (bn Q q .lss 3 (.tmp 7) (.const (.int .i64 0)) v1 (.int .i64 0)) fun x2 =>
  bS (gd x2 false (some (v1, G1)) G1) fun x3 G4 =>
  bS (gd x2 false (bP (fa Q q 192 1 1 x0) fun y => some (y, G4)) G4) fun x5 G6 =>
  bS (gd x2 false (bP (ld Q q 3 x5 G6) fun y => some (y, G6)) G6) fun x7 G8 =>
  bS (gd x2 false (bP (bn Q q .geq 3 (.tmp 10) (.tmp 12) x3 x7) fun y => some (y, G8)) G8) fun x9 G10 =>
  bP (pickV x2 (.bool true) x9) fun x11 =>
  bS (gd x11 false (some (v2, G10)) G10) fun x12 G13 =>
  bS (gd x11 false (bP (bn Q q .lss 3 (.tmp 16) (.const (.int .i64 0)) x12 (.int .i64 0)) fun y => some (y, G13)) G13) fun x14 G15 =>
  bP (pickV x11 (.bool true) x14) fun x16 =>
  bS (gd x16 false (some (v2, G15)) G15) fun x17 G18 =>
  bS (gd x16 false (bP (fa Q q 192 2 2 x0) fun y => some (y, G18)) G18) fun x19 G20 =>
  bS (gd x16 false (bP (ld Q q 190 x19 G20) fun y => some (y, G20)) G20) fun x21 G22 =>
  bS (gd x16 false (bP (ifc Q q 190 x21) fun y => some (y, G22)) G22) fun x23 G24 =>
  bS (gd x16 false (bS (cInvoke Q e.ev x23 "coxswain/tower.cells" [] G24) fun y G => some (y, G)) G24) fun x25 G26 =>
  bS (gd x16 false (bP (bn Q q .geq 3 (.tmp 20) (.tmp 24) x17 x25) fun y => some (y, G26)) G26) fun x27 G28 =>
  bP (pickV x16 (.bool true) x27) fun x29 =>
  ifV x29 (
  some ((.int .i64 (-1)), G28)) (
  bP (fa Q q 192 0 0 x0) fun x30 =>
  bP (ld Q q 3 x30 (G28.room 12)) fun x31 =>
  bP (fa Q q 192 2 2 x0) fun x32 =>
  bP (ld Q q 190 x32 (G28.room 12)) fun x33 =>
  bP (ifc Q q 190 x33) fun x34 =>
  bS (cInvoke Q e.ev x34 "coxswain/tower.cells" [] (G28.room 12)) fun x36 G35 =>
  chk ((sameO (ld Q q 3 x30 G35) x31 && true)) <|
  bP (bn Q q .mul 3 (.tmp 29) (.tmp 33) v1 x36) fun x37 =>
  bP (bn Q q .add 3 (.tmp 28) (.tmp 34) x31 x37) fun x38 =>
  bP (bn Q q .add 3 (.tmp 35) (.tmp 36) x38 v2) fun x39 =>
  some (x39, G35))
theorem m274 {e : Ex} {E : Ev} (h : ExLe Q e E) (v0 v1 v2 : Value) (G : GS) : Ref (s274 true e v0 v1 v2 G) (s274 false (Ex.of E) v0 v1 v2 G) := by
  unfold s274
  exact Ref.gq
theorem f274 {orc : FuncId → Bool} {e : Ex} (h : ExLe Q e (E orc)) (v0 v1 v2 : Value) (G : GS) : Ref (s274 true e v0 v1 v2 G) ((E orc).cl 274 [v0, v1, v2] G) :=
  fun r hr => cl_sxE_some Q orc (vs := [v0, v1, v2]) G Tryz.func274 (by kernel_rfl) (by kernel_rfl) (by kernel_rfl) (by kernel_rfl) (by kernel_rfl) (by kernel_rfl) (m274 h v0 v1 v2 G r hr)
/-- (coxswain/tower.memory).level -/
noncomputable def s282 (q : Bool) (e : Ex) (v0 v1 v2 : Value) (G : GS) : Option (Value × GS) :=
  bS (bx q v0 G) fun x0 G1 =>
  bS (bx q v1 G1) fun x2 G3 =>
  bS (bx q v2 G3) fun x4 G5 =>
  some ((.func (.func 351) #[] #[x2, x0, x4]), G5)
theorem m282 {e : Ex} {E : Ev} (h : ExLe Q e E) (v0 v1 v2 : Value) (G : GS) : Ref (s282 true e v0 v1 v2 G) (s282 false (Ex.of E) v0 v1 v2 G) := by
  unfold s282
  exact Ref.gq
theorem f282 {orc : FuncId → Bool} {e : Ex} (h : ExLe Q e (E orc)) (v0 v1 v2 : Value) (G : GS) : Ref (s282 true e v0 v1 v2 G) ((E orc).cl 282 [v0, v1, v2] G) :=
  fun r hr => cl_sxE_some Q orc (vs := [v0, v1, v2]) G Tryz.func282 (by kernel_rfl) (by kernel_rfl) (by kernel_rfl) (by kernel_rfl) (by kernel_rfl) (by kernel_rfl) (m282 h v0 v1 v2 G r hr)
/-- coxswain/stack.on -/
noncomputable def s283 (q : Bool) (e : Ex) (v0 v1 : Value) (G : GS) : Option (Value × GS) :=
  bS (bx q v0 G) fun x0 G1 =>
  bS (bx q v1 G1) fun x2 G3 =>
  bS (al Q q 180 z180 G3) fun x4 G5 =>
  bP (st Q q 180 1 x4 (.func (.func 354) #[] #[x2]) G5) fun G6 =>
  some ((.func (.func 355) #[] #[x0, x4]), G6)
theorem m283 {e : Ex} {E : Ev} (h : ExLe Q e E) (v0 v1 : Value) (G : GS) : Ref (s283 true e v0 v1 G) (s283 false (Ex.of E) v0 v1 G) := by
  unfold s283
  exact Ref.gq
theorem f283 {orc : FuncId → Bool} {e : Ex} (h : ExLe Q e (E orc)) (v0 v1 : Value) (G : GS) : Ref (s283 true e v0 v1 G) ((E orc).cl 283 [v0, v1] G) :=
  fun r hr => cl_sxE_some Q orc (vs := [v0, v1]) G Tryz.func283 (by kernel_rfl) (by kernel_rfl) (by kernel_rfl) (by kernel_rfl) (by kernel_rfl) (by kernel_rfl) (m283 h v0 v1 G r hr)
/-- coxswain/word.refs -/
noncomputable def s284 (q : Bool) (e : Ex) (G : GS) : Option (Value × GS) :=
  bS (al Q q 393 z393 G) fun x0 G1 =>
  bP (bd Q q 392 z392 [(0, 0, 1), (1, 1, 1)] [(.int .i64 0), (.int .i64 16)]) fun x2 =>
  bP (bd Q q 392 z392 [(0, 0, 1), (1, 1, 1)] [(.int .i64 16), (.int .i64 32)]) fun x3 =>
  bP (bd Q q 393 z393 [(0, 0, 2), (1, 2, 2)] [x2, x3]) fun x4 =>
  bP (st Q q 393 4 x0 x4 G1) fun G5 =>
  bP (lda Q q 393 4 x0 G5) fun x6 =>
  some (x6, G5)
theorem m284 {e : Ex} {E : Ev} (h : ExLe Q e E) (G : GS) : Ref (s284 true e  G) (s284 false (Ex.of E)  G) := by
  unfold s284
  exact Ref.gq
theorem f284 {orc : FuncId → Bool} {e : Ex} (h : ExLe Q e (E orc)) (ho : orc 284 = false) (G : GS) : Ref (s284 true e  G) ((E orc).cl 284 [] G) :=
  fun r hr => cl_sxE_some Q orc (vs := []) G Tryz.func284 (by kernel_rfl) (by kernel_rfl) ho (by kernel_rfl) (by kernel_rfl) (by kernel_rfl) (m284 h  G r hr)
/-- coxswain/word.PutRef -/
noncomputable def s285 (q : Bool) (e : Ex) (v0 : Value) (G : GS) : Option (Value × GS) :=
  bS (bx q v0 G) fun x0 G1 =>
  bP (fa Q q 289 0 0 x0) fun x2 =>
  bP (ld Q q 3 x2 G1) fun x3 =>
  bP (bd Q q 505 z505 [(0, 0, 1), (1, 1, 1), (2, 2, 1)] [x3, (.int .i64 (-1)), (.int .i64 65534)]) fun x4 =>
  bP (fa Q q 289 1 1 x0) fun x5 =>
  bP (ld Q q 3 x5 G1) fun x6 =>
  bP (bd Q q 505 z505 [(0, 0, 1), (1, 1, 1), (2, 2, 1)] [x6, (.int .i64 0), (.int .i64 4294967295)]) fun x7 =>
  bS (bs Q q 538 2 (rep z505 2) 3 [(0, 0, 3), (1, 3, 3)] [x4, x7] G1) fun x8 G9 =>
  bS (e.ev.cl 357 [x8] G9) fun x10 G11 =>
  bP (un Q q .not x10) fun x12 =>
  ifV x12 (
  some (.tuple #[(.int .u64 0), (.int .i64 3)], G11)) (
  bP (fa Q q 289 0 0 x0) fun x13 =>
  bP (ld Q q 3 x13 G11) fun x14 =>
  bP (bn Q q .eql 3 (.tmp 17) (.const (.int .i64 (-1))) x14 (.int .i64 (-1))) fun x15 =>
  bS (gd x15 true (bP (fa Q q 289 1 1 x0) fun y => some (y, G11)) G11) fun x16 G17 =>
  bS (gd x15 true (bP (ld Q q 3 x16 G17) fun y => some (y, G17)) G17) fun x18 G19 =>
  bS (gd x15 true (bP (bn Q q .neq 3 (.tmp 21) (.const (.int .i64 0)) x18 (.int .i64 0)) fun y => some (y, G19)) G19) fun x20 G21 =>
  bP (pickV x15 x20 (.bool false)) fun x22 =>
  ifV x22 (
  some (.tuple #[(.int .u64 0), (.int .i64 5)], G21)) (
  bS (e.ev.cl 284 [] G21) fun x23 G24 =>
  bS (al Q q 393 z393 G24) fun x25 G26 =>
  bP (st Q q 393 4 x25 x23 G26) fun G27 =>
  bP (sla Q q 393 2 2 x25 none none none (G27.room 13)) fun x28 =>
  bP (fa Q q 289 0 0 x0) fun x29 =>
  bP (ld Q q 3 x29 (G27.room 13)) fun x30 =>
  bP (bn Q q .add 3 (.tmp 27) (.const (.int .i64 1)) x30 (.int .i64 1)) fun x31 =>
  bP (fa Q q 289 1 1 x0) fun x32 =>
  bP (ld Q q 3 x32 (G27.room 13)) fun x33 =>
  bS (bs Q q 78 2 (rep z3 2) 1 [(0, 0, 1), (1, 1, 1)] [x31, x33] ((G27.room 13).at' (G27.nx + 6))) fun x34 G35 =>
  bS (e.ev.cl 358 [x28, x34] (G35.back (G27.room 13))) fun x37 G36 =>
  bP (fa Q q 289 2 2 x0) fun x38 =>
  bP (ld Q q 4 x38 G36) fun x39 =>
  chk ((sameO (ld Q q 4 x38 (G35.back (G27.room 13))) x39 && true)) <|
  bS (e.ev.cl 194 [x37, x39] G36) fun x41 G40 =>
  some (.tuple #[x41, (.int .i64 0)], G40)))
theorem m285 {e : Ex} {E : Ev} (h : ExLe Q e E) (v0 : Value) (G : GS) : Ref (s285 true e v0 G) (s285 false (Ex.of E) v0 G) := by
  unfold s285
  exact Ref.gq
theorem f285 {orc : FuncId → Bool} {e : Ex} (h : ExLe Q e (E orc)) (v0 : Value) (G : GS) : Ref (s285 true e v0 G) ((E orc).cl 285 [v0] G) :=
  fun r hr => cl_sxE_some Q orc (vs := [v0]) G Tryz.func285 (by kernel_rfl) (by kernel_rfl) (by kernel_rfl) (by kernel_rfl) (by kernel_rfl) (by kernel_rfl) (m285 h v0 G r hr)
/-- coxswain/epoch.sized -/
noncomputable def s286 (q : Bool) (e : Ex) (v0 : Value) (G : GS) : Option (Value × GS) :=
  bS (bx q v0 G) fun x0 G1 =>
  bP (fa Q q 27 2 2 x0) fun x2 =>
  bP (ld Q q 3 x2 G1) fun x3 =>
  bP (bn Q q .geq 3 (.tmp 4) (.const (.int .i64 1)) x3 (.int .i64 1)) fun x4 =>
  bS (gd x4 true (bP (fa Q q 27 2 2 x0) fun y => some (y, G1)) G1) fun x5 G6 =>
  bS (gd x4 true (bP (ld Q q 3 x5 G6) fun y => some (y, G6)) G6) fun x7 G8 =>
  bS (gd x4 true (bP (bn Q q .leq 3 (.tmp 8) (.const (.int .i64 64)) x7 (.int .i64 64)) fun y => some (y, G8)) G8) fun x9 G10 =>
  bP (pickV x4 x9 (.bool false)) fun x11 =>
  some (x11, G10)
theorem m286 {e : Ex} {E : Ev} (h : ExLe Q e E) (v0 : Value) (G : GS) : Ref (s286 true e v0 G) (s286 false (Ex.of E) v0 G) := by
  unfold s286
  exact Ref.gq
theorem f286 {orc : FuncId → Bool} {e : Ex} (h : ExLe Q e (E orc)) (v0 : Value) (G : GS) : Ref (s286 true e v0 G) ((E orc).cl 286 [v0] G) :=
  fun r hr => cl_sxE_some Q orc (vs := [v0]) G Tryz.func286 (by kernel_rfl) (by kernel_rfl) (by kernel_rfl) (by kernel_rfl) (by kernel_rfl) (by kernel_rfl) (m286 h v0 G r hr)
/-- coxswain/epoch.pins -/
noncomputable def s287 (q : Bool) (e : Ex) (v0 : Value) (G : GS) : Option (Value × GS) :=
  bS (bx q v0 G) fun x0 G1 =>
  some ((.func (.func 359) #[] #[x0]), G1)
theorem m287 {e : Ex} {E : Ev} (h : ExLe Q e E) (v0 : Value) (G : GS) : Ref (s287 true e v0 G) (s287 false (Ex.of E) v0 G) := by
  unfold s287
  exact Ref.gq
theorem f287 {orc : FuncId → Bool} {e : Ex} (h : ExLe Q e (E orc)) (v0 : Value) (G : GS) : Ref (s287 true e v0 G) ((E orc).cl 287 [v0] G) :=
  fun r hr => cl_sxE_some Q orc (vs := [v0]) G Tryz.func287 (by kernel_rfl) (by kernel_rfl) (by kernel_rfl) (by kernel_rfl) (by kernel_rfl) (by kernel_rfl) (m287 h v0 G r hr)
/-- coxswain/epoch.at -/
noncomputable def s288 (q : Bool) (e : Ex) (v0 v1 : Value) (G : GS) : Option (Value × GS) :=
  bP (bn Q q .lss 3 (.tmp 5) (.const (.int .i64 0)) v1 (.int .i64 0)) fun x0 =>
  bS (gd x0 false (some (v1, G)) G) fun x1 G2 =>
  bS (gd x0 false (some (v0, G2)) G2) fun x3 G4 =>
  bS (gd x0 false (bP (ln Q q 111 x3) fun y => some (y, G4)) G4) fun x5 G6 =>
  bS (gd x0 false (bP (bn Q q .geq 3 (.tmp 8) (.tmp 10) x1 x5) fun y => some (y, G6)) G6) fun x7 G8 =>
  bP (pickV x0 (.bool true) x7) fun x9 =>
  ifV x9 (
  some ((.int .u64 0), G8)) (
  bP (ias Q q 111 1 v0 v1) fun x10 =>
  bP (ld Q q 41 x10 G8) fun x11 =>
  some (x11, G8))
theorem m288 {e : Ex} {E : Ev} (h : ExLe Q e E) (v0 v1 : Value) (G : GS) : Ref (s288 true e v0 v1 G) (s288 false (Ex.of E) v0 v1 G) := by
  unfold s288
  exact Ref.gq
theorem f288 {orc : FuncId → Bool} {e : Ex} (h : ExLe Q e (E orc)) (v0 v1 : Value) (G : GS) : Ref (s288 true e v0 v1 G) ((E orc).cl 288 [v0, v1] G) :=
  fun r hr => cl_sxE_some Q orc (vs := [v0, v1]) G Tryz.func288 (by kernel_rfl) (by kernel_rfl) (by kernel_rfl) (by kernel_rfl) (by kernel_rfl) (by kernel_rfl) (m288 h v0 v1 G r hr)
noncomputable def b351_0 (q : Bool) (e : Ex) (lp : Env → GS → Option (Exit × Env × GS)) (τ : Env) (G : GS) : Option (Exit × Env × GS) :=
  bV q (τ 0) fun a0_ =>
  bV q (τ 1) fun a1_ =>
  bV q (τ 2) fun a2_ =>
  bV q (τ 3) fun a3_ =>
  bV q (τ 5) fun a5_ =>
  bV q (τ 6) fun a6_ =>
  bP (bn Q q .geq 3 (.tmp 14) (.const (.int .i64 0)) a5_ (.int .i64 0)) fun x0 =>
  bS (gd x0 true (some (a6_, G)) G) fun x1 G2 =>
  bS (gd x0 true (bP (fa Q q 31 3 3 a1_) fun y => some (y, G2)) G2) fun x3 G4 =>
  bS (gd x0 true (bP (fa Q q 29 0 0 x3) fun y => some (y, G4)) G4) fun x5 G6 =>
  bS (gd x0 true (bP (fa Q q 25 0 0 x5) fun y => some (y, G6)) G6) fun x7 G8 =>
  bS (gd x0 true (bP (fa Q q 23 2 2 x7) fun y => some (y, G8)) G8) fun x9 G10 =>
  bS (gd x0 true (bP (ld Q q 3 x9 G10) fun y => some (y, G10)) G10) fun x11 G12 =>
  bS (gd x0 true (bP (bn Q q .lss 3 (.tmp 17) (.tmp 22) x1 x11) fun y => some (y, G12)) G12) fun x13 G14 =>
  bP (pickV x0 x13 (.bool false)) fun x15 =>
  bS (gd x15 true (some (a0_, G14)) G14) fun x16 G17 =>
  bS (gd x15 true (some (a5_, G17)) G17) fun x18 G19 =>
  bS (gd x15 true (bS (cValue e.ev x16 [x18] G19) fun y G => some (y, G)) G19) fun x20 G21 =>
  bP (pickV x15 x20 (.bool false)) fun x22 =>
  ifV x22 (
  bP (lda Q q 31 13 a1_ (G21.room 9)) fun x23 =>
  bP (ld Q q 407 a2_ (G21.room 9)) fun x24 =>
  bP (lda Q q 31 13 a1_ (G21.room 9)) fun x25 =>
  bP (ld Q q 3 a3_ (G21.room 9)) fun x26 =>
  bS (e.ev.cl 69 [x25, a5_, x26] (G21.room 9)) fun x28 G27 =>
  chk ((sameO (ld Q q 407 a2_ G27) x24 && (sameO (lda Q q 31 13 a1_ G27) x23 && true))) <|
  bS (e.ev.cl 353 [x24, x28] G27) fun x30 G29 =>
  chk ((sameO (lda Q q 31 13 a1_ G29) x23 && true)) <|
  bS (e.ev.cl 352 [x23, x30] G29) fun x32 G31 =>
  bP (bn Q q .add 3 (.tmp 30) (.const (.int .i64 1)) a6_ (.int .i64 1)) fun x33 =>
  lp (xq q 40 τ [(6, x33), (31, x33), (30, a6_), (5, x32), (39, x32), (38, x30), (37, x28), (36, x26), (35, a5_), (34, x25), (33, x24), (32, x23), (29, x22), (28, x20), (27, x18), (26, x16), (25, x15), (24, x15), (23, x13), (22, x11), (21, x9), (20, x7), (19, x5), (18, x3), (17, x1), (16, x0), (15, x0), (14, a5_)] [(0, a0_), (1, a1_), (2, a2_), (3, a3_)]) G31) (
  some ((.exit 0), xq q 40 τ [(29, x22), (28, x20), (27, x18), (26, x16), (25, x15), (24, x15), (23, x13), (22, x11), (21, x9), (20, x7), (19, x5), (18, x3), (17, x1), (16, x0), (15, x0), (14, a5_)] [(0, a0_), (1, a1_), (2, a2_), (3, a3_), (5, a5_), (6, a6_)], G21))
theorem mb351_0 {e : Ex} {E : Ev} (h : ExLe Q e E) {lp lp' : Env → GS → Option (Exit × Env × GS)} (hlp : LpLe lp lp') (τ : Env) (G : GS) : Ref (b351_0 true e lp τ G) (b351_0 false (Ex.of E) lp' τ G) := by
  unfold b351_0
  exact Ref.gq
theorem l351_0 {orc : FuncId → Bool} {e : Ex} (h : ExLe Q e (E orc)) (lp : Env → GS → Option (Exit × Env × GS)) (hlp : ∀ τ G, Ref (lp τ G) (mapE ((E orc).lp (subAt [1, 1, 0, 0] (bodyOf Tryz.f351)) (lst 40 τ) G))) (T : List Value) (G : GS) (hT : T.length = 40) : Ref (b351_0 true e lp (nth undef T) G) (mapE ((E orc).lp (subAt [1, 1, 0, 0] (bodyOf Tryz.f351)) T G)) :=
  fun r hr => lp_sxN Q orc G hT (by kernel_rfl) (mb351_0 h ⟨hlp⟩ _ _ r hr)
/-- (coxswain/tower.memory).level$1 -/
noncomputable def s351 (q : Bool) (e : Ex) (v0 v1 v2 v3 : Value) (G : GS) : Option (Value × GS) :=
  bP (lda Q q 31 13 v1 (G.room 8)) fun x0 =>
  bP (ld Q q 407 v2 (G.room 8)) fun x1 =>
  bP (lda Q q 31 13 v1 (G.room 8)) fun x2 =>
  bP (ld Q q 3 v3 (G.room 8)) fun x3 =>
  bS (e.ev.cl 69 [x2, (.int .i64 (-1)), x3] (G.room 8)) fun x5 G4 =>
  chk ((sameO (ld Q q 407 v2 G4) x1 && (sameO (lda Q q 31 13 v1 G4) x0 && true))) <|
  bS (e.ev.cl 353 [x1, x5] G4) fun x7 G6 =>
  chk ((sameO (lda Q q 31 13 v1 G6) x0 && true)) <|
  bS (e.ev.cl 352 [x0, x7] G6) fun x9 G8 =>
  bLq q e 351 0 (subAt [1, 1, 0, 0] (bodyOf Tryz.f351)) 40 (nth undef [v0, v1, v2, v3]) [(6, (.int .i64 0)), (5, x9), (13, x9), (12, x7), (11, x5), (10, x3), (9, x2), (8, x1), (7, x0)] [] G8 fun e10 t11 G12 =>
  ifE e10 (.exit 0) (
  some (.tuple #[], G12)) (none)
theorem m351 {e : Ex} {E : Ev} (h : ExLe Q e E) (v0 v1 v2 v3 : Value) (G : GS) : Ref (s351 true e v0 v1 v2 v3 G) (s351 false (Ex.of E) v0 v1 v2 v3 G) := by
  unfold s351
  exact Ref.gq
theorem f351 {orc : FuncId → Bool} {e : Ex} (h : ExLe Q e (E orc)) (v0 v1 v2 v3 : Value) (G : GS) : Ref (s351 true e v0 v1 v2 v3 G) ((E orc).cl 351 [v0, v1, v2, v3] G) :=
  fun r hr => cl_sxE_some Q orc (vs := [v0, v1, v2, v3]) G Tryz.func351 (by kernel_rfl) (by kernel_rfl) (by kernel_rfl) (by kernel_rfl) (by kernel_rfl) (by kernel_rfl) (m351 h v0 v1 v2 v3 G r hr)
/-- coxswain/tower.index -/
noncomputable def s352 (q : Bool) (e : Ex) (v0 v1 : Value) (G : GS) : Option (Value × GS) :=
  bS (bx q v0 G) fun x0 G1 =>
  bS (e.ev.cl 189 [v1] G1) fun x2 G3 =>
  bP (pExtract x2 0) fun x4 =>
  bP (pExtract x2 1) fun x5 =>
  bS (al Q q 274 z274 G3) fun x6 G7 =>
  bP (st Q q 274 2 x6 x4 G7) fun G8 =>
  bP (fa Q q 274 0 0 x6) fun x9 =>
  bP (ld Q q 3 x9 G8) fun x10 =>
  bP (fa Q q 31 3 3 x0) fun x11 =>
  bP (fa Q q 29 0 0 x11) fun x12 =>
  bP (fa Q q 25 0 0 x12) fun x13 =>
  bP (fa Q q 23 2 2 x13) fun x14 =>
  bP (ld Q q 3 x14 G8) fun x15 =>
  bP (bn Q q .geq 3 (.tmp 13) (.tmp 18) x10 x15) fun x16 =>
  ifV x16 (
  some ((.int .i64 (-1)), G8)) (
  bP (fa Q q 274 0 0 x6) fun x17 =>
  bP (ld Q q 3 x17 G8) fun x18 =>
  some (x18, G8))
theorem m352 {e : Ex} {E : Ev} (h : ExLe Q e E) (v0 v1 : Value) (G : GS) : Ref (s352 true e v0 v1 G) (s352 false (Ex.of E) v0 v1 G) := by
  unfold s352
  exact Ref.gq
theorem f352 {orc : FuncId → Bool} {e : Ex} (h : ExLe Q e (E orc)) (v0 v1 : Value) (G : GS) : Ref (s352 true e v0 v1 G) ((E orc).cl 352 [v0, v1] G) :=
  fun r hr => cl_sxE_some Q orc (vs := [v0, v1]) G Tryz.func352 (by kernel_rfl) (by kernel_rfl) (by kernel_rfl) (by kernel_rfl) (by kernel_rfl) (by kernel_rfl) (m352 h v0 v1 G r hr)
/-- (coxswain/tower.memory).at -/
noncomputable def s353 (q : Bool) (e : Ex) (v0 v1 : Value) (G : GS) : Option (Value × GS) :=
  bP (bn Q q .lss 3 (.tmp 5) (.const (.int .i64 0)) v1 (.int .i64 0)) fun x0 =>
  bS (gd x0 false (some (v1, G)) G) fun x1 G2 =>
  bS (gd x0 false (some (v0, G2)) G2) fun x3 G4 =>
  bS (gd x0 false (bP (ln Q q 407 x3) fun y => some (y, G4)) G4) fun x5 G6 =>
  bS (gd x0 false (bP (bn Q q .geq 3 (.tmp 8) (.tmp 10) x1 x5) fun y => some (y, G6)) G6) fun x7 G8 =>
  bP (pickV x0 (.bool true) x7) fun x9 =>
  ifV x9 (
  some ((.int .u64 0), G8)) (
  bP (ias Q q 407 1 v0 v1) fun x10 =>
  bP (ld Q q 41 x10 G8) fun x11 =>
  some (x11, G8))
theorem m353 {e : Ex} {E : Ev} (h : ExLe Q e E) (v0 v1 : Value) (G : GS) : Ref (s353 true e v0 v1 G) (s353 false (Ex.of E) v0 v1 G) := by
  unfold s353
  exact Ref.gq
theorem f353 {orc : FuncId → Bool} {e : Ex} (h : ExLe Q e (E orc)) (v0 v1 : Value) (G : GS) : Ref (s353 true e v0 v1 G) ((E orc).cl 353 [v0, v1] G) :=
  fun r hr => cl_sxE_some Q orc (vs := [v0, v1]) G Tryz.func353 (by kernel_rfl) (by kernel_rfl) (by kernel_rfl) (by kernel_rfl) (by kernel_rfl) (by kernel_rfl) (m353 h v0 v1 G r hr)
/-- coxswain/stack.on$1 -/
noncomputable def s354 (q : Bool) (e : Ex) (v0 v1 : Value) (G : GS) : Option (Value × GS) :=
  bP (bn Q q .lss 3 (.tmp 4) (.const (.int .i64 0)) v0 (.int .i64 0)) fun x0 =>
  bS (gd x0 false (some (v0, G)) G) fun x1 G2 =>
  bS (gd x0 false (bP (ld Q q 111 v1 G2) fun y => some (y, G2)) G2) fun x3 G4 =>
  bS (gd x0 false (bP (ln Q q 111 x3) fun y => some (y, G4)) G4) fun x5 G6 =>
  bS (gd x0 false (bP (bn Q q .geq 3 (.tmp 7) (.tmp 9) x1 x5) fun y => some (y, G6)) G6) fun x7 G8 =>
  bP (pickV x0 (.bool true) x7) fun x9 =>
  ifV x9 (
  some ((.int .u64 0), G8)) (
  bP (ld Q q 111 v1 G8) fun x10 =>
  bP (ias Q q 111 1 x10 v0) fun x11 =>
  bP (ld Q q 41 x11 G8) fun x12 =>
  some (x12, G8))
theorem m354 {e : Ex} {E : Ev} (h : ExLe Q e E) (v0 v1 : Value) (G : GS) : Ref (s354 true e v0 v1 G) (s354 false (Ex.of E) v0 v1 G) := by
  unfold s354
  exact Ref.gq
theorem f354 {orc : FuncId → Bool} {e : Ex} (h : ExLe Q e (E orc)) (v0 v1 : Value) (G : GS) : Ref (s354 true e v0 v1 G) ((E orc).cl 354 [v0, v1] G) :=
  fun r hr => cl_sxE_some Q orc (vs := [v0, v1]) G Tryz.func354 (by kernel_rfl) (by kernel_rfl) (by kernel_rfl) (by kernel_rfl) (by kernel_rfl) (by kernel_rfl) (m354 h v0 v1 G r hr)
noncomputable def b355_0 (q : Bool) (e : Ex) (lp : Env → GS → Option (Exit × Env × GS)) (τ : Env) (G : GS) : Option (Exit × Env × GS) :=
  bV q (τ 0) fun a0_ =>
  bV q (τ 1) fun a1_ =>
  bV q (τ 2) fun a2_ =>
  bV q (τ 4) fun a4_ =>
  bV q (τ 5) fun a5_ =>
  bP (bn Q q .geq 3 (.tmp 12) (.const (.int .i64 0)) a4_ (.int .i64 0)) fun x0 =>
  bS (gd x0 true (some (a5_, G)) G) fun x1 G2 =>
  bS (gd x0 true (bP (fa Q q 23 2 2 a1_) fun y => some (y, G2)) G2) fun x3 G4 =>
  bS (gd x0 true (bP (ld Q q 3 x3 G4) fun y => some (y, G4)) G4) fun x5 G6 =>
  bS (gd x0 true (bP (bn Q q .lss 3 (.tmp 15) (.tmp 17) x1 x5) fun y => some (y, G6)) G6) fun x7 G8 =>
  bP (pickV x0 x7 (.bool false)) fun x9 =>
  bS (gd x9 true (some (a0_, G8)) G8) fun x10 G11 =>
  bS (gd x9 true (some (a4_, G11)) G11) fun x12 G13 =>
  bS (gd x9 true (bS (cValue e.ev x10 [x12] G13) fun y G => some (y, G)) G13) fun x14 G15 =>
  bP (pickV x9 x14 (.bool false)) fun x16 =>
  ifV x16 (
  bP (lda Q q 23 3 a1_ (G15.room 9)) fun x17 =>
  bP (ld Q q 180 a2_ (G15.room 9)) fun x18 =>
  bP (fa Q q 23 1 1 a1_) fun x19 =>
  bP (ld Q q 3 x19 (G15.room 9)) fun x20 =>
  bP (bn Q q .add 3 (.tmp 30) (.tmp 31) x20 a4_) fun x21 =>
  bS (cValue e.ev x18 [x21] (G15.room 9)) fun x23 G22 =>
  chk ((sameO (lda Q q 23 3 a1_ G22) x17 && true)) <|
  bS (e.ev.cl 356 [x17, x23] G22) fun x25 G24 =>
  bP (bn Q q .add 3 (.tmp 25) (.const (.int .i64 1)) a5_ (.int .i64 1)) fun x26 =>
  lp (xq q 35 τ [(5, x26), (26, x26), (25, a5_), (4, x25), (34, x25), (33, x23), (32, x21), (31, a4_), (30, x20), (29, x19), (28, x18), (27, x17), (24, x16), (23, x14), (22, x12), (21, x10), (20, x9), (19, x9), (18, x7), (17, x5), (16, x3), (15, x1), (14, x0), (13, x0), (12, a4_)] [(0, a0_), (1, a1_), (2, a2_)]) G24) (
  some ((.exit 0), xq q 35 τ [(24, x16), (23, x14), (22, x12), (21, x10), (20, x9), (19, x9), (18, x7), (17, x5), (16, x3), (15, x1), (14, x0), (13, x0), (12, a4_)] [(0, a0_), (1, a1_), (2, a2_), (4, a4_), (5, a5_)], G15))
theorem mb355_0 {e : Ex} {E : Ev} (h : ExLe Q e E) {lp lp' : Env → GS → Option (Exit × Env × GS)} (hlp : LpLe lp lp') (τ : Env) (G : GS) : Ref (b355_0 true e lp τ G) (b355_0 false (Ex.of E) lp' τ G) := by
  unfold b355_0
  exact Ref.gq
theorem l355_0 {orc : FuncId → Bool} {e : Ex} (h : ExLe Q e (E orc)) (lp : Env → GS → Option (Exit × Env × GS)) (hlp : ∀ τ G, Ref (lp τ G) (mapE ((E orc).lp (subAt [1, 1, 0, 0] (bodyOf Tryz.f355)) (lst 35 τ) G))) (T : List Value) (G : GS) (hT : T.length = 35) : Ref (b355_0 true e lp (nth undef T) G) (mapE ((E orc).lp (subAt [1, 1, 0, 0] (bodyOf Tryz.f355)) T G)) :=
  fun r hr => lp_sxN Q orc G hT (by kernel_rfl) (mb355_0 h ⟨hlp⟩ _ _ r hr)
/-- coxswain/stack.on$2 -/
noncomputable def s355 (q : Bool) (e : Ex) (v0 v1 v2 : Value) (G : GS) : Option (Value × GS) :=
  bP (lda Q q 23 3 v1 (G.room 7)) fun x0 =>
  bP (ld Q q 180 v2 (G.room 7)) fun x1 =>
  bP (fa Q q 23 0 0 v1) fun x2 =>
  bP (ld Q q 3 x2 (G.room 7)) fun x3 =>
  bS (cValue e.ev x1 [x3] (G.room 7)) fun x5 G4 =>
  chk ((sameO (lda Q q 23 3 v1 G4) x0 && true)) <|
  bS (e.ev.cl 356 [x0, x5] G4) fun x7 G6 =>
  bLq q e 355 0 (subAt [1, 1, 0, 0] (bodyOf Tryz.f355)) 35 (nth undef [v0, v1, v2]) [(5, (.int .i64 0)), (4, x7), (11, x7), (10, x5), (9, x3), (8, x2), (7, x1), (6, x0)] [] G6 fun e8 t9 G10 =>
  ifE e8 (.exit 0) (
  some (.tuple #[], G10)) (none)
theorem m355 {e : Ex} {E : Ev} (h : ExLe Q e E) (v0 v1 v2 : Value) (G : GS) : Ref (s355 true e v0 v1 v2 G) (s355 false (Ex.of E) v0 v1 v2 G) := by
  unfold s355
  exact Ref.gq
theorem f355 {orc : FuncId → Bool} {e : Ex} (h : ExLe Q e (E orc)) (v0 v1 v2 : Value) (G : GS) : Ref (s355 true e v0 v1 v2 G) ((E orc).cl 355 [v0, v1, v2] G) :=
  fun r hr => cl_sxE_some Q orc (vs := [v0, v1, v2]) G Tryz.func355 (by kernel_rfl) (by kernel_rfl) (by kernel_rfl) (by kernel_rfl) (by kernel_rfl) (by kernel_rfl) (m355 h v0 v1 v2 G r hr)
/-- coxswain/stack.read -/
noncomputable def s356 (q : Bool) (e : Ex) (v0 v1 : Value) (G : GS) : Option (Value × GS) :=
  bS (bx q v0 G) fun x0 G1 =>
  bS (e.ev.cl 189 [v1] G1) fun x2 G3 =>
  bP (pExtract x2 0) fun x4 =>
  bP (pExtract x2 1) fun x5 =>
  bS (al Q q 274 z274 G3) fun x6 G7 =>
  bP (st Q q 274 2 x6 x4 G7) fun G8 =>
  bP (fa Q q 274 0 0 x6) fun x9 =>
  bP (ld Q q 3 x9 G8) fun x10 =>
  bP (fa Q q 23 2 2 x0) fun x11 =>
  bP (ld Q q 3 x11 G8) fun x12 =>
  bP (bn Q q .geq 3 (.tmp 13) (.tmp 15) x10 x12) fun x13 =>
  ifV x13 (
  some ((.int .i64 (-1)), G8)) (
  bP (fa Q q 274 0 0 x6) fun x14 =>
  bP (ld Q q 3 x14 G8) fun x15 =>
  some (x15, G8))
theorem m356 {e : Ex} {E : Ev} (h : ExLe Q e E) (v0 v1 : Value) (G : GS) : Ref (s356 true e v0 v1 G) (s356 false (Ex.of E) v0 v1 G) := by
  unfold s356
  exact Ref.gq
theorem f356 {orc : FuncId → Bool} {e : Ex} (h : ExLe Q e (E orc)) (v0 v1 : Value) (G : GS) : Ref (s356 true e v0 v1 G) ((E orc).cl 356 [v0, v1] G) :=
  fun r hr => cl_sxE_some Q orc (vs := [v0, v1]) G Tryz.func356 (by kernel_rfl) (by kernel_rfl) (by kernel_rfl) (by kernel_rfl) (by kernel_rfl) (by kernel_rfl) (m356 h v0 v1 G r hr)
noncomputable def b357_0 (q : Bool) (e : Ex) (lp : Env → GS → Option (Exit × Env × GS)) (τ : Env) (G : GS) : Option (Exit × Env × GS) :=
  bV q (τ 5) fun a5_ =>
  bV q (τ 6) fun a6_ =>
  bV q (τ 7) fun a7_ =>
  bP (bn Q q .lss 3 (.tmp 7) (.tmp 6) a7_ a6_) fun x0 =>
  ifV x0 (
  bP (ias Q q 538 3 a5_ a7_) fun x1 =>
  bP (lda Q q 505 3 x1 G) fun x2 =>
  bS (al Q q 505 z505 G) fun x3 G4 =>
  bP (st Q q 505 3 x3 x2 G4) fun G5 =>
  bP (fa Q q 505 0 0 x3) fun x6 =>
  bP (ld Q q 3 x6 G5) fun x7 =>
  bP (fa Q q 505 1 1 x3) fun x8 =>
  bP (ld Q q 3 x8 G5) fun x9 =>
  bP (bn Q q .lss 3 (.tmp 12) (.tmp 14) x7 x9) fun x10 =>
  bS (gd x10 false (bP (fa Q q 505 0 0 x3) fun y => some (y, G5)) G5) fun x11 G12 =>
  bS (gd x10 false (bP (ld Q q 3 x11 G12) fun y => some (y, G12)) G12) fun x13 G14 =>
  bS (gd x10 false (bP (fa Q q 505 2 2 x3) fun y => some (y, G14)) G14) fun x15 G16 =>
  bS (gd x10 false (bP (ld Q q 3 x15 G16) fun y => some (y, G16)) G16) fun x17 G18 =>
  bS (gd x10 false (bP (bn Q q .gtr 3 (.tmp 18) (.tmp 20) x13 x17) fun y => some (y, G18)) G18) fun x19 G20 =>
  bP (pickV x10 (.bool true) x19) fun x21 =>
  ifV x21 (
  some (.ret, xq q 24 τ [(2, (.bool false)), (22, x21), (21, x19), (20, x17), (19, x15), (18, x13), (17, x11), (16, x10), (15, x10), (14, x9), (13, x8), (12, x7), (11, x6), (4, x3), (10, x2), (9, x1), (8, x0)] [(5, a5_), (6, a6_), (7, a7_)], G20)) (
  bP (bn Q q .add 3 (.tmp 7) (.const (.int .i64 1)) a7_ (.int .i64 1)) fun x22 =>
  lp (xq q 24 τ [(7, x22), (23, x22), (22, x21), (21, x19), (20, x17), (19, x15), (18, x13), (17, x11), (16, x10), (15, x10), (14, x9), (13, x8), (12, x7), (11, x6), (4, x3), (10, x2), (9, x1), (8, x0)] [(5, a5_), (6, a6_)]) G20)) (
  some ((.exit 0), xq q 24 τ [(8, x0)] [(5, a5_), (6, a6_), (7, a7_)], G))
theorem mb357_0 {e : Ex} {E : Ev} (h : ExLe Q e E) {lp lp' : Env → GS → Option (Exit × Env × GS)} (hlp : LpLe lp lp') (τ : Env) (G : GS) : Ref (b357_0 true e lp τ G) (b357_0 false (Ex.of E) lp' τ G) := by
  unfold b357_0
  exact Ref.gq
theorem l357_0 {orc : FuncId → Bool} {e : Ex} (h : ExLe Q e (E orc)) (lp : Env → GS → Option (Exit × Env × GS)) (hlp : ∀ τ G, Ref (lp τ G) (mapE ((E orc).lp (subAt [1, 0, 1, 0, 0] (bodyOf Tryz.f357)) (lst 24 τ) G))) (T : List Value) (G : GS) (hT : T.length = 24) : Ref (b357_0 true e lp (nth undef T) G) (mapE ((E orc).lp (subAt [1, 0, 1, 0, 0] (bodyOf Tryz.f357)) T G)) :=
  fun r hr => lp_sxN Q orc G hT (by kernel_rfl) (mb357_0 h ⟨hlp⟩ _ _ r hr)
/-- coxswain/word.within -/
noncomputable def s357 (q : Bool) (e : Ex) (v0 : Value) (G : GS) : Option (Value × GS) :=
  bP (ln Q q 538 v0) fun x0 =>
  bLq q e 357 0 (subAt [1, 0, 1, 0, 0] (bodyOf Tryz.f357)) 24 (nth undef [v0]) [(7, (.int .i64 0)), (6, x0), (5, v0), (2, (.bool false))] [] G fun e1 t2 G3 =>
  bV q (t2 2) fun t2x2_ =>
  ifE e1 (.exit 0) (
  some ((.bool true), G3)) (ifE e1 .ret (
  some (t2x2_, G3)) (none))
theorem m357 {e : Ex} {E : Ev} (h : ExLe Q e E) (v0 : Value) (G : GS) : Ref (s357 true e v0 G) (s357 false (Ex.of E) v0 G) := by
  unfold s357
  exact Ref.gq
theorem f357 {orc : FuncId → Bool} {e : Ex} (h : ExLe Q e (E orc)) (v0 : Value) (G : GS) : Ref (s357 true e v0 G) ((E orc).cl 357 [v0] G) :=
  fun r hr => cl_sxE_some Q orc (vs := [v0]) G Tryz.func357 (by kernel_rfl) (by kernel_rfl) (by kernel_rfl) (by kernel_rfl) (by kernel_rfl) (by kernel_rfl) (m357 h v0 G r hr)
noncomputable def b358_0 (q : Bool) (e : Ex) (lp : Env → GS → Option (Exit × Env × GS)) (τ : Env) (G : GS) : Option (Exit × Env × GS) :=
  bV q (τ 1) fun a1_ =>
  bV q (τ 5) fun a5_ =>
  bV q (τ 8) fun a8_ =>
  bV q (τ 9) fun a9_ =>
  bV q (τ 10) fun a10_ =>
  bP (bn Q q .lss 3 (.tmp 10) (.tmp 9) a10_ a9_) fun x0 =>
  ifV x0 (
  bP (ias Q q 507 2 a8_ a10_) fun x1 =>
  bP (lda Q q 392 2 x1 G) fun x2 =>
  bS (al Q q 392 z392 G) fun x3 G4 =>
  bP (st Q q 392 2 x3 x2 G4) fun G5 =>
  bP (lda Q q 392 2 x3 (G5.room 8)) fun x6 =>
  bP (ias Q q 78 1 a1_ a10_) fun x7 =>
  bP (ld Q q 3 x7 (G5.room 8)) fun x8 =>
  bS (e.ev.cl 399 [a5_, x6, x8] (G5.room 8)) fun x10 G9 =>
  bP (bn Q q .add 3 (.tmp 10) (.const (.int .i64 1)) a10_ (.int .i64 1)) fun x11 =>
  lp (xq q 24 τ [(10, x11), (22, x11), (5, x10), (21, x10), (20, x8), (19, x7), (18, a10_), (17, a1_), (16, x6), (15, a5_), (6, a10_), (7, x3), (14, x2), (13, x1), (12, a10_), (11, x0)] [(1, a1_), (8, a8_), (9, a9_)]) G9) (
  some ((.exit 0), xq q 24 τ [(11, x0)] [(1, a1_), (5, a5_), (8, a8_), (9, a9_), (10, a10_)], G))
theorem mb358_0 {e : Ex} {E : Ev} (h : ExLe Q e E) {lp lp' : Env → GS → Option (Exit × Env × GS)} (hlp : LpLe lp lp') (τ : Env) (G : GS) : Ref (b358_0 true e lp τ G) (b358_0 false (Ex.of E) lp' τ G) := by
  unfold b358_0
  exact Ref.gq
theorem l358_0 {orc : FuncId → Bool} {e : Ex} (h : ExLe Q e (E orc)) (lp : Env → GS → Option (Exit × Env × GS)) (hlp : ∀ τ G, Ref (lp τ G) (mapE ((E orc).lp (subAt [1, 1, 0, 1, 0, 0] (bodyOf Tryz.f358)) (lst 24 τ) G))) (T : List Value) (G : GS) (hT : T.length = 24) : Ref (b358_0 true e lp (nth undef T) G) (mapE ((E orc).lp (subAt [1, 1, 0, 1, 0, 0] (bodyOf Tryz.f358)) T G)) :=
  fun r hr => lp_sxN Q orc G hT (by kernel_rfl) (mb358_0 h ⟨hlp⟩ _ _ r hr)
/-- coxswain/word.lay -/
noncomputable def s358 (q : Bool) (e : Ex) (v0 v1 : Value) (G : GS) : Option (Value × GS) :=
  bP (ln Q q 507 v0) fun x0 =>
  bLq q e 358 0 (subAt [1, 1, 0, 1, 0, 0] (bodyOf Tryz.f358)) 24 (nth undef [v0, v1]) [(10, (.int .i64 0)), (9, x0), (8, v0), (5, (.int .u64 0)), (4, (.int .u64 0))] [] G fun e1 t2 G3 =>
  bV q (t2 5) fun t2x5_ =>
  ifE e1 (.exit 0) (
  some (t2x5_, G3)) (none)
theorem m358 {e : Ex} {E : Ev} (h : ExLe Q e E) (v0 v1 : Value) (G : GS) : Ref (s358 true e v0 v1 G) (s358 false (Ex.of E) v0 v1 G) := by
  unfold s358
  exact Ref.gq
theorem f358 {orc : FuncId → Bool} {e : Ex} (h : ExLe Q e (E orc)) (v0 v1 : Value) (G : GS) : Ref (s358 true e v0 v1 G) ((E orc).cl 358 [v0, v1] G) :=
  fun r hr => cl_sxE_some Q orc (vs := [v0, v1]) G Tryz.func358 (by kernel_rfl) (by kernel_rfl) (by kernel_rfl) (by kernel_rfl) (by kernel_rfl) (by kernel_rfl) (m358 h v0 v1 G r hr)
noncomputable def b359_0 (q : Bool) (e : Ex) (lp : Env → GS → Option (Exit × Env × GS)) (τ : Env) (G : GS) : Option (Exit × Env × GS) :=
  bV q (τ 0) fun a0_ =>
  bV q (τ 1) fun a1_ =>
  bV q (τ 5) fun a5_ =>
  bV q (τ 6) fun a6_ =>
  bP (bn Q q .lss 3 (.tmp 6) (.tmp 5) a6_ a5_) fun x0 =>
  ifV x0 (
  bP (fa Q q 27 1 1 a1_) fun x1 =>
  bP (ld Q q 3 x1 G) fun x2 =>
  bP (bn Q q .add 3 (.tmp 12) (.tmp 13) x2 a6_) fun x3 =>
  bS (cValue e.ev a0_ [a6_, x3] G) fun x4 G5 =>
  bP (un Q q .not x4) fun x6 =>
  ifV x6 (
  some (.ret, xq q 18 τ [(16, x6), (15, x4), (14, x3), (13, a6_), (12, x2), (11, x1), (10, a6_), (9, a0_), (3, a6_), (8, a6_), (7, x0)] [(0, a0_), (1, a1_), (5, a5_), (6, a6_)], G5)) (
  bP (bn Q q .add 3 (.tmp 6) (.const (.int .i64 1)) a6_ (.int .i64 1)) fun x7 =>
  lp (xq q 18 τ [(6, x7), (17, x7), (16, x6), (15, x4), (14, x3), (13, a6_), (12, x2), (11, x1), (10, a6_), (9, a0_), (3, a6_), (8, a6_), (7, x0)] [(0, a0_), (1, a1_), (5, a5_)]) G5)) (
  some ((.exit 0), xq q 18 τ [(7, x0)] [(0, a0_), (1, a1_), (5, a5_), (6, a6_)], G))
theorem mb359_0 {e : Ex} {E : Ev} (h : ExLe Q e E) {lp lp' : Env → GS → Option (Exit × Env × GS)} (hlp : LpLe lp lp') (τ : Env) (G : GS) : Ref (b359_0 true e lp τ G) (b359_0 false (Ex.of E) lp' τ G) := by
  unfold b359_0
  exact Ref.gq
theorem l359_0 {orc : FuncId → Bool} {e : Ex} (h : ExLe Q e (E orc)) (lp : Env → GS → Option (Exit × Env × GS)) (hlp : ∀ τ G, Ref (lp τ G) (mapE ((E orc).lp (subAt [1, 0, 0] (bodyOf Tryz.f359)) (lst 18 τ) G))) (T : List Value) (G : GS) (hT : T.length = 18) : Ref (b359_0 true e lp (nth undef T) G) (mapE ((E orc).lp (subAt [1, 0, 0] (bodyOf Tryz.f359)) T G)) :=
  fun r hr => lp_sxN Q orc G hT (by kernel_rfl) (mb359_0 h ⟨hlp⟩ _ _ r hr)
/-- coxswain/epoch.pins$1 -/
noncomputable def s359 (q : Bool) (e : Ex) (v0 v1 : Value) (G : GS) : Option (Value × GS) :=
  bP (fa Q q 27 2 2 v1) fun x0 =>
  bP (ld Q q 3 x0 G) fun x1 =>
  bLq q e 359 0 (subAt [1, 0, 0] (bodyOf Tryz.f359)) 18 (nth undef [v0, v1]) [(6, (.int .i64 0)), (5, x1), (4, x0)] [] G fun e2 t3 G4 =>
  ifE e2 (.exit 0) (
  some (.tuple #[], G4)) (ifE e2 .ret (
  some (.tuple #[], G4)) (none))
theorem m359 {e : Ex} {E : Ev} (h : ExLe Q e E) (v0 v1 : Value) (G : GS) : Ref (s359 true e v0 v1 G) (s359 false (Ex.of E) v0 v1 G) := by
  unfold s359
  exact Ref.gq
theorem f359 {orc : FuncId → Bool} {e : Ex} (h : ExLe Q e (E orc)) (v0 v1 : Value) (G : GS) : Ref (s359 true e v0 v1 G) ((E orc).cl 359 [v0, v1] G) :=
  fun r hr => cl_sxE_some Q orc (vs := [v0, v1]) G Tryz.func359 (by kernel_rfl) (by kernel_rfl) (by kernel_rfl) (by kernel_rfl) (by kernel_rfl) (by kernel_rfl) (m359 h v0 v1 G r hr)
/-- (coxswain/word.raw).with -/
noncomputable def s399 (q : Bool) (e : Ex) (v0 v1 v2 : Value) (G : GS) : Option (Value × GS) :=
  bS (bx q v1 G) fun x0 G1 =>
  bP (cv Q q 3 41 .i64 .u64 v2) fun x2 =>
  bP (fa Q q 392 0 0 x0) fun x3 =>
  bP (ld Q q 3 x3 G1) fun x4 =>
  bP (bn Q q .shl 41 (.tmp 9) (.tmp 11) x2 x4) fun x5 =>
  bP (bn Q q .or 395 (.tmp 7) (.tmp 12) v0 x5) fun x6 =>
  some (x6, G1)
theorem m399 {e : Ex} {E : Ev} (h : ExLe Q e E) (v0 v1 v2 : Value) (G : GS) : Ref (s399 true e v0 v1 v2 G) (s399 false (Ex.of E) v0 v1 v2 G) := by
  unfold s399
  exact Ref.gq
theorem f399 {orc : FuncId → Bool} {e : Ex} (h : ExLe Q e (E orc)) (v0 v1 v2 : Value) (G : GS) : Ref (s399 true e v0 v1 v2 G) ((E orc).cl 399 [v0, v1, v2] G) :=
  fun r hr => cl_sxE_some Q orc (vs := [v0, v1, v2]) G Tryz.func399 (by kernel_rfl) (by kernel_rfl) (by kernel_rfl) (by kernel_rfl) (by kernel_rfl) (by kernel_rfl) (m399 h v0 v1 v2 G r hr)
/-- (coxswain/tower.node).cells -/
noncomputable def s520 (q : Bool) (e : Ex) (v0 : Value) (G : GS) : Option (Value × GS) :=
  bP (bn Q q .add 3 (.const (.int .i64 4)) (.tmp 3) (.int .i64 4) v0) fun x0 =>
  some (x0, G)
theorem m520 {e : Ex} {E : Ev} (h : ExLe Q e E) (v0 : Value) (G : GS) : Ref (s520 true e v0 G) (s520 false (Ex.of E) v0 G) := by
  unfold s520
  exact Ref.gq
theorem f520 {orc : FuncId → Bool} {e : Ex} (h : ExLe Q e (E orc)) (v0 : Value) (G : GS) : Ref (s520 true e v0 G) ((E orc).cl 520 [v0] G) :=
  fun r hr => cl_sxE_some Q orc (vs := [v0]) G Tryz.func520 (by kernel_rfl) (by kernel_rfl) (by kernel_rfl) (by kernel_rfl) (by kernel_rfl) (by kernel_rfl) (m520 h v0 G r hr)
/-- (coxswain/tower.head).cells -/
noncomputable def s521 (q : Bool) (e : Ex) (v0 : Value) (G : GS) : Option (Value × GS) :=
  some (v0, G)
theorem m521 {e : Ex} {E : Ev} (h : ExLe Q e E) (v0 : Value) (G : GS) : Ref (s521 true e v0 G) (s521 false (Ex.of E) v0 G) := by
  unfold s521
  exact Ref.gq
theorem f521 {orc : FuncId → Bool} {e : Ex} (h : ExLe Q e (E orc)) (v0 : Value) (G : GS) : Ref (s521 true e v0 G) ((E orc).cl 521 [v0] G) :=
  fun r hr => cl_sxE_some Q orc (vs := [v0]) G Tryz.func521 (by kernel_rfl) (by kernel_rfl) (by kernel_rfl) (by kernel_rfl) (by kernel_rfl) (by kernel_rfl) (m521 h v0 G r hr)
noncomputable def clT (orc : FuncId → Bool) (e : Ex) (f : FuncId) (vs : List Value) (G : GS) : Option (Value × GS) :=
  fork f 194 (
fork f 89 (
fork f 26 (
fork f 21 (
fork f 9 (
fork f 4 (
leaf f 4 (app4 (s4 true e) vs G)) (
leaf f 9 (app1 (s9 true e) vs G))) (
fork f 18 (
leaf f 18 (app1 (s18 true e) vs G)) (
leaf f 21 (app1 (s21 true e) vs G)))) (
fork f 24 (
fork f 23 (
leaf f 23 (app4 (s23 true e) vs G)) (
leaf f 24 (app3 (s24 true e) vs G))) (
fork f 25 (
leaf f 25 (app2 (s25 true e) vs G)) (
leaf f 26 (app2 (s26 true e) vs G))))) (
fork f 53 (
fork f 28 (
fork f 27 (
leaf f 27 (app0 (orc 27) (hasTab Q G) (s27 true e) vs G)) (
leaf f 28 (app2 (s28 true e) vs G))) (
fork f 29 (
leaf f 29 (app2 (s29 true e) vs G)) (
leaf f 53 (app1 (s53 true e) vs G)))) (
fork f 87 (
fork f 69 (
leaf f 69 (app3 (s69 true e) vs G)) (
leaf f 87 (app2 (s87 true e) vs G))) (
fork f 88 (
leaf f 88 (app3 (s88 true e) vs G)) (
leaf f 89 (app1 (s89 true e) vs G)))))) (
fork f 97 (
fork f 93 (
fork f 91 (
fork f 90 (
leaf f 90 (app1 (s90 true e) vs G)) (
leaf f 91 (app2 (s91 true e) vs G))) (
fork f 92 (
leaf f 92 (app1 (s92 true e) vs G)) (
leaf f 93 (app1 (s93 true e) vs G)))) (
fork f 95 (
fork f 94 (
leaf f 94 (app1 (s94 true e) vs G)) (
leaf f 95 (app1 (s95 true e) vs G))) (
fork f 96 (
leaf f 96 (app1 (s96 true e) vs G)) (
leaf f 97 (app1 (s97 true e) vs G))))) (
fork f 105 (
fork f 103 (
fork f 102 (
leaf f 102 (app1 (s102 true e) vs G)) (
leaf f 103 (app1 (s103 true e) vs G))) (
fork f 104 (
leaf f 104 (app2 (s104 true e) vs G)) (
leaf f 105 (app1 (s105 true e) vs G)))) (
fork f 189 (
fork f 106 (
leaf f 106 (app2 (s106 true e) vs G)) (
leaf f 189 (app1 (s189 true e) vs G))) (
fork f 191 (
leaf f 191 (app3 (s191 true e) vs G)) (
fork f 192 (
leaf f 192 (app1 (s192 true e) vs G)) (
leaf f 194 (app2 (s194 true e) vs G)))))))) (
fork f 283 (
fork f 208 (
fork f 204 (
fork f 202 (
fork f 201 (
leaf f 201 (app3 (s201 true e) vs G)) (
leaf f 202 (app2 (s202 true e) vs G))) (
fork f 203 (
leaf f 203 (app1 (s203 true e) vs G)) (
leaf f 204 (app3 (s204 true e) vs G)))) (
fork f 206 (
fork f 205 (
leaf f 205 (app2 (s205 true e) vs G)) (
leaf f 206 (app3 (s206 true e) vs G))) (
fork f 207 (
leaf f 207 (app3 (s207 true e) vs G)) (
leaf f 208 (app2 (s208 true e) vs G))))) (
fork f 271 (
fork f 210 (
fork f 209 (
leaf f 209 (app3 (s209 true e) vs G)) (
leaf f 210 (app4 (s210 true e) vs G))) (
fork f 211 (
leaf f 211 (app2 (s211 true e) vs G)) (
leaf f 271 (app0 (orc 271) (hasTab Q G) (s271 true e) vs G)))) (
fork f 273 (
fork f 272 (
leaf f 272 (app2 (s272 true e) vs G)) (
leaf f 273 (app3 (s273 true e) vs G))) (
fork f 274 (
leaf f 274 (app3 (s274 true e) vs G)) (
fork f 282 (
leaf f 282 (app3 (s282 true e) vs G)) (
leaf f 283 (app2 (s283 true e) vs G))))))) (
fork f 353 (
fork f 287 (
fork f 285 (
fork f 284 (
leaf f 284 (app0 (orc 284) (hasTab Q G) (s284 true e) vs G)) (
leaf f 285 (app1 (s285 true e) vs G))) (
fork f 286 (
leaf f 286 (app1 (s286 true e) vs G)) (
leaf f 287 (app1 (s287 true e) vs G)))) (
fork f 351 (
fork f 288 (
leaf f 288 (app2 (s288 true e) vs G)) (
leaf f 351 (app4 (s351 true e) vs G))) (
fork f 352 (
leaf f 352 (app2 (s352 true e) vs G)) (
leaf f 353 (app2 (s353 true e) vs G))))) (
fork f 357 (
fork f 355 (
fork f 354 (
leaf f 354 (app2 (s354 true e) vs G)) (
leaf f 355 (app3 (s355 true e) vs G))) (
fork f 356 (
leaf f 356 (app2 (s356 true e) vs G)) (
leaf f 357 (app1 (s357 true e) vs G)))) (
fork f 359 (
fork f 358 (
leaf f 358 (app2 (s358 true e) vs G)) (
leaf f 359 (app2 (s359 true e) vs G))) (
fork f 399 (
leaf f 399 (app3 (s399 true e) vs G)) (
fork f 520 (
leaf f 520 (app1 (s520 true e) vs G)) (
leaf f 521 (app1 (s521 true e) vs G))))))))
theorem clT_ok {orc : FuncId → Bool} {e : Ex} (h : ExLe Q e (E orc)) (f : FuncId) (vs : List Value) (G : GS) : Ref (clT orc e f vs G) ((E orc).cl f vs G) :=
  Ref.fork (
Ref.fork (
Ref.fork (
Ref.fork (
Ref.fork (
Ref.fork (
Ref.leaf (y := fun f => (E orc).cl f vs G) (Ref.app4 (fun u0 u1 u2 u3 G => f4 h u0 u1 u2 u3 G) vs G)) (
Ref.leaf (y := fun f => (E orc).cl f vs G) (Ref.app1 (fun u0 G => f9 h u0 G) vs G))) (
Ref.fork (
Ref.leaf (y := fun f => (E orc).cl f vs G) (Ref.app1 (fun u0 G => f18 h u0 G) vs G)) (
Ref.leaf (y := fun f => (E orc).cl f vs G) (Ref.app1 (fun u0 G => f21 h u0 G) vs G)))) (
Ref.fork (
Ref.fork (
Ref.leaf (y := fun f => (E orc).cl f vs G) (Ref.app4 (fun u0 u1 u2 u3 G => f23 h u0 u1 u2 u3 G) vs G)) (
Ref.leaf (y := fun f => (E orc).cl f vs G) (Ref.app3 (fun u0 u1 u2 G => f24 h u0 u1 u2 G) vs G))) (
Ref.fork (
Ref.leaf (y := fun f => (E orc).cl f vs G) (Ref.app2 (fun u0 u1 G => f25 h u0 u1 G) vs G)) (
Ref.leaf (y := fun f => (E orc).cl f vs G) (Ref.app2 (fun u0 u1 G => f26 h u0 u1 G) vs G))))) (
Ref.fork (
Ref.fork (
Ref.fork (
Ref.leaf (y := fun f => (E orc).cl f vs G) (Ref.app0 (fun ho G => f27 h ho G) vs G)) (
Ref.leaf (y := fun f => (E orc).cl f vs G) (Ref.app2 (fun u0 u1 G => f28 h u0 u1 G) vs G))) (
Ref.fork (
Ref.leaf (y := fun f => (E orc).cl f vs G) (Ref.app2 (fun u0 u1 G => f29 h u0 u1 G) vs G)) (
Ref.leaf (y := fun f => (E orc).cl f vs G) (Ref.app1 (fun u0 G => f53 h u0 G) vs G)))) (
Ref.fork (
Ref.fork (
Ref.leaf (y := fun f => (E orc).cl f vs G) (Ref.app3 (fun u0 u1 u2 G => f69 h u0 u1 u2 G) vs G)) (
Ref.leaf (y := fun f => (E orc).cl f vs G) (Ref.app2 (fun u0 u1 G => f87 h u0 u1 G) vs G))) (
Ref.fork (
Ref.leaf (y := fun f => (E orc).cl f vs G) (Ref.app3 (fun u0 u1 u2 G => f88 h u0 u1 u2 G) vs G)) (
Ref.leaf (y := fun f => (E orc).cl f vs G) (Ref.app1 (fun u0 G => f89 h u0 G) vs G)))))) (
Ref.fork (
Ref.fork (
Ref.fork (
Ref.fork (
Ref.leaf (y := fun f => (E orc).cl f vs G) (Ref.app1 (fun u0 G => f90 h u0 G) vs G)) (
Ref.leaf (y := fun f => (E orc).cl f vs G) (Ref.app2 (fun u0 u1 G => f91 h u0 u1 G) vs G))) (
Ref.fork (
Ref.leaf (y := fun f => (E orc).cl f vs G) (Ref.app1 (fun u0 G => f92 h u0 G) vs G)) (
Ref.leaf (y := fun f => (E orc).cl f vs G) (Ref.app1 (fun u0 G => f93 h u0 G) vs G)))) (
Ref.fork (
Ref.fork (
Ref.leaf (y := fun f => (E orc).cl f vs G) (Ref.app1 (fun u0 G => f94 h u0 G) vs G)) (
Ref.leaf (y := fun f => (E orc).cl f vs G) (Ref.app1 (fun u0 G => f95 h u0 G) vs G))) (
Ref.fork (
Ref.leaf (y := fun f => (E orc).cl f vs G) (Ref.app1 (fun u0 G => f96 h u0 G) vs G)) (
Ref.leaf (y := fun f => (E orc).cl f vs G) (Ref.app1 (fun u0 G => f97 h u0 G) vs G))))) (
Ref.fork (
Ref.fork (
Ref.fork (
Ref.leaf (y := fun f => (E orc).cl f vs G) (Ref.app1 (fun u0 G => f102 h u0 G) vs G)) (
Ref.leaf (y := fun f => (E orc).cl f vs G) (Ref.app1 (fun u0 G => f103 h u0 G) vs G))) (
Ref.fork (
Ref.leaf (y := fun f => (E orc).cl f vs G) (Ref.app2 (fun u0 u1 G => f104 h u0 u1 G) vs G)) (
Ref.leaf (y := fun f => (E orc).cl f vs G) (Ref.app1 (fun u0 G => f105 h u0 G) vs G)))) (
Ref.fork (
Ref.fork (
Ref.leaf (y := fun f => (E orc).cl f vs G) (Ref.app2 (fun u0 u1 G => f106 h u0 u1 G) vs G)) (
Ref.leaf (y := fun f => (E orc).cl f vs G) (Ref.app1 (fun u0 G => f189 h u0 G) vs G))) (
Ref.fork (
Ref.leaf (y := fun f => (E orc).cl f vs G) (Ref.app3 (fun u0 u1 u2 G => f191 h u0 u1 u2 G) vs G)) (
Ref.fork (
Ref.leaf (y := fun f => (E orc).cl f vs G) (Ref.app1 (fun u0 G => f192 h u0 G) vs G)) (
Ref.leaf (y := fun f => (E orc).cl f vs G) (Ref.app2 (fun u0 u1 G => f194 h u0 u1 G) vs G)))))))) (
Ref.fork (
Ref.fork (
Ref.fork (
Ref.fork (
Ref.fork (
Ref.leaf (y := fun f => (E orc).cl f vs G) (Ref.app3 (fun u0 u1 u2 G => f201 h u0 u1 u2 G) vs G)) (
Ref.leaf (y := fun f => (E orc).cl f vs G) (Ref.app2 (fun u0 u1 G => f202 h u0 u1 G) vs G))) (
Ref.fork (
Ref.leaf (y := fun f => (E orc).cl f vs G) (Ref.app1 (fun u0 G => f203 h u0 G) vs G)) (
Ref.leaf (y := fun f => (E orc).cl f vs G) (Ref.app3 (fun u0 u1 u2 G => f204 h u0 u1 u2 G) vs G)))) (
Ref.fork (
Ref.fork (
Ref.leaf (y := fun f => (E orc).cl f vs G) (Ref.app2 (fun u0 u1 G => f205 h u0 u1 G) vs G)) (
Ref.leaf (y := fun f => (E orc).cl f vs G) (Ref.app3 (fun u0 u1 u2 G => f206 h u0 u1 u2 G) vs G))) (
Ref.fork (
Ref.leaf (y := fun f => (E orc).cl f vs G) (Ref.app3 (fun u0 u1 u2 G => f207 h u0 u1 u2 G) vs G)) (
Ref.leaf (y := fun f => (E orc).cl f vs G) (Ref.app2 (fun u0 u1 G => f208 h u0 u1 G) vs G))))) (
Ref.fork (
Ref.fork (
Ref.fork (
Ref.leaf (y := fun f => (E orc).cl f vs G) (Ref.app3 (fun u0 u1 u2 G => f209 h u0 u1 u2 G) vs G)) (
Ref.leaf (y := fun f => (E orc).cl f vs G) (Ref.app4 (fun u0 u1 u2 u3 G => f210 h u0 u1 u2 u3 G) vs G))) (
Ref.fork (
Ref.leaf (y := fun f => (E orc).cl f vs G) (Ref.app2 (fun u0 u1 G => f211 h u0 u1 G) vs G)) (
Ref.leaf (y := fun f => (E orc).cl f vs G) (Ref.app0 (fun ho G => f271 h ho G) vs G)))) (
Ref.fork (
Ref.fork (
Ref.leaf (y := fun f => (E orc).cl f vs G) (Ref.app2 (fun u0 u1 G => f272 h u0 u1 G) vs G)) (
Ref.leaf (y := fun f => (E orc).cl f vs G) (Ref.app3 (fun u0 u1 u2 G => f273 h u0 u1 u2 G) vs G))) (
Ref.fork (
Ref.leaf (y := fun f => (E orc).cl f vs G) (Ref.app3 (fun u0 u1 u2 G => f274 h u0 u1 u2 G) vs G)) (
Ref.fork (
Ref.leaf (y := fun f => (E orc).cl f vs G) (Ref.app3 (fun u0 u1 u2 G => f282 h u0 u1 u2 G) vs G)) (
Ref.leaf (y := fun f => (E orc).cl f vs G) (Ref.app2 (fun u0 u1 G => f283 h u0 u1 G) vs G))))))) (
Ref.fork (
Ref.fork (
Ref.fork (
Ref.fork (
Ref.leaf (y := fun f => (E orc).cl f vs G) (Ref.app0 (fun ho G => f284 h ho G) vs G)) (
Ref.leaf (y := fun f => (E orc).cl f vs G) (Ref.app1 (fun u0 G => f285 h u0 G) vs G))) (
Ref.fork (
Ref.leaf (y := fun f => (E orc).cl f vs G) (Ref.app1 (fun u0 G => f286 h u0 G) vs G)) (
Ref.leaf (y := fun f => (E orc).cl f vs G) (Ref.app1 (fun u0 G => f287 h u0 G) vs G)))) (
Ref.fork (
Ref.fork (
Ref.leaf (y := fun f => (E orc).cl f vs G) (Ref.app2 (fun u0 u1 G => f288 h u0 u1 G) vs G)) (
Ref.leaf (y := fun f => (E orc).cl f vs G) (Ref.app4 (fun u0 u1 u2 u3 G => f351 h u0 u1 u2 u3 G) vs G))) (
Ref.fork (
Ref.leaf (y := fun f => (E orc).cl f vs G) (Ref.app2 (fun u0 u1 G => f352 h u0 u1 G) vs G)) (
Ref.leaf (y := fun f => (E orc).cl f vs G) (Ref.app2 (fun u0 u1 G => f353 h u0 u1 G) vs G))))) (
Ref.fork (
Ref.fork (
Ref.fork (
Ref.leaf (y := fun f => (E orc).cl f vs G) (Ref.app2 (fun u0 u1 G => f354 h u0 u1 G) vs G)) (
Ref.leaf (y := fun f => (E orc).cl f vs G) (Ref.app3 (fun u0 u1 u2 G => f355 h u0 u1 u2 G) vs G))) (
Ref.fork (
Ref.leaf (y := fun f => (E orc).cl f vs G) (Ref.app2 (fun u0 u1 G => f356 h u0 u1 G) vs G)) (
Ref.leaf (y := fun f => (E orc).cl f vs G) (Ref.app1 (fun u0 G => f357 h u0 G) vs G)))) (
Ref.fork (
Ref.fork (
Ref.leaf (y := fun f => (E orc).cl f vs G) (Ref.app2 (fun u0 u1 G => f358 h u0 u1 G) vs G)) (
Ref.leaf (y := fun f => (E orc).cl f vs G) (Ref.app2 (fun u0 u1 G => f359 h u0 u1 G) vs G))) (
Ref.fork (
Ref.leaf (y := fun f => (E orc).cl f vs G) (Ref.app3 (fun u0 u1 u2 G => f399 h u0 u1 u2 G) vs G)) (
Ref.fork (
Ref.leaf (y := fun f => (E orc).cl f vs G) (Ref.app1 (fun u0 G => f520 h u0 G) vs G)) (
Ref.leaf (y := fun f => (E orc).cl f vs G) (Ref.app1 (fun u0 G => f521 h u0 G) vs G))))))))
noncomputable def lpT (FUEL : Nat) (e : Ex) (f k : Nat) (τ : Env) (G : GS) : Option (Exit × Env × GS) :=
  fork f 207 (
fork f 53 (
fork f 26 (
leaf f 26 (leaf k 0 (lpS 39 (b26_0 true e) FUEL τ G))) (
fork f 29 (
leaf f 29 (leaf k 0 (lpS 18 (b29_0 true e) FUEL τ G))) (
leaf f 53 (leaf k 0 (lpS 42 (b53_0 true e) FUEL τ G))))) (
fork f 205 (
fork f 96 (
leaf f 96 (leaf k 0 (lpS 20 (b96_0 true e) FUEL τ G))) (
leaf f 205 (fork k 1 (fork k 0 (leaf k 0 (lpS 74 (b205_0 true e) FUEL τ G)) (leaf k 1 (lpS 74 (b205_1 true e) FUEL τ G))) (fork k 2 (leaf k 2 (lpS 74 (b205_2 true e) FUEL τ G)) (leaf k 3 (lpS 74 (b205_3 true e) FUEL τ G)))))) (
fork f 206 (
leaf f 206 (leaf k 0 (lpS 26 (b206_0 true e) FUEL τ G))) (
leaf f 207 (leaf k 0 (lpS 36 (b207_0 true e) FUEL τ G)))))) (
fork f 351 (
fork f 209 (
leaf f 209 (leaf k 0 (lpS 27 (b209_0 true e) FUEL τ G))) (
fork f 210 (
leaf f 210 (leaf k 0 (lpS 40 (b210_0 true e) FUEL τ G))) (
leaf f 351 (leaf k 0 (lpS 40 (b351_0 true e) FUEL τ G))))) (
fork f 357 (
fork f 355 (
leaf f 355 (leaf k 0 (lpS 35 (b355_0 true e) FUEL τ G))) (
leaf f 357 (leaf k 0 (lpS 24 (b357_0 true e) FUEL τ G)))) (
fork f 358 (
leaf f 358 (leaf k 0 (lpS 24 (b358_0 true e) FUEL τ G))) (
leaf f 359 (leaf k 0 (lpS 18 (b359_0 true e) FUEL τ G))))))
theorem lpT_ok {orc : FuncId → Bool} {e : Ex} (h : ExLe Q e (E orc)) (FUEL f k : Nat) (τ : Env) (G : GS) : Ref (lpT FUEL e f k τ G) (mapE ((E orc).lp (codeAt Q f k) (lst (nOf Q f) τ) G)) :=
  Ref.fork (
Ref.fork (
Ref.fork (
Ref.leaf (y := fun f => mapE ((E orc).lp (codeAt Q f k) (lst (nOf Q f) τ) G)) (Ref.leaf (y := fun k => mapE ((E orc).lp (codeAt Q 26 k) (lst (nOf Q 26) τ) G)) (lp_leaf (c := (subAt [1, 1, 1, 0, 1, 0, 0] (bodyOf Tryz.f26))) (l26_0 h) _ _ _))) (
Ref.fork (
Ref.leaf (y := fun f => mapE ((E orc).lp (codeAt Q f k) (lst (nOf Q f) τ) G)) (Ref.leaf (y := fun k => mapE ((E orc).lp (codeAt Q 29 k) (lst (nOf Q 29) τ) G)) (lp_leaf (c := (subAt [1, 0, 1, 0, 0] (bodyOf Tryz.f29))) (l29_0 h) _ _ _))) (
Ref.leaf (y := fun f => mapE ((E orc).lp (codeAt Q f k) (lst (nOf Q f) τ) G)) (Ref.leaf (y := fun k => mapE ((E orc).lp (codeAt Q 53 k) (lst (nOf Q 53) τ) G)) (lp_leaf (c := (subAt [1, 1, 1, 0, 1, 0, 0] (bodyOf Tryz.f53))) (l53_0 h) _ _ _))))) (
Ref.fork (
Ref.fork (
Ref.leaf (y := fun f => mapE ((E orc).lp (codeAt Q f k) (lst (nOf Q f) τ) G)) (Ref.leaf (y := fun k => mapE ((E orc).lp (codeAt Q 96 k) (lst (nOf Q 96) τ) G)) (lp_leaf (c := (subAt [1, 0, 1, 0, 0] (bodyOf Tryz.f96))) (l96_0 h) _ _ _))) (
Ref.leaf (y := fun f => mapE ((E orc).lp (codeAt Q f k) (lst (nOf Q f) τ) G)) (Ref.fork (Ref.fork (Ref.leaf (y := fun k => mapE ((E orc).lp (codeAt Q 205 k) (lst (nOf Q 205) τ) G)) (lp_leaf (c := (subAt [0, 1, 0, 0] (bodyOf Tryz.f205))) (l205_0 h) _ _ _)) (Ref.leaf (y := fun k => mapE ((E orc).lp (codeAt Q 205 k) (lst (nOf Q 205) τ) G)) (lp_leaf (c := (subAt [1, 0, 1, 0, 0] (bodyOf Tryz.f205))) (l205_1 h) _ _ _))) (Ref.fork (Ref.leaf (y := fun k => mapE ((E orc).lp (codeAt Q 205 k) (lst (nOf Q 205) τ) G)) (lp_leaf (c := (subAt [1, 1, 1, 0, 0] (bodyOf Tryz.f205))) (l205_2 h) _ _ _)) (Ref.leaf (y := fun k => mapE ((E orc).lp (codeAt Q 205 k) (lst (nOf Q 205) τ) G)) (lp_leaf (c := (subAt [1, 1, 1, 0, 0, 1, 1, 0, 0, 1, 1, 1, 1, 0, 0] (bodyOf Tryz.f205))) (l205_3 h) _ _ _)))))) (
Ref.fork (
Ref.leaf (y := fun f => mapE ((E orc).lp (codeAt Q f k) (lst (nOf Q f) τ) G)) (Ref.leaf (y := fun k => mapE ((E orc).lp (codeAt Q 206 k) (lst (nOf Q 206) τ) G)) (lp_leaf (c := (subAt [1, 0, 1, 0, 0] (bodyOf Tryz.f206))) (l206_0 h) _ _ _))) (
Ref.leaf (y := fun f => mapE ((E orc).lp (codeAt Q f k) (lst (nOf Q f) τ) G)) (Ref.leaf (y := fun k => mapE ((E orc).lp (codeAt Q 207 k) (lst (nOf Q 207) τ) G)) (lp_leaf (c := (subAt [1, 1, 0, 1, 0, 0] (bodyOf Tryz.f207))) (l207_0 h) _ _ _)))))) (
Ref.fork (
Ref.fork (
Ref.leaf (y := fun f => mapE ((E orc).lp (codeAt Q f k) (lst (nOf Q f) τ) G)) (Ref.leaf (y := fun k => mapE ((E orc).lp (codeAt Q 209 k) (lst (nOf Q 209) τ) G)) (lp_leaf (c := (subAt [1, 0, 1, 0, 0] (bodyOf Tryz.f209))) (l209_0 h) _ _ _))) (
Ref.fork (
Ref.leaf (y := fun f => mapE ((E orc).lp (codeAt Q f k) (lst (nOf Q f) τ) G)) (Ref.leaf (y := fun k => mapE ((E orc).lp (codeAt Q 210 k) (lst (nOf Q 210) τ) G)) (lp_leaf (c := (subAt [1, 0, 1, 0, 0] (bodyOf Tryz.f210))) (l210_0 h) _ _ _))) (
Ref.leaf (y := fun f => mapE ((E orc).lp (codeAt Q f k) (lst (nOf Q f) τ) G)) (Ref.leaf (y := fun k => mapE ((E orc).lp (codeAt Q 351 k) (lst (nOf Q 351) τ) G)) (lp_leaf (c := (subAt [1, 1, 0, 0] (bodyOf Tryz.f351))) (l351_0 h) _ _ _))))) (
Ref.fork (
Ref.fork (
Ref.leaf (y := fun f => mapE ((E orc).lp (codeAt Q f k) (lst (nOf Q f) τ) G)) (Ref.leaf (y := fun k => mapE ((E orc).lp (codeAt Q 355 k) (lst (nOf Q 355) τ) G)) (lp_leaf (c := (subAt [1, 1, 0, 0] (bodyOf Tryz.f355))) (l355_0 h) _ _ _))) (
Ref.leaf (y := fun f => mapE ((E orc).lp (codeAt Q f k) (lst (nOf Q f) τ) G)) (Ref.leaf (y := fun k => mapE ((E orc).lp (codeAt Q 357 k) (lst (nOf Q 357) τ) G)) (lp_leaf (c := (subAt [1, 0, 1, 0, 0] (bodyOf Tryz.f357))) (l357_0 h) _ _ _)))) (
Ref.fork (
Ref.leaf (y := fun f => mapE ((E orc).lp (codeAt Q f k) (lst (nOf Q f) τ) G)) (Ref.leaf (y := fun k => mapE ((E orc).lp (codeAt Q 358 k) (lst (nOf Q 358) τ) G)) (lp_leaf (c := (subAt [1, 1, 0, 1, 0, 0] (bodyOf Tryz.f358))) (l358_0 h) _ _ _))) (
Ref.leaf (y := fun f => mapE ((E orc).lp (codeAt Q f k) (lst (nOf Q f) τ) G)) (Ref.leaf (y := fun k => mapE ((E orc).lp (codeAt Q 359 k) (lst (nOf Q 359) τ) G)) (lp_leaf (c := (subAt [1, 0, 0] (bodyOf Tryz.f359))) (l359_0 h) _ _ _))))))
noncomputable def kE (orc : FuncId → Bool) (n : Nat) : Ex := Nat.rec (motive := fun _ => Ex) ⟨Ev.zero, fun _ _ _ _ => none⟩ (fun _ e => ⟨⟨(evO Q orc 0).ex, clT orc e, (evO Q orc 2000).rd, (evO Q orc 2000).sc, (evO Q orc 0).lp⟩, lpT 6000 e⟩) n
theorem kE_ok (orc : FuncId → Bool) : ∀ n, ExLe Q (kE orc n) (E orc)
  | 0 => ⟨zero_le _, fun _ _ _ _ => .nil _⟩
  | n + 1 => ⟨⟨(le_evL Q orc 0).ex, fun f vs G r hr => clT_ok (kE_ok orc n) f vs G r hr, (le_evL Q orc 2000).rd, (le_evL Q orc 2000).sc, (le_evL Q orc 0).lp⟩, lpT_ok (kE_ok orc n) 6000⟩
/-- what the tables find true is true -/
theorem at_kE {orc : FuncId → Bool} {n f : Nat} {vs : List Value} (h : isTrue ((kE orc n).ev.cl f vs GS.empty) = true) : ∃ G', (E orc).cl f vs GS.empty = some (.bool true, G') := isTrue_of ((kE_ok orc n).ev.cl f vs GS.empty) h
theorem closed_kE {orc : FuncId → Bool} (ho : OrcOk Q orc) (hmix : Q.follows .mixedOrders = true) {n f : Nat} (h : isTrue ((kE orc n).ev.cl f [] GS.empty) = true) (w : World) : Calls Q f #[] w fun e w' => e = .returned (.bool true) ∧ Go.RowKit.Below w.heap.size w w' :=
  let ⟨_, hG⟩ := at_kE h
  law_plain hmix ho hG fun _ => trivial
end Go.Proofs.YtdohlgkmaeipjaaGreat.Lift
