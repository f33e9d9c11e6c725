/- the program's code, spelled out by a program of ours (lift2.lean) -/
import Derived.Test.YtgcceeillefbpaaProg
import Derived.Test.YtgcceeillefbpaaGhKO
import Derived.KernelRfl
namespace Go.Proofs.Ytgcceeillefbpaa.Lift
open Go Go.Proofs.Ytgcceeillefbpaa.Gh Go.Proofs
set_option linter.unusedVariables false
set_option maxRecDepth 100000
@[reducible] noncomputable def Q : Program := Try.prog
@[reducible] noncomputable def E (orc : FuncId → Bool) : Ev := evL Try.prog orc
instance iep22 : EpOk Q 22 := ⟨fun neg x y => by cases neg <;> kernel_rfl, fun neg x y a => by cases neg <;> kernel_rfl, fun neg x y a => by cases neg <;> kernel_rfl⟩
noncomputable abbrev z35 : List Value := [(.pointer none), (.int .i64 0), (.int .i64 0), (.int .i64 0), (.int .i64 0), (.int .i64 0), (.int .i64 0), (.bool false), .nilFunc, (.int .i64 0), (.int .u64 0), (.int .i64 0)]
instance ibd35_ : BdOk Q 35 z35 [] := bd_ok Q (by kernel_rfl) (by kernel_rfl) (by kernel_rfl)
noncomputable abbrev z26 : List Value := [(.pointer none)]
instance ibs36_2_0_1 : BsOk Q 36 2 (rep z26 2) 1 [(0, 0, 1), (1, 1, 1)] := bs_ok Q (z0 := z26) (by kernel_rfl) rfl (by decide) (by kernel_rfl)
noncomputable abbrev z41 : List Value := [(.pointer none), (.int .i64 0), (.int .i64 0), (.int .i64 0), (.int .i64 0), (.int .i64 0), (.int .i64 0), (.bool false), .nilFunc, (.int .i64 0), (.int .u64 0), (.int .i64 0)]
instance ibd41_ : BdOk Q 41 z41 [] := bd_ok Q (by kernel_rfl) (by kernel_rfl) (by kernel_rfl)
noncomputable abbrev z37 : List Value := [(.pointer none)]
instance ibs42_2_0_1 : BsOk Q 42 2 (rep z37 2) 1 [(0, 0, 1), (1, 1, 1)] := bs_ok Q (z0 := z37) (by kernel_rfl) rfl (by decide) (by kernel_rfl)
instance iias36 : IasOk Q 36 1 := ⟨fun b o s n c k j => by kernel_rfl⟩
instance ild26 : LdOk Q 26 := ⟨fun b o s G => (show _ = loadOne b o G by kernel_rfl).trans (loadOne_eq b o G)⟩
instance iias42 : IasOk Q 42 1 := ⟨fun b o s n c k j => by kernel_rfl⟩
instance ild37 : LdOk Q 37 := ⟨fun b o s G => (show _ = loadOne b o G by kernel_rfl).trans (loadOne_eq b o G)⟩
noncomputable abbrev z29 : List Value := [(.int .i64 0), (.int .i64 0), (.int .i64 0)]
instance ibd29_2 : BdOk Q 29 z29 [(2, 2, 1)] := bd_ok Q (by kernel_rfl) (by kernel_rfl) (by kernel_rfl)
noncomputable abbrev z31 : List Value := [(.int .i64 0), (.int .i64 0), (.int .i64 0), (.int .i64 0), (.int .i64 0), (.int .i64 0)]
instance ibd31_0 : BdOk Q 31 z31 [(0, 0, 3)] := bd_ok Q (by kernel_rfl) (by kernel_rfl) (by kernel_rfl)
noncomputable abbrev z78 : List Value := (zs 4096 (.int .u64 0))
instance ial78 : AlOk Q 78 z78 := ⟨fun G => by kernel_rfl⟩
noncomputable abbrev z82 : List Value := [(.pointer none), (.int .i64 0), (.int .i64 0), (.int .i64 0), (.int .u64 0), (.int .u64 0), (.bool false), (.int .i64 0)]
instance ibd82_0_1 : BdOk Q 82 z82 [(0, 0, 1), (1, 1, 1)] := bd_ok Q (by kernel_rfl) (by kernel_rfl) (by kernel_rfl)
instance iep26 : EpOk Q 26 := ⟨fun neg x y => by cases neg <;> kernel_rfl, fun neg x y a => by cases neg <;> kernel_rfl, fun neg x y a => by cases neg <;> kernel_rfl⟩
instance ifa35_2 : FaOk Q 35 2 7 := ⟨fun b o s => by kernel_rfl⟩
instance ild4 : LdOk Q 4 := ⟨fun b o s G => (show _ = loadOne b o G by kernel_rfl).trans (loadOne_eq b o G)⟩
instance ifa35_3 : FaOk Q 35 3 8 := ⟨fun b o s => by kernel_rfl⟩
instance ild32 : LdOk Q 32 := ⟨fun b o s G => (show _ = loadOne b o G by kernel_rfl).trans (loadOne_eq b o G)⟩
instance ief32 : EfOk Q 32 := ⟨fun neg x y => by cases neg <;> kernel_rfl, fun neg x y f a b => by cases neg <;> kernel_rfl⟩
instance ifa35_5 : FaOk Q 35 5 10 := ⟨fun b o s => by kernel_rfl⟩
instance ild33 : LdOk Q 33 := ⟨fun b o s G => (show _ = loadOne b o G by kernel_rfl).trans (loadOne_eq b o G)⟩
instance ifa35_6 : FaOk Q 35 6 11 := ⟨fun b o s => by kernel_rfl⟩
instance ild23 : LdOk Q 23 := ⟨fun b o s G => (show _ = loadOne b o G by kernel_rfl).trans (loadOne_eq b o G)⟩
instance iep37 : EpOk Q 37 := ⟨fun neg x y => by cases neg <;> kernel_rfl, fun neg x y a => by cases neg <;> kernel_rfl, fun neg x y a => by cases neg <;> kernel_rfl⟩
instance ifa41_3 : FaOk Q 41 3 8 := ⟨fun b o s => by kernel_rfl⟩
instance ild39 : LdOk Q 39 := ⟨fun b o s G => (show _ = loadOne b o G by kernel_rfl).trans (loadOne_eq b o G)⟩
instance ief39 : EfOk Q 39 := ⟨fun neg x y => by cases neg <;> kernel_rfl, fun neg x y f a b => by cases neg <;> kernel_rfl⟩
instance ifa41_2 : FaOk Q 41 2 7 := ⟨fun b o s => by kernel_rfl⟩
instance ifa41_6 : FaOk Q 41 6 11 := ⟨fun b o s => by kernel_rfl⟩
instance ifa31_0 : FaOk Q 31 0 0 := ⟨fun b o s => by kernel_rfl⟩
instance ilda29 : LdAOk Q 29 3 := ⟨fun b o s G => by kernel_rfl⟩
instance ilda31 : LdAOk Q 31 6 := ⟨fun b o s G => by kernel_rfl⟩
instance ibd41_0_1_2_4 : BdOk Q 41 z41 [(0, 0, 1), (1, 1, 6), (2, 7, 1), (4, 9, 1)] := bd_ok Q (by kernel_rfl) (by kernel_rfl) (by kernel_rfl)
instance ifa29_2 : FaOk Q 29 2 2 := ⟨fun b o s => by kernel_rfl⟩
instance ild3 : LdOk Q 3 := ⟨fun b o s G => (show _ = loadOne b o G by kernel_rfl).trans (loadOne_eq b o G)⟩
instance ist23 : StOk Q 23 1 := ⟨fun b o s v G => by kernel_rfl⟩
instance ist39 : StOk Q 39 1 := ⟨fun b o s v G => by kernel_rfl⟩
instance ifa82_3 : FaOk Q 82 3 7 := ⟨fun b o s => by kernel_rfl⟩
noncomputable abbrev z114 : List Value := [(.int .i64 0), (.int .i64 0), (.int .i64 0), (.int .u64 0), (.int .i64 0), (.int .i64 0), (.bool false), (.bool false), (.int .i64 0)]
instance ibd114_0_2_4 : BdOk Q 114 z114 [(0, 0, 3), (2, 4, 1), (4, 6, 1)] := bd_ok Q (by kernel_rfl) (by kernel_rfl) (by kernel_rfl)
noncomputable abbrev z117 : List Value := [(.int .i64 0), (.int .i64 0), (.int .i64 0), (.int .u64 0), (.int .i64 0), (.int .i64 0), (.bool false), (.bool false), (.int .i64 0), .nilFunc]
instance ibd117_0_1 : BdOk Q 117 z117 [(0, 0, 9), (1, 9, 1)] := bd_ok Q (by kernel_rfl) (by kernel_rfl) (by kernel_rfl)
instance ifa117_0 : FaOk Q 117 0 0 := ⟨fun b o s => by kernel_rfl⟩
instance ifa41_1 : FaOk Q 41 1 1 := ⟨fun b o s => by kernel_rfl⟩
instance ifa31_1 : FaOk Q 31 1 3 := ⟨fun b o s => by kernel_rfl⟩
instance ifa41_4 : FaOk Q 41 4 9 := ⟨fun b o s => by kernel_rfl⟩
instance ifa41_5 : FaOk Q 41 5 10 := ⟨fun b o s => by kernel_rfl⟩
instance ist33 : StOk Q 33 1 := ⟨fun b o s v G => by kernel_rfl⟩
instance ifa31_3 : FaOk Q 31 3 5 := ⟨fun b o s => by kernel_rfl⟩
instance ifa31_2 : FaOk Q 31 2 4 := ⟨fun b o s => by kernel_rfl⟩
instance ial31 : AlOk Q 31 z31 := ⟨fun G => by kernel_rfl⟩
instance ibd29_0_1_2 : BdOk Q 29 z29 [(0, 0, 1), (1, 1, 1), (2, 2, 1)] := bd_ok Q (by kernel_rfl) (by kernel_rfl) (by kernel_rfl)
instance ibd31_0_1_2_3 : BdOk Q 31 z31 [(0, 0, 3), (1, 3, 1), (2, 4, 1), (3, 5, 1)] := bd_ok Q (by kernel_rfl) (by kernel_rfl) (by kernel_rfl)
instance ist31 : StOk Q 31 6 := ⟨fun b o s v G => by kernel_rfl⟩
instance ibd35_0_1_2_3 : BdOk Q 35 z35 [(0, 0, 1), (1, 1, 6), (2, 7, 1), (3, 8, 1)] := bd_ok Q (by kernel_rfl) (by kernel_rfl) (by kernel_rfl)
noncomputable abbrev z127 : List Value := [(.pointer none), (.int .u64 0), (.int .u64 0)]
instance ibd127_0 : BdOk Q 127 z127 [(0, 0, 1)] := bd_ok Q (by kernel_rfl) (by kernel_rfl) (by kernel_rfl)
instance ial127 : AlOk Q 127 z127 := ⟨fun G => by kernel_rfl⟩
instance ist127 : StOk Q 127 3 := ⟨fun b o s v G => by kernel_rfl⟩
instance ifa127_0 : FaOk Q 127 0 0 := ⟨fun b o s => by kernel_rfl⟩
instance ild124 : LdOk Q 124 := ⟨fun b o s G => (show _ = loadOne b o G by kernel_rfl).trans (loadOne_eq b o G)⟩
instance ilda127 : LdAOk Q 127 3 := ⟨fun b o s G => by kernel_rfl⟩
instance ifd80_3 : FdOk Q 80 3 3 := ⟨fun l => by kernel_rfl⟩
instance ifa114_3 : FaOk Q 114 3 5 := ⟨fun b o s => by kernel_rfl⟩
instance ist3 : StOk Q 3 1 := ⟨fun b o s v G => by kernel_rfl⟩
instance ifa117_1 : FaOk Q 117 1 9 := ⟨fun b o s => by kernel_rfl⟩
instance ist115 : StOk Q 115 1 := ⟨fun b o s v G => by kernel_rfl⟩
instance ifa114_5 : FaOk Q 114 5 7 := ⟨fun b o s => by kernel_rfl⟩
instance ist4 : StOk Q 4 1 := ⟨fun b o s v G => by kernel_rfl⟩
instance ifa114_6 : FaOk Q 114 6 8 := ⟨fun b o s => by kernel_rfl⟩
instance icv33_3 : CvOk Q 33 3 .u64 .i64 := ⟨fun n => by kernel_rfl⟩
instance ifa29_0 : FaOk Q 29 0 0 := ⟨fun b o s => by kernel_rfl⟩
instance ifa29_1 : FaOk Q 29 1 1 := ⟨fun b o s => by kernel_rfl⟩
instance ibd127_0_1 : BdOk Q 127 z127 [(0, 0, 1), (1, 1, 1)] := bd_ok Q (by kernel_rfl) (by kernel_rfl) (by kernel_rfl)
instance ibd114_0_4 : BdOk Q 114 z114 [(0, 0, 3), (4, 6, 1)] := bd_ok Q (by kernel_rfl) (by kernel_rfl) (by kernel_rfl)
noncomputable abbrev z158 : List Value := [(.int .i64 0), (.int .i64 0), (.int .i64 0), (.int .u64 0), (.int .i64 0), (.int .i64 0), (.bool false), (.bool false), (.int .i64 0), .nilFunc]
instance ibd158_0_1 : BdOk Q 158 z158 [(0, 0, 9), (1, 9, 1)] := bd_ok Q (by kernel_rfl) (by kernel_rfl) (by kernel_rfl)
instance ifa35_0 : FaOk Q 35 0 0 := ⟨fun b o s => by kernel_rfl⟩
instance ild27 : LdOk Q 27 := ⟨fun b o s G => (show _ = loadOne b o G by kernel_rfl).trans (loadOne_eq b o G)⟩
instance ifa35_4 : FaOk Q 35 4 9 := ⟨fun b o s => by kernel_rfl⟩
instance ist32 : StOk Q 32 1 := ⟨fun b o s v G => by kernel_rfl⟩
instance ifa82_0 : FaOk Q 82 0 0 := ⟨fun b o s => by kernel_rfl⟩
instance ild75 : LdOk Q 75 := ⟨fun b o s G => (show _ = loadOne b o G by kernel_rfl).trans (loadOne_eq b o G)⟩
instance iep75 : EpOk Q 75 := ⟨fun neg x y => by cases neg <;> kernel_rfl, fun neg x y a => by cases neg <;> kernel_rfl, fun neg x y a => by cases neg <;> kernel_rfl⟩
instance ifa82_1 : FaOk Q 82 1 1 := ⟨fun b o s => by kernel_rfl⟩
instance iiaa78 : IaaOk Q 78 4096 1 := ⟨fun b o s k j => by kernel_rfl⟩
noncomputable abbrev z80 : List Value := [(.int .i64 0), (.int .i64 0), (.int .u64 0), (.int .u64 0), (.bool false)]
instance ial80 : AlOk Q 80 z80 := ⟨fun G => by kernel_rfl⟩
instance ibd80_ : BdOk Q 80 z80 [] := bd_ok Q (by kernel_rfl) (by kernel_rfl) (by kernel_rfl)
instance ist80 : StOk Q 80 5 := ⟨fun b o s v G => by kernel_rfl⟩
instance ibd80_0_1 : BdOk Q 80 z80 [(0, 0, 1), (1, 1, 1)] := bd_ok Q (by kernel_rfl) (by kernel_rfl) (by kernel_rfl)
instance ifa82_2 : FaOk Q 82 2 2 := ⟨fun b o s => by kernel_rfl⟩
instance ild76 : LdOk Q 76 := ⟨fun b o s G => (show _ = loadOne b o G by kernel_rfl).trans (loadOne_eq b o G)⟩
instance ifa80_2 : FaOk Q 80 2 2 := ⟨fun b o s => by kernel_rfl⟩
instance ifa80_3 : FaOk Q 80 3 3 := ⟨fun b o s => by kernel_rfl⟩
instance ifa80_4 : FaOk Q 80 4 4 := ⟨fun b o s => by kernel_rfl⟩
instance ist76 : StOk Q 76 1 := ⟨fun b o s v G => by kernel_rfl⟩
instance ilda80 : LdAOk Q 80 5 := ⟨fun b o s G => by kernel_rfl⟩
instance ifa114_0 : FaOk Q 114 0 0 := ⟨fun b o s => by kernel_rfl⟩
instance ifa114_1 : FaOk Q 114 1 3 := ⟨fun b o s => by kernel_rfl⟩
instance ifa114_2 : FaOk Q 114 2 4 := ⟨fun b o s => by kernel_rfl⟩
instance ifa41_0 : FaOk Q 41 0 0 := ⟨fun b o s => by kernel_rfl⟩
instance ild38 : LdOk Q 38 := ⟨fun b o s G => (show _ = loadOne b o G by kernel_rfl).trans (loadOne_eq b o G)⟩
noncomputable abbrev z170 : List Value := [(.int .i64 0), (.int .i64 0)]
instance ibd170_0 : BdOk Q 170 z170 [(0, 0, 1)] := bd_ok Q (by kernel_rfl) (by kernel_rfl) (by kernel_rfl)
instance ifa127_1 : FaOk Q 127 1 1 := ⟨fun b o s => by kernel_rfl⟩
instance ifa158_1 : FaOk Q 158 1 9 := ⟨fun b o s => by kernel_rfl⟩
instance ist156 : StOk Q 156 1 := ⟨fun b o s v G => by kernel_rfl⟩
instance ifa158_0 : FaOk Q 158 0 0 := ⟨fun b o s => by kernel_rfl⟩
instance iep27 : EpOk Q 27 := ⟨fun neg x y => by cases neg <;> kernel_rfl, fun neg x y a => by cases neg <;> kernel_rfl, fun neg x y a => by cases neg <;> kernel_rfl⟩
instance ild156 : LdOk Q 156 := ⟨fun b o s G => (show _ = loadOne b o G by kernel_rfl).trans (loadOne_eq b o G)⟩
instance ifa35_1 : FaOk Q 35 1 1 := ⟨fun b o s => by kernel_rfl⟩
noncomputable abbrev z173 : List Value := [(.int .i64 0), (.int .i64 0), (.bool false)]
instance ibd173_0_1 : BdOk Q 173 z173 [(0, 0, 1), (1, 1, 1)] := bd_ok Q (by kernel_rfl) (by kernel_rfl) (by kernel_rfl)
instance icv3_33 : CvOk Q 3 33 .i64 .u64 := ⟨fun n => by kernel_rfl⟩
instance iep124 : EpOk Q 124 := ⟨fun neg x y => by cases neg <;> kernel_rfl, fun neg x y a => by cases neg <;> kernel_rfl, fun neg x y a => by cases neg <;> kernel_rfl⟩
instance ial170 : AlOk Q 170 z170 := ⟨fun G => by kernel_rfl⟩
instance ist170 : StOk Q 170 2 := ⟨fun b o s v G => by kernel_rfl⟩
instance ifa170_0 : FaOk Q 170 0 0 := ⟨fun b o s => by kernel_rfl⟩
instance iep38 : EpOk Q 38 := ⟨fun neg x y => by cases neg <;> kernel_rfl, fun neg x y a => by cases neg <;> kernel_rfl, fun neg x y a => by cases neg <;> kernel_rfl⟩
instance ild115 : LdOk Q 115 := ⟨fun b o s G => (show _ = loadOne b o G by kernel_rfl).trans (loadOne_eq b o G)⟩
noncomputable abbrev z180 : List Value := [(.int .i64 0), (.int .i64 0), (.int .i64 0)]
instance ibd180_0_1_2 : BdOk Q 180 z180 [(0, 0, 1), (1, 1, 1), (2, 2, 1)] := bd_ok Q (by kernel_rfl) (by kernel_rfl) (by kernel_rfl)
instance ifa170_1 : FaOk Q 170 1 1 := ⟨fun b o s => by kernel_rfl⟩
instance ibs192_2_0_1 : BsOk Q 192 2 (rep z180 2) 3 [(0, 0, 3), (1, 3, 3)] := bs_ok Q (z0 := z180) (by kernel_rfl) rfl (by decide) (by kernel_rfl)
noncomputable abbrev z183 : List Value := [(.int .i64 0), (.int .i64 0), (.int .i64 0), (.int .i64 0)]
instance ial183 : AlOk Q 183 z183 := ⟨fun G => by kernel_rfl⟩
instance ist183 : StOk Q 183 4 := ⟨fun b o s v G => by kernel_rfl⟩
instance isla183 : SlAOk Q 183 2 2 := ⟨fun a lo hi mx G => by kernel_rfl⟩
noncomputable abbrev z3 : List Value := [(.int .i64 0)]
instance ibs62_2_0_1 : BsOk Q 62 2 (rep z3 2) 1 [(0, 0, 1), (1, 1, 1)] := bs_ok Q (z0 := z3) (by kernel_rfl) rfl (by decide) (by kernel_rfl)
instance iep153 : EpOk Q 153 := ⟨fun neg x y => by cases neg <;> kernel_rfl, fun neg x y a => by cases neg <;> kernel_rfl, fun neg x y a => by cases neg <;> kernel_rfl⟩
instance ifa114_4 : FaOk Q 114 4 6 := ⟨fun b o s => by kernel_rfl⟩
instance ifa173_0 : FaOk Q 173 0 0 := ⟨fun b o s => by kernel_rfl⟩
instance ifa173_1 : FaOk Q 173 1 1 := ⟨fun b o s => by kernel_rfl⟩
instance ifa173_2 : FaOk Q 173 2 2 := ⟨fun b o s => by kernel_rfl⟩
instance iiaa183 : IaaOk Q 183 2 2 := ⟨fun b o s k j => by kernel_rfl⟩
instance ilda182 : LdAOk Q 182 2 := ⟨fun b o s G => by kernel_rfl⟩
instance ibd170_0_1 : BdOk Q 170 z170 [(0, 0, 1), (1, 1, 1)] := bd_ok Q (by kernel_rfl) (by kernel_rfl) (by kernel_rfl)
instance ilda170 : LdAOk Q 170 2 := ⟨fun b o s G => by kernel_rfl⟩
instance iln192 : LnOk Q 192 := ⟨fun a n c => by kernel_rfl⟩
instance iias192 : IasOk Q 192 3 := ⟨fun b o s n c k j => by kernel_rfl⟩
instance ilda180 : LdAOk Q 180 3 := ⟨fun b o s G => by kernel_rfl⟩
instance ial180 : AlOk Q 180 z180 := ⟨fun G => by kernel_rfl⟩
instance ist180 : StOk Q 180 3 := ⟨fun b o s v G => by kernel_rfl⟩
instance ifa180_0 : FaOk Q 180 0 0 := ⟨fun b o s => by kernel_rfl⟩
instance ifa180_1 : FaOk Q 180 1 1 := ⟨fun b o s => by kernel_rfl⟩
instance ifa180_2 : FaOk Q 180 2 2 := ⟨fun b o s => by kernel_rfl⟩
noncomputable abbrev z182 : List Value := [(.int .i64 0), (.int .i64 0)]
instance ibd182_0_1 : BdOk Q 182 z182 [(0, 0, 1), (1, 1, 1)] := bd_ok Q (by kernel_rfl) (by kernel_rfl) (by kernel_rfl)
instance ibd183_0_1 : BdOk Q 183 z183 [(0, 0, 2), (1, 2, 2)] := bd_ok Q (by kernel_rfl) (by kernel_rfl) (by kernel_rfl)
instance ilda183 : LdAOk Q 183 4 := ⟨fun b o s G => by kernel_rfl⟩
instance iln187 : LnOk Q 187 := ⟨fun a n c => by kernel_rfl⟩
instance iias187 : IasOk Q 187 2 := ⟨fun b o s n c k j => by kernel_rfl⟩
instance ial182 : AlOk Q 182 z182 := ⟨fun G => by kernel_rfl⟩
instance ist182 : StOk Q 182 2 := ⟨fun b o s v G => by kernel_rfl⟩
instance iias62 : IasOk Q 62 1 := ⟨fun b o s n c k j => by kernel_rfl⟩
instance ibd127_0_1_2 : BdOk Q 127 z127 [(0, 0, 1), (1, 1, 1), (2, 2, 1)] := bd_ok Q (by kernel_rfl) (by kernel_rfl) (by kernel_rfl)
instance ifd80_4 : FdOk Q 80 4 4 := ⟨fun l => by kernel_rfl⟩
instance ifa182_0 : FaOk Q 182 0 0 := ⟨fun b o s => by kernel_rfl⟩
instance ifa182_1 : FaOk Q 182 1 1 := ⟨fun b o s => by kernel_rfl⟩
instance ifa127_2 : FaOk Q 127 2 2 := ⟨fun b o s => by kernel_rfl⟩
instance ilp3_0 : LpIs Q 3 0 (subAt [1, 1, 1, 1, 0, 1, 0, 0] (bodyOf Try.f3)) 93 := ⟨by kernel_rfl, by kernel_rfl⟩
noncomputable def b3_0 (q : Bool) (e : Ex) (lp : Env → GS → Option (Exit × Env × GS)) (τ : Env) (G : GS) : Option (Exit × Env × GS) :=
  bV q (τ 3) fun a3_ =>
  bV q (τ 5) fun a5_ =>
  bV q (τ 6) fun a6_ =>
  bV q (τ 7) fun a7_ =>
  bP (bn Q q .lss 3 (.tmp 27) (.const (.int .i64 2)) a7_ (.int .i64 2)) fun x0 =>
  ifV x0 (
  bP (ias Q q 36 1 a5_ a7_) fun x1 =>
  bP (ld Q q 26 x1 G) fun x2 =>
  bS (e.ev.cl 6 [x2] G) fun x3 G4 =>
  bP (pExtract x3 0) fun x5 =>
  bP (pExtract x3 1) fun x6 =>
  bP (ias Q q 36 1 a5_ a7_) fun x7 =>
  bP (ld Q q 26 x7 G4) fun x8 =>
  bS (e.ev.cl 7 [x8, a3_] G4) fun x9 G10 =>
  bP (un Q q .not x9) fun x11 =>
  bS (gd x11 false (some (a6_, G10)) G10) fun x12 G13 =>
  bS (gd x11 false (some (a7_, G13)) G13) fun x14 G15 =>
  bS (gd x11 false (bP (ias Q q 42 1 x12 x14) fun y => some (y, G15)) G15) fun x16 G17 =>
  bS (gd x11 false (bP (ld Q q 37 x16 G17) fun y => some (y, G17)) G17) fun x18 G19 =>
  bS (gd x11 false (some (a3_, G19)) G19) fun x20 G21 =>
  bS (gd x11 false (bS (e.ev.cl 8 [x18, x20] G21) fun y G => some (y, G)) G21) fun x22 G23 =>
  bS (gd x11 false (bP (un Q q .not x22) fun y => some (y, G23)) G23) fun x24 G25 =>
  bP (pickV x11 (.bool true) x24) fun x26 =>
  bS (gd x26 false (some (x5, G25)) G25) fun x27 G28 =>
  bS (gd x26 false (bP (bn Q q .neq 33 (.tmp 56) (.const (.int .u64 0)) x27 (.int .u64 0)) fun y => some (y, G28)) G28) fun x29 G30 =>
  bP (pickV x26 (.bool true) x29) fun x31 =>
  bS (gd x31 false (some (x6, G30)) G30) fun x32 G33 =>
  bS (gd x31 false (bP (bn Q q .neq 23 (.tmp 60) (.const (.int .i64 1)) x32 (.int .i64 1)) fun y => some (y, G33)) G33) fun x34 G35 =>
  bP (pickV x31 (.bool true) x34) fun x36 =>
  bS (gd x36 false (some (a6_, G35)) G35) fun x37 G38 =>
  bS (gd x36 false (some (a7_, G38)) G38) fun x39 G40 =>
  bS (gd x36 false (bP (ias Q q 42 1 x37 x39) fun y => some (y, G40)) G40) fun x41 G42 =>
  bS (gd x36 false (bP (ld Q q 37 x41 G42) fun y => some (y, G42)) G42) fun x43 G44 =>
  bS (gd x36 false (bS (e.ev.cl 9 [x43] G44) fun y G => some (y, G)) G44) fun x45 G46 =>
  bS (gd x36 false (bP (bn Q q .neq 23 (.tmp 68) (.const (.int .i64 1)) x45 (.int .i64 1)) fun y => some (y, G46)) G46) fun x47 G48 =>
  bP (pickV x36 (.bool true) x47) fun x49 =>
  ifV x49 (
  some (.ret, clq q 93 (tu τ [(3, a3_), (5, a5_), (6, a6_), (7, a7_), (2, (.bool false)), (8, x5), (9, x6), (27, a7_), (28, x0), (31, x3), (32, a5_), (33, a7_), (34, x1), (35, x2), (36, x3), (37, x5), (38, x6), (39, a5_), (40, a7_), (41, x7), (42, x8), (43, a3_), (44, x9), (45, x11), (46, x11), (47, x12), (48, x14), (49, x16), (50, x18), (51, x20), (52, x22), (53, x24), (54, x26), (55, x26), (56, x27), (57, x29), (58, x31), (59, x31), (60, x32), (61, x34), (62, x36), (63, x36), (64, x37), (65, x39), (66, x41), (67, x43), (68, x45), (69, x47), (70, x49)]), G48)) (
  bP (bn Q q .add 3 (.tmp 29) (.const (.int .i64 1)) a7_ (.int .i64 1)) fun x50 =>
  lp (tu τ [(3, a3_), (5, a5_), (6, a6_), (7, x50), (8, x5), (9, x6), (27, a7_), (28, x0), (29, a7_), (30, x50), (31, x3), (32, a5_), (33, a7_), (34, x1), (35, x2), (36, x3), (37, x5), (38, x6), (39, a5_), (40, a7_), (41, x7), (42, x8), (43, a3_), (44, x9), (45, x11), (46, x11), (47, x12), (48, x14), (49, x16), (50, x18), (51, x20), (52, x22), (53, x24), (54, x26), (55, x26), (56, x27), (57, x29), (58, x31), (59, x31), (60, x32), (61, x34), (62, x36), (63, x36), (64, x37), (65, x39), (66, x41), (67, x43), (68, x45), (69, x47), (70, x49)]) G48)) (
  some ((.exit 0), clq q 93 (tu τ [(3, a3_), (5, a5_), (6, a6_), (7, a7_), (27, a7_), (28, x0)]), G))
theorem mb3_0 {e : Ex} {E : Ev} (h : ExLe Q e E) {lp lp' : Env → GS → Option (Exit × Env × GS)} (hlp : LpLe lp lp') (τ : Env) (G : GS) : Ref (b3_0 true e lp τ G) (b3_0 false (Ex.of E) lp' τ G) := by
  unfold b3_0
  exact Ref.go
set_option maxHeartbeats 8000000 in
theorem l3_0 {orc : FuncId → Bool} {e : Ex} (h : ExLe Q e (E orc)) (lp : Env → GS → Option (Exit × Env × GS)) (hlp : ∀ τ G, Ref (lp τ G) (mapE ((E orc).lp (subAt [1, 1, 1, 1, 0, 1, 0, 0] (bodyOf Try.f3)) (lst 93 τ) G))) (T : List Value) (G : GS) (hT : T.length = 93) : Ref (b3_0 true e lp (nth undef T) G) (mapE ((E orc).lp (subAt [1, 1, 1, 1, 0, 1, 0, 0] (bodyOf Try.f3)) T G)) :=
  fun r hr => lp_sxM Q orc G hT (by kernel_rfl) (mb3_0 h ⟨hlp⟩ _ _ r hr)
/-- coxswain/coxswainlaw11.ArenaNone -/
noncomputable def s3 (q : Bool) (e : Ex) (v0 : Value) (G : GS) : Option (Value × GS) :=
  bS (e.ev.cl 5 [(.int .i64 9)] G) fun x0 G1 =>
  bP (pExtract x0 0) fun x2 =>
  bP (pExtract x0 1) fun x3 =>
  bP (bn Q q .neq 23 (.tmp 15) (.const (.int .i64 0)) x3 (.int .i64 0)) fun x4 =>
  bS (gd x4 false (some (x2, G1)) G1) fun x5 G6 =>
  bS (gd x4 false (bP (ep Q q false 22 (.tmp 18) (.const (.pointer none)) x5 (.pointer none)) fun y => some (y, G6)) G6) fun x7 G8 =>
  bP (pickV x4 (.bool true) x7) fun x9 =>
  ifV x9 (
  some ((.bool false), G8)) (
  bP (bd Q q 35 z35 [] []) fun x10 =>
  bS (bx q x10 G8) fun x11 G12 =>
  bS (bs Q q 36 2 (rep z26 2) 1 [(0, 0, 1), (1, 1, 1)] [(.pointer none), x11] G12) fun x13 G14 =>
  bP (bd Q q 41 z41 [] []) fun x15 =>
  bS (bx q x15 G14) fun x16 G17 =>
  bS (bs Q q 42 2 (rep z37 2) 1 [(0, 0, 1), (1, 1, 1)] [(.pointer none), x16] G17) fun x18 G19 =>
  bL q e 3 0 (subAt [1, 1, 1, 1, 0, 1, 0, 0] (bodyOf Try.f3)) 93 (tu (nth undef [v0]) [(2, (.bool false)), (3, x2), (4, x3), (5, x13), (6, x18), (7, (.int .i64 0)), (11, x0), (12, x0), (13, x2), (14, x3), (15, x3), (16, x4), (17, x4), (18, x5), (19, x7), (20, x9), (21, x10), (22, x11), (23, x13), (24, x15), (25, x16), (26, x18)]) G19 fun e20 t21 G22 =>
  bV q (t21 0) fun t21x0_ =>
  bV q (t21 2) fun t21x2_ =>
  bV q (t21 3) fun t21x3_ =>
  ifE e20 (.exit 0) (
  bP (bd Q q 29 z29 [(2, 2, 1)] [(.int .i64 3)]) fun x23 =>
  bP (bd Q q 31 z31 [(0, 0, 3)] [x23]) fun x24 =>
  bS (e.ev.cl 11 [t21x0_, (.int .i64 9)] G22) fun x25 G26 =>
  bP (bn Q q .sub 3 (.const (.int .i64 (-1))) (.tmp 74) (.int .i64 (-1)) x25) fun x27 =>
  bS (e.ev.cl 10 [x24, x27] G26) fun x28 G29 =>
  bS (e.ev.cl 8 [x28, t21x3_] G29) fun x30 G31 =>
  bS (gd x30 true (some (x28, G31)) G31) fun x32 G33 =>
  bS (gd x30 true (bS (e.ev.cl 9 [x32] G33) fun y G => some (y, G)) G33) fun x34 G35 =>
  bS (gd x30 true (bP (bn Q q .eql 23 (.tmp 82) (.const (.int .i64 3)) x34 (.int .i64 3)) fun y => some (y, G35)) G35) fun x36 G37 =>
  bP (pickV x30 x36 (.bool false)) fun x38 =>
  bS (gd x38 true (some (t21x3_, G37)) G37) fun x39 G40 =>
  bS (gd x38 true (bS (e.ev.cl 12 [x39] G40) fun y G => some (y, G)) G40) fun x41 G42 =>
  bS (gd x38 true (bP (bn Q q .eql 3 (.tmp 87) (.const (.int .i64 0)) x41 (.int .i64 0)) fun y => some (y, G42)) G42) fun x43 G44 =>
  bP (pickV x38 x43 (.bool false)) fun x45 =>
  bS (gd x45 true (bS (e.ev.cl 13 [] G44) fun y G => some (y, G)) G44) fun x46 G47 =>
  bP (pickV x45 x46 (.bool false)) fun x48 =>
  some (x48, G47)) (ifE e20 .ret (
  some (t21x2_, G22)) (none)))
theorem m3 {e : Ex} {E : Ev} (h : ExLe Q e E) (v0 : Value) (G : GS) : Ref (s3 true e v0 G) (s3 false (Ex.of E) v0 G) := by
  unfold s3
  exact Ref.go
set_option maxHeartbeats 8000000 in
theorem f3 {orc : FuncId → Bool} {e : Ex} (h : ExLe Q e (E orc)) (v0 : Value) (G : GS) : Ref (s3 true e v0 G) ((E orc).cl 3 [v0] G) :=
  fun r hr => cl_sxE_some Q orc (vs := [v0]) G Try.func3 (by kernel_rfl) (by kernel_rfl) (by kernel_rfl) (by kernel_rfl) (by kernel_rfl) (m3 h v0 G r hr)
/-- coxswain/cells.New -/
noncomputable def s5 (q : Bool) (e : Ex) (v0 : Value) (G : GS) : Option (Value × GS) :=
  bP (bn Q q .lss 3 (.tmp 4) (.const (.int .i64 1)) v0 (.int .i64 1)) fun x0 =>
  bS (gd x0 false (some (v0, G)) G) fun x1 G2 =>
  bS (gd x0 false (bP (bn Q q .gtr 3 (.tmp 7) (.const (.int .i64 4096)) x1 (.int .i64 4096)) fun y => some (y, G2)) G2) fun x3 G4 =>
  bP (pickV x0 (.bool true) x3) fun x5 =>
  ifV x5 (
  some (.tuple #[(.pointer none), (.int .i64 3)], G4)) (
  bS (al Q q 78 z78 G4) fun x6 G7 =>
  bP (bd Q q 82 z82 [(0, 0, 1), (1, 1, 1)] [x6, v0]) fun x8 =>
  bS (bx q x8 G7) fun x9 G10 =>
  some (.tuple #[x9, (.int .i64 0)], G10))
theorem m5 {e : Ex} {E : Ev} (h : ExLe Q e E) (v0 : Value) (G : GS) : Ref (s5 true e v0 G) (s5 false (Ex.of E) v0 G) := by
  unfold s5
  exact Ref.go
theorem f5 {orc : FuncId → Bool} {e : Ex} (h : ExLe Q e (E orc)) (v0 : Value) (G : GS) : Ref (s5 true e v0 G) ((E orc).cl 5 [v0] G) :=
  fun r hr => cl_sxE_some Q orc (vs := [v0]) G Try.func5 (by kernel_rfl) (by kernel_rfl) (by kernel_rfl) (by kernel_rfl) (by kernel_rfl) (m5 h v0 G r hr)
/-- (*coxswain/arena.Alloc).Ref -/
noncomputable def s6 (q : Bool) (e : Ex) (v0 : Value) (G : GS) : Option (Value × GS) :=
  bP (ep Q q false 26 (.tmp 5) (.const (.pointer none)) v0 (.pointer none)) fun x0 =>
  bS (gd x0 false (some (v0, G)) G) fun x1 G2 =>
  bS (gd x0 false (bP (pNil x1) fun y => some (y, G2)) G2) fun x3 G4 =>
  bS (gd x0 false (bP (fa Q q 35 2 7 x3) fun y => some (y, G4)) G4) fun x5 G6 =>
  bS (gd x0 false (bP (ld Q q 4 x5 G6) fun y => some (y, G6)) G6) fun x7 G8 =>
  bS (gd x0 false (bP (un Q q .not x7) fun y => some (y, G8)) G8) fun x9 G10 =>
  bP (pickV x0 (.bool true) x9) fun x11 =>
  ifV x11 (
  some (.tuple #[(.int .u64 0), (.int .i64 1)], G10)) (
  bP (pNil v0) fun x12 =>
  bP (fa Q q 35 3 8 x12) fun x13 =>
  bP (ld Q q 32 x13 G10) fun x14 =>
  bP (ef Q q true 32 (.tmp 18) (.const .nilFunc) x14 .nilFunc) fun x15 =>
  ifV x15 (
  some (.tuple #[(.int .u64 0), (.int .i64 14)], G10)) (
  bP (pNil v0) fun x16 =>
  bP (fa Q q 35 5 10 x16) fun x17 =>
  bP (ld Q q 33 x17 (G10.room 10)) fun x18 =>
  bP (pNil v0) fun x19 =>
  bP (fa Q q 35 6 11 x19) fun x20 =>
  bP (ld Q q 23 x20 (G10.room 10)) fun x21 =>
  some (.tuple #[x18, x21], (G10.room 10))))
theorem m6 {e : Ex} {E : Ev} (h : ExLe Q e E) (v0 : Value) (G : GS) : Ref (s6 true e v0 G) (s6 false (Ex.of E) v0 G) := by
  unfold s6
  exact Ref.go
theorem f6 {orc : FuncId → Bool} {e : Ex} (h : ExLe Q e (E orc)) (v0 : Value) (G : GS) : Ref (s6 true e v0 G) ((E orc).cl 6 [v0] G) :=
  fun r hr => cl_sxE_some Q orc (vs := [v0]) G Try.func6 (by kernel_rfl) (by kernel_rfl) (by kernel_rfl) (by kernel_rfl) (by kernel_rfl) (m6 h v0 G r hr)
/-- (*coxswain/arena.Alloc).Step -/
noncomputable def s7 (q : Bool) (e : Ex) (v0 v1 : Value) (G : GS) : Option (Value × GS) :=
  bP (ep Q q false 26 (.tmp 5) (.const (.pointer none)) v0 (.pointer none)) fun x0 =>
  bS (gd x0 false (some (v0, G)) G) fun x1 G2 =>
  bS (gd x0 false (bP (pNil x1) fun y => some (y, G2)) G2) fun x3 G4 =>
  bS (gd x0 false (bP (fa Q q 35 3 8 x3) fun y => some (y, G4)) G4) fun x5 G6 =>
  bS (gd x0 false (bP (ld Q q 32 x5 G6) fun y => some (y, G6)) G6) fun x7 G8 =>
  bS (gd x0 false (bP (ef Q q false 32 (.tmp 11) (.const .nilFunc) x7 .nilFunc) fun y => some (y, G8)) G8) fun x9 G10 =>
  bP (pickV x0 (.bool true) x9) fun x11 =>
  ifV x11 (
  some ((.bool true), G10)) (
  bP (pNil v0) fun x12 =>
  bP (fa Q q 35 3 8 x12) fun x13 =>
  bP (ld Q q 32 x13 G10) fun x14 =>
  bS (cValue e.ev x14 [v0, v1] G10) fun x15 G16 =>
  bP (pNil v0) fun x17 =>
  bP (fa Q q 35 3 8 x17) fun x18 =>
  bP (ld Q q 32 x18 G16) fun x19 =>
  bP (ef Q q false 32 (.tmp 24) (.const .nilFunc) x19 .nilFunc) fun x20 =>
  some (x20, G16))
theorem m7 {e : Ex} {E : Ev} (h : ExLe Q e E) (v0 v1 : Value) (G : GS) : Ref (s7 true e v0 v1 G) (s7 false (Ex.of E) v0 v1 G) := by
  unfold s7
  exact Ref.go
theorem f7 {orc : FuncId → Bool} {e : Ex} (h : ExLe Q e (E orc)) (v0 v1 : Value) (G : GS) : Ref (s7 true e v0 v1 G) ((E orc).cl 7 [v0, v1] G) :=
  fun r hr => cl_sxE_some Q orc (vs := [v0, v1]) G Try.func7 (by kernel_rfl) (by kernel_rfl) (by kernel_rfl) (by kernel_rfl) (by kernel_rfl) (m7 h v0 v1 G r hr)
/-- (*coxswain/arena.Free).Step -/
noncomputable def s8 (q : Bool) (e : Ex) (v0 v1 : Value) (G : GS) : Option (Value × GS) :=
  bP (ep Q q false 37 (.tmp 5) (.const (.pointer none)) v0 (.pointer none)) fun x0 =>
  bS (gd x0 false (some (v0, G)) G) fun x1 G2 =>
  bS (gd x0 false (bP (pNil x1) fun y => some (y, G2)) G2) fun x3 G4 =>
  bS (gd x0 false (bP (fa Q q 41 3 8 x3) fun y => some (y, G4)) G4) fun x5 G6 =>
  bS (gd x0 false (bP (ld Q q 39 x5 G6) fun y => some (y, G6)) G6) fun x7 G8 =>
  bS (gd x0 false (bP (ef Q q false 39 (.tmp 11) (.const .nilFunc) x7 .nilFunc) fun y => some (y, G8)) G8) fun x9 G10 =>
  bP (pickV x0 (.bool true) x9) fun x11 =>
  ifV x11 (
  some ((.bool true), G10)) (
  bP (pNil v0) fun x12 =>
  bP (fa Q q 41 3 8 x12) fun x13 =>
  bP (ld Q q 39 x13 G10) fun x14 =>
  bS (cValue e.ev x14 [v0, v1] G10) fun x15 G16 =>
  bP (pNil v0) fun x17 =>
  bP (fa Q q 41 3 8 x17) fun x18 =>
  bP (ld Q q 39 x18 G16) fun x19 =>
  bP (ef Q q false 39 (.tmp 24) (.const .nilFunc) x19 .nilFunc) fun x20 =>
  some (x20, G16))
theorem m8 {e : Ex} {E : Ev} (h : ExLe Q e E) (v0 v1 : Value) (G : GS) : Ref (s8 true e v0 v1 G) (s8 false (Ex.of E) v0 v1 G) := by
  unfold s8
  exact Ref.go
theorem f8 {orc : FuncId → Bool} {e : Ex} (h : ExLe Q e (E orc)) (v0 v1 : Value) (G : GS) : Ref (s8 true e v0 v1 G) ((E orc).cl 8 [v0, v1] G) :=
  fun r hr => cl_sxE_some Q orc (vs := [v0, v1]) G Try.func8 (by kernel_rfl) (by kernel_rfl) (by kernel_rfl) (by kernel_rfl) (by kernel_rfl) (m8 h v0 v1 G r hr)
/-- (*coxswain/arena.Free).Err -/
noncomputable def s9 (q : Bool) (e : Ex) (v0 : Value) (G : GS) : Option (Value × GS) :=
  bP (ep Q q false 37 (.tmp 4) (.const (.pointer none)) v0 (.pointer none)) fun x0 =>
  bS (gd x0 false (some (v0, G)) G) fun x1 G2 =>
  bS (gd x0 false (bP (pNil x1) fun y => some (y, G2)) G2) fun x3 G4 =>
  bS (gd x0 false (bP (fa Q q 41 2 7 x3) fun y => some (y, G4)) G4) fun x5 G6 =>
  bS (gd x0 false (bP (ld Q q 4 x5 G6) fun y => some (y, G6)) G6) fun x7 G8 =>
  bS (gd x0 false (bP (un Q q .not x7) fun y => some (y, G8)) G8) fun x9 G10 =>
  bP (pickV x0 (.bool true) x9) fun x11 =>
  ifV x11 (
  some ((.int .i64 1), G10)) (
  bP (pNil v0) fun x12 =>
  bP (fa Q q 41 3 8 x12) fun x13 =>
  bP (ld Q q 39 x13 G10) fun x14 =>
  bP (ef Q q true 39 (.tmp 17) (.const .nilFunc) x14 .nilFunc) fun x15 =>
  ifV x15 (
  some ((.int .i64 14), G10)) (
  bP (pNil v0) fun x16 =>
  bP (fa Q q 41 6 11 x16) fun x17 =>
  bP (ld Q q 23 x17 G10) fun x18 =>
  some (x18, G10)))
theorem m9 {e : Ex} {E : Ev} (h : ExLe Q e E) (v0 : Value) (G : GS) : Ref (s9 true e v0 G) (s9 false (Ex.of E) v0 G) := by
  unfold s9
  exact Ref.go
theorem f9 {orc : FuncId → Bool} {e : Ex} (h : ExLe Q e (E orc)) (v0 : Value) (G : GS) : Ref (s9 true e v0 G) ((E orc).cl 9 [v0] G) :=
  fun r hr => cl_sxE_some Q orc (vs := [v0]) G Try.func9 (by kernel_rfl) (by kernel_rfl) (by kernel_rfl) (by kernel_rfl) (by kernel_rfl) (m9 h v0 G r hr)
/-- coxswain/arena.NewFree -/
noncomputable def s10 (q : Bool) (e : Ex) (v0 v1 : Value) (G : GS) : Option (Value × GS) :=
  bS (bx q v0 G) fun x0 G1 =>
  bP (fa Q q 31 0 0 x0) fun x2 =>
  bP (lda Q q 29 3 x2 (G1.room 9)) fun x3 =>
  bS (e.ev.cl 24 [x3, v1] (G1.room 9)) fun x5 G4 =>
  bP (lda Q q 31 6 x0 G4) fun x6 =>
  chk ((sameO (lda Q q 31 6 x0 (G1.room 9)) x6 && true)) <|
  bP (bd Q q 41 z41 [(0, 0, 1), (1, 1, 6), (2, 7, 1), (4, 9, 1)] [x5, x6, (.bool true), v1]) fun x7 =>
  bS (bx q x7 (G4.at' (G1.nx + 7))) fun x8 G9 =>
  bP (bn Q q .lss 3 (.tmp 14) (.const (.int .i64 0)) v1 (.int .i64 0)) fun x10 =>
  bS (gd x10 false (some (v1, (G9.back G4))) (G9.back G4)) fun x11 G12 =>
  bS (gd x10 false (bP (fa Q q 31 0 0 x0) fun y => some (y, G12)) G12) fun x13 G14 =>
  bS (gd x10 false (bP (fa Q q 29 2 2 x13) fun y => some (y, G14)) G14) fun x15 G16 =>
  bS (gd x10 false (bP (ld Q q 3 x15 G16) fun y => some (y, G16)) G16) fun x17 G18 =>
  bS (gd x10 false (bP (bn Q q .geq 3 (.tmp 17) (.tmp 20) x11 x17) fun y => some (y, G18)) G18) fun x19 G20 =>
  bP (pickV x10 (.bool true) x19) fun x21 =>
  ifV x21 (
  bP (pNil x8) fun x22 =>
  bP (fa Q q 41 6 11 x22) fun x23 =>
  bP (st Q q 23 1 x23 (.int .i64 3) G20) fun G24 =>
  some (x8, G24)) (
  bP (pNil x8) fun x25 =>
  bP (fa Q q 41 3 8 x25) fun x26 =>
  bP (st Q q 39 1 x26 (.func (.func 25) #[] #[]) G20) fun G27 =>
  some (x8, G27))
theorem m10 {e : Ex} {E : Ev} (h : ExLe Q e E) (v0 v1 : Value) (G : GS) : Ref (s10 true e v0 v1 G) (s10 false (Ex.of E) v0 v1 G) := by
  unfold s10
  exact Ref.go
theorem f10 {orc : FuncId → Bool} {e : Ex} (h : ExLe Q e (E orc)) (v0 v1 : Value) (G : GS) : Ref (s10 true e v0 v1 G) ((E orc).cl 10 [v0, v1] G) :=
  fun r hr => cl_sxE_some Q orc (vs := [v0, v1]) G Try.func10 (by kernel_rfl) (by kernel_rfl) (by kernel_rfl) (by kernel_rfl) (by kernel_rfl) (m10 h v0 v1 G r hr)
/-- coxswain/coxswainkit.Pick -/
noncomputable def s11 (q : Bool) (e : Ex) (v0 v1 : Value) (G : GS) : Option (Value × GS) :=
  bP (bn Q q .leq 3 (.tmp 5) (.const (.int .i64 0)) v1 (.int .i64 0)) fun x0 =>
  ifV x0 (
  some ((.int .i64 0), G)) (
  bP (bn Q q .rem 3 (.tmp 7) (.tmp 8) v0 v1) fun x1 =>
  bP (bn Q q .lss 3 (.tmp 10) (.const (.int .i64 0)) x1 (.int .i64 0)) fun x2 =>
  ifV x2 (
  bP (bn Q q .add 3 (.tmp 12) (.tmp 13) x1 v1) fun x3 =>
  some (x3, G)) (
  some (x1, G)))
theorem m11 {e : Ex} {E : Ev} (h : ExLe Q e E) (v0 v1 : Value) (G : GS) : Ref (s11 true e v0 v1 G) (s11 false (Ex.of E) v0 v1 G) := by
  unfold s11
  exact Ref.go
theorem f11 {orc : FuncId → Bool} {e : Ex} (h : ExLe Q e (E orc)) (v0 v1 : Value) (G : GS) : Ref (s11 true e v0 v1 G) ((E orc).cl 11 [v0, v1] G) :=
  fun r hr => cl_sxE_some Q orc (vs := [v0, v1]) G Try.func11 (by kernel_rfl) (by kernel_rfl) (by kernel_rfl) (by kernel_rfl) (by kernel_rfl) (m11 h v0 v1 G r hr)
/-- (*coxswain/cells.Mem).Count -/
noncomputable def s12 (q : Bool) (e : Ex) (v0 : Value) (G : GS) : Option (Value × GS) :=
  bP (ep Q q false 22 (.tmp 3) (.const (.pointer none)) v0 (.pointer none)) fun x0 =>
  ifV x0 (
  some ((.int .i64 0), G)) (
  bP (pNil v0) fun x1 =>
  bP (fa Q q 82 3 7 x1) fun x2 =>
  bP (ld Q q 3 x2 G) fun x3 =>
  some (x3, G))
theorem m12 {e : Ex} {E : Ev} (h : ExLe Q e E) (v0 : Value) (G : GS) : Ref (s12 true e v0 G) (s12 false (Ex.of E) v0 G) := by
  unfold s12
  exact Ref.go
theorem f12 {orc : FuncId → Bool} {e : Ex} (h : ExLe Q e (E orc)) (v0 : Value) (G : GS) : Ref (s12 true e v0 G) ((E orc).cl 12 [v0] G) :=
  fun r hr => cl_sxE_some Q orc (vs := [v0]) G Try.func12 (by kernel_rfl) (by kernel_rfl) (by kernel_rfl) (by kernel_rfl) (by kernel_rfl) (m12 h v0 G r hr)
/-- coxswain/coxswainlaw11.awake -/
noncomputable def s13 (q : Bool) (e : Ex) (G : GS) : Option (Value × GS) :=
  bS (e.ev.cl 5 [(.int .i64 12)] G) fun x0 G1 =>
  bP (pExtract x0 0) fun x2 =>
  bP (pExtract x0 1) fun x3 =>
  bP (bn Q q .neq 23 (.tmp 9) (.const (.int .i64 0)) x3 (.int .i64 0)) fun x4 =>
  bS (gd x4 false (some (x2, G1)) G1) fun x5 G6 =>
  bS (gd x4 false (bP (ep Q q false 22 (.tmp 12) (.const (.pointer none)) x5 (.pointer none)) fun y => some (y, G6)) G6) fun x7 G8 =>
  bP (pickV x4 (.bool true) x7) fun x9 =>
  ifV x9 (
  some ((.bool false), G8)) (
  bS (e.ev.cl 27 [] G8) fun x10 G11 =>
  bS (e.ev.cl 26 [x10, x2] G11) fun x12 G13 =>
  bS (e.ev.cl 27 [] G13) fun x14 G15 =>
  bS (e.ev.cl 28 [x14] G15) fun x16 G17 =>
  bS (e.ev.cl 6 [x16] G17) fun x18 G19 =>
  bP (pExtract x18 0) fun x20 =>
  bP (pExtract x18 1) fun x21 =>
  bP (bn Q q .eql 23 (.tmp 24) (.const (.int .i64 14)) x21 (.int .i64 14)) fun x22 =>
  bS (gd x22 true (some (x2, G19)) G19) fun x23 G24 =>
  bS (gd x22 true (bS (e.ev.cl 29 [x23, (.int .i64 4), (.int .u64 65537), (.int .i64 0)] G24) fun y G => some (y, G)) G24) fun x25 G26 =>
  bP (pickV x22 x25 (.bool false)) fun x27 =>
  bS (gd x27 true (some (x2, G26)) G26) fun x28 G29 =>
  bS (gd x27 true (bS (e.ev.cl 29 [x28, (.int .i64 4), (.int .u64 65538), (.int .i64 0)] G29) fun y G => some (y, G)) G29) fun x30 G31 =>
  bP (pickV x27 x30 (.bool false)) fun x32 =>
  bS (gd x32 true (some (x2, G31)) G31) fun x33 G34 =>
  bS (gd x32 true (bS (e.ev.cl 29 [x33, (.int .i64 4), (.int .u64 65539), (.int .i64 0)] G34) fun y G => some (y, G)) G34) fun x35 G36 =>
  bP (pickV x32 x35 (.bool false)) fun x37 =>
  bS (gd x37 true (some (x2, G36)) G36) fun x38 G39 =>
  bS (gd x37 true (bS (e.ev.cl 29 [x38, (.int .i64 2), (.int .u64 0), (.int .i64 7)] G39) fun y G => some (y, G)) G39) fun x40 G41 =>
  bP (pickV x37 x40 (.bool false)) fun x42 =>
  bS (gd x42 true (some (x2, G41)) G41) fun x43 G44 =>
  bS (gd x42 true (bS (e.ev.cl 30 [x43, (.int .i64 0), (.int .i64 5)] G44) fun y G => some (y, G)) G44) fun x45 G46 =>
  bP (pickV x42 x45 (.bool false)) fun x47 =>
  bS (gd x47 true (some (x2, G46)) G46) fun x48 G49 =>
  bS (gd x47 true (bS (e.ev.cl 29 [x48, (.int .i64 4), (.int .u64 131073), (.int .i64 0)] G49) fun y G => some (y, G)) G49) fun x50 G51 =>
  bP (pickV x47 x50 (.bool false)) fun x52 =>
  bS (gd x52 true (some (x2, G51)) G51) fun x53 G54 =>
  bS (gd x52 true (bS (e.ev.cl 30 [x53, (.int .i64 0), (.int .i64 2)] G54) fun y G => some (y, G)) G54) fun x55 G56 =>
  bP (pickV x52 x55 (.bool false)) fun x57 =>
  bS (gd x57 true (some (x2, G56)) G56) fun x58 G59 =>
  bS (gd x57 true (bS (e.ev.cl 31 [x58, (.int .i64 7)] G59) fun y G => some (y, G)) G59) fun x60 G61 =>
  bS (gd x57 true (bP (bn Q q .eql 33 (.tmp 56) (.const (.int .u64 1)) x60 (.int .u64 1)) fun y => some (y, G61)) G61) fun x62 G63 =>
  bP (pickV x57 x62 (.bool false)) fun x64 =>
  some (x64, G63))
theorem m13 {e : Ex} {E : Ev} (h : ExLe Q e E) (G : GS) : Ref (s13 true e  G) (s13 false (Ex.of E)  G) := by
  unfold s13
  exact Ref.go
theorem f13 {orc : FuncId → Bool} {e : Ex} (h : ExLe Q e (E orc)) (ho : orc 13 = false) (G : GS) : Ref (s13 true e  G) ((E orc).cl 13 [] G) :=
  fun r hr => cl_sxE_some Q orc (vs := []) G Try.func13 (by kernel_rfl) (by kernel_rfl) ho (by kernel_rfl) (by kernel_rfl) (m13 h  G r hr)
/-- coxswain/stack.NewPush -/
noncomputable def s24 (q : Bool) (e : Ex) (v0 v1 : Value) (G : GS) : Option (Value × GS) :=
  bS (bx q v0 G) fun x0 G1 =>
  bP (lda Q q 29 3 x0 G1) fun x2 =>
  bP (bd Q q 114 z114 [(0, 0, 3), (2, 4, 1), (4, 6, 1)] [x2, v1, (.bool true)]) fun x3 =>
  bP (bd Q q 117 z117 [(0, 0, 9), (1, 9, 1)] [x3, (.func (.func 50) #[] #[])]) fun x4 =>
  bS (bx q x4 G1) fun x5 G6 =>
  bP (bn Q q .lss 3 (.tmp 11) (.const (.int .i64 0)) v1 (.int .i64 0)) fun x7 =>
  bS (gd x7 false (some (v1, G6)) G6) fun x8 G9 =>
  bS (gd x7 false (bP (fa Q q 29 2 2 x0) fun y => some (y, G9)) G9) fun x10 G11 =>
  bS (gd x7 false (bP (ld Q q 3 x10 G11) fun y => some (y, G11)) G11) fun x12 G13 =>
  bS (gd x7 false (bP (bn Q q .geq 3 (.tmp 14) (.tmp 16) x8 x12) fun y => some (y, G13)) G13) fun x14 G15 =>
  bP (pickV x7 (.bool true) x14) fun x16 =>
  ifV x16 (
  bP (pNil x5) fun x17 =>
  bP (fa Q q 117 0 0 x17) fun x18 =>
  bS (e.ev.cl 51 [x18, (.int .i64 3)] G15) fun x19 G20 =>
  some (x5, G20)) (
  some (x5, G15))
theorem m24 {e : Ex} {E : Ev} (h : ExLe Q e E) (v0 v1 : Value) (G : GS) : Ref (s24 true e v0 v1 G) (s24 false (Ex.of E) v0 v1 G) := by
  unfold s24
  exact Ref.go
theorem f24 {orc : FuncId → Bool} {e : Ex} (h : ExLe Q e (E orc)) (v0 v1 : Value) (G : GS) : Ref (s24 true e v0 v1 G) ((E orc).cl 24 [v0, v1] G) :=
  fun r hr => cl_sxE_some Q orc (vs := [v0, v1]) G Try.func24 (by kernel_rfl) (by kernel_rfl) (by kernel_rfl) (by kernel_rfl) (by kernel_rfl) (m24 h v0 v1 G r hr)
/-- (*coxswain/arena.Free).looks -/
noncomputable def s25 (q : Bool) (e : Ex) (v0 v1 : Value) (G : GS) : Option (Value × GS) :=
  bP (pNil v0) fun x0 =>
  bP (fa Q q 41 1 1 x0) fun x1 =>
  bP (fa Q q 31 1 3 x1) fun x2 =>
  bP (ld Q q 3 x2 (G.room 16)) fun x3 =>
  bP (pNil v0) fun x4 =>
  bP (fa Q q 41 4 9 x4) fun x5 =>
  bP (ld Q q 3 x5 (G.room 16)) fun x6 =>
  bP (bn Q q .add 3 (.tmp 10) (.tmp 14) x3 x6) fun x7 =>
  bS (e.ev.cl 31 [v1, x7] (G.room 16)) fun x9 G8 =>
  bP (pNil v0) fun x10 =>
  bP (fa Q q 41 5 10 x10) fun x11 =>
  bP (st Q q 33 1 x11 x9 G8) fun G12 =>
  bP (pNil v0) fun x13 =>
  bP (fa Q q 41 3 8 x13) fun x14 =>
  bP (st Q q 39 1 x14 (.func (.func 52) #[] #[]) G12) fun G15 =>
  bP (pNil v0) fun x16 =>
  bP (fa Q q 41 5 10 x16) fun x17 =>
  bP (ld Q q 33 x17 (G15.room 11)) fun x18 =>
  bS (e.ev.cl 53 [x18] (G15.room 11)) fun x20 G19 =>
  bP (pNil v0) fun x21 =>
  bP (fa Q q 41 1 1 x21) fun x22 =>
  bP (fa Q q 31 3 5 x22) fun x23 =>
  bP (ld Q q 3 x23 G19) fun x24 =>
  chk ((sameO (ld Q q 3 x23 (G15.room 11)) x24 && true)) <|
  bP (bn Q q .geq 3 (.tmp 26) (.tmp 31) x20 x24) fun x25 =>
  ifV x25 (
  bP (pNil v0) fun x26 =>
  bP (fa Q q 41 3 8 x26) fun x27 =>
  bP (st Q q 39 1 x27 (.func (.func 54) #[] #[]) G19) fun G28 =>
  some (.tuple #[], G28)) (
  some (.tuple #[], G19))
theorem m25 {e : Ex} {E : Ev} (h : ExLe Q e E) (v0 v1 : Value) (G : GS) : Ref (s25 true e v0 v1 G) (s25 false (Ex.of E) v0 v1 G) := by
  unfold s25
  exact Ref.go
theorem f25 {orc : FuncId → Bool} {e : Ex} (h : ExLe Q e (E orc)) (v0 v1 : Value) (G : GS) : Ref (s25 true e v0 v1 G) ((E orc).cl 25 [v0, v1] G) :=
  fun r hr => cl_sxE_some Q orc (vs := [v0, v1]) G Try.func25 (by kernel_rfl) (by kernel_rfl) (by kernel_rfl) (by kernel_rfl) (by kernel_rfl) (m25 h v0 v1 G r hr)
instance ilp26_0 : LpIs Q 26 0 (subAt [1, 1, 1, 1, 1, 0, 0] (bodyOf Try.f26)) 29 := ⟨by kernel_rfl, by kernel_rfl⟩
noncomputable def b26_0 (q : Bool) (e : Ex) (lp : Env → GS → Option (Exit × Env × GS)) (τ : Env) (G : GS) : Option (Exit × Env × GS) :=
  bV q (τ 1) fun a1_ =>
  bV q (τ 2) fun a2_ =>
  bV q (τ 18) fun a18_ =>
  bV q (τ 19) fun a19_ =>
  bP (bn Q q .lss 3 (.tmp 19) (.tmp 18) a19_ a18_) fun x0 =>
  ifV x0 (
  bP (fa Q q 31 1 3 a2_) fun x1 =>
  bP (ld Q q 3 x1 G) fun x2 =>
  bP (bn Q q .add 3 (.tmp 24) (.tmp 25) x2 a19_) fun x3 =>
  bS (e.ev.cl 57 [a1_, x3, (.int .u64 1)] G) fun x4 G5 =>
  bP (bn Q q .add 3 (.tmp 19) (.const (.int .i64 1)) a19_ (.int .i64 1)) fun x6 =>
  lp (tu τ [(1, a1_), (2, a2_), (18, a18_), (19, x6), (4, a19_), (20, x0), (21, a19_), (22, a1_), (23, x1), (24, x2), (25, a19_), (26, x3), (27, x4), (28, x6)]) G5) (
  some ((.exit 0), clq q 29 (tu τ [(1, a1_), (2, a2_), (18, a18_), (19, a19_), (20, x0)]), G))
theorem mb26_0 {e : Ex} {E : Ev} (h : ExLe Q e E) {lp lp' : Env → GS → Option (Exit × Env × GS)} (hlp : LpLe lp lp') (τ : Env) (G : GS) : Ref (b26_0 true e lp τ G) (b26_0 false (Ex.of E) lp' τ G) := by
  unfold b26_0
  exact Ref.go
theorem l26_0 {orc : FuncId → Bool} {e : Ex} (h : ExLe Q e (E orc)) (lp : Env → GS → Option (Exit × Env × GS)) (hlp : ∀ τ G, Ref (lp τ G) (mapE ((E orc).lp (subAt [1, 1, 1, 1, 1, 0, 0] (bodyOf Try.f26)) (lst 29 τ) G))) (T : List Value) (G : GS) (hT : T.length = 29) : Ref (b26_0 true e lp (nth undef T) G) (mapE ((E orc).lp (subAt [1, 1, 1, 1, 1, 0, 0] (bodyOf Try.f26)) T G)) :=
  fun r hr => lp_sxM Q orc G hT (by kernel_rfl) (mb26_0 h ⟨hlp⟩ _ _ r hr)
/-- coxswain/arena.Fill -/
noncomputable def s26 (q : Bool) (e : Ex) (v0 v1 : Value) (G : GS) : Option (Value × GS) :=
  bS (bx q v0 G) fun x0 G1 =>
  bP (lda Q q 31 6 x0 G1) fun x2 =>
  bS (e.ev.cl 55 [x2] G1) fun x3 G4 =>
  bP (un Q q .not x3) fun x5 =>
  ifV x5 (
  some (.tuple #[], G4)) (
  bP (fa Q q 31 0 0 x0) fun x6 =>
  bP (lda Q q 29 3 x6 G4) fun x7 =>
  bS (e.ev.cl 56 [x7, v1] G4) fun x8 G9 =>
  bP (fa Q q 31 2 4 x0) fun x10 =>
  bP (ld Q q 3 x10 G9) fun x11 =>
  bS (e.ev.cl 57 [v1, x11, (.int .u64 0)] G9) fun x12 G13 =>
  bP (fa Q q 31 0 0 x0) fun x14 =>
  bP (fa Q q 29 2 2 x14) fun x15 =>
  bP (ld Q q 3 x15 G13) fun x16 =>
  bL q e 26 0 (subAt [1, 1, 1, 1, 1, 0, 0] (bodyOf Try.f26)) 29 (tu (nth undef [v0, v1]) [(2, x0), (5, x2), (6, x3), (7, x5), (8, x6), (9, x7), (10, v1), (11, x8), (12, v1), (13, x10), (14, x11), (15, x12), (16, x14), (17, x15), (18, x16), (19, (.int .i64 0))]) G13 fun e17 t18 G19 =>
  ifE e17 (.exit 0) (
  some (.tuple #[], G19)) (none))
theorem m26 {e : Ex} {E : Ev} (h : ExLe Q e E) (v0 v1 : Value) (G : GS) : Ref (s26 true e v0 v1 G) (s26 false (Ex.of E) v0 v1 G) := by
  unfold s26
  exact Ref.go
theorem f26 {orc : FuncId → Bool} {e : Ex} (h : ExLe Q e (E orc)) (v0 v1 : Value) (G : GS) : Ref (s26 true e v0 v1 G) ((E orc).cl 26 [v0, v1] G) :=
  fun r hr => cl_sxE_some Q orc (vs := [v0, v1]) G Try.func26 (by kernel_rfl) (by kernel_rfl) (by kernel_rfl) (by kernel_rfl) (by kernel_rfl) (m26 h v0 v1 G r hr)
/-- coxswain/coxswainlaw11.three -/
noncomputable def s27 (q : Bool) (e : Ex) (G : GS) : Option (Value × GS) :=
  bS (al Q q 31 z31 G) fun x0 G1 =>
  bP (bd Q q 29 z29 [(0, 0, 1), (1, 1, 1), (2, 2, 1)] [(.int .i64 0), (.int .i64 1), (.int .i64 3)]) fun x2 =>
  bP (bd Q q 31 z31 [(0, 0, 3), (1, 3, 1), (2, 4, 1), (3, 5, 1)] [x2, (.int .i64 4), (.int .i64 7), (.int .i64 2)]) fun x3 =>
  bP (st Q q 31 6 x0 x3 G1) fun G4 =>
  bP (lda Q q 31 6 x0 G4) fun x5 =>
  some (x5, G4)
theorem m27 {e : Ex} {E : Ev} (h : ExLe Q e E) (G : GS) : Ref (s27 true e  G) (s27 false (Ex.of E)  G) := by
  unfold s27
  exact Ref.go
theorem f27 {orc : FuncId → Bool} {e : Ex} (h : ExLe Q e (E orc)) (ho : orc 27 = false) (G : GS) : Ref (s27 true e  G) ((E orc).cl 27 [] G) :=
  fun r hr => cl_sxE_some Q orc (vs := []) G Try.func27 (by kernel_rfl) (by kernel_rfl) ho (by kernel_rfl) (by kernel_rfl) (m27 h  G r hr)
/-- coxswain/arena.NewAlloc -/
noncomputable def s28 (q : Bool) (e : Ex) (v0 : Value) (G : GS) : Option (Value × GS) :=
  bS (bx q v0 G) fun x0 G1 =>
  bP (fa Q q 31 0 0 x0) fun x2 =>
  bP (lda Q q 29 3 x2 (G1.room 7)) fun x3 =>
  bS (e.ev.cl 58 [x3] (G1.room 7)) fun x5 G4 =>
  bP (lda Q q 31 6 x0 G4) fun x6 =>
  chk ((sameO (lda Q q 31 6 x0 (G1.room 7)) x6 && true)) <|
  bP (bd Q q 35 z35 [(0, 0, 1), (1, 1, 6), (2, 7, 1), (3, 8, 1)] [x5, x6, (.bool true), (.func (.func 59) #[] #[])]) fun x7 =>
  bS (bx q x7 (G4.at' (G1.nx + 5))) fun x8 G9 =>
  some (x8, (G9.back G4))
theorem m28 {e : Ex} {E : Ev} (h : ExLe Q e E) (v0 : Value) (G : GS) : Ref (s28 true e v0 G) (s28 false (Ex.of E) v0 G) := by
  unfold s28
  exact Ref.go
theorem f28 {orc : FuncId → Bool} {e : Ex} (h : ExLe Q e (E orc)) (v0 : Value) (G : GS) : Ref (s28 true e v0 G) ((E orc).cl 28 [v0] G) :=
  fun r hr => cl_sxE_some Q orc (vs := [v0]) G Try.func28 (by kernel_rfl) (by kernel_rfl) (by kernel_rfl) (by kernel_rfl) (by kernel_rfl) (m28 h v0 G r hr)
instance ilp29_0 : LpIs Q 29 0 (subAt [1, 1, 0, 1, 0, 0] (bodyOf Try.f29)) 40 := ⟨by kernel_rfl, by kernel_rfl⟩
noncomputable def b29_0 (q : Bool) (e : Ex) (lp : Env → GS → Option (Exit × Env × GS)) (τ : Env) (G : GS) : Option (Exit × Env × GS) :=
  bV q (τ 0) fun a0_ =>
  bV q (τ 1) fun a1_ =>
  bV q (τ 9) fun a9_ =>
  bV q (τ 10) fun a10_ =>
  bP (bn Q q .lss 3 (.tmp 15) (.tmp 16) a10_ a1_) fun x0 =>
  ifV x0 (
  bS (e.ev.cl 7 [a9_, a0_] G) fun x1 G2 =>
  ifV x1 (
  some (.ret, clq q 40 (tu τ [(0, a0_), (1, a1_), (9, a9_), (10, a10_), (8, (.bool false)), (15, a10_), (16, a1_), (17, x0), (20, a9_), (21, a0_), (22, x1)]), G2)) (
  bP (bn Q q .add 3 (.tmp 18) (.const (.int .i64 1)) a10_ (.int .i64 1)) fun x3 =>
  lp (tu τ [(0, a0_), (1, a1_), (9, a9_), (10, x3), (15, a10_), (16, a1_), (17, x0), (18, a10_), (19, x3), (20, a9_), (21, a0_), (22, x1)]) G2)) (
  some ((.exit 0), clq q 40 (tu τ [(0, a0_), (1, a1_), (9, a9_), (10, a10_), (15, a10_), (16, a1_), (17, x0)]), G))
theorem mb29_0 {e : Ex} {E : Ev} (h : ExLe Q e E) {lp lp' : Env → GS → Option (Exit × Env × GS)} (hlp : LpLe lp lp') (τ : Env) (G : GS) : Ref (b29_0 true e lp τ G) (b29_0 false (Ex.of E) lp' τ G) := by
  unfold b29_0
  exact Ref.go
theorem l29_0 {orc : FuncId → Bool} {e : Ex} (h : ExLe Q e (E orc)) (lp : Env → GS → Option (Exit × Env × GS)) (hlp : ∀ τ G, Ref (lp τ G) (mapE ((E orc).lp (subAt [1, 1, 0, 1, 0, 0] (bodyOf Try.f29)) (lst 40 τ) G))) (T : List Value) (G : GS) (hT : T.length = 40) : Ref (b29_0 true e lp (nth undef T) G) (mapE ((E orc).lp (subAt [1, 1, 0, 1, 0, 0] (bodyOf Try.f29)) T G)) :=
  fun r hr => lp_sxM Q orc G hT (by kernel_rfl) (mb29_0 h ⟨hlp⟩ _ _ r hr)
/-- coxswain/coxswainlaw11.alloc -/
noncomputable def s29 (q : Bool) (e : Ex) (v0 v1 v2 v3 : Value) (G : GS) : Option (Value × GS) :=
  bS (e.ev.cl 27 [] G) fun x0 G1 =>
  bS (e.ev.cl 28 [x0] G1) fun x2 G3 =>
  bL q e 29 0 (subAt [1, 1, 0, 1, 0, 0] (bodyOf Try.f29)) 40 (tu (nth undef [v0, v1, v2, v3]) [(8, (.bool false)), (9, x2), (10, (.int .i64 1)), (13, x0), (14, x2)]) G3 fun e4 t5 G6 =>
  bV q (t5 0) fun t5x0_ =>
  bV q (t5 2) fun t5x2_ =>
  bV q (t5 3) fun t5x3_ =>
  bV q (t5 8) fun t5x8_ =>
  bV q (t5 9) fun t5x9_ =>
  ifE e4 (.exit 0) (
  bS (e.ev.cl 7 [t5x9_, t5x0_] G6) fun x7 G8 =>
  bP (un Q q .not x7) fun x9 =>
  ifV x9 (
  some ((.bool false), G8)) (
  bS (e.ev.cl 6 [t5x9_] G8) fun x10 G11 =>
  bP (pExtract x10 0) fun x12 =>
  bP (pExtract x10 1) fun x13 =>
  bP (bn Q q .eql 33 (.tmp 32) (.tmp 33) x12 t5x2_) fun x14 =>
  bS (gd x14 true (some (x13, G11)) G11) fun x15 G16 =>
  bS (gd x14 true (some (t5x3_, G16)) G16) fun x17 G18 =>
  bS (gd x14 true (bP (bn Q q .eql 23 (.tmp 36) (.tmp 37) x15 x17) fun y => some (y, G18)) G18) fun x19 G20 =>
  bP (pickV x14 x19 (.bool false)) fun x21 =>
  some (x21, G20))) (ifE e4 .ret (
  some (t5x8_, G6)) (none))
theorem m29 {e : Ex} {E : Ev} (h : ExLe Q e E) (v0 v1 v2 v3 : Value) (G : GS) : Ref (s29 true e v0 v1 v2 v3 G) (s29 false (Ex.of E) v0 v1 v2 v3 G) := by
  unfold s29
  exact Ref.go
theorem f29 {orc : FuncId → Bool} {e : Ex} (h : ExLe Q e (E orc)) (v0 v1 v2 v3 : Value) (G : GS) : Ref (s29 true e v0 v1 v2 v3 G) ((E orc).cl 29 [v0, v1, v2, v3] G) :=
  fun r hr => cl_sxE_some Q orc (vs := [v0, v1, v2, v3]) G Try.func29 (by kernel_rfl) (by kernel_rfl) (by kernel_rfl) (by kernel_rfl) (by kernel_rfl) (m29 h v0 v1 v2 v3 G r hr)
instance ilp30_0 : LpIs Q 30 0 (subAt [1, 1, 0, 1, 0, 0] (bodyOf Try.f30)) 33 := ⟨by kernel_rfl, by kernel_rfl⟩
noncomputable def b30_0 (q : Bool) (e : Ex) (lp : Env → GS → Option (Exit × Env × GS)) (τ : Env) (G : GS) : Option (Exit × Env × GS) :=
  bV q (τ 0) fun a0_ =>
  bV q (τ 2) fun a2_ =>
  bV q (τ 7) fun a7_ =>
  bV q (τ 8) fun a8_ =>
  bP (bn Q q .lss 3 (.tmp 12) (.tmp 13) a8_ a2_) fun x0 =>
  ifV x0 (
  bS (e.ev.cl 8 [a7_, a0_] G) fun x1 G2 =>
  bS (gd x1 false (some (a7_, G2)) G2) fun x3 G4 =>
  bS (gd x1 false (bS (e.ev.cl 9 [x3] G4) fun y G => some (y, G)) G4) fun x5 G6 =>
  bS (gd x1 false (bP (bn Q q .neq 23 (.tmp 22) (.const (.int .i64 14)) x5 (.int .i64 14)) fun y => some (y, G6)) G6) fun x7 G8 =>
  bP (pickV x1 (.bool true) x7) fun x9 =>
  ifV x9 (
  some (.ret, clq q 33 (tu τ [(0, a0_), (2, a2_), (7, a7_), (8, a8_), (6, (.bool false)), (12, a8_), (13, a2_), (14, x0), (17, a7_), (18, a0_), (19, x1), (20, x1), (21, x3), (22, x5), (23, x7), (24, x9)]), G8)) (
  bP (bn Q q .add 3 (.tmp 15) (.const (.int .i64 1)) a8_ (.int .i64 1)) fun x10 =>
  lp (tu τ [(0, a0_), (2, a2_), (7, a7_), (8, x10), (12, a8_), (13, a2_), (14, x0), (15, a8_), (16, x10), (17, a7_), (18, a0_), (19, x1), (20, x1), (21, x3), (22, x5), (23, x7), (24, x9)]) G8)) (
  some ((.exit 0), clq q 33 (tu τ [(0, a0_), (2, a2_), (7, a7_), (8, a8_), (12, a8_), (13, a2_), (14, x0)]), G))
theorem mb30_0 {e : Ex} {E : Ev} (h : ExLe Q e E) {lp lp' : Env → GS → Option (Exit × Env × GS)} (hlp : LpLe lp lp') (τ : Env) (G : GS) : Ref (b30_0 true e lp τ G) (b30_0 false (Ex.of E) lp' τ G) := by
  unfold b30_0
  exact Ref.go
theorem l30_0 {orc : FuncId → Bool} {e : Ex} (h : ExLe Q e (E orc)) (lp : Env → GS → Option (Exit × Env × GS)) (hlp : ∀ τ G, Ref (lp τ G) (mapE ((E orc).lp (subAt [1, 1, 0, 1, 0, 0] (bodyOf Try.f30)) (lst 33 τ) G))) (T : List Value) (G : GS) (hT : T.length = 33) : Ref (b30_0 true e lp (nth undef T) G) (mapE ((E orc).lp (subAt [1, 1, 0, 1, 0, 0] (bodyOf Try.f30)) T G)) :=
  fun r hr => lp_sxM Q orc G hT (by kernel_rfl) (mb30_0 h ⟨hlp⟩ _ _ r hr)
/-- coxswain/coxswainlaw11.free -/
noncomputable def s30 (q : Bool) (e : Ex) (v0 v1 v2 : Value) (G : GS) : Option (Value × GS) :=
  bS (e.ev.cl 27 [] G) fun x0 G1 =>
  bS (e.ev.cl 10 [x0, v1] G1) fun x2 G3 =>
  bL q e 30 0 (subAt [1, 1, 0, 1, 0, 0] (bodyOf Try.f30)) 33 (tu (nth undef [v0, v1, v2]) [(6, (.bool false)), (7, x2), (8, (.int .i64 1)), (9, x0), (10, v1), (11, x2)]) G3 fun e4 t5 G6 =>
  bV q (t5 0) fun t5x0_ =>
  bV q (t5 6) fun t5x6_ =>
  bV q (t5 7) fun t5x7_ =>
  ifE e4 (.exit 0) (
  bS (e.ev.cl 8 [t5x7_, t5x0_] G6) fun x7 G8 =>
  bS (gd x7 true (some (t5x7_, G8)) G8) fun x9 G10 =>
  bS (gd x7 true (bS (e.ev.cl 9 [x9] G10) fun y G => some (y, G)) G10) fun x11 G12 =>
  bS (gd x7 true (bP (bn Q q .eql 23 (.tmp 30) (.const (.int .i64 0)) x11 (.int .i64 0)) fun y => some (y, G12)) G12) fun x13 G14 =>
  bP (pickV x7 x13 (.bool false)) fun x15 =>
  some (x15, G14)) (ifE e4 .ret (
  some (t5x6_, G6)) (none))
theorem m30 {e : Ex} {E : Ev} (h : ExLe Q e E) (v0 v1 v2 : Value) (G : GS) : Ref (s30 true e v0 v1 v2 G) (s30 false (Ex.of E) v0 v1 v2 G) := by
  unfold s30
  exact Ref.go
theorem f30 {orc : FuncId → Bool} {e : Ex} (h : ExLe Q e (E orc)) (v0 v1 v2 : Value) (G : GS) : Ref (s30 true e v0 v1 v2 G) ((E orc).cl 30 [v0, v1, v2] G) :=
  fun r hr => cl_sxE_some Q orc (vs := [v0, v1, v2]) G Try.func30 (by kernel_rfl) (by kernel_rfl) (by kernel_rfl) (by kernel_rfl) (by kernel_rfl) (m30 h v0 v1 v2 G r hr)
/-- (*coxswain/cells.Mem).Load -/
noncomputable def s31 (q : Bool) (e : Ex) (v0 v1 : Value) (G : GS) : Option (Value × GS) :=
  bS (e.ev.cl 60 [v0, v1] G) fun x0 G1 =>
  bP (bd Q q 127 z127 [(0, 0, 1)] [x0]) fun x2 =>
  bS (al Q q 127 z127 G1) fun x3 G4 =>
  bP (st Q q 127 3 x3 x2 G4) fun G5 =>
  bP (fa Q q 127 0 0 x3) fun x6 =>
  bP (ld Q q 124 x6 G5) fun x7 =>
  bP (lda Q q 127 3 x3 G5) fun x8 =>
  bS (e.ev.cl 61 [v0, (.int .i64 1), v1, x7, (.func (.func 62) #[x8] #[])] G5) fun x9 G10 =>
  bP (fd Q q 80 3 3 x9) fun x11 =>
  some (x11, G10)
theorem m31 {e : Ex} {E : Ev} (h : ExLe Q e E) (v0 v1 : Value) (G : GS) : Ref (s31 true e v0 v1 G) (s31 false (Ex.of E) v0 v1 G) := by
  unfold s31
  exact Ref.go
theorem f31 {orc : FuncId → Bool} {e : Ex} (h : ExLe Q e (E orc)) (v0 v1 : Value) (G : GS) : Ref (s31 true e v0 v1 G) ((E orc).cl 31 [v0, v1] G) :=
  fun r hr => cl_sxE_some Q orc (vs := [v0, v1]) G Try.func31 (by kernel_rfl) (by kernel_rfl) (by kernel_rfl) (by kernel_rfl) (by kernel_rfl) (m31 h v0 v1 G r hr)
/-- (*coxswain/stack.Push).first -/
noncomputable def s50 (q : Bool) (e : Ex) (v0 v1 : Value) (G : GS) : Option (Value × GS) :=
  bP (pNil v0) fun x0 =>
  bP (fa Q q 117 0 0 x0) fun x1 =>
  bS (e.ev.cl 80 [x1, v1] G) fun x2 G3 =>
  bP (pNil v0) fun x4 =>
  bP (fa Q q 117 0 0 x4) fun x5 =>
  bP (fa Q q 114 3 5 x5) fun x6 =>
  bP (st Q q 3 1 x6 x2 G3) fun G7 =>
  bP (pNil v0) fun x8 =>
  bP (fa Q q 117 1 9 x8) fun x9 =>
  bP (st Q q 115 1 x9 (.func (.func 81) #[] #[]) G7) fun G10 =>
  some (.tuple #[], G10)
theorem m50 {e : Ex} {E : Ev} (h : ExLe Q e E) (v0 v1 : Value) (G : GS) : Ref (s50 true e v0 v1 G) (s50 false (Ex.of E) v0 v1 G) := by
  unfold s50
  exact Ref.go
theorem f50 {orc : FuncId → Bool} {e : Ex} (h : ExLe Q e (E orc)) (v0 v1 : Value) (G : GS) : Ref (s50 true e v0 v1 G) ((E orc).cl 50 [v0, v1] G) :=
  fun r hr => cl_sxE_some Q orc (vs := [v0, v1]) G Try.func50 (by kernel_rfl) (by kernel_rfl) (by kernel_rfl) (by kernel_rfl) (by kernel_rfl) (m50 h v0 v1 G r hr)
/-- (*coxswain/stack.held).ends -/
noncomputable def s51 (q : Bool) (e : Ex) (v0 v1 : Value) (G : GS) : Option (Value × GS) :=
  bP (pNil v0) fun x0 =>
  bP (fa Q q 114 5 7 x0) fun x1 =>
  bP (st Q q 4 1 x1 (.bool true) G) fun G2 =>
  bP (pNil v0) fun x3 =>
  bP (fa Q q 114 6 8 x3) fun x4 =>
  bP (st Q q 23 1 x4 v1 G2) fun G5 =>
  some (.tuple #[], G5)
theorem m51 {e : Ex} {E : Ev} (h : ExLe Q e E) (v0 v1 : Value) (G : GS) : Ref (s51 true e v0 v1 G) (s51 false (Ex.of E) v0 v1 G) := by
  unfold s51
  exact Ref.go
theorem f51 {orc : FuncId → Bool} {e : Ex} (h : ExLe Q e (E orc)) (v0 v1 : Value) (G : GS) : Ref (s51 true e v0 v1 G) ((E orc).cl 51 [v0, v1] G) :=
  fun r hr => cl_sxE_some Q orc (vs := [v0, v1]) G Try.func51 (by kernel_rfl) (by kernel_rfl) (by kernel_rfl) (by kernel_rfl) (by kernel_rfl) (m51 h v0 v1 G r hr)
/-- (*coxswain/arena.Free).raises -/
noncomputable def s52 (q : Bool) (e : Ex) (v0 v1 : Value) (G : GS) : Option (Value × GS) :=
  bP (pNil v0) fun x0 =>
  bP (fa Q q 41 1 1 x0) fun x1 =>
  bP (fa Q q 31 1 3 x1) fun x2 =>
  bP (ld Q q 3 x2 (G.room 17)) fun x3 =>
  bP (pNil v0) fun x4 =>
  bP (fa Q q 41 4 9 x4) fun x5 =>
  bP (ld Q q 3 x5 (G.room 17)) fun x6 =>
  bP (bn Q q .add 3 (.tmp 9) (.tmp 13) x3 x6) fun x7 =>
  bP (pNil v0) fun x8 =>
  bP (fa Q q 41 5 10 x8) fun x9 =>
  bP (ld Q q 33 x9 (G.room 17)) fun x10 =>
  bP (bn Q q .add 33 (.tmp 18) (.const (.int .u64 1)) x10 (.int .u64 1)) fun x11 =>
  bS (e.ev.cl 57 [v1, x7, x11] (G.room 17)) fun x13 G12 =>
  bP (pNil v0) fun x14 =>
  bP (fa Q q 41 3 8 x14) fun x15 =>
  bP (st Q q 39 1 x15 (.func (.func 82) #[] #[]) G12) fun G16 =>
  some (.tuple #[], G16)
theorem m52 {e : Ex} {E : Ev} (h : ExLe Q e E) (v0 v1 : Value) (G : GS) : Ref (s52 true e v0 v1 G) (s52 false (Ex.of E) v0 v1 G) := by
  unfold s52
  exact Ref.go
theorem f52 {orc : FuncId → Bool} {e : Ex} (h : ExLe Q e (E orc)) (v0 v1 : Value) (G : GS) : Ref (s52 true e v0 v1 G) ((E orc).cl 52 [v0, v1] G) :=
  fun r hr => cl_sxE_some Q orc (vs := [v0, v1]) G Try.func52 (by kernel_rfl) (by kernel_rfl) (by kernel_rfl) (by kernel_rfl) (by kernel_rfl) (m52 h v0 v1 G r hr)
/-- coxswain/arena.gen -/
noncomputable def s53 (q : Bool) (e : Ex) (v0 : Value) (G : GS) : Option (Value × GS) :=
  bP (bn Q q .and 33 (.tmp 3) (.const (.int .u64 4294967295)) v0 (.int .u64 4294967295)) fun x0 =>
  bP (cv Q q 33 3 .u64 .i64 x0) fun x1 =>
  some (x1, G)
theorem m53 {e : Ex} {E : Ev} (h : ExLe Q e E) (v0 : Value) (G : GS) : Ref (s53 true e v0 G) (s53 false (Ex.of E) v0 G) := by
  unfold s53
  exact Ref.go
theorem f53 {orc : FuncId → Bool} {e : Ex} (h : ExLe Q e (E orc)) (v0 : Value) (G : GS) : Ref (s53 true e v0 G) ((E orc).cl 53 [v0] G) :=
  fun r hr => cl_sxE_some Q orc (vs := [v0]) G Try.func53 (by kernel_rfl) (by kernel_rfl) (by kernel_rfl) (by kernel_rfl) (by kernel_rfl) (m53 h v0 G r hr)
/-- (*coxswain/arena.Free).wears -/
noncomputable def s54 (q : Bool) (e : Ex) (v0 v1 : Value) (G : GS) : Option (Value × GS) :=
  bP (pNil v0) fun x0 =>
  bP (fa Q q 41 1 1 x0) fun x1 =>
  bP (fa Q q 31 2 4 x1) fun x2 =>
  bP (ld Q q 3 x2 G) fun x3 =>
  bS (e.ev.cl 83 [v1, x3, (.int .u64 1)] G) fun x4 G5 =>
  bP (pNil v0) fun x6 =>
  bP (fa Q q 41 3 8 x6) fun x7 =>
  bP (st Q q 39 1 x7 .nilFunc G5) fun G8 =>
  some (.tuple #[], G8)
theorem m54 {e : Ex} {E : Ev} (h : ExLe Q e E) (v0 v1 : Value) (G : GS) : Ref (s54 true e v0 v1 G) (s54 false (Ex.of E) v0 v1 G) := by
  unfold s54
  exact Ref.go
theorem f54 {orc : FuncId → Bool} {e : Ex} (h : ExLe Q e (E orc)) (v0 v1 : Value) (G : GS) : Ref (s54 true e v0 v1 G) ((E orc).cl 54 [v0, v1] G) :=
  fun r hr => cl_sxE_some Q orc (vs := [v0, v1]) G Try.func54 (by kernel_rfl) (by kernel_rfl) (by kernel_rfl) (by kernel_rfl) (by kernel_rfl) (m54 h v0 v1 G r hr)
/-- coxswain/arena.sized -/
noncomputable def s55 (q : Bool) (e : Ex) (v0 : Value) (G : GS) : Option (Value × GS) :=
  bS (bx q v0 G) fun x0 G1 =>
  bP (fa Q q 31 0 0 x0) fun x2 =>
  bP (fa Q q 29 2 2 x2) fun x3 =>
  bP (ld Q q 3 x3 G1) fun x4 =>
  bP (bn Q q .geq 3 (.tmp 5) (.const (.int .i64 1)) x4 (.int .i64 1)) fun x5 =>
  bS (gd x5 true (bP (fa Q q 31 0 0 x0) fun y => some (y, G1)) G1) fun x6 G7 =>
  bS (gd x5 true (bP (fa Q q 29 2 2 x6) fun y => some (y, G7)) G7) fun x8 G9 =>
  bS (gd x5 true (bP (ld Q q 3 x8 G9) fun y => some (y, G9)) G9) fun x10 G11 =>
  bS (gd x5 true (bP (bn Q q .leq 3 (.tmp 10) (.const (.int .i64 4096)) x10 (.int .i64 4096)) fun y => some (y, G11)) G11) fun x12 G13 =>
  bP (pickV x5 x12 (.bool false)) fun x14 =>
  some (x14, G13)
theorem m55 {e : Ex} {E : Ev} (h : ExLe Q e E) (v0 : Value) (G : GS) : Ref (s55 true e v0 G) (s55 false (Ex.of E) v0 G) := by
  unfold s55
  exact Ref.go
theorem f55 {orc : FuncId → Bool} {e : Ex} (h : ExLe Q e (E orc)) (v0 : Value) (G : GS) : Ref (s55 true e v0 G) ((E orc).cl 55 [v0] G) :=
  fun r hr => cl_sxE_some Q orc (vs := [v0]) G Try.func55 (by kernel_rfl) (by kernel_rfl) (by kernel_rfl) (by kernel_rfl) (by kernel_rfl) (m55 h v0 G r hr)
instance ilp56_0 : LpIs Q 56 0 (subAt [1, 1, 1, 1, 0, 0] (bodyOf Try.f56)) 34 := ⟨by kernel_rfl, by kernel_rfl⟩
noncomputable def b56_0 (q : Bool) (e : Ex) (lp : Env → GS → Option (Exit × Env × GS)) (τ : Env) (G : GS) : Option (Exit × Env × GS) :=
  bV q (τ 1) fun a1_ =>
  bV q (τ 2) fun a2_ =>
  bV q (τ 15) fun a15_ =>
  bV q (τ 16) fun a16_ =>
  bP (bn Q q .lss 3 (.tmp 16) (.tmp 15) a16_ a15_) fun x0 =>
  ifV x0 (
  bP (bn Q q .add 3 (.tmp 19) (.const (.int .i64 1)) a16_ (.int .i64 1)) fun x1 =>
  bP (fa Q q 29 2 2 a2_) fun x2 =>
  bP (ld Q q 3 x2 G) fun x3 =>
  bP (bn Q q .eql 3 (.tmp 21) (.tmp 23) x1 x3) fun x4 =>
  ifV x4 (
  bP (fa Q q 29 1 1 a2_) fun x5 =>
  bP (ld Q q 3 x5 (G.room 8)) fun x6 =>
  bP (bn Q q .add 3 (.tmp 27) (.tmp 28) x6 a16_) fun x7 =>
  bS (e.ev.cl 85 [(.int .i64 (-1))] (G.room 8)) fun x9 G8 =>
  chk ((sameO (ld Q q 3 x5 G8) x6 && true)) <|
  bS (e.ev.cl 57 [a1_, x7, x9] G8) fun x11 G10 =>
  bP (bn Q q .add 3 (.tmp 16) (.const (.int .i64 1)) a16_ (.int .i64 1)) fun x12 =>
  lp (tu τ [(1, a1_), (2, a2_), (15, a15_), (16, x12), (4, a16_), (5, (.int .i64 (-1))), (17, x0), (18, a16_), (19, a16_), (20, x1), (21, x1), (22, x2), (23, x3), (24, x4), (25, a1_), (26, x5), (27, x6), (28, a16_), (29, x7), (30, (.int .i64 (-1))), (31, x9), (32, x11), (33, x12)]) G10) (
  bP (fa Q q 29 1 1 a2_) fun x13 =>
  bP (ld Q q 3 x13 (G.room 8)) fun x14 =>
  bP (bn Q q .add 3 (.tmp 27) (.tmp 28) x14 a16_) fun x15 =>
  bS (e.ev.cl 85 [x1] (G.room 8)) fun x17 G16 =>
  chk ((sameO (ld Q q 3 x13 G16) x14 && true)) <|
  bS (e.ev.cl 57 [a1_, x15, x17] G16) fun x19 G18 =>
  bP (bn Q q .add 3 (.tmp 16) (.const (.int .i64 1)) a16_ (.int .i64 1)) fun x20 =>
  lp (tu τ [(1, a1_), (2, a2_), (15, a15_), (16, x20), (4, a16_), (5, x1), (17, x0), (18, a16_), (19, a16_), (20, x1), (21, x1), (22, x2), (23, x3), (24, x4), (25, a1_), (26, x13), (27, x14), (28, a16_), (29, x15), (30, x1), (31, x17), (32, x19), (33, x20)]) G18)) (
  some ((.exit 0), clq q 34 (tu τ [(1, a1_), (2, a2_), (15, a15_), (16, a16_), (17, x0)]), G))
theorem mb56_0 {e : Ex} {E : Ev} (h : ExLe Q e E) {lp lp' : Env → GS → Option (Exit × Env × GS)} (hlp : LpLe lp lp') (τ : Env) (G : GS) : Ref (b56_0 true e lp τ G) (b56_0 false (Ex.of E) lp' τ G) := by
  unfold b56_0
  exact Ref.go
theorem l56_0 {orc : FuncId → Bool} {e : Ex} (h : ExLe Q e (E orc)) (lp : Env → GS → Option (Exit × Env × GS)) (hlp : ∀ τ G, Ref (lp τ G) (mapE ((E orc).lp (subAt [1, 1, 1, 1, 0, 0] (bodyOf Try.f56)) (lst 34 τ) G))) (T : List Value) (G : GS) (hT : T.length = 34) : Ref (b56_0 true e lp (nth undef T) G) (mapE ((E orc).lp (subAt [1, 1, 1, 1, 0, 0] (bodyOf Try.f56)) T G)) :=
  fun r hr => lp_sxM Q orc G hT (by kernel_rfl) (mb56_0 h ⟨hlp⟩ _ _ r hr)
/-- coxswain/stack.Fill -/
noncomputable def s56 (q : Bool) (e : Ex) (v0 v1 : Value) (G : GS) : Option (Value × GS) :=
  bS (bx q v0 G) fun x0 G1 =>
  bP (lda Q q 29 3 x0 G1) fun x2 =>
  bS (e.ev.cl 84 [x2] G1) fun x3 G4 =>
  bP (un Q q .not x3) fun x5 =>
  ifV x5 (
  some (.tuple #[], G4)) (
  bP (fa Q q 29 0 0 x0) fun x6 =>
  bP (ld Q q 3 x6 (G4.room 5)) fun x7 =>
  bS (e.ev.cl 85 [(.int .i64 0)] (G4.room 5)) fun x9 G8 =>
  chk ((sameO (ld Q q 3 x6 G8) x7 && true)) <|
  bS (e.ev.cl 57 [v1, x7, x9] G8) fun x11 G10 =>
  bP (fa Q q 29 2 2 x0) fun x12 =>
  bP (ld Q q 3 x12 G10) fun x13 =>
  bL q e 56 0 (subAt [1, 1, 1, 1, 0, 0] (bodyOf Try.f56)) 34 (tu (nth undef [v0, v1]) [(2, x0), (6, x2), (7, x3), (8, x5), (9, v1), (10, x6), (11, x7), (12, x9), (13, x11), (14, x12), (15, x13), (16, (.int .i64 0))]) G10 fun e14 t15 G16 =>
  ifE e14 (.exit 0) (
  some (.tuple #[], G16)) (none))
theorem m56 {e : Ex} {E : Ev} (h : ExLe Q e E) (v0 v1 : Value) (G : GS) : Ref (s56 true e v0 v1 G) (s56 false (Ex.of E) v0 v1 G) := by
  unfold s56
  exact Ref.go
theorem f56 {orc : FuncId → Bool} {e : Ex} (h : ExLe Q e (E orc)) (v0 v1 : Value) (G : GS) : Ref (s56 true e v0 v1 G) ((E orc).cl 56 [v0, v1] G) :=
  fun r hr => cl_sxE_some Q orc (vs := [v0, v1]) G Try.func56 (by kernel_rfl) (by kernel_rfl) (by kernel_rfl) (by kernel_rfl) (by kernel_rfl) (m56 h v0 v1 G r hr)
/-- (*coxswain/cells.Mem).Store -/
noncomputable def s57 (q : Bool) (e : Ex) (v0 v1 v2 : Value) (G : GS) : Option (Value × GS) :=
  bS (e.ev.cl 60 [v0, v1] G) fun x0 G1 =>
  bP (bd Q q 127 z127 [(0, 0, 1), (1, 1, 1)] [x0, v2]) fun x2 =>
  bS (al Q q 127 z127 G1) fun x3 G4 =>
  bP (st Q q 127 3 x3 x2 G4) fun G5 =>
  bP (fa Q q 127 0 0 x3) fun x6 =>
  bP (ld Q q 124 x6 G5) fun x7 =>
  bP (lda Q q 127 3 x3 G5) fun x8 =>
  bS (e.ev.cl 61 [v0, (.int .i64 2), v1, x7, (.func (.func 86) #[x8] #[])] G5) fun x9 G10 =>
  some (.tuple #[], G10)
theorem m57 {e : Ex} {E : Ev} (h : ExLe Q e E) (v0 v1 v2 : Value) (G : GS) : Ref (s57 true e v0 v1 v2 G) (s57 false (Ex.of E) v0 v1 v2 G) := by
  unfold s57
  exact Ref.go
theorem f57 {orc : FuncId → Bool} {e : Ex} (h : ExLe Q e (E orc)) (v0 v1 v2 : Value) (G : GS) : Ref (s57 true e v0 v1 v2 G) ((E orc).cl 57 [v0, v1, v2] G) :=
  fun r hr => cl_sxE_some Q orc (vs := [v0, v1, v2]) G Try.func57 (by kernel_rfl) (by kernel_rfl) (by kernel_rfl) (by kernel_rfl) (by kernel_rfl) (m57 h v0 v1 v2 G r hr)
/-- coxswain/stack.NewPop -/
noncomputable def s58 (q : Bool) (e : Ex) (v0 : Value) (G : GS) : Option (Value × GS) :=
  bS (bx q v0 G) fun x0 G1 =>
  bP (lda Q q 29 3 x0 G1) fun x2 =>
  bP (bd Q q 114 z114 [(0, 0, 3), (4, 6, 1)] [x2, (.bool true)]) fun x3 =>
  bP (bd Q q 158 z158 [(0, 0, 9), (1, 9, 1)] [x3, (.func (.func 87) #[] #[])]) fun x4 =>
  bS (bx q x4 G1) fun x5 G6 =>
  some (x5, G6)
theorem m58 {e : Ex} {E : Ev} (h : ExLe Q e E) (v0 : Value) (G : GS) : Ref (s58 true e v0 G) (s58 false (Ex.of E) v0 G) := by
  unfold s58
  exact Ref.go
theorem f58 {orc : FuncId → Bool} {e : Ex} (h : ExLe Q e (E orc)) (v0 : Value) (G : GS) : Ref (s58 true e v0 G) ((E orc).cl 58 [v0] G) :=
  fun r hr => cl_sxE_some Q orc (vs := [v0]) G Try.func58 (by kernel_rfl) (by kernel_rfl) (by kernel_rfl) (by kernel_rfl) (by kernel_rfl) (m58 h v0 G r hr)
/-- (*coxswain/arena.Alloc).pop -/
noncomputable def s59 (q : Bool) (e : Ex) (v0 v1 : Value) (G : GS) : Option (Value × GS) :=
  bP (pNil v0) fun x0 =>
  bP (fa Q q 35 0 0 x0) fun x1 =>
  bP (ld Q q 27 x1 G) fun x2 =>
  bS (e.ev.cl 88 [x2, v1] G) fun x3 G4 =>
  bP (un Q q .not x3) fun x5 =>
  ifV x5 (
  some (.tuple #[], G4)) (
  bP (pNil v0) fun x6 =>
  bP (fa Q q 35 0 0 x6) fun x7 =>
  bP (ld Q q 27 x7 G4) fun x8 =>
  bS (e.ev.cl 89 [x8] G4) fun x9 G10 =>
  bP (pExtract x9 0) fun x11 =>
  bP (pExtract x9 1) fun x12 =>
  bP (pNil v0) fun x13 =>
  bP (fa Q q 35 4 9 x13) fun x14 =>
  bP (st Q q 3 1 x14 x11 G10) fun G15 =>
  bP (pNil v0) fun x16 =>
  bP (fa Q q 35 3 8 x16) fun x17 =>
  bP (st Q q 32 1 x17 (.func (.func 90) #[] #[]) G15) fun G18 =>
  bP (bn Q q .neq 23 (.tmp 28) (.const (.int .i64 0)) x12 (.int .i64 0)) fun x19 =>
  ifV x19 (
  bP (pNil v0) fun x20 =>
  bP (fa Q q 35 3 8 x20) fun x21 =>
  bP (st Q q 32 1 x21 (.func (.func 91) #[] #[]) G18) fun G22 =>
  some (.tuple #[], G22)) (
  some (.tuple #[], G18)))
theorem m59 {e : Ex} {E : Ev} (h : ExLe Q e E) (v0 v1 : Value) (G : GS) : Ref (s59 true e v0 v1 G) (s59 false (Ex.of E) v0 v1 G) := by
  unfold s59
  exact Ref.go
theorem f59 {orc : FuncId → Bool} {e : Ex} (h : ExLe Q e (E orc)) (v0 v1 : Value) (G : GS) : Ref (s59 true e v0 v1 G) ((E orc).cl 59 [v0, v1] G) :=
  fun r hr => cl_sxE_some Q orc (vs := [v0, v1]) G Try.func59 (by kernel_rfl) (by kernel_rfl) (by kernel_rfl) (by kernel_rfl) (by kernel_rfl) (m59 h v0 v1 G r hr)
/-- (*coxswain/cells.Mem).cell -/
noncomputable def s60 (q : Bool) (e : Ex) (v0 v1 : Value) (G : GS) : Option (Value × GS) :=
  bP (ep Q q false 22 (.tmp 5) (.const (.pointer none)) v0 (.pointer none)) fun x0 =>
  bS (gd x0 false (some (v0, G)) G) fun x1 G2 =>
  bS (gd x0 false (bP (pNil x1) fun y => some (y, G2)) G2) fun x3 G4 =>
  bS (gd x0 false (bP (fa Q q 82 0 0 x3) fun y => some (y, G4)) G4) fun x5 G6 =>
  bS (gd x0 false (bP (ld Q q 75 x5 G6) fun y => some (y, G6)) G6) fun x7 G8 =>
  bS (gd x0 false (bP (ep Q q false 75 (.tmp 11) (.const (.pointer none)) x7 (.pointer none)) fun y => some (y, G8)) G8) fun x9 G10 =>
  bP (pickV x0 (.bool true) x9) fun x11 =>
  bS (gd x11 false (some (v1, G10)) G10) fun x12 G13 =>
  bS (gd x11 false (bP (bn Q q .lss 3 (.tmp 15) (.const (.int .i64 0)) x12 (.int .i64 0)) fun y => some (y, G13)) G13) fun x14 G15 =>
  bP (pickV x11 (.bool true) x14) fun x16 =>
  bS (gd x16 false (some (v1, G15)) G15) fun x17 G18 =>
  bS (gd x16 false (some (v0, G18)) G18) fun x19 G20 =>
  bS (gd x16 false (bP (pNil x19) fun y => some (y, G20)) G20) fun x21 G22 =>
  bS (gd x16 false (bP (fa Q q 82 1 1 x21) fun y => some (y, G22)) G22) fun x23 G24 =>
  bS (gd x16 false (bP (ld Q q 3 x23 G24) fun y => some (y, G24)) G24) fun x25 G26 =>
  bS (gd x16 false (bP (bn Q q .geq 3 (.tmp 19) (.tmp 23) x17 x25) fun y => some (y, G26)) G26) fun x27 G28 =>
  bP (pickV x16 (.bool true) x27) fun x29 =>
  ifV x29 (
  some ((.pointer none), G28)) (
  bP (pNil v0) fun x30 =>
  bP (fa Q q 82 0 0 x30) fun x31 =>
  bP (ld Q q 75 x31 G28) fun x32 =>
  bP (pNil x32) fun x33 =>
  bP (iaa Q q 78 4096 1 x33 v1) fun x34 =>
  some (x34, G28))
theorem m60 {e : Ex} {E : Ev} (h : ExLe Q e E) (v0 v1 : Value) (G : GS) : Ref (s60 true e v0 v1 G) (s60 false (Ex.of E) v0 v1 G) := by
  unfold s60
  exact Ref.go
theorem f60 {orc : FuncId → Bool} {e : Ex} (h : ExLe Q e (E orc)) (v0 v1 : Value) (G : GS) : Ref (s60 true e v0 v1 G) ((E orc).cl 60 [v0, v1] G) :=
  fun r hr => cl_sxE_some Q orc (vs := [v0, v1]) G Try.func60 (by kernel_rfl) (by kernel_rfl) (by kernel_rfl) (by kernel_rfl) (by kernel_rfl) (m60 h v0 v1 G r hr)
/-- (*coxswain/cells.Mem).do -/
noncomputable def s61 (q : Bool) (e : Ex) (v0 v1 v2 v3 v4 : Value) (G : GS) : Option (Value × GS) :=
  bS (al Q q 80 z80 G) fun x0 G1 =>
  bP (ep Q q false 22 (.tmp 13) (.const (.pointer none)) v0 (.pointer none)) fun x2 =>
  bS (gd x2 false (some (v0, G1)) G1) fun x3 G4 =>
  bS (gd x2 false (bP (pNil x3) fun y => some (y, G4)) G4) fun x5 G6 =>
  bS (gd x2 false (bP (fa Q q 82 0 0 x5) fun y => some (y, G6)) G6) fun x7 G8 =>
  bS (gd x2 false (bP (ld Q q 75 x7 G8) fun y => some (y, G8)) G8) fun x9 G10 =>
  bS (gd x2 false (bP (ep Q q false 75 (.tmp 19) (.const (.pointer none)) x9 (.pointer none)) fun y => some (y, G10)) G10) fun x11 G12 =>
  bP (pickV x2 (.bool true) x11) fun x13 =>
  ifV x13 (
  bP (bd Q q 80 z80 [] []) fun x14 =>
  bP (st Q q 80 5 x0 x14 G12) fun G15 =>
  bP (lda Q q 80 5 x0 G15) fun x16 =>
  some (x16, G15)) (
  bP (pNil v0) fun x17 =>
  bP (fa Q q 82 3 7 x17) fun x18 =>
  bP (ld Q q 3 x18 G12) fun x19 =>
  bP (bn Q q .add 3 (.tmp 26) (.const (.int .i64 1)) x19 (.int .i64 1)) fun x20 =>
  bP (pNil v0) fun x21 =>
  bP (fa Q q 82 3 7 x21) fun x22 =>
  bP (st Q q 3 1 x22 x20 G12) fun G23 =>
  bP (bd Q q 80 z80 [(0, 0, 1), (1, 1, 1)] [v1, v2]) fun x24 =>
  bP (pNil v0) fun x25 =>
  bP (fa Q q 82 2 2 x25) fun x26 =>
  bP (st Q q 80 5 x26 x24 G23) fun G27 =>
  bS (e.ev.cl 92 [v3] G27) fun x28 G29 =>
  ifV x28 (
  bS (cValue e.ev v4 [] G29) fun x30 G31 =>
  bP (pExtract x30 0) fun x32 =>
  bP (pExtract x30 1) fun x33 =>
  bP (pNil v3) fun x34 =>
  bP (ld Q q 76 x34 G31) fun x35 =>
  bP (pNil v0) fun x36 =>
  bP (fa Q q 82 2 2 x36) fun x37 =>
  bP (fa Q q 80 2 2 x37) fun x38 =>
  bP (st Q q 33 1 x38 x35 G31) fun G39 =>
  bP (pNil v0) fun x40 =>
  bP (fa Q q 82 2 2 x40) fun x41 =>
  bP (fa Q q 80 3 3 x41) fun x42 =>
  bP (st Q q 33 1 x42 x32 G39) fun G43 =>
  bP (pNil v0) fun x44 =>
  bP (fa Q q 82 2 2 x44) fun x45 =>
  bP (fa Q q 80 4 4 x45) fun x46 =>
  bP (st Q q 4 1 x46 x33 G43) fun G47 =>
  bP (pNil v3) fun x48 =>
  bP (st Q q 76 1 x48 x32 G47) fun G49 =>
  bP (pNil v0) fun x50 =>
  bP (fa Q q 82 2 2 x50) fun x51 =>
  bP (lda Q q 80 5 x51 G49) fun x52 =>
  bP (st Q q 80 5 x0 x52 G49) fun G53 =>
  bP (lda Q q 80 5 x0 G53) fun x54 =>
  some (x54, G53)) (
  bP (pNil v0) fun x55 =>
  bP (fa Q q 82 2 2 x55) fun x56 =>
  bP (lda Q q 80 5 x56 G29) fun x57 =>
  bP (st Q q 80 5 x0 x57 G29) fun G58 =>
  bP (lda Q q 80 5 x0 G58) fun x59 =>
  some (x59, G58)))
theorem m61 {e : Ex} {E : Ev} (h : ExLe Q e E) (v0 v1 v2 v3 v4 : Value) (G : GS) : Ref (s61 true e v0 v1 v2 v3 v4 G) (s61 false (Ex.of E) v0 v1 v2 v3 v4 G) := by
  unfold s61
  exact Ref.go
theorem f61 {orc : FuncId → Bool} {e : Ex} (h : ExLe Q e (E orc)) (v0 v1 v2 v3 v4 : Value) (G : GS) : Ref (s61 true e v0 v1 v2 v3 v4 G) ((E orc).cl 61 [v0, v1, v2, v3, v4] G) :=
  fun r hr => cl_sxE_some Q orc (vs := [v0, v1, v2, v3, v4]) G Try.func61 (by kernel_rfl) (by kernel_rfl) (by kernel_rfl) (by kernel_rfl) (by kernel_rfl) (m61 h v0 v1 v2 v3 v4 G r hr)
/-- (coxswain/cells.deed).load -/
noncomputable def s62 (q : Bool) (e : Ex) (v0 : Value) (G : GS) : Option (Value × GS) :=
  bS (bx q v0 G) fun x0 G1 =>
  bP (fa Q q 127 0 0 x0) fun x2 =>
  bP (ld Q q 124 x2 G1) fun x3 =>
  bP (pNil x3) fun x4 =>
  bP (ld Q q 76 x4 G1) fun x5 =>
  some (.tuple #[x5, (.bool false)], G1)
theorem m62 {e : Ex} {E : Ev} (h : ExLe Q e E) (v0 : Value) (G : GS) : Ref (s62 true e v0 G) (s62 false (Ex.of E) v0 G) := by
  unfold s62
  exact Ref.go
theorem f62 {orc : FuncId → Bool} {e : Ex} (h : ExLe Q e (E orc)) (v0 : Value) (G : GS) : Ref (s62 true e v0 G) ((E orc).cl 62 [v0] G) :=
  fun r hr => cl_sxE_some Q orc (vs := [v0]) G Try.func62 (by kernel_rfl) (by kernel_rfl) (by kernel_rfl) (by kernel_rfl) (by kernel_rfl) (m62 h v0 G r hr)
/-- (*coxswain/stack.held).load -/
noncomputable def s80 (q : Bool) (e : Ex) (v0 v1 : Value) (G : GS) : Option (Value × GS) :=
  bP (pNil v0) fun x0 =>
  bP (fa Q q 114 0 0 x0) fun x1 =>
  bP (fa Q q 29 0 0 x1) fun x2 =>
  bP (ld Q q 3 x2 G) fun x3 =>
  bS (e.ev.cl 31 [v1, x3] G) fun x4 G5 =>
  bP (pNil v0) fun x6 =>
  bP (fa Q q 114 1 3 x6) fun x7 =>
  bP (st Q q 33 1 x7 x4 G5) fun G8 =>
  bP (pNil v0) fun x9 =>
  bP (fa Q q 114 0 0 x9) fun x10 =>
  bP (lda Q q 29 3 x10 (G8.room 10)) fun x11 =>
  bP (pNil v0) fun x12 =>
  bP (fa Q q 114 1 3 x12) fun x13 =>
  bP (ld Q q 33 x13 (G8.room 10)) fun x14 =>
  bS (e.ev.cl 100 [x11, x14] (G8.room 10)) fun x16 G15 =>
  some (x16, G15)
theorem m80 {e : Ex} {E : Ev} (h : ExLe Q e E) (v0 v1 : Value) (G : GS) : Ref (s80 true e v0 v1 G) (s80 false (Ex.of E) v0 v1 G) := by
  unfold s80
  exact Ref.go
theorem f80 {orc : FuncId → Bool} {e : Ex} (h : ExLe Q e (E orc)) (v0 v1 : Value) (G : GS) : Ref (s80 true e v0 v1 G) ((E orc).cl 80 [v0, v1] G) :=
  fun r hr => cl_sxE_some Q orc (vs := [v0, v1]) G Try.func80 (by kernel_rfl) (by kernel_rfl) (by kernel_rfl) (by kernel_rfl) (by kernel_rfl) (m80 h v0 v1 G r hr)
/-- (*coxswain/stack.Push).second -/
noncomputable def s81 (q : Bool) (e : Ex) (v0 v1 : Value) (G : GS) : Option (Value × GS) :=
  bP (pNil v0) fun x0 =>
  bP (fa Q q 117 0 0 x0) fun x1 =>
  bP (fa Q q 114 0 0 x1) fun x2 =>
  bP (fa Q q 29 1 1 x2) fun x3 =>
  bP (ld Q q 3 x3 (G.room 20)) fun x4 =>
  bP (pNil v0) fun x5 =>
  bP (fa Q q 117 0 0 x5) fun x6 =>
  bP (fa Q q 114 2 4 x6) fun x7 =>
  bP (ld Q q 3 x7 (G.room 20)) fun x8 =>
  bP (bn Q q .add 3 (.tmp 10) (.tmp 15) x4 x8) fun x9 =>
  bP (pNil v0) fun x10 =>
  bP (fa Q q 117 0 0 x10) fun x11 =>
  bP (fa Q q 114 3 5 x11) fun x12 =>
  bP (ld Q q 3 x12 (G.room 20)) fun x13 =>
  bS (e.ev.cl 85 [x13] (G.room 20)) fun x15 G14 =>
  chk ((sameO (ld Q q 3 x7 G14) x8 && (sameO (ld Q q 3 x3 G14) x4 && true))) <|
  bS (e.ev.cl 57 [v1, x9, x15] G14) fun x17 G16 =>
  bP (pNil v0) fun x18 =>
  bP (fa Q q 117 1 9 x18) fun x19 =>
  bP (st Q q 115 1 x19 (.func (.func 101) #[] #[]) G16) fun G20 =>
  some (.tuple #[], G20)
theorem m81 {e : Ex} {E : Ev} (h : ExLe Q e E) (v0 v1 : Value) (G : GS) : Ref (s81 true e v0 v1 G) (s81 false (Ex.of E) v0 v1 G) := by
  unfold s81
  exact Ref.go
theorem f81 {orc : FuncId → Bool} {e : Ex} (h : ExLe Q e (E orc)) (v0 v1 : Value) (G : GS) : Ref (s81 true e v0 v1 G) ((E orc).cl 81 [v0, v1] G) :=
  fun r hr => cl_sxE_some Q orc (vs := [v0, v1]) G Try.func81 (by kernel_rfl) (by kernel_rfl) (by kernel_rfl) (by kernel_rfl) (by kernel_rfl) (m81 h v0 v1 G r hr)
/-- (*coxswain/arena.Free).push -/
noncomputable def s82 (q : Bool) (e : Ex) (v0 v1 : Value) (G : GS) : Option (Value × GS) :=
  bP (pNil v0) fun x0 =>
  bP (fa Q q 41 0 0 x0) fun x1 =>
  bP (ld Q q 38 x1 G) fun x2 =>
  bS (e.ev.cl 102 [x2, v1] G) fun x3 G4 =>
  ifV x3 (
  bP (pNil v0) fun x5 =>
  bP (fa Q q 41 3 8 x5) fun x6 =>
  bP (st Q q 39 1 x6 .nilFunc G4) fun G7 =>
  some (.tuple #[], G7)) (
  some (.tuple #[], G4))
theorem m82 {e : Ex} {E : Ev} (h : ExLe Q e E) (v0 v1 : Value) (G : GS) : Ref (s82 true e v0 v1 G) (s82 false (Ex.of E) v0 v1 G) := by
  unfold s82
  exact Ref.go
theorem f82 {orc : FuncId → Bool} {e : Ex} (h : ExLe Q e (E orc)) (v0 v1 : Value) (G : GS) : Ref (s82 true e v0 v1 G) ((E orc).cl 82 [v0, v1] G) :=
  fun r hr => cl_sxE_some Q orc (vs := [v0, v1]) G Try.func82 (by kernel_rfl) (by kernel_rfl) (by kernel_rfl) (by kernel_rfl) (by kernel_rfl) (m82 h v0 v1 G r hr)
/-- (*coxswain/cells.Mem).Add -/
noncomputable def s83 (q : Bool) (e : Ex) (v0 v1 v2 : Value) (G : GS) : Option (Value × GS) :=
  bS (e.ev.cl 60 [v0, v1] G) fun x0 G1 =>
  bP (bd Q q 127 z127 [(0, 0, 1), (1, 1, 1)] [x0, v2]) fun x2 =>
  bS (al Q q 127 z127 G1) fun x3 G4 =>
  bP (st Q q 127 3 x3 x2 G4) fun G5 =>
  bP (fa Q q 127 0 0 x3) fun x6 =>
  bP (ld Q q 124 x6 G5) fun x7 =>
  bP (lda Q q 127 3 x3 G5) fun x8 =>
  bS (e.ev.cl 61 [v0, (.int .i64 4), v1, x7, (.func (.func 103) #[x8] #[])] G5) fun x9 G10 =>
  bP (fd Q q 80 3 3 x9) fun x11 =>
  some (x11, G10)
theorem m83 {e : Ex} {E : Ev} (h : ExLe Q e E) (v0 v1 v2 : Value) (G : GS) : Ref (s83 true e v0 v1 v2 G) (s83 false (Ex.of E) v0 v1 v2 G) := by
  unfold s83
  exact Ref.go
theorem f83 {orc : FuncId → Bool} {e : Ex} (h : ExLe Q e (E orc)) (v0 v1 v2 : Value) (G : GS) : Ref (s83 true e v0 v1 v2 G) ((E orc).cl 83 [v0, v1, v2] G) :=
  fun r hr => cl_sxE_some Q orc (vs := [v0, v1, v2]) G Try.func83 (by kernel_rfl) (by kernel_rfl) (by kernel_rfl) (by kernel_rfl) (by kernel_rfl) (m83 h v0 v1 v2 G r hr)
/-- coxswain/stack.sized -/
noncomputable def s84 (q : Bool) (e : Ex) (v0 : Value) (G : GS) : Option (Value × GS) :=
  bS (bx q v0 G) fun x0 G1 =>
  bP (fa Q q 29 2 2 x0) fun x2 =>
  bP (ld Q q 3 x2 G1) fun x3 =>
  bP (bn Q q .geq 3 (.tmp 4) (.const (.int .i64 1)) x3 (.int .i64 1)) fun x4 =>
  bS (gd x4 true (bP (fa Q q 29 2 2 x0) fun y => some (y, G1)) G1) fun x5 G6 =>
  bS (gd x4 true (bP (ld Q q 3 x5 G6) fun y => some (y, G6)) G6) fun x7 G8 =>
  bS (gd x4 true (bP (bn Q q .leq 3 (.tmp 8) (.const (.int .i64 4096)) x7 (.int .i64 4096)) fun y => some (y, G8)) G8) fun x9 G10 =>
  bP (pickV x4 x9 (.bool false)) fun x11 =>
  some (x11, G10)
theorem m84 {e : Ex} {E : Ev} (h : ExLe Q e E) (v0 : Value) (G : GS) : Ref (s84 true e v0 G) (s84 false (Ex.of E) v0 G) := by
  unfold s84
  exact Ref.go
theorem f84 {orc : FuncId → Bool} {e : Ex} (h : ExLe Q e (E orc)) (v0 : Value) (G : GS) : Ref (s84 true e v0 G) ((E orc).cl 84 [v0] G) :=
  fun r hr => cl_sxE_some Q orc (vs := [v0]) G Try.func84 (by kernel_rfl) (by kernel_rfl) (by kernel_rfl) (by kernel_rfl) (by kernel_rfl) (m84 h v0 G r hr)
/-- coxswain/stack.link -/
noncomputable def s85 (q : Bool) (e : Ex) (v0 : Value) (G : GS) : Option (Value × GS) :=
  bP (bd Q q 170 z170 [(0, 0, 1)] [v0]) fun x0 =>
  bS (e.ev.cl 104 [x0] G) fun x1 G2 =>
  bP (pExtract x1 0) fun x3 =>
  bP (pExtract x1 1) fun x4 =>
  some (x3, G2)
theorem m85 {e : Ex} {E : Ev} (h : ExLe Q e E) (v0 : Value) (G : GS) : Ref (s85 true e v0 G) (s85 false (Ex.of E) v0 G) := by
  unfold s85
  exact Ref.go
theorem f85 {orc : FuncId → Bool} {e : Ex} (h : ExLe Q e (E orc)) (v0 : Value) (G : GS) : Ref (s85 true e v0 G) ((E orc).cl 85 [v0] G) :=
  fun r hr => cl_sxE_some Q orc (vs := [v0]) G Try.func85 (by kernel_rfl) (by kernel_rfl) (by kernel_rfl) (by kernel_rfl) (by kernel_rfl) (m85 h v0 G r hr)
/-- (coxswain/cells.deed).store -/
noncomputable def s86 (q : Bool) (e : Ex) (v0 : Value) (G : GS) : Option (Value × GS) :=
  bS (bx q v0 G) fun x0 G1 =>
  bP (fa Q q 127 1 1 x0) fun x2 =>
  bP (ld Q q 33 x2 G1) fun x3 =>
  some (.tuple #[x3, (.bool true)], G1)
theorem m86 {e : Ex} {E : Ev} (h : ExLe Q e E) (v0 : Value) (G : GS) : Ref (s86 true e v0 G) (s86 false (Ex.of E) v0 G) := by
  unfold s86
  exact Ref.go
theorem f86 {orc : FuncId → Bool} {e : Ex} (h : ExLe Q e (E orc)) (v0 : Value) (G : GS) : Ref (s86 true e v0 G) ((E orc).cl 86 [v0] G) :=
  fun r hr => cl_sxE_some Q orc (vs := [v0]) G Try.func86 (by kernel_rfl) (by kernel_rfl) (by kernel_rfl) (by kernel_rfl) (by kernel_rfl) (m86 h v0 G r hr)
/-- (*coxswain/stack.Pop).first -/
noncomputable def s87 (q : Bool) (e : Ex) (v0 v1 : Value) (G : GS) : Option (Value × GS) :=
  bP (pNil v0) fun x0 =>
  bP (fa Q q 158 1 9 x0) fun x1 =>
  bP (st Q q 156 1 x1 (.func (.func 105) #[] #[]) G) fun G2 =>
  bP (pNil v0) fun x3 =>
  bP (fa Q q 158 0 0 x3) fun x4 =>
  bS (e.ev.cl 80 [x4, v1] G2) fun x5 G6 =>
  bP (pNil v0) fun x7 =>
  bP (fa Q q 158 0 0 x7) fun x8 =>
  bP (fa Q q 114 2 4 x8) fun x9 =>
  bP (st Q q 3 1 x9 x5 G6) fun G10 =>
  bP (pNil v0) fun x11 =>
  bP (fa Q q 158 0 0 x11) fun x12 =>
  bP (fa Q q 114 2 4 x12) fun x13 =>
  bP (ld Q q 3 x13 G10) fun x14 =>
  bP (bn Q q .lss 3 (.tmp 20) (.const (.int .i64 0)) x14 (.int .i64 0)) fun x15 =>
  ifV x15 (
  bP (pNil v0) fun x16 =>
  bP (fa Q q 158 0 0 x16) fun x17 =>
  bS (e.ev.cl 51 [x17, (.int .i64 15)] G10) fun x18 G19 =>
  some (.tuple #[], G19)) (
  some (.tuple #[], G10))
theorem m87 {e : Ex} {E : Ev} (h : ExLe Q e E) (v0 v1 : Value) (G : GS) : Ref (s87 true e v0 v1 G) (s87 false (Ex.of E) v0 v1 G) := by
  unfold s87
  exact Ref.go
theorem f87 {orc : FuncId → Bool} {e : Ex} (h : ExLe Q e (E orc)) (v0 v1 : Value) (G : GS) : Ref (s87 true e v0 v1 G) ((E orc).cl 87 [v0, v1] G) :=
  fun r hr => cl_sxE_some Q orc (vs := [v0, v1]) G Try.func87 (by kernel_rfl) (by kernel_rfl) (by kernel_rfl) (by kernel_rfl) (by kernel_rfl) (m87 h v0 v1 G r hr)
/-- (*coxswain/stack.Pop).Step -/
noncomputable def s88 (q : Bool) (e : Ex) (v0 v1 : Value) (G : GS) : Option (Value × GS) :=
  bP (ep Q q false 27 (.tmp 5) (.const (.pointer none)) v0 (.pointer none)) fun x0 =>
  bS (gd x0 false (some (v0, G)) G) fun x1 G2 =>
  bS (gd x0 false (bP (pNil x1) fun y => some (y, G2)) G2) fun x3 G4 =>
  bS (gd x0 false (bP (fa Q q 158 0 0 x3) fun y => some (y, G4)) G4) fun x5 G6 =>
  bS (gd x0 false (bS (e.ev.cl 106 [x5] G6) fun y G => some (y, G)) G6) fun x7 G8 =>
  bP (pickV x0 (.bool true) x7) fun x9 =>
  ifV x9 (
  some ((.bool true), G8)) (
  bP (pNil v0) fun x10 =>
  bP (fa Q q 158 1 9 x10) fun x11 =>
  bP (ld Q q 156 x11 G8) fun x12 =>
  bS (cValue e.ev x12 [v0, v1] G8) fun x13 G14 =>
  bP (pNil v0) fun x15 =>
  bP (fa Q q 158 0 0 x15) fun x16 =>
  bP (fa Q q 114 5 7 x16) fun x17 =>
  bP (ld Q q 4 x17 G14) fun x18 =>
  some (x18, G14))
theorem m88 {e : Ex} {E : Ev} (h : ExLe Q e E) (v0 v1 : Value) (G : GS) : Ref (s88 true e v0 v1 G) (s88 false (Ex.of E) v0 v1 G) := by
  unfold s88
  exact Ref.go
theorem f88 {orc : FuncId → Bool} {e : Ex} (h : ExLe Q e (E orc)) (v0 v1 : Value) (G : GS) : Ref (s88 true e v0 v1 G) ((E orc).cl 88 [v0, v1] G) :=
  fun r hr => cl_sxE_some Q orc (vs := [v0, v1]) G Try.func88 (by kernel_rfl) (by kernel_rfl) (by kernel_rfl) (by kernel_rfl) (by kernel_rfl) (m88 h v0 v1 G r hr)
/-- (*coxswain/stack.Pop).Index -/
noncomputable def s89 (q : Bool) (e : Ex) (v0 : Value) (G : GS) : Option (Value × GS) :=
  bP (ep Q q false 27 (.tmp 4) (.const (.pointer none)) v0 (.pointer none)) fun x0 =>
  ifV x0 (
  some (.tuple #[(.int .i64 0), (.int .i64 1)], G)) (
  bP (pNil v0) fun x1 =>
  bP (fa Q q 158 0 0 x1) fun x2 =>
  bS (e.ev.cl 107 [x2] G) fun x3 G4 =>
  bP (pExtract x3 0) fun x5 =>
  bP (pExtract x3 1) fun x6 =>
  some (.tuple #[x5, x6], G4))
theorem m89 {e : Ex} {E : Ev} (h : ExLe Q e E) (v0 : Value) (G : GS) : Ref (s89 true e v0 G) (s89 false (Ex.of E) v0 G) := by
  unfold s89
  exact Ref.go
theorem f89 {orc : FuncId → Bool} {e : Ex} (h : ExLe Q e (E orc)) (v0 : Value) (G : GS) : Ref (s89 true e v0 G) ((E orc).cl 89 [v0] G) :=
  fun r hr => cl_sxE_some Q orc (vs := [v0]) G Try.func89 (by kernel_rfl) (by kernel_rfl) (by kernel_rfl) (by kernel_rfl) (by kernel_rfl) (m89 h v0 G r hr)
/-- (*coxswain/arena.Alloc).gives -/
noncomputable def s90 (q : Bool) (e : Ex) (v0 v1 : Value) (G : GS) : Option (Value × GS) :=
  bP (pNil v0) fun x0 =>
  bP (fa Q q 35 4 9 x0) fun x1 =>
  bP (ld Q q 3 x1 (G.room 26)) fun x2 =>
  bP (pNil v0) fun x3 =>
  bP (fa Q q 35 1 1 x3) fun x4 =>
  bP (fa Q q 31 1 3 x4) fun x5 =>
  bP (ld Q q 3 x5 (G.room 26)) fun x6 =>
  bP (pNil v0) fun x7 =>
  bP (fa Q q 35 4 9 x7) fun x8 =>
  bP (ld Q q 3 x8 (G.room 26)) fun x9 =>
  bP (bn Q q .add 3 (.tmp 15) (.tmp 19) x6 x9) fun x10 =>
  bS (e.ev.cl 31 [v1, x10] (G.room 26)) fun x12 G11 =>
  chk ((sameO (ld Q q 3 x1 G11) x2 && true)) <|
  bS (e.ev.cl 53 [x12] G11) fun x14 G13 =>
  chk ((sameO (ld Q q 3 x1 G13) x2 && true)) <|
  bP (bd Q q 173 z173 [(0, 0, 1), (1, 1, 1)] [x2, x14]) fun x15 =>
  bS (e.ev.cl 108 [x15] G13) fun x17 G16 =>
  bP (pExtract x17 0) fun x18 =>
  bP (pExtract x17 1) fun x19 =>
  bP (pNil v0) fun x20 =>
  bP (fa Q q 35 5 10 x20) fun x21 =>
  bP (st Q q 33 1 x21 x18 G16) fun G22 =>
  bP (pNil v0) fun x23 =>
  bP (fa Q q 35 3 8 x23) fun x24 =>
  bP (st Q q 32 1 x24 .nilFunc G22) fun G25 =>
  some (.tuple #[], G25)
theorem m90 {e : Ex} {E : Ev} (h : ExLe Q e E) (v0 v1 : Value) (G : GS) : Ref (s90 true e v0 v1 G) (s90 false (Ex.of E) v0 v1 G) := by
  unfold s90
  exact Ref.go
theorem f90 {orc : FuncId → Bool} {e : Ex} (h : ExLe Q e (E orc)) (v0 v1 : Value) (G : GS) : Ref (s90 true e v0 v1 G) ((E orc).cl 90 [v0, v1] G) :=
  fun r hr => cl_sxE_some Q orc (vs := [v0, v1]) G Try.func90 (by kernel_rfl) (by kernel_rfl) (by kernel_rfl) (by kernel_rfl) (by kernel_rfl) (m90 h v0 v1 G r hr)
/-- (*coxswain/arena.Alloc).lacks -/
noncomputable def s91 (q : Bool) (e : Ex) (v0 v1 : Value) (G : GS) : Option (Value × GS) :=
  bP (pNil v0) fun x0 =>
  bP (fa Q q 35 6 11 x0) fun x1 =>
  bP (st Q q 23 1 x1 (.int .i64 7) G) fun G2 =>
  bP (pNil v0) fun x3 =>
  bP (fa Q q 35 1 1 x3) fun x4 =>
  bP (fa Q q 31 2 4 x4) fun x5 =>
  bP (ld Q q 3 x5 (G2.room 15)) fun x6 =>
  bS (e.ev.cl 31 [v1, x6] (G2.room 15)) fun x8 G7 =>
  bP (pNil v0) fun x9 =>
  bP (fa Q q 35 1 1 x9) fun x10 =>
  bP (fa Q q 31 0 0 x10) fun x11 =>
  bP (fa Q q 29 2 2 x11) fun x12 =>
  bP (ld Q q 3 x12 G7) fun x13 =>
  chk ((sameO (ld Q q 3 x12 (G2.room 15)) x13 && true)) <|
  bP (cv Q q 3 33 .i64 .u64 x13) fun x14 =>
  bP (bn Q q .geq 33 (.tmp 13) (.tmp 20) x8 x14) fun x15 =>
  ifV x15 (
  bP (pNil v0) fun x16 =>
  bP (fa Q q 35 6 11 x16) fun x17 =>
  bP (st Q q 23 1 x17 (.int .i64 12) G7) fun G18 =>
  bP (pNil v0) fun x19 =>
  bP (fa Q q 35 3 8 x19) fun x20 =>
  bP (st Q q 32 1 x20 .nilFunc G18) fun G21 =>
  some (.tuple #[], G21)) (
  bP (pNil v0) fun x22 =>
  bP (fa Q q 35 3 8 x22) fun x23 =>
  bP (st Q q 32 1 x23 .nilFunc G7) fun G24 =>
  some (.tuple #[], G24))
theorem m91 {e : Ex} {E : Ev} (h : ExLe Q e E) (v0 v1 : Value) (G : GS) : Ref (s91 true e v0 v1 G) (s91 false (Ex.of E) v0 v1 G) := by
  unfold s91
  exact Ref.go
theorem f91 {orc : FuncId → Bool} {e : Ex} (h : ExLe Q e (E orc)) (v0 v1 : Value) (G : GS) : Ref (s91 true e v0 v1 G) ((E orc).cl 91 [v0, v1] G) :=
  fun r hr => cl_sxE_some Q orc (vs := [v0, v1]) G Try.func91 (by kernel_rfl) (by kernel_rfl) (by kernel_rfl) (by kernel_rfl) (by kernel_rfl) (m91 h v0 v1 G r hr)
/-- (*coxswain/cells.place).is -/
noncomputable def s92 (q : Bool) (e : Ex) (v0 : Value) (G : GS) : Option (Value × GS) :=
  bP (ep Q q true 124 (.tmp 3) (.const (.pointer none)) v0 (.pointer none)) fun x0 =>
  some (x0, G)
theorem m92 {e : Ex} {E : Ev} (h : ExLe Q e E) (v0 : Value) (G : GS) : Ref (s92 true e v0 G) (s92 false (Ex.of E) v0 G) := by
  unfold s92
  exact Ref.go
theorem f92 {orc : FuncId → Bool} {e : Ex} (h : ExLe Q e (E orc)) (v0 : Value) (G : GS) : Ref (s92 true e v0 G) ((E orc).cl 92 [v0] G) :=
  fun r hr => cl_sxE_some Q orc (vs := [v0]) G Try.func92 (by kernel_rfl) (by kernel_rfl) (by kernel_rfl) (by kernel_rfl) (by kernel_rfl) (m92 h v0 G r hr)
/-- coxswain/stack.read -/
noncomputable def s100 (q : Bool) (e : Ex) (v0 v1 : Value) (G : GS) : Option (Value × GS) :=
  bS (bx q v0 G) fun x0 G1 =>
  bS (e.ev.cl 112 [v1] G1) fun x2 G3 =>
  bP (pExtract x2 0) fun x4 =>
  bP (pExtract x2 1) fun x5 =>
  bS (al Q q 170 z170 G3) fun x6 G7 =>
  bP (st Q q 170 2 x6 x4 G7) fun G8 =>
  bP (fa Q q 170 0 0 x6) fun x9 =>
  bP (ld Q q 3 x9 G8) fun x10 =>
  bP (fa Q q 29 2 2 x0) fun x11 =>
  bP (ld Q q 3 x11 G8) fun x12 =>
  bP (bn Q q .geq 3 (.tmp 13) (.tmp 15) x10 x12) fun x13 =>
  ifV x13 (
  some ((.int .i64 (-1)), G8)) (
  bP (fa Q q 170 0 0 x6) fun x14 =>
  bP (ld Q q 3 x14 G8) fun x15 =>
  some (x15, G8))
theorem m100 {e : Ex} {E : Ev} (h : ExLe Q e E) (v0 v1 : Value) (G : GS) : Ref (s100 true e v0 v1 G) (s100 false (Ex.of E) v0 v1 G) := by
  unfold s100
  exact Ref.go
theorem f100 {orc : FuncId → Bool} {e : Ex} (h : ExLe Q e (E orc)) (v0 v1 : Value) (G : GS) : Ref (s100 true e v0 v1 G) ((E orc).cl 100 [v0, v1] G) :=
  fun r hr => cl_sxE_some Q orc (vs := [v0, v1]) G Try.func100 (by kernel_rfl) (by kernel_rfl) (by kernel_rfl) (by kernel_rfl) (by kernel_rfl) (m100 h v0 v1 G r hr)
/-- (*coxswain/stack.Push).third -/
noncomputable def s101 (q : Bool) (e : Ex) (v0 v1 : Value) (G : GS) : Option (Value × GS) :=
  bP (pNil v0) fun x0 =>
  bP (fa Q q 117 1 9 x0) fun x1 =>
  bP (st Q q 115 1 x1 (.func (.func 50) #[] #[]) G) fun G2 =>
  bP (pNil v0) fun x3 =>
  bP (fa Q q 117 0 0 x3) fun x4 =>
  bP (pNil v0) fun x5 =>
  bP (fa Q q 117 0 0 x5) fun x6 =>
  bP (fa Q q 114 2 4 x6) fun x7 =>
  bP (ld Q q 3 x7 (G2.room 10)) fun x8 =>
  bS (e.ev.cl 113 [x4, v1, x8] (G2.room 10)) fun x10 G9 =>
  ifV x10 (
  bP (pNil v0) fun x11 =>
  bP (fa Q q 117 0 0 x11) fun x12 =>
  bS (e.ev.cl 51 [x12, (.int .i64 0)] G9) fun x13 G14 =>
  some (.tuple #[], G14)) (
  some (.tuple #[], G9))
theorem m101 {e : Ex} {E : Ev} (h : ExLe Q e E) (v0 v1 : Value) (G : GS) : Ref (s101 true e v0 v1 G) (s101 false (Ex.of E) v0 v1 G) := by
  unfold s101
  exact Ref.go
theorem f101 {orc : FuncId → Bool} {e : Ex} (h : ExLe Q e (E orc)) (v0 v1 : Value) (G : GS) : Ref (s101 true e v0 v1 G) ((E orc).cl 101 [v0, v1] G) :=
  fun r hr => cl_sxE_some Q orc (vs := [v0, v1]) G Try.func101 (by kernel_rfl) (by kernel_rfl) (by kernel_rfl) (by kernel_rfl) (by kernel_rfl) (m101 h v0 v1 G r hr)
/-- (*coxswain/stack.Push).Step -/
noncomputable def s102 (q : Bool) (e : Ex) (v0 v1 : Value) (G : GS) : Option (Value × GS) :=
  bP (ep Q q false 38 (.tmp 5) (.const (.pointer none)) v0 (.pointer none)) fun x0 =>
  bS (gd x0 false (some (v0, G)) G) fun x1 G2 =>
  bS (gd x0 false (bP (pNil x1) fun y => some (y, G2)) G2) fun x3 G4 =>
  bS (gd x0 false (bP (fa Q q 117 0 0 x3) fun y => some (y, G4)) G4) fun x5 G6 =>
  bS (gd x0 false (bS (e.ev.cl 106 [x5] G6) fun y G => some (y, G)) G6) fun x7 G8 =>
  bP (pickV x0 (.bool true) x7) fun x9 =>
  ifV x9 (
  some ((.bool true), G8)) (
  bP (pNil v0) fun x10 =>
  bP (fa Q q 117 1 9 x10) fun x11 =>
  bP (ld Q q 115 x11 G8) fun x12 =>
  bS (cValue e.ev x12 [v0, v1] G8) fun x13 G14 =>
  bP (pNil v0) fun x15 =>
  bP (fa Q q 117 0 0 x15) fun x16 =>
  bP (fa Q q 114 5 7 x16) fun x17 =>
  bP (ld Q q 4 x17 G14) fun x18 =>
  some (x18, G14))
theorem m102 {e : Ex} {E : Ev} (h : ExLe Q e E) (v0 v1 : Value) (G : GS) : Ref (s102 true e v0 v1 G) (s102 false (Ex.of E) v0 v1 G) := by
  unfold s102
  exact Ref.go
theorem f102 {orc : FuncId → Bool} {e : Ex} (h : ExLe Q e (E orc)) (v0 v1 : Value) (G : GS) : Ref (s102 true e v0 v1 G) ((E orc).cl 102 [v0, v1] G) :=
  fun r hr => cl_sxE_some Q orc (vs := [v0, v1]) G Try.func102 (by kernel_rfl) (by kernel_rfl) (by kernel_rfl) (by kernel_rfl) (by kernel_rfl) (m102 h v0 v1 G r hr)
/-- (coxswain/cells.deed).add -/
noncomputable def s103 (q : Bool) (e : Ex) (v0 : Value) (G : GS) : Option (Value × GS) :=
  bS (bx q v0 G) fun x0 G1 =>
  bP (fa Q q 127 0 0 x0) fun x2 =>
  bP (ld Q q 124 x2 (G1.room 9)) fun x3 =>
  bP (pNil x3) fun x4 =>
  bP (ld Q q 76 x4 (G1.room 9)) fun x5 =>
  bP (fa Q q 127 1 1 x0) fun x6 =>
  bP (ld Q q 33 x6 (G1.room 9)) fun x7 =>
  bP (bn Q q .add 33 (.tmp 7) (.tmp 9) x5 x7) fun x8 =>
  some (.tuple #[x8, (.bool true)], (G1.room 9))
theorem m103 {e : Ex} {E : Ev} (h : ExLe Q e E) (v0 : Value) (G : GS) : Ref (s103 true e v0 G) (s103 false (Ex.of E) v0 G) := by
  unfold s103
  exact Ref.go
theorem f103 {orc : FuncId → Bool} {e : Ex} (h : ExLe Q e (E orc)) (v0 : Value) (G : GS) : Ref (s103 true e v0 G) ((E orc).cl 103 [v0] G) :=
  fun r hr => cl_sxE_some Q orc (vs := [v0]) G Try.func103 (by kernel_rfl) (by kernel_rfl) (by kernel_rfl) (by kernel_rfl) (by kernel_rfl) (m103 h v0 G r hr)
/-- coxswain/word.PutTop -/
noncomputable def s104 (q : Bool) (e : Ex) (v0 : Value) (G : GS) : Option (Value × GS) :=
  bS (bx q v0 G) fun x0 G1 =>
  bP (fa Q q 170 0 0 x0) fun x2 =>
  bP (ld Q q 3 x2 G1) fun x3 =>
  bP (bd Q q 180 z180 [(0, 0, 1), (1, 1, 1), (2, 2, 1)] [x3, (.int .i64 (-1)), (.int .i64 65534)]) fun x4 =>
  bP (fa Q q 170 1 1 x0) fun x5 =>
  bP (ld Q q 3 x5 G1) fun x6 =>
  bP (bd Q q 180 z180 [(0, 0, 1), (1, 1, 1), (2, 2, 1)] [x6, (.int .i64 0), (.int .i64 281474976710655)]) fun x7 =>
  bS (bs Q q 192 2 (rep z180 2) 3 [(0, 0, 3), (1, 3, 3)] [x4, x7] G1) fun x8 G9 =>
  bS (e.ev.cl 114 [x8] G9) fun x10 G11 =>
  bP (un Q q .not x10) fun x12 =>
  ifV x12 (
  some (.tuple #[(.int .u64 0), (.int .i64 3)], G11)) (
  bS (e.ev.cl 115 [] G11) fun x13 G14 =>
  bS (al Q q 183 z183 G14) fun x15 G16 =>
  bP (st Q q 183 4 x15 x13 G16) fun G17 =>
  bP (sla Q q 183 2 2 x15 none none none (G17.room 10)) fun x18 =>
  bP (fa Q q 170 0 0 x0) fun x19 =>
  bP (ld Q q 3 x19 (G17.room 10)) fun x20 =>
  bP (bn Q q .add 3 (.tmp 17) (.const (.int .i64 1)) x20 (.int .i64 1)) fun x21 =>
  bP (fa Q q 170 1 1 x0) fun x22 =>
  bP (ld Q q 3 x22 (G17.room 10)) fun x23 =>
  bS (bs Q q 62 2 (rep z3 2) 1 [(0, 0, 1), (1, 1, 1)] [x21, x23] ((G17.room 10).at' (G17.nx + 6))) fun x24 G25 =>
  bS (e.ev.cl 116 [x18, x24] (G25.back (G17.room 10))) fun x27 G26 =>
  some (.tuple #[x27, (.int .i64 0)], G26))
theorem m104 {e : Ex} {E : Ev} (h : ExLe Q e E) (v0 : Value) (G : GS) : Ref (s104 true e v0 G) (s104 false (Ex.of E) v0 G) := by
  unfold s104
  exact Ref.go
theorem f104 {orc : FuncId → Bool} {e : Ex} (h : ExLe Q e (E orc)) (v0 : Value) (G : GS) : Ref (s104 true e v0 G) ((E orc).cl 104 [v0] G) :=
  fun r hr => cl_sxE_some Q orc (vs := [v0]) G Try.func104 (by kernel_rfl) (by kernel_rfl) (by kernel_rfl) (by kernel_rfl) (by kernel_rfl) (m104 h v0 G r hr)
/-- (*coxswain/stack.Pop).second -/
noncomputable def s105 (q : Bool) (e : Ex) (v0 v1 : Value) (G : GS) : Option (Value × GS) :=
  bP (pNil v0) fun x0 =>
  bP (fa Q q 158 0 0 x0) fun x1 =>
  bP (fa Q q 114 0 0 x1) fun x2 =>
  bP (lda Q q 29 3 x2 (G.room 25)) fun x3 =>
  bP (pNil v0) fun x4 =>
  bP (fa Q q 158 0 0 x4) fun x5 =>
  bP (fa Q q 114 0 0 x5) fun x6 =>
  bP (fa Q q 29 1 1 x6) fun x7 =>
  bP (ld Q q 3 x7 (G.room 25)) fun x8 =>
  bP (pNil v0) fun x9 =>
  bP (fa Q q 158 0 0 x9) fun x10 =>
  bP (fa Q q 114 2 4 x10) fun x11 =>
  bP (ld Q q 3 x11 (G.room 25)) fun x12 =>
  bP (bn Q q .add 3 (.tmp 16) (.tmp 21) x8 x12) fun x13 =>
  bS (e.ev.cl 31 [v1, x13] (G.room 25)) fun x15 G14 =>
  chk ((sameO (lda Q q 29 3 x2 G14) x3 && true)) <|
  bS (e.ev.cl 100 [x3, x15] G14) fun x17 G16 =>
  bP (pNil v0) fun x18 =>
  bP (fa Q q 158 0 0 x18) fun x19 =>
  bP (fa Q q 114 3 5 x19) fun x20 =>
  bP (st Q q 3 1 x20 x17 G16) fun G21 =>
  bP (pNil v0) fun x22 =>
  bP (fa Q q 158 1 9 x22) fun x23 =>
  bP (st Q q 156 1 x23 (.func (.func 117) #[] #[]) G21) fun G24 =>
  some (.tuple #[], G24)
theorem m105 {e : Ex} {E : Ev} (h : ExLe Q e E) (v0 v1 : Value) (G : GS) : Ref (s105 true e v0 v1 G) (s105 false (Ex.of E) v0 v1 G) := by
  unfold s105
  exact Ref.go
theorem f105 {orc : FuncId → Bool} {e : Ex} (h : ExLe Q e (E orc)) (v0 v1 : Value) (G : GS) : Ref (s105 true e v0 v1 G) ((E orc).cl 105 [v0, v1] G) :=
  fun r hr => cl_sxE_some Q orc (vs := [v0, v1]) G Try.func105 (by kernel_rfl) (by kernel_rfl) (by kernel_rfl) (by kernel_rfl) (by kernel_rfl) (m105 h v0 v1 G r hr)
/-- (*coxswain/stack.held).over -/
noncomputable def s106 (q : Bool) (e : Ex) (v0 : Value) (G : GS) : Option (Value × GS) :=
  bP (ep Q q false 153 (.tmp 3) (.const (.pointer none)) v0 (.pointer none)) fun x0 =>
  bS (gd x0 false (some (v0, G)) G) fun x1 G2 =>
  bS (gd x0 false (bP (pNil x1) fun y => some (y, G2)) G2) fun x3 G4 =>
  bS (gd x0 false (bP (fa Q q 114 4 6 x3) fun y => some (y, G4)) G4) fun x5 G6 =>
  bS (gd x0 false (bP (ld Q q 4 x5 G6) fun y => some (y, G6)) G6) fun x7 G8 =>
  bS (gd x0 false (bP (un Q q .not x7) fun y => some (y, G8)) G8) fun x9 G10 =>
  bP (pickV x0 (.bool true) x9) fun x11 =>
  bS (gd x11 false (some (v0, G10)) G10) fun x12 G13 =>
  bS (gd x11 false (bP (pNil x12) fun y => some (y, G13)) G13) fun x14 G15 =>
  bS (gd x11 false (bP (fa Q q 114 5 7 x14) fun y => some (y, G15)) G15) fun x16 G17 =>
  bS (gd x11 false (bP (ld Q q 4 x16 G17) fun y => some (y, G17)) G17) fun x18 G19 =>
  bP (pickV x11 (.bool true) x18) fun x20 =>
  some (x20, G19)
theorem m106 {e : Ex} {E : Ev} (h : ExLe Q e E) (v0 : Value) (G : GS) : Ref (s106 true e v0 G) (s106 false (Ex.of E) v0 G) := by
  unfold s106
  exact Ref.go
theorem f106 {orc : FuncId → Bool} {e : Ex} (h : ExLe Q e (E orc)) (v0 : Value) (G : GS) : Ref (s106 true e v0 G) ((E orc).cl 106 [v0] G) :=
  fun r hr => cl_sxE_some Q orc (vs := [v0]) G Try.func106 (by kernel_rfl) (by kernel_rfl) (by kernel_rfl) (by kernel_rfl) (by kernel_rfl) (m106 h v0 G r hr)
/-- (*coxswain/stack.held).index -/
noncomputable def s107 (q : Bool) (e : Ex) (v0 : Value) (G : GS) : Option (Value × GS) :=
  bS (e.ev.cl 118 [v0] G) fun x0 G1 =>
  bP (bn Q q .neq 23 (.tmp 7) (.const (.int .i64 0)) x0 (.int .i64 0)) fun x2 =>
  ifV x2 (
  some (.tuple #[(.int .i64 0), x0], G1)) (
  bP (pNil v0) fun x3 =>
  bP (fa Q q 114 2 4 x3) fun x4 =>
  bP (ld Q q 3 x4 G1) fun x5 =>
  some (.tuple #[x5, (.int .i64 0)], G1))
theorem m107 {e : Ex} {E : Ev} (h : ExLe Q e E) (v0 : Value) (G : GS) : Ref (s107 true e v0 G) (s107 false (Ex.of E) v0 G) := by
  unfold s107
  exact Ref.go
theorem f107 {orc : FuncId → Bool} {e : Ex} (h : ExLe Q e (E orc)) (v0 : Value) (G : GS) : Ref (s107 true e v0 G) ((E orc).cl 107 [v0] G) :=
  fun r hr => cl_sxE_some Q orc (vs := [v0]) G Try.func107 (by kernel_rfl) (by kernel_rfl) (by kernel_rfl) (by kernel_rfl) (by kernel_rfl) (m107 h v0 G r hr)
/-- coxswain/word.PutRef -/
noncomputable def s108 (q : Bool) (e : Ex) (v0 : Value) (G : GS) : Option (Value × GS) :=
  bS (bx q v0 G) fun x0 G1 =>
  bP (fa Q q 173 0 0 x0) fun x2 =>
  bP (ld Q q 3 x2 G1) fun x3 =>
  bP (bd Q q 180 z180 [(0, 0, 1), (1, 1, 1), (2, 2, 1)] [x3, (.int .i64 (-1)), (.int .i64 65534)]) fun x4 =>
  bP (fa Q q 173 1 1 x0) fun x5 =>
  bP (ld Q q 3 x5 G1) fun x6 =>
  bP (bd Q q 180 z180 [(0, 0, 1), (1, 1, 1), (2, 2, 1)] [x6, (.int .i64 0), (.int .i64 4294967295)]) fun x7 =>
  bS (bs Q q 192 2 (rep z180 2) 3 [(0, 0, 3), (1, 3, 3)] [x4, x7] G1) fun x8 G9 =>
  bS (e.ev.cl 114 [x8] G9) fun x10 G11 =>
  bP (un Q q .not x10) fun x12 =>
  ifV x12 (
  some (.tuple #[(.int .u64 0), (.int .i64 3)], G11)) (
  bP (fa Q q 173 0 0 x0) fun x13 =>
  bP (ld Q q 3 x13 G11) fun x14 =>
  bP (bn Q q .eql 3 (.tmp 17) (.const (.int .i64 (-1))) x14 (.int .i64 (-1))) fun x15 =>
  bS (gd x15 true (bP (fa Q q 173 1 1 x0) fun y => some (y, G11)) G11) fun x16 G17 =>
  bS (gd x15 true (bP (ld Q q 3 x16 G17) fun y => some (y, G17)) G17) fun x18 G19 =>
  bS (gd x15 true (bP (bn Q q .neq 3 (.tmp 21) (.const (.int .i64 0)) x18 (.int .i64 0)) fun y => some (y, G19)) G19) fun x20 G21 =>
  bP (pickV x15 x20 (.bool false)) fun x22 =>
  ifV x22 (
  some (.tuple #[(.int .u64 0), (.int .i64 5)], G21)) (
  bS (e.ev.cl 119 [] G21) fun x23 G24 =>
  bS (al Q q 183 z183 G24) fun x25 G26 =>
  bP (st Q q 183 4 x25 x23 G26) fun G27 =>
  bP (sla Q q 183 2 2 x25 none none none (G27.room 13)) fun x28 =>
  bP (fa Q q 173 0 0 x0) fun x29 =>
  bP (ld Q q 3 x29 (G27.room 13)) fun x30 =>
  bP (bn Q q .add 3 (.tmp 27) (.const (.int .i64 1)) x30 (.int .i64 1)) fun x31 =>
  bP (fa Q q 173 1 1 x0) fun x32 =>
  bP (ld Q q 3 x32 (G27.room 13)) fun x33 =>
  bS (bs Q q 62 2 (rep z3 2) 1 [(0, 0, 1), (1, 1, 1)] [x31, x33] ((G27.room 13).at' (G27.nx + 6))) fun x34 G35 =>
  bS (e.ev.cl 116 [x28, x34] (G35.back (G27.room 13))) fun x37 G36 =>
  bP (fa Q q 173 2 2 x0) fun x38 =>
  bP (ld Q q 4 x38 G36) fun x39 =>
  chk ((sameO (ld Q q 4 x38 (G35.back (G27.room 13))) x39 && true)) <|
  bS (e.ev.cl 120 [x37, x39] G36) fun x41 G40 =>
  some (.tuple #[x41, (.int .i64 0)], G40)))
theorem m108 {e : Ex} {E : Ev} (h : ExLe Q e E) (v0 : Value) (G : GS) : Ref (s108 true e v0 G) (s108 false (Ex.of E) v0 G) := by
  unfold s108
  exact Ref.go
theorem f108 {orc : FuncId → Bool} {e : Ex} (h : ExLe Q e (E orc)) (v0 : Value) (G : GS) : Ref (s108 true e v0 G) ((E orc).cl 108 [v0] G) :=
  fun r hr => cl_sxE_some Q orc (vs := [v0]) G Try.func108 (by kernel_rfl) (by kernel_rfl) (by kernel_rfl) (by kernel_rfl) (by kernel_rfl) (m108 h v0 G r hr)
/-- coxswain/word.GetTop -/
noncomputable def s112 (q : Bool) (e : Ex) (v0 : Value) (G : GS) : Option (Value × GS) :=
  bS (al Q q 170 z170 G) fun x0 G1 =>
  bS (e.ev.cl 115 [] G1) fun x2 G3 =>
  bS (al Q q 183 z183 G3) fun x4 G5 =>
  bP (st Q q 183 4 x4 x2 G5) fun G6 =>
  bP (iaa Q q 183 2 2 x4 (.int .i64 0)) fun x7 =>
  bP (lda Q q 182 2 x7 (G6.room 12)) fun x8 =>
  bS (e.ev.cl 124 [v0, x8] (G6.room 12)) fun x10 G9 =>
  bP (bn Q q .sub 3 (.tmp 9) (.const (.int .i64 1)) x10 (.int .i64 1)) fun x11 =>
  bP (iaa Q q 183 2 2 x4 (.int .i64 1)) fun x12 =>
  bP (lda Q q 182 2 x12 G9) fun x13 =>
  chk ((sameO (lda Q q 182 2 x12 (G6.room 12)) x13 && true)) <|
  bS (e.ev.cl 124 [v0, x13] G9) fun x15 G14 =>
  bP (bd Q q 170 z170 [(0, 0, 1), (1, 1, 1)] [x11, x15]) fun x16 =>
  bP (st Q q 170 2 x0 x16 G14) fun G17 =>
  bP (lda Q q 170 2 x0 G17) fun x18 =>
  some (.tuple #[x18, (.int .i64 0)], G17)
theorem m112 {e : Ex} {E : Ev} (h : ExLe Q e E) (v0 : Value) (G : GS) : Ref (s112 true e v0 G) (s112 false (Ex.of E) v0 G) := by
  unfold s112
  exact Ref.go
theorem f112 {orc : FuncId → Bool} {e : Ex} (h : ExLe Q e (E orc)) (v0 : Value) (G : GS) : Ref (s112 true e v0 G) ((E orc).cl 112 [v0] G) :=
  fun r hr => cl_sxE_some Q orc (vs := [v0]) G Try.func112 (by kernel_rfl) (by kernel_rfl) (by kernel_rfl) (by kernel_rfl) (by kernel_rfl) (m112 h v0 G r hr)
/-- (*coxswain/stack.held).swap -/
noncomputable def s113 (q : Bool) (e : Ex) (v0 v1 v2 : Value) (G : GS) : Option (Value × GS) :=
  bP (pNil v0) fun x0 =>
  bP (fa Q q 114 1 3 x0) fun x1 =>
  bP (ld Q q 33 x1 G) fun x2 =>
  bS (e.ev.cl 112 [x2] G) fun x3 G4 =>
  bP (pExtract x3 0) fun x5 =>
  bP (pExtract x3 1) fun x6 =>
  bS (al Q q 170 z170 G4) fun x7 G8 =>
  bP (st Q q 170 2 x7 x5 G8) fun G9 =>
  bP (fa Q q 170 1 1 x7) fun x10 =>
  bP (ld Q q 3 x10 G9) fun x11 =>
  bP (bn Q q .add 3 (.tmp 22) (.const (.int .i64 1)) x11 (.int .i64 1)) fun x12 =>
  bP (bn Q q .and 3 (.tmp 23) (.const (.int .i64 281474976710655)) x12 (.int .i64 281474976710655)) fun x13 =>
  bP (bd Q q 170 z170 [(0, 0, 1), (1, 1, 1)] [v2, x13]) fun x14 =>
  bS (e.ev.cl 104 [x14] G9) fun x15 G16 =>
  bP (pExtract x15 0) fun x17 =>
  bP (pExtract x15 1) fun x18 =>
  bP (pNil v0) fun x19 =>
  bP (fa Q q 114 0 0 x19) fun x20 =>
  bP (fa Q q 29 0 0 x20) fun x21 =>
  bP (ld Q q 3 x21 (G16.room 13)) fun x22 =>
  bP (pNil v0) fun x23 =>
  bP (fa Q q 114 1 3 x23) fun x24 =>
  bP (ld Q q 33 x24 (G16.room 13)) fun x25 =>
  bS (e.ev.cl 121 [v1, x22, x25, x17] (G16.room 13)) fun x27 G26 =>
  some (x27, G26)
theorem m113 {e : Ex} {E : Ev} (h : ExLe Q e E) (v0 v1 v2 : Value) (G : GS) : Ref (s113 true e v0 v1 v2 G) (s113 false (Ex.of E) v0 v1 v2 G) := by
  unfold s113
  exact Ref.go
theorem f113 {orc : FuncId → Bool} {e : Ex} (h : ExLe Q e (E orc)) (v0 v1 v2 : Value) (G : GS) : Ref (s113 true e v0 v1 v2 G) ((E orc).cl 113 [v0, v1, v2] G) :=
  fun r hr => cl_sxE_some Q orc (vs := [v0, v1, v2]) G Try.func113 (by kernel_rfl) (by kernel_rfl) (by kernel_rfl) (by kernel_rfl) (by kernel_rfl) (m113 h v0 v1 v2 G r hr)
instance ilp114_0 : LpIs Q 114 0 (subAt [1, 0, 1, 0, 0] (bodyOf Try.f114)) 24 := ⟨by kernel_rfl, by kernel_rfl⟩
noncomputable def b114_0 (q : Bool) (e : Ex) (lp : Env → GS → Option (Exit × Env × GS)) (τ : Env) (G : GS) : Option (Exit × Env × GS) :=
  bV q (τ 5) fun a5_ =>
  bV q (τ 6) fun a6_ =>
  bV q (τ 7) fun a7_ =>
  bP (bn Q q .lss 3 (.tmp 7) (.tmp 6) a7_ a6_) fun x0 =>
  ifV x0 (
  bP (ias Q q 192 3 a5_ a7_) fun x1 =>
  bP (lda Q q 180 3 x1 G) fun x2 =>
  bS (al Q q 180 z180 G) fun x3 G4 =>
  bP (st Q q 180 3 x3 x2 G4) fun G5 =>
  bP (fa Q q 180 0 0 x3) fun x6 =>
  bP (ld Q q 3 x6 G5) fun x7 =>
  bP (fa Q q 180 1 1 x3) fun x8 =>
  bP (ld Q q 3 x8 G5) fun x9 =>
  bP (bn Q q .lss 3 (.tmp 12) (.tmp 14) x7 x9) fun x10 =>
  bS (gd x10 false (bP (fa Q q 180 0 0 x3) fun y => some (y, G5)) G5) fun x11 G12 =>
  bS (gd x10 false (bP (ld Q q 3 x11 G12) fun y => some (y, G12)) G12) fun x13 G14 =>
  bS (gd x10 false (bP (fa Q q 180 2 2 x3) fun y => some (y, G14)) G14) fun x15 G16 =>
  bS (gd x10 false (bP (ld Q q 3 x15 G16) fun y => some (y, G16)) G16) fun x17 G18 =>
  bS (gd x10 false (bP (bn Q q .gtr 3 (.tmp 18) (.tmp 20) x13 x17) fun y => some (y, G18)) G18) fun x19 G20 =>
  bP (pickV x10 (.bool true) x19) fun x21 =>
  ifV x21 (
  some (.ret, clq q 24 (tu τ [(5, a5_), (6, a6_), (7, a7_), (2, (.bool false)), (4, x3), (8, x0), (9, x1), (10, x2), (11, x6), (12, x7), (13, x8), (14, x9), (15, x10), (16, x10), (17, x11), (18, x13), (19, x15), (20, x17), (21, x19), (22, x21)]), G20)) (
  bP (bn Q q .add 3 (.tmp 7) (.const (.int .i64 1)) a7_ (.int .i64 1)) fun x22 =>
  lp (tu τ [(5, a5_), (6, a6_), (7, x22), (4, x3), (8, x0), (9, x1), (10, x2), (11, x6), (12, x7), (13, x8), (14, x9), (15, x10), (16, x10), (17, x11), (18, x13), (19, x15), (20, x17), (21, x19), (22, x21), (23, x22)]) G20)) (
  some ((.exit 0), clq q 24 (tu τ [(5, a5_), (6, a6_), (7, a7_), (8, x0)]), G))
theorem mb114_0 {e : Ex} {E : Ev} (h : ExLe Q e E) {lp lp' : Env → GS → Option (Exit × Env × GS)} (hlp : LpLe lp lp') (τ : Env) (G : GS) : Ref (b114_0 true e lp τ G) (b114_0 false (Ex.of E) lp' τ G) := by
  unfold b114_0
  exact Ref.go
theorem l114_0 {orc : FuncId → Bool} {e : Ex} (h : ExLe Q e (E orc)) (lp : Env → GS → Option (Exit × Env × GS)) (hlp : ∀ τ G, Ref (lp τ G) (mapE ((E orc).lp (subAt [1, 0, 1, 0, 0] (bodyOf Try.f114)) (lst 24 τ) G))) (T : List Value) (G : GS) (hT : T.length = 24) : Ref (b114_0 true e lp (nth undef T) G) (mapE ((E orc).lp (subAt [1, 0, 1, 0, 0] (bodyOf Try.f114)) T G)) :=
  fun r hr => lp_sxM Q orc G hT (by kernel_rfl) (mb114_0 h ⟨hlp⟩ _ _ r hr)
/-- coxswain/word.within -/
noncomputable def s114 (q : Bool) (e : Ex) (v0 : Value) (G : GS) : Option (Value × GS) :=
  bP (ln Q q 192 v0) fun x0 =>
  bL q e 114 0 (subAt [1, 0, 1, 0, 0] (bodyOf Try.f114)) 24 (tu (nth undef [v0]) [(2, (.bool false)), (5, v0), (6, x0), (7, (.int .i64 0))]) G fun e1 t2 G3 =>
  bV q (t2 2) fun t2x2_ =>
  ifE e1 (.exit 0) (
  some ((.bool true), G3)) (ifE e1 .ret (
  some (t2x2_, G3)) (none))
theorem m114 {e : Ex} {E : Ev} (h : ExLe Q e E) (v0 : Value) (G : GS) : Ref (s114 true e v0 G) (s114 false (Ex.of E) v0 G) := by
  unfold s114
  exact Ref.go
theorem f114 {orc : FuncId → Bool} {e : Ex} (h : ExLe Q e (E orc)) (v0 : Value) (G : GS) : Ref (s114 true e v0 G) ((E orc).cl 114 [v0] G) :=
  fun r hr => cl_sxE_some Q orc (vs := [v0]) G Try.func114 (by kernel_rfl) (by kernel_rfl) (by kernel_rfl) (by kernel_rfl) (by kernel_rfl) (m114 h v0 G r hr)
/-- coxswain/word.tops -/
noncomputable def s115 (q : Bool) (e : Ex) (G : GS) : Option (Value × GS) :=
  bS (al Q q 183 z183 G) fun x0 G1 =>
  bP (bd Q q 182 z182 [(0, 0, 1), (1, 1, 1)] [(.int .i64 0), (.int .i64 16)]) fun x2 =>
  bP (bd Q q 182 z182 [(0, 0, 1), (1, 1, 1)] [(.int .i64 16), (.int .i64 48)]) fun x3 =>
  bP (bd Q q 183 z183 [(0, 0, 2), (1, 2, 2)] [x2, x3]) fun x4 =>
  bP (st Q q 183 4 x0 x4 G1) fun G5 =>
  bP (lda Q q 183 4 x0 G5) fun x6 =>
  some (x6, G5)
theorem m115 {e : Ex} {E : Ev} (h : ExLe Q e E) (G : GS) : Ref (s115 true e  G) (s115 false (Ex.of E)  G) := by
  unfold s115
  exact Ref.go
theorem f115 {orc : FuncId → Bool} {e : Ex} (h : ExLe Q e (E orc)) (ho : orc 115 = false) (G : GS) : Ref (s115 true e  G) ((E orc).cl 115 [] G) :=
  fun r hr => cl_sxE_some Q orc (vs := []) G Try.func115 (by kernel_rfl) (by kernel_rfl) ho (by kernel_rfl) (by kernel_rfl) (m115 h  G r hr)
instance ilp116_0 : LpIs Q 116 0 (subAt [1, 1, 0, 1, 0, 0] (bodyOf Try.f116)) 24 := ⟨by kernel_rfl, by kernel_rfl⟩
noncomputable def b116_0 (q : Bool) (e : Ex) (lp : Env → GS → Option (Exit × Env × GS)) (τ : Env) (G : GS) : Option (Exit × Env × GS) :=
  bV q (τ 1) fun a1_ =>
  bV q (τ 5) fun a5_ =>
  bV q (τ 8) fun a8_ =>
  bV q (τ 9) fun a9_ =>
  bV q (τ 10) fun a10_ =>
  bP (bn Q q .lss 3 (.tmp 10) (.tmp 9) a10_ a9_) fun x0 =>
  ifV x0 (
  bP (ias Q q 187 2 a8_ a10_) fun x1 =>
  bP (lda Q q 182 2 x1 G) fun x2 =>
  bS (al Q q 182 z182 G) fun x3 G4 =>
  bP (st Q q 182 2 x3 x2 G4) fun G5 =>
  bP (lda Q q 182 2 x3 (G5.room 8)) fun x6 =>
  bP (ias Q q 62 1 a1_ a10_) fun x7 =>
  bP (ld Q q 3 x7 (G5.room 8)) fun x8 =>
  bS (e.ev.cl 125 [a5_, x6, x8] (G5.room 8)) fun x10 G9 =>
  bP (bn Q q .add 3 (.tmp 10) (.const (.int .i64 1)) a10_ (.int .i64 1)) fun x11 =>
  lp (tu τ [(1, a1_), (5, x10), (8, a8_), (9, a9_), (10, x11), (6, a10_), (7, x3), (11, x0), (12, a10_), (13, x1), (14, x2), (15, a5_), (16, x6), (17, a1_), (18, a10_), (19, x7), (20, x8), (21, x10), (22, x11)]) G9) (
  some ((.exit 0), clq q 24 (tu τ [(1, a1_), (5, a5_), (8, a8_), (9, a9_), (10, a10_), (11, x0)]), G))
theorem mb116_0 {e : Ex} {E : Ev} (h : ExLe Q e E) {lp lp' : Env → GS → Option (Exit × Env × GS)} (hlp : LpLe lp lp') (τ : Env) (G : GS) : Ref (b116_0 true e lp τ G) (b116_0 false (Ex.of E) lp' τ G) := by
  unfold b116_0
  exact Ref.go
theorem l116_0 {orc : FuncId → Bool} {e : Ex} (h : ExLe Q e (E orc)) (lp : Env → GS → Option (Exit × Env × GS)) (hlp : ∀ τ G, Ref (lp τ G) (mapE ((E orc).lp (subAt [1, 1, 0, 1, 0, 0] (bodyOf Try.f116)) (lst 24 τ) G))) (T : List Value) (G : GS) (hT : T.length = 24) : Ref (b116_0 true e lp (nth undef T) G) (mapE ((E orc).lp (subAt [1, 1, 0, 1, 0, 0] (bodyOf Try.f116)) T G)) :=
  fun r hr => lp_sxM Q orc G hT (by kernel_rfl) (mb116_0 h ⟨hlp⟩ _ _ r hr)
/-- coxswain/word.lay -/
noncomputable def s116 (q : Bool) (e : Ex) (v0 v1 : Value) (G : GS) : Option (Value × GS) :=
  bP (ln Q q 187 v0) fun x0 =>
  bL q e 116 0 (subAt [1, 1, 0, 1, 0, 0] (bodyOf Try.f116)) 24 (tu (nth undef [v0, v1]) [(4, (.int .u64 0)), (5, (.int .u64 0)), (8, v0), (9, x0), (10, (.int .i64 0))]) G fun e1 t2 G3 =>
  bV q (t2 5) fun t2x5_ =>
  ifE e1 (.exit 0) (
  some (t2x5_, G3)) (none)
theorem m116 {e : Ex} {E : Ev} (h : ExLe Q e E) (v0 v1 : Value) (G : GS) : Ref (s116 true e v0 v1 G) (s116 false (Ex.of E) v0 v1 G) := by
  unfold s116
  exact Ref.go
theorem f116 {orc : FuncId → Bool} {e : Ex} (h : ExLe Q e (E orc)) (v0 v1 : Value) (G : GS) : Ref (s116 true e v0 v1 G) ((E orc).cl 116 [v0, v1] G) :=
  fun r hr => cl_sxE_some Q orc (vs := [v0, v1]) G Try.func116 (by kernel_rfl) (by kernel_rfl) (by kernel_rfl) (by kernel_rfl) (by kernel_rfl) (m116 h v0 v1 G r hr)
/-- (*coxswain/stack.Pop).third -/
noncomputable def s117 (q : Bool) (e : Ex) (v0 v1 : Value) (G : GS) : Option (Value × GS) :=
  bP (pNil v0) fun x0 =>
  bP (fa Q q 158 1 9 x0) fun x1 =>
  bP (st Q q 156 1 x1 (.func (.func 87) #[] #[]) G) fun G2 =>
  bP (pNil v0) fun x3 =>
  bP (fa Q q 158 0 0 x3) fun x4 =>
  bP (pNil v0) fun x5 =>
  bP (fa Q q 158 0 0 x5) fun x6 =>
  bP (fa Q q 114 3 5 x6) fun x7 =>
  bP (ld Q q 3 x7 (G2.room 10)) fun x8 =>
  bS (e.ev.cl 113 [x4, v1, x8] (G2.room 10)) fun x10 G9 =>
  ifV x10 (
  bP (pNil v0) fun x11 =>
  bP (fa Q q 158 0 0 x11) fun x12 =>
  bS (e.ev.cl 51 [x12, (.int .i64 0)] G9) fun x13 G14 =>
  some (.tuple #[], G14)) (
  some (.tuple #[], G9))
theorem m117 {e : Ex} {E : Ev} (h : ExLe Q e E) (v0 v1 : Value) (G : GS) : Ref (s117 true e v0 v1 G) (s117 false (Ex.of E) v0 v1 G) := by
  unfold s117
  exact Ref.go
theorem f117 {orc : FuncId → Bool} {e : Ex} (h : ExLe Q e (E orc)) (v0 v1 : Value) (G : GS) : Ref (s117 true e v0 v1 G) ((E orc).cl 117 [v0, v1] G) :=
  fun r hr => cl_sxE_some Q orc (vs := [v0, v1]) G Try.func117 (by kernel_rfl) (by kernel_rfl) (by kernel_rfl) (by kernel_rfl) (by kernel_rfl) (m117 h v0 v1 G r hr)
/-- (*coxswain/stack.held).told -/
noncomputable def s118 (q : Bool) (e : Ex) (v0 : Value) (G : GS) : Option (Value × GS) :=
  bP (ep Q q false 153 (.tmp 4) (.const (.pointer none)) v0 (.pointer none)) fun x0 =>
  bS (gd x0 false (some (v0, G)) G) fun x1 G2 =>
  bS (gd x0 false (bP (pNil x1) fun y => some (y, G2)) G2) fun x3 G4 =>
  bS (gd x0 false (bP (fa Q q 114 4 6 x3) fun y => some (y, G4)) G4) fun x5 G6 =>
  bS (gd x0 false (bP (ld Q q 4 x5 G6) fun y => some (y, G6)) G6) fun x7 G8 =>
  bS (gd x0 false (bP (un Q q .not x7) fun y => some (y, G8)) G8) fun x9 G10 =>
  bP (pickV x0 (.bool true) x9) fun x11 =>
  ifV x11 (
  some ((.int .i64 1), G10)) (
  bP (pNil v0) fun x12 =>
  bP (fa Q q 114 5 7 x12) fun x13 =>
  bP (ld Q q 4 x13 G10) fun x14 =>
  bP (un Q q .not x14) fun x15 =>
  ifV x15 (
  some ((.int .i64 14), G10)) (
  bP (pNil v0) fun x16 =>
  bP (fa Q q 114 6 8 x16) fun x17 =>
  bP (ld Q q 23 x17 G10) fun x18 =>
  some (x18, G10)))
theorem m118 {e : Ex} {E : Ev} (h : ExLe Q e E) (v0 : Value) (G : GS) : Ref (s118 true e v0 G) (s118 false (Ex.of E) v0 G) := by
  unfold s118
  exact Ref.go
theorem f118 {orc : FuncId → Bool} {e : Ex} (h : ExLe Q e (E orc)) (v0 : Value) (G : GS) : Ref (s118 true e v0 G) ((E orc).cl 118 [v0] G) :=
  fun r hr => cl_sxE_some Q orc (vs := [v0]) G Try.func118 (by kernel_rfl) (by kernel_rfl) (by kernel_rfl) (by kernel_rfl) (by kernel_rfl) (m118 h v0 G r hr)
/-- coxswain/word.refs -/
noncomputable def s119 (q : Bool) (e : Ex) (G : GS) : Option (Value × GS) :=
  bS (al Q q 183 z183 G) fun x0 G1 =>
  bP (bd Q q 182 z182 [(0, 0, 1), (1, 1, 1)] [(.int .i64 0), (.int .i64 16)]) fun x2 =>
  bP (bd Q q 182 z182 [(0, 0, 1), (1, 1, 1)] [(.int .i64 16), (.int .i64 32)]) fun x3 =>
  bP (bd Q q 183 z183 [(0, 0, 2), (1, 2, 2)] [x2, x3]) fun x4 =>
  bP (st Q q 183 4 x0 x4 G1) fun G5 =>
  bP (lda Q q 183 4 x0 G5) fun x6 =>
  some (x6, G5)
theorem m119 {e : Ex} {E : Ev} (h : ExLe Q e E) (G : GS) : Ref (s119 true e  G) (s119 false (Ex.of E)  G) := by
  unfold s119
  exact Ref.go
theorem f119 {orc : FuncId → Bool} {e : Ex} (h : ExLe Q e (E orc)) (ho : orc 119 = false) (G : GS) : Ref (s119 true e  G) ((E orc).cl 119 [] G) :=
  fun r hr => cl_sxE_some Q orc (vs := []) G Try.func119 (by kernel_rfl) (by kernel_rfl) ho (by kernel_rfl) (by kernel_rfl) (m119 h  G r hr)
/-- coxswain/word.Marks -/
noncomputable def s120 (q : Bool) (e : Ex) (v0 v1 : Value) (G : GS) : Option (Value × GS) :=
  ifV v1 (
  bP (bn Q q .or 33 (.tmp 6) (.const (.int .u64 9223372036854775808)) v0 (.int .u64 9223372036854775808)) fun x0 =>
  some (x0, G)) (
  bP (bn Q q .andNot 33 (.tmp 8) (.const (.int .u64 9223372036854775808)) v0 (.int .u64 9223372036854775808)) fun x1 =>
  some (x1, G))
theorem m120 {e : Ex} {E : Ev} (h : ExLe Q e E) (v0 v1 : Value) (G : GS) : Ref (s120 true e v0 v1 G) (s120 false (Ex.of E) v0 v1 G) := by
  unfold s120
  exact Ref.go
theorem f120 {orc : FuncId → Bool} {e : Ex} (h : ExLe Q e (E orc)) (v0 v1 : Value) (G : GS) : Ref (s120 true e v0 v1 G) ((E orc).cl 120 [v0, v1] G) :=
  fun r hr => cl_sxE_some Q orc (vs := [v0, v1]) G Try.func120 (by kernel_rfl) (by kernel_rfl) (by kernel_rfl) (by kernel_rfl) (by kernel_rfl) (m120 h v0 v1 G r hr)
/-- (*coxswain/cells.Mem).CAS -/
noncomputable def s121 (q : Bool) (e : Ex) (v0 v1 v2 v3 : Value) (G : GS) : Option (Value × GS) :=
  bS (e.ev.cl 60 [v0, v1] G) fun x0 G1 =>
  bP (bd Q q 127 z127 [(0, 0, 1), (1, 1, 1), (2, 2, 1)] [x0, v2, v3]) fun x2 =>
  bS (al Q q 127 z127 G1) fun x3 G4 =>
  bP (st Q q 127 3 x3 x2 G4) fun G5 =>
  bP (fa Q q 127 0 0 x3) fun x6 =>
  bP (ld Q q 124 x6 G5) fun x7 =>
  bP (lda Q q 127 3 x3 G5) fun x8 =>
  bS (e.ev.cl 61 [v0, (.int .i64 3), v1, x7, (.func (.func 126) #[x8] #[])] G5) fun x9 G10 =>
  bP (fd Q q 80 4 4 x9) fun x11 =>
  some (x11, G10)
theorem m121 {e : Ex} {E : Ev} (h : ExLe Q e E) (v0 v1 v2 v3 : Value) (G : GS) : Ref (s121 true e v0 v1 v2 v3 G) (s121 false (Ex.of E) v0 v1 v2 v3 G) := by
  unfold s121
  exact Ref.go
theorem f121 {orc : FuncId → Bool} {e : Ex} (h : ExLe Q e (E orc)) (v0 v1 v2 v3 : Value) (G : GS) : Ref (s121 true e v0 v1 v2 v3 G) ((E orc).cl 121 [v0, v1, v2, v3] G) :=
  fun r hr => cl_sxE_some Q orc (vs := [v0, v1, v2, v3]) G Try.func121 (by kernel_rfl) (by kernel_rfl) (by kernel_rfl) (by kernel_rfl) (by kernel_rfl) (m121 h v0 v1 v2 v3 G r hr)
/-- (coxswain/word.raw).take -/
noncomputable def s124 (q : Bool) (e : Ex) (v0 v1 : Value) (G : GS) : Option (Value × GS) :=
  bS (bx q v1 G) fun x0 G1 =>
  bP (fa Q q 182 0 0 x0) fun x2 =>
  bP (ld Q q 3 x2 (G1.room 11)) fun x3 =>
  bP (bn Q q .shr 33 (.tmp 5) (.tmp 7) v0 x3) fun x4 =>
  bP (fa Q q 182 1 1 x0) fun x5 =>
  bP (ld Q q 3 x5 (G1.room 11)) fun x6 =>
  bP (bn Q q .shl 33 (.const (.int .u64 1)) (.tmp 10) (.int .u64 1) x6) fun x7 =>
  bP (bn Q q .sub 33 (.tmp 11) (.const (.int .u64 1)) x7 (.int .u64 1)) fun x8 =>
  bP (bn Q q .and 33 (.tmp 8) (.tmp 12) x4 x8) fun x9 =>
  bP (cv Q q 33 3 .u64 .i64 x9) fun x10 =>
  some (x10, (G1.room 11))
theorem m124 {e : Ex} {E : Ev} (h : ExLe Q e E) (v0 v1 : Value) (G : GS) : Ref (s124 true e v0 v1 G) (s124 false (Ex.of E) v0 v1 G) := by
  unfold s124
  exact Ref.go
theorem f124 {orc : FuncId → Bool} {e : Ex} (h : ExLe Q e (E orc)) (v0 v1 : Value) (G : GS) : Ref (s124 true e v0 v1 G) ((E orc).cl 124 [v0, v1] G) :=
  fun r hr => cl_sxE_some Q orc (vs := [v0, v1]) G Try.func124 (by kernel_rfl) (by kernel_rfl) (by kernel_rfl) (by kernel_rfl) (by kernel_rfl) (m124 h v0 v1 G r hr)
/-- (coxswain/word.raw).with -/
noncomputable def s125 (q : Bool) (e : Ex) (v0 v1 v2 : Value) (G : GS) : Option (Value × GS) :=
  bS (bx q v1 G) fun x0 G1 =>
  bP (cv Q q 3 33 .i64 .u64 v2) fun x2 =>
  bP (fa Q q 182 0 0 x0) fun x3 =>
  bP (ld Q q 3 x3 G1) fun x4 =>
  bP (bn Q q .shl 33 (.tmp 9) (.tmp 11) x2 x4) fun x5 =>
  bP (bn Q q .or 185 (.tmp 7) (.tmp 12) v0 x5) fun x6 =>
  some (x6, G1)
theorem m125 {e : Ex} {E : Ev} (h : ExLe Q e E) (v0 v1 v2 : Value) (G : GS) : Ref (s125 true e v0 v1 v2 G) (s125 false (Ex.of E) v0 v1 v2 G) := by
  unfold s125
  exact Ref.go
theorem f125 {orc : FuncId → Bool} {e : Ex} (h : ExLe Q e (E orc)) (v0 v1 v2 : Value) (G : GS) : Ref (s125 true e v0 v1 v2 G) ((E orc).cl 125 [v0, v1, v2] G) :=
  fun r hr => cl_sxE_some Q orc (vs := [v0, v1, v2]) G Try.func125 (by kernel_rfl) (by kernel_rfl) (by kernel_rfl) (by kernel_rfl) (by kernel_rfl) (m125 h v0 v1 v2 G r hr)
/-- (coxswain/cells.deed).swap -/
noncomputable def s126 (q : Bool) (e : Ex) (v0 : Value) (G : GS) : Option (Value × GS) :=
  bS (bx q v0 G) fun x0 G1 =>
  bP (fa Q q 127 0 0 x0) fun x2 =>
  bP (ld Q q 124 x2 (G1.room 7)) fun x3 =>
  bP (pNil x3) fun x4 =>
  bP (ld Q q 76 x4 (G1.room 7)) fun x5 =>
  bP (fa Q q 127 1 1 x0) fun x6 =>
  bP (ld Q q 33 x6 (G1.room 7)) fun x7 =>
  bP (bn Q q .neq 33 (.tmp 7) (.tmp 9) x5 x7) fun x8 =>
  ifV x8 (
  bP (fa Q q 127 0 0 x0) fun x9 =>
  bP (ld Q q 124 x9 (G1.room 7)) fun x10 =>
  bP (pNil x10) fun x11 =>
  bP (ld Q q 76 x11 (G1.room 7)) fun x12 =>
  some (.tuple #[x12, (.bool false)], (G1.room 7))) (
  bP (fa Q q 127 2 2 x0) fun x13 =>
  bP (ld Q q 33 x13 (G1.room 7)) fun x14 =>
  some (.tuple #[x14, (.bool true)], (G1.room 7)))
theorem m126 {e : Ex} {E : Ev} (h : ExLe Q e E) (v0 : Value) (G : GS) : Ref (s126 true e v0 G) (s126 false (Ex.of E) v0 G) := by
  unfold s126
  exact Ref.go
theorem f126 {orc : FuncId → Bool} {e : Ex} (h : ExLe Q e (E orc)) (v0 : Value) (G : GS) : Ref (s126 true e v0 G) ((E orc).cl 126 [v0] G) :=
  fun r hr => cl_sxE_some Q orc (vs := [v0]) G Try.func126 (by kernel_rfl) (by kernel_rfl) (by kernel_rfl) (by kernel_rfl) (by kernel_rfl) (m126 h v0 G r hr)
noncomputable def clT (orc : FuncId → Bool) (e : Ex) (f : FuncId) (vs : List Value) (G : GS) : Option (Value × GS) :=
  fork f 81 (
fork f 29 (
fork f 11 (
fork f 7 (
fork f 5 (
fork f 3 (
leaf f 3 (app1 (s3 true e) vs G)) (
leaf f 5 (app1 (s5 true e) vs G))) (
fork f 6 (
leaf f 6 (app1 (s6 true e) vs G)) (
leaf f 7 (app2 (s7 true e) vs G)))) (
fork f 9 (
fork f 8 (
leaf f 8 (app2 (s8 true e) vs G)) (
leaf f 9 (app1 (s9 true e) vs G))) (
fork f 10 (
leaf f 10 (app2 (s10 true e) vs G)) (
leaf f 11 (app2 (s11 true e) vs G))))) (
fork f 25 (
fork f 13 (
fork f 12 (
leaf f 12 (app1 (s12 true e) vs G)) (
leaf f 13 (app0 (orc 13) (s13 true e) vs G))) (
fork f 24 (
leaf f 24 (app2 (s24 true e) vs G)) (
leaf f 25 (app2 (s25 true e) vs G)))) (
fork f 27 (
fork f 26 (
leaf f 26 (app2 (s26 true e) vs G)) (
leaf f 27 (app0 (orc 27) (s27 true e) vs G))) (
fork f 28 (
leaf f 28 (app1 (s28 true e) vs G)) (
leaf f 29 (app4 (s29 true e) vs G)))))) (
fork f 55 (
fork f 51 (
fork f 31 (
fork f 30 (
leaf f 30 (app3 (s30 true e) vs G)) (
leaf f 31 (app2 (s31 true e) vs G))) (
fork f 50 (
leaf f 50 (app2 (s50 true e) vs G)) (
leaf f 51 (app2 (s51 true e) vs G)))) (
fork f 53 (
fork f 52 (
leaf f 52 (app2 (s52 true e) vs G)) (
leaf f 53 (app1 (s53 true e) vs G))) (
fork f 54 (
leaf f 54 (app2 (s54 true e) vs G)) (
leaf f 55 (app1 (s55 true e) vs G))))) (
fork f 59 (
fork f 57 (
fork f 56 (
leaf f 56 (app2 (s56 true e) vs G)) (
leaf f 57 (app3 (s57 true e) vs G))) (
fork f 58 (
leaf f 58 (app1 (s58 true e) vs G)) (
leaf f 59 (app2 (s59 true e) vs G)))) (
fork f 61 (
fork f 60 (
leaf f 60 (app2 (s60 true e) vs G)) (
leaf f 61 (app5 (s61 true e) vs G))) (
fork f 62 (
leaf f 62 (app1 (s62 true e) vs G)) (
fork f 80 (
leaf f 80 (app2 (s80 true e) vs G)) (
leaf f 81 (app2 (s81 true e) vs G)))))))) (
fork f 104 (
fork f 89 (
fork f 85 (
fork f 83 (
fork f 82 (
leaf f 82 (app2 (s82 true e) vs G)) (
leaf f 83 (app3 (s83 true e) vs G))) (
fork f 84 (
leaf f 84 (app1 (s84 true e) vs G)) (
leaf f 85 (app1 (s85 true e) vs G)))) (
fork f 87 (
fork f 86 (
leaf f 86 (app1 (s86 true e) vs G)) (
leaf f 87 (app2 (s87 true e) vs G))) (
fork f 88 (
leaf f 88 (app2 (s88 true e) vs G)) (
leaf f 89 (app1 (s89 true e) vs G))))) (
fork f 100 (
fork f 91 (
fork f 90 (
leaf f 90 (app2 (s90 true e) vs G)) (
leaf f 91 (app2 (s91 true e) vs G))) (
fork f 92 (
leaf f 92 (app1 (s92 true e) vs G)) (
leaf f 100 (app2 (s100 true e) vs G)))) (
fork f 102 (
fork f 101 (
leaf f 101 (app2 (s101 true e) vs G)) (
leaf f 102 (app2 (s102 true e) vs G))) (
fork f 103 (
leaf f 103 (app1 (s103 true e) vs G)) (
leaf f 104 (app1 (s104 true e) vs G)))))) (
fork f 115 (
fork f 108 (
fork f 106 (
fork f 105 (
leaf f 105 (app2 (s105 true e) vs G)) (
leaf f 106 (app1 (s106 true e) vs G))) (
fork f 107 (
leaf f 107 (app1 (s107 true e) vs G)) (
leaf f 108 (app1 (s108 true e) vs G)))) (
fork f 113 (
fork f 112 (
leaf f 112 (app1 (s112 true e) vs G)) (
leaf f 113 (app3 (s113 true e) vs G))) (
fork f 114 (
leaf f 114 (app1 (s114 true e) vs G)) (
leaf f 115 (app0 (orc 115) (s115 true e) vs G))))) (
fork f 119 (
fork f 117 (
fork f 116 (
leaf f 116 (app2 (s116 true e) vs G)) (
leaf f 117 (app2 (s117 true e) vs G))) (
fork f 118 (
leaf f 118 (app1 (s118 true e) vs G)) (
leaf f 119 (app0 (orc 119) (s119 true e) vs G)))) (
fork f 121 (
fork f 120 (
leaf f 120 (app2 (s120 true e) vs G)) (
leaf f 121 (app4 (s121 true e) vs G))) (
fork f 124 (
leaf f 124 (app2 (s124 true e) vs G)) (
fork f 125 (
leaf f 125 (app3 (s125 true e) vs G)) (
leaf f 126 (app1 (s126 true e) vs G))))))))
theorem clT_ok {orc : FuncId → Bool} {e : Ex} (h : ExLe Q e (E orc)) (f : FuncId) (vs : List Value) (G : GS) : Ref (clT orc e f vs G) ((E orc).cl f vs G) :=
  Ref.fork (
Ref.fork (
Ref.fork (
Ref.fork (
Ref.fork (
Ref.fork (
Ref.leaf (y := fun f => (E orc).cl f vs G) (Ref.app1 (fun u0 G => f3 h u0 G) vs G)) (
Ref.leaf (y := fun f => (E orc).cl f vs G) (Ref.app1 (fun u0 G => f5 h u0 G) vs G))) (
Ref.fork (
Ref.leaf (y := fun f => (E orc).cl f vs G) (Ref.app1 (fun u0 G => f6 h u0 G) vs G)) (
Ref.leaf (y := fun f => (E orc).cl f vs G) (Ref.app2 (fun u0 u1 G => f7 h u0 u1 G) vs G)))) (
Ref.fork (
Ref.fork (
Ref.leaf (y := fun f => (E orc).cl f vs G) (Ref.app2 (fun u0 u1 G => f8 h u0 u1 G) vs G)) (
Ref.leaf (y := fun f => (E orc).cl f vs G) (Ref.app1 (fun u0 G => f9 h u0 G) vs G))) (
Ref.fork (
Ref.leaf (y := fun f => (E orc).cl f vs G) (Ref.app2 (fun u0 u1 G => f10 h u0 u1 G) vs G)) (
Ref.leaf (y := fun f => (E orc).cl f vs G) (Ref.app2 (fun u0 u1 G => f11 h u0 u1 G) vs G))))) (
Ref.fork (
Ref.fork (
Ref.fork (
Ref.leaf (y := fun f => (E orc).cl f vs G) (Ref.app1 (fun u0 G => f12 h u0 G) vs G)) (
Ref.leaf (y := fun f => (E orc).cl f vs G) (Ref.app0 (fun ho G => f13 h ho G) vs G))) (
Ref.fork (
Ref.leaf (y := fun f => (E orc).cl f vs G) (Ref.app2 (fun u0 u1 G => f24 h u0 u1 G) vs G)) (
Ref.leaf (y := fun f => (E orc).cl f vs G) (Ref.app2 (fun u0 u1 G => f25 h u0 u1 G) vs G)))) (
Ref.fork (
Ref.fork (
Ref.leaf (y := fun f => (E orc).cl f vs G) (Ref.app2 (fun u0 u1 G => f26 h u0 u1 G) vs G)) (
Ref.leaf (y := fun f => (E orc).cl f vs G) (Ref.app0 (fun ho G => f27 h ho G) vs G))) (
Ref.fork (
Ref.leaf (y := fun f => (E orc).cl f vs G) (Ref.app1 (fun u0 G => f28 h u0 G) vs G)) (
Ref.leaf (y := fun f => (E orc).cl f vs G) (Ref.app4 (fun u0 u1 u2 u3 G => f29 h u0 u1 u2 u3 G) vs G)))))) (
Ref.fork (
Ref.fork (
Ref.fork (
Ref.fork (
Ref.leaf (y := fun f => (E orc).cl f vs G) (Ref.app3 (fun u0 u1 u2 G => f30 h u0 u1 u2 G) vs G)) (
Ref.leaf (y := fun f => (E orc).cl f vs G) (Ref.app2 (fun u0 u1 G => f31 h u0 u1 G) vs G))) (
Ref.fork (
Ref.leaf (y := fun f => (E orc).cl f vs G) (Ref.app2 (fun u0 u1 G => f50 h u0 u1 G) vs G)) (
Ref.leaf (y := fun f => (E orc).cl f vs G) (Ref.app2 (fun u0 u1 G => f51 h u0 u1 G) vs G)))) (
Ref.fork (
Ref.fork (
Ref.leaf (y := fun f => (E orc).cl f vs G) (Ref.app2 (fun u0 u1 G => f52 h u0 u1 G) vs G)) (
Ref.leaf (y := fun f => (E orc).cl f vs G) (Ref.app1 (fun u0 G => f53 h u0 G) vs G))) (
Ref.fork (
Ref.leaf (y := fun f => (E orc).cl f vs G) (Ref.app2 (fun u0 u1 G => f54 h u0 u1 G) vs G)) (
Ref.leaf (y := fun f => (E orc).cl f vs G) (Ref.app1 (fun u0 G => f55 h u0 G) vs G))))) (
Ref.fork (
Ref.fork (
Ref.fork (
Ref.leaf (y := fun f => (E orc).cl f vs G) (Ref.app2 (fun u0 u1 G => f56 h u0 u1 G) vs G)) (
Ref.leaf (y := fun f => (E orc).cl f vs G) (Ref.app3 (fun u0 u1 u2 G => f57 h u0 u1 u2 G) vs G))) (
Ref.fork (
Ref.leaf (y := fun f => (E orc).cl f vs G) (Ref.app1 (fun u0 G => f58 h u0 G) vs G)) (
Ref.leaf (y := fun f => (E orc).cl f vs G) (Ref.app2 (fun u0 u1 G => f59 h u0 u1 G) vs G)))) (
Ref.fork (
Ref.fork (
Ref.leaf (y := fun f => (E orc).cl f vs G) (Ref.app2 (fun u0 u1 G => f60 h u0 u1 G) vs G)) (
Ref.leaf (y := fun f => (E orc).cl f vs G) (Ref.app5 (fun u0 u1 u2 u3 u4 G => f61 h u0 u1 u2 u3 u4 G) vs G))) (
Ref.fork (
Ref.leaf (y := fun f => (E orc).cl f vs G) (Ref.app1 (fun u0 G => f62 h u0 G) vs G)) (
Ref.fork (
Ref.leaf (y := fun f => (E orc).cl f vs G) (Ref.app2 (fun u0 u1 G => f80 h u0 u1 G) vs G)) (
Ref.leaf (y := fun f => (E orc).cl f vs G) (Ref.app2 (fun u0 u1 G => f81 h u0 u1 G) vs G)))))))) (
Ref.fork (
Ref.fork (
Ref.fork (
Ref.fork (
Ref.fork (
Ref.leaf (y := fun f => (E orc).cl f vs G) (Ref.app2 (fun u0 u1 G => f82 h u0 u1 G) vs G)) (
Ref.leaf (y := fun f => (E orc).cl f vs G) (Ref.app3 (fun u0 u1 u2 G => f83 h u0 u1 u2 G) vs G))) (
Ref.fork (
Ref.leaf (y := fun f => (E orc).cl f vs G) (Ref.app1 (fun u0 G => f84 h u0 G) vs G)) (
Ref.leaf (y := fun f => (E orc).cl f vs G) (Ref.app1 (fun u0 G => f85 h u0 G) vs G)))) (
Ref.fork (
Ref.fork (
Ref.leaf (y := fun f => (E orc).cl f vs G) (Ref.app1 (fun u0 G => f86 h u0 G) vs G)) (
Ref.leaf (y := fun f => (E orc).cl f vs G) (Ref.app2 (fun u0 u1 G => f87 h u0 u1 G) vs G))) (
Ref.fork (
Ref.leaf (y := fun f => (E orc).cl f vs G) (Ref.app2 (fun u0 u1 G => f88 h u0 u1 G) vs G)) (
Ref.leaf (y := fun f => (E orc).cl f vs G) (Ref.app1 (fun u0 G => f89 h u0 G) vs G))))) (
Ref.fork (
Ref.fork (
Ref.fork (
Ref.leaf (y := fun f => (E orc).cl f vs G) (Ref.app2 (fun u0 u1 G => f90 h u0 u1 G) vs G)) (
Ref.leaf (y := fun f => (E orc).cl f vs G) (Ref.app2 (fun u0 u1 G => f91 h u0 u1 G) vs G))) (
Ref.fork (
Ref.leaf (y := fun f => (E orc).cl f vs G) (Ref.app1 (fun u0 G => f92 h u0 G) vs G)) (
Ref.leaf (y := fun f => (E orc).cl f vs G) (Ref.app2 (fun u0 u1 G => f100 h u0 u1 G) vs G)))) (
Ref.fork (
Ref.fork (
Ref.leaf (y := fun f => (E orc).cl f vs G) (Ref.app2 (fun u0 u1 G => f101 h u0 u1 G) vs G)) (
Ref.leaf (y := fun f => (E orc).cl f vs G) (Ref.app2 (fun u0 u1 G => f102 h u0 u1 G) vs G))) (
Ref.fork (
Ref.leaf (y := fun f => (E orc).cl f vs G) (Ref.app1 (fun u0 G => f103 h u0 G) vs G)) (
Ref.leaf (y := fun f => (E orc).cl f vs G) (Ref.app1 (fun u0 G => f104 h u0 G) vs G)))))) (
Ref.fork (
Ref.fork (
Ref.fork (
Ref.fork (
Ref.leaf (y := fun f => (E orc).cl f vs G) (Ref.app2 (fun u0 u1 G => f105 h u0 u1 G) vs G)) (
Ref.leaf (y := fun f => (E orc).cl f vs G) (Ref.app1 (fun u0 G => f106 h u0 G) vs G))) (
Ref.fork (
Ref.leaf (y := fun f => (E orc).cl f vs G) (Ref.app1 (fun u0 G => f107 h u0 G) vs G)) (
Ref.leaf (y := fun f => (E orc).cl f vs G) (Ref.app1 (fun u0 G => f108 h u0 G) vs G)))) (
Ref.fork (
Ref.fork (
Ref.leaf (y := fun f => (E orc).cl f vs G) (Ref.app1 (fun u0 G => f112 h u0 G) vs G)) (
Ref.leaf (y := fun f => (E orc).cl f vs G) (Ref.app3 (fun u0 u1 u2 G => f113 h u0 u1 u2 G) vs G))) (
Ref.fork (
Ref.leaf (y := fun f => (E orc).cl f vs G) (Ref.app1 (fun u0 G => f114 h u0 G) vs G)) (
Ref.leaf (y := fun f => (E orc).cl f vs G) (Ref.app0 (fun ho G => f115 h ho G) vs G))))) (
Ref.fork (
Ref.fork (
Ref.fork (
Ref.leaf (y := fun f => (E orc).cl f vs G) (Ref.app2 (fun u0 u1 G => f116 h u0 u1 G) vs G)) (
Ref.leaf (y := fun f => (E orc).cl f vs G) (Ref.app2 (fun u0 u1 G => f117 h u0 u1 G) vs G))) (
Ref.fork (
Ref.leaf (y := fun f => (E orc).cl f vs G) (Ref.app1 (fun u0 G => f118 h u0 G) vs G)) (
Ref.leaf (y := fun f => (E orc).cl f vs G) (Ref.app0 (fun ho G => f119 h ho G) vs G)))) (
Ref.fork (
Ref.fork (
Ref.leaf (y := fun f => (E orc).cl f vs G) (Ref.app2 (fun u0 u1 G => f120 h u0 u1 G) vs G)) (
Ref.leaf (y := fun f => (E orc).cl f vs G) (Ref.app4 (fun u0 u1 u2 u3 G => f121 h u0 u1 u2 u3 G) vs G))) (
Ref.fork (
Ref.leaf (y := fun f => (E orc).cl f vs G) (Ref.app2 (fun u0 u1 G => f124 h u0 u1 G) vs G)) (
Ref.fork (
Ref.leaf (y := fun f => (E orc).cl f vs G) (Ref.app3 (fun u0 u1 u2 G => f125 h u0 u1 u2 G) vs G)) (
Ref.leaf (y := fun f => (E orc).cl f vs G) (Ref.app1 (fun u0 G => f126 h u0 G) vs G))))))))
noncomputable def lpT (FUEL : Nat) (e : Ex) (f k : Nat) (τ : Env) (G : GS) : Option (Exit × Env × GS) :=
  fork f 29 (
fork f 3 (
leaf f 3 (leaf k 0 (lpS 93 (b3_0 true e) FUEL τ G))) (
fork f 26 (
leaf f 26 (leaf k 0 (lpS 29 (b26_0 true e) FUEL τ G))) (
leaf f 29 (leaf k 0 (lpS 40 (b29_0 true e) FUEL τ G))))) (
fork f 56 (
fork f 30 (
leaf f 30 (leaf k 0 (lpS 33 (b30_0 true e) FUEL τ G))) (
leaf f 56 (leaf k 0 (lpS 34 (b56_0 true e) FUEL τ G)))) (
fork f 114 (
leaf f 114 (leaf k 0 (lpS 24 (b114_0 true e) FUEL τ G))) (
leaf f 116 (leaf k 0 (lpS 24 (b116_0 true e) FUEL τ G)))))
theorem lpT_ok {orc : FuncId → Bool} {e : Ex} (h : ExLe Q e (E orc)) (FUEL f k : Nat) (τ : Env) (G : GS) : Ref (lpT FUEL e f k τ G) (mapE ((E orc).lp (codeAt Q f k) (lst (nOf Q f) τ) G)) :=
  Ref.fork (
Ref.fork (
Ref.leaf (y := fun f => mapE ((E orc).lp (codeAt Q f k) (lst (nOf Q f) τ) G)) (Ref.leaf (y := fun k => mapE ((E orc).lp (codeAt Q 3 k) (lst (nOf Q 3) τ) G)) (lp_leaf (c := (subAt [1, 1, 1, 1, 0, 1, 0, 0] (bodyOf Try.f3))) (l3_0 h) _ _ _))) (
Ref.fork (
Ref.leaf (y := fun f => mapE ((E orc).lp (codeAt Q f k) (lst (nOf Q f) τ) G)) (Ref.leaf (y := fun k => mapE ((E orc).lp (codeAt Q 26 k) (lst (nOf Q 26) τ) G)) (lp_leaf (c := (subAt [1, 1, 1, 1, 1, 0, 0] (bodyOf Try.f26))) (l26_0 h) _ _ _))) (
Ref.leaf (y := fun f => mapE ((E orc).lp (codeAt Q f k) (lst (nOf Q f) τ) G)) (Ref.leaf (y := fun k => mapE ((E orc).lp (codeAt Q 29 k) (lst (nOf Q 29) τ) G)) (lp_leaf (c := (subAt [1, 1, 0, 1, 0, 0] (bodyOf Try.f29))) (l29_0 h) _ _ _))))) (
Ref.fork (
Ref.fork (
Ref.leaf (y := fun f => mapE ((E orc).lp (codeAt Q f k) (lst (nOf Q f) τ) G)) (Ref.leaf (y := fun k => mapE ((E orc).lp (codeAt Q 30 k) (lst (nOf Q 30) τ) G)) (lp_leaf (c := (subAt [1, 1, 0, 1, 0, 0] (bodyOf Try.f30))) (l30_0 h) _ _ _))) (
Ref.leaf (y := fun f => mapE ((E orc).lp (codeAt Q f k) (lst (nOf Q f) τ) G)) (Ref.leaf (y := fun k => mapE ((E orc).lp (codeAt Q 56 k) (lst (nOf Q 56) τ) G)) (lp_leaf (c := (subAt [1, 1, 1, 1, 0, 0] (bodyOf Try.f56))) (l56_0 h) _ _ _)))) (
Ref.fork (
Ref.leaf (y := fun f => mapE ((E orc).lp (codeAt Q f k) (lst (nOf Q f) τ) G)) (Ref.leaf (y := fun k => mapE ((E orc).lp (codeAt Q 114 k) (lst (nOf Q 114) τ) G)) (lp_leaf (c := (subAt [1, 0, 1, 0, 0] (bodyOf Try.f114))) (l114_0 h) _ _ _))) (
Ref.leaf (y := fun f => mapE ((E orc).lp (codeAt Q f k) (lst (nOf Q f) τ) G)) (Ref.leaf (y := fun k => mapE ((E orc).lp (codeAt Q 116 k) (lst (nOf Q 116) τ) G)) (lp_leaf (c := (subAt [1, 1, 0, 1, 0, 0] (bodyOf Try.f116))) (l116_0 h) _ _ _)))))
noncomputable def kE (orc : FuncId → Bool) (n : Nat) : Ex := Nat.rec (motive := fun _ => Ex) ⟨Ev.zero, fun _ _ _ _ => none⟩ (fun _ e => ⟨⟨(evO Q orc 0).ex, clT orc e, (evO Q orc 2000).rd, (evO Q orc 2000).sc, (evO Q orc 0).lp⟩, lpT 6000 e⟩) n
theorem kE_ok (orc : FuncId → Bool) : ∀ n, ExLe Q (kE orc n) (E orc)
  | 0 => ⟨zero_le _, fun _ _ _ _ => .nil _⟩
  | n + 1 => ⟨⟨(le_evL Q orc 0).ex, fun f vs G r hr => clT_ok (kE_ok orc n) f vs G r hr, (le_evL Q orc 2000).rd, (le_evL Q orc 2000).sc, (le_evL Q orc 0).lp⟩, lpT_ok (kE_ok orc n) 6000⟩
/-- what the tables find true is true -/
theorem at_kE {orc : FuncId → Bool} {n f : Nat} {vs : List Value} (h : isTrue ((kE orc n).ev.cl f vs GS.empty) = true) : ∃ G', (E orc).cl f vs GS.empty = some (.bool true, G') := isTrue_of ((kE_ok orc n).ev.cl f vs GS.empty) h
theorem closed_kE {orc : FuncId → Bool} (ho : OrcOk Q orc) (hmix : Q.follows .mixedOrders = true) {n f : Nat} (h : isTrue ((kE orc n).ev.cl f [] GS.empty) = true) (w : World) : Calls Q f #[] w fun e w' => e = .returned (.bool true) ∧ Go.RowKit.Below w.heap.size w w' :=
  let ⟨_, hG⟩ := at_kE h
  law_plain hmix ho hG fun _ => trivial
end Go.Proofs.Ytgcceeillefbpaa.Lift
