/- the program's code, spelled out by a program of ours (lift2.lean) -/
import Derived.Test.YtgcceeillefbpaaProg
import Derived.Test.YtgcceeillefbpaaGhKO
import Derived.KernelRfl
namespace Go.Proofs.Ytgcceeillefbpaa.Lift
open Go Go.Proofs.Ytgcceeillefbpaa.Gh Go.Proofs
set_option linter.unusedVariables false
set_option maxRecDepth 100000
@[reducible] noncomputable def Q : Program := Try.prog
@[reducible] noncomputable def E (orc : FuncId → Bool) : Ev := evL Try.prog orc
instance iep22 : EpOk Q 22 := ⟨fun neg x y => by cases neg <;> kernel_rfl, fun neg x y a => by cases neg <;> kernel_rfl, fun neg x y a => by cases neg <;> kernel_rfl⟩
noncomputable abbrev z55 : List Value := [(.bool false), (.pointer none), (.int .i64 0)]
instance ibd55_ : BdOk Q 55 z55 [] := bd_ok Q (by kernel_rfl) (by kernel_rfl) (by kernel_rfl)
noncomputable abbrev z52 : List Value := [(.pointer none)]
instance ibs56_2_0_1 : BsOk Q 56 2 (rep z52 2) 1 [(0, 0, 1), (1, 1, 1)] := bs_ok Q (z0 := z52) (by kernel_rfl) rfl (by decide) (by kernel_rfl)
noncomputable abbrev z64 : List Value := [(.bool false), (.int .i64 0), (.int .i64 0), (.int .i64 0), (.int .i64 0), (.int .i64 0), .nilIface, (.slice none 0 0), (.int .i64 0), (.int .i64 0)]
instance ibd64_ : BdOk Q 64 z64 [] := bd_ok Q (by kernel_rfl) (by kernel_rfl) (by kernel_rfl)
noncomputable abbrev z57 : List Value := [(.pointer none)]
instance ibs65_2_0_1 : BsOk Q 65 2 (rep z57 2) 1 [(0, 0, 1), (1, 1, 1)] := bs_ok Q (z0 := z57) (by kernel_rfl) rfl (by decide) (by kernel_rfl)
instance iias65 : IasOk Q 65 1 := ⟨fun b o s n c k j => by kernel_rfl⟩
instance ild57 : LdOk Q 57 := ⟨fun b o s G => (show _ = loadOne b o G by kernel_rfl).trans (loadOne_eq b o G)⟩
instance iias56 : IasOk Q 56 1 := ⟨fun b o s n c k j => by kernel_rfl⟩
instance ild52 : LdOk Q 52 := ⟨fun b o s G => (show _ = loadOne b o G by kernel_rfl).trans (loadOne_eq b o G)⟩
instance iln62 : LnOk Q 62 := ⟨fun a n c => by kernel_rfl⟩
noncomputable abbrev z70 : List Value := [(.int .i64 0), (.int .i64 0), (.int .i64 0)]
instance ial70 : AlOk Q 70 z70 := ⟨fun G => by kernel_rfl⟩
instance ist70 : StOk Q 70 3 := ⟨fun b o s v G => by kernel_rfl⟩
instance ifa70_2 : FaOk Q 70 2 2 := ⟨fun b o s => by kernel_rfl⟩
instance ist3 : StOk Q 3 1 := ⟨fun b o s v G => by kernel_rfl⟩
instance ilda70 : LdAOk Q 70 3 := ⟨fun b o s G => by kernel_rfl⟩
noncomputable abbrev z78 : List Value := (zs 4096 (.int .u64 0))
instance ial78 : AlOk Q 78 z78 := ⟨fun G => by kernel_rfl⟩
noncomputable abbrev z82 : List Value := [(.pointer none), (.int .i64 0), (.int .i64 0), (.int .i64 0), (.int .u64 0), (.int .u64 0), (.bool false), (.int .i64 0)]
instance ibd82_0_1 : BdOk Q 82 z82 [(0, 0, 1), (1, 1, 1)] := bd_ok Q (by kernel_rfl) (by kernel_rfl) (by kernel_rfl)
instance iep26 : EpOk Q 26 := ⟨fun neg x y => by cases neg <;> kernel_rfl, fun neg x y a => by cases neg <;> kernel_rfl, fun neg x y a => by cases neg <;> kernel_rfl⟩
instance ifa35_3 : FaOk Q 35 3 8 := ⟨fun b o s => by kernel_rfl⟩
instance ild32 : LdOk Q 32 := ⟨fun b o s G => (show _ = loadOne b o G by kernel_rfl).trans (loadOne_eq b o G)⟩
instance ief32 : EfOk Q 32 := ⟨fun neg x y => by cases neg <;> kernel_rfl, fun neg x y f a b => by cases neg <;> kernel_rfl⟩
instance iep37 : EpOk Q 37 := ⟨fun neg x y => by cases neg <;> kernel_rfl, fun neg x y a => by cases neg <;> kernel_rfl, fun neg x y a => by cases neg <;> kernel_rfl⟩
instance ifa41_3 : FaOk Q 41 3 8 := ⟨fun b o s => by kernel_rfl⟩
instance ild39 : LdOk Q 39 := ⟨fun b o s G => (show _ = loadOne b o G by kernel_rfl).trans (loadOne_eq b o G)⟩
instance ief39 : EfOk Q 39 := ⟨fun neg x y => by cases neg <;> kernel_rfl, fun neg x y f a b => by cases neg <;> kernel_rfl⟩
instance ifa82_3 : FaOk Q 82 3 7 := ⟨fun b o s => by kernel_rfl⟩
instance ild3 : LdOk Q 3 := ⟨fun b o s G => (show _ = loadOne b o G by kernel_rfl).trans (loadOne_eq b o G)⟩
instance iep57 : EpOk Q 57 := ⟨fun neg x y => by cases neg <;> kernel_rfl, fun neg x y a => by cases neg <;> kernel_rfl, fun neg x y a => by cases neg <;> kernel_rfl⟩
instance ifa64_0 : FaOk Q 64 0 0 := ⟨fun b o s => by kernel_rfl⟩
instance ild4 : LdOk Q 4 := ⟨fun b o s G => (show _ = loadOne b o G by kernel_rfl).trans (loadOne_eq b o G)⟩
instance ifa64_3 : FaOk Q 64 3 6 := ⟨fun b o s => by kernel_rfl⟩
instance ild61 : LdOk Q 61 := ⟨fun b o s G => (show _ = loadOne b o G by kernel_rfl).trans (loadOne_eq b o G)⟩
instance ifa64_6 : FaOk Q 64 6 9 := ⟨fun b o s => by kernel_rfl⟩
instance ild23 : LdOk Q 23 := ⟨fun b o s G => (show _ = loadOne b o G by kernel_rfl).trans (loadOne_eq b o G)⟩
instance ifa64_4 : FaOk Q 64 4 7 := ⟨fun b o s => by kernel_rfl⟩
instance ild62 : LdOk Q 62 := ⟨fun b o s G => (show _ = loadOne b o G by kernel_rfl).trans (loadOne_eq b o G)⟩
instance iep52 : EpOk Q 52 := ⟨fun neg x y => by cases neg <;> kernel_rfl, fun neg x y a => by cases neg <;> kernel_rfl, fun neg x y a => by cases neg <;> kernel_rfl⟩
instance ifa55_1 : FaOk Q 55 1 1 := ⟨fun b o s => by kernel_rfl⟩
instance ild53 : LdOk Q 53 := ⟨fun b o s G => (show _ = loadOne b o G by kernel_rfl).trans (loadOne_eq b o G)⟩
instance iep53 : EpOk Q 53 := ⟨fun neg x y => by cases neg <;> kernel_rfl, fun neg x y a => by cases neg <;> kernel_rfl, fun neg x y a => by cases neg <;> kernel_rfl⟩
instance ifa55_2 : FaOk Q 55 2 2 := ⟨fun b o s => by kernel_rfl⟩
instance ist23 : StOk Q 23 1 := ⟨fun b o s v G => by kernel_rfl⟩
instance ist53 : StOk Q 53 1 := ⟨fun b o s v G => by kernel_rfl⟩
instance ifa64_5 : FaOk Q 64 5 8 := ⟨fun b o s => by kernel_rfl⟩
instance ist61 : StOk Q 61 1 := ⟨fun b o s v G => by kernel_rfl⟩
instance ifa64_1 : FaOk Q 64 1 1 := ⟨fun b o s => by kernel_rfl⟩
instance ilda59 : LdAOk Q 59 4 := ⟨fun b o s G => by kernel_rfl⟩
instance iifc95 : IfcOk Q 95 := ⟨fun v => by kernel_rfl⟩
noncomputable abbrev z3 : List Value := [(.int .i64 0)]
instance ibs62_1_0 : BsOk Q 62 1 (rep z3 1) 1 [(0, 0, 1)] := bs_ok Q (z0 := z3) (by kernel_rfl) rfl (by decide) (by kernel_rfl)
instance iap62_62 : ApOk Q 62 62 1 8 := ⟨fun s x G => by kernel_rfl⟩
instance ist62 : StOk Q 62 1 := ⟨fun b o s v G => by kernel_rfl⟩
instance ifa64_2 : FaOk Q 64 2 5 := ⟨fun b o s => by kernel_rfl⟩
instance iifc92 : IfcOk Q 92 := ⟨fun v => by kernel_rfl⟩
instance ifa55_0 : FaOk Q 55 0 0 := ⟨fun b o s => by kernel_rfl⟩
instance ibd55_0_2 : BdOk Q 55 z55 [(0, 0, 1), (2, 2, 1)] := bd_ok Q (by kernel_rfl) (by kernel_rfl) (by kernel_rfl)
noncomputable abbrev z59 : List Value := [(.int .i64 0), (.int .i64 0), (.int .i64 0), (.int .i64 0)]
instance ial59 : AlOk Q 59 z59 := ⟨fun G => by kernel_rfl⟩
instance ist59 : StOk Q 59 4 := ⟨fun b o s v G => by kernel_rfl⟩
instance ibd70_0_1_2 : BdOk Q 70 z70 [(0, 0, 1), (1, 1, 1), (2, 2, 1)] := bd_ok Q (by kernel_rfl) (by kernel_rfl) (by kernel_rfl)
instance ild22 : LdOk Q 22 := ⟨fun b o s G => (show _ = loadOne b o G by kernel_rfl).trans (loadOne_eq b o G)⟩
noncomputable abbrev z4 : List Value := [(.bool false)]
instance ial4 : AlOk Q 4 z4 := ⟨fun G => by kernel_rfl⟩
instance ist4 : StOk Q 4 1 := ⟨fun b o s v G => by kernel_rfl⟩
instance ibs62_2_0_1 : BsOk Q 62 2 (rep z3 2) 1 [(0, 0, 1), (1, 1, 1)] := bs_ok Q (z0 := z3) (by kernel_rfl) rfl (by decide) (by kernel_rfl)
noncomputable abbrev z127 : List Value := [(.pointer none), (.int .u64 0), (.int .u64 0)]
instance ibd127_0 : BdOk Q 127 z127 [(0, 0, 1)] := bd_ok Q (by kernel_rfl) (by kernel_rfl) (by kernel_rfl)
instance ial127 : AlOk Q 127 z127 := ⟨fun G => by kernel_rfl⟩
instance ist127 : StOk Q 127 3 := ⟨fun b o s v G => by kernel_rfl⟩
instance ifa127_0 : FaOk Q 127 0 0 := ⟨fun b o s => by kernel_rfl⟩
instance ild124 : LdOk Q 124 := ⟨fun b o s G => (show _ = loadOne b o G by kernel_rfl).trans (loadOne_eq b o G)⟩
instance ilda127 : LdAOk Q 127 3 := ⟨fun b o s G => by kernel_rfl⟩
instance ifd80_3 : FdOk Q 80 3 3 := ⟨fun l => by kernel_rfl⟩
instance ies62 : EsOk Q 62 := ⟨fun neg x y => by cases neg <;> kernel_rfl, fun neg x y a n c => by cases neg <;> kernel_rfl⟩
instance ibs62_0_ : BsOk Q 62 0 (rep z3 0) 1 [] := bs_ok Q (z0 := z3) (by kernel_rfl) rfl (by decide) (by kernel_rfl)
instance ifa134_0 : FaOk Q 134 0 0 := ⟨fun b o s => by kernel_rfl⟩
instance iep92 : EpOk Q 92 := ⟨fun neg x y => by cases neg <;> kernel_rfl, fun neg x y a => by cases neg <;> kernel_rfl, fun neg x y a => by cases neg <;> kernel_rfl⟩
instance ifa136_2 : FaOk Q 136 2 8 := ⟨fun b o s => by kernel_rfl⟩
instance ifa136_0 : FaOk Q 136 0 0 := ⟨fun b o s => by kernel_rfl⟩
noncomputable abbrev z139 : List Value := [(.int .i64 0), (.int .i64 0), (.int .i64 0), (.int .i64 0), .nilFunc, (.bool false), (.int .i64 0), (.int .u64 0)]
instance ibd139_0_1 : BdOk Q 139 z139 [(0, 0, 7), (1, 7, 1)] := bd_ok Q (by kernel_rfl) (by kernel_rfl) (by kernel_rfl)
instance ifa139_0 : FaOk Q 139 0 0 := ⟨fun b o s => by kernel_rfl⟩
instance ifa131_3 : FaOk Q 131 3 6 := ⟨fun b o s => by kernel_rfl⟩
instance ifa131_1 : FaOk Q 131 1 4 := ⟨fun b o s => by kernel_rfl⟩
instance ist84 : StOk Q 84 1 := ⟨fun b o s v G => by kernel_rfl⟩
instance ifa136_1 : FaOk Q 136 1 7 := ⟨fun b o s => by kernel_rfl⟩
instance ild33 : LdOk Q 33 := ⟨fun b o s G => (show _ = loadOne b o G by kernel_rfl).trans (loadOne_eq b o G)⟩
noncomputable abbrev z136 : List Value := [(.int .i64 0), (.int .i64 0), (.int .i64 0), (.int .i64 0), .nilFunc, (.bool false), (.int .i64 0), (.int .u64 0), (.int .i64 0)]
instance ibd136_0 : BdOk Q 136 z136 [(0, 0, 7)] := bd_ok Q (by kernel_rfl) (by kernel_rfl) (by kernel_rfl)
instance ifa70_1 : FaOk Q 70 1 1 := ⟨fun b o s => by kernel_rfl⟩
instance ibd59_ : BdOk Q 59 z59 [] := bd_ok Q (by kernel_rfl) (by kernel_rfl) (by kernel_rfl)
noncomputable abbrev z134 : List Value := [(.int .i64 0), (.int .i64 0), (.int .i64 0), (.int .i64 0), .nilFunc, (.bool false), (.int .i64 0), (.int .i64 0), (.int .u64 0), (.int .u64 0)]
instance ibd134_0_1 : BdOk Q 134 z134 [(0, 0, 7), (1, 7, 1)] := bd_ok Q (by kernel_rfl) (by kernel_rfl) (by kernel_rfl)
instance ifa59_0 : FaOk Q 59 0 0 := ⟨fun b o s => by kernel_rfl⟩
instance ifa59_1 : FaOk Q 59 1 1 := ⟨fun b o s => by kernel_rfl⟩
instance ifa59_3 : FaOk Q 59 3 3 := ⟨fun b o s => by kernel_rfl⟩
instance ifa59_2 : FaOk Q 59 2 2 := ⟨fun b o s => by kernel_rfl⟩
noncomputable abbrev z142 : List Value := [(.slice none 0 0)]
instance ial142 : AlOk Q 142 z142 := ⟨fun G => by kernel_rfl⟩
instance ist142 : StOk Q 142 1 := ⟨fun b o s v G => by kernel_rfl⟩
noncomputable abbrev z90 : List Value := [.nilFunc]
instance ial90 : AlOk Q 90 z90 := ⟨fun G => by kernel_rfl⟩
instance ist90 : StOk Q 90 1 := ⟨fun b o s v G => by kernel_rfl⟩
noncomputable abbrev z62 : List Value := [(.slice none 0 0)]
instance ial62 : AlOk Q 62 z62 := ⟨fun G => by kernel_rfl⟩
instance ild90 : LdOk Q 90 := ⟨fun b o s G => (show _ = loadOne b o G by kernel_rfl).trans (loadOne_eq b o G)⟩
instance ifa70_0 : FaOk Q 70 0 0 := ⟨fun b o s => by kernel_rfl⟩
instance iias62 : IasOk Q 62 1 := ⟨fun b o s n c k j => by kernel_rfl⟩
instance ibd127_0_1 : BdOk Q 127 z127 [(0, 0, 1), (1, 1, 1)] := bd_ok Q (by kernel_rfl) (by kernel_rfl) (by kernel_rfl)
instance ifa82_0 : FaOk Q 82 0 0 := ⟨fun b o s => by kernel_rfl⟩
instance ild75 : LdOk Q 75 := ⟨fun b o s G => (show _ = loadOne b o G by kernel_rfl).trans (loadOne_eq b o G)⟩
instance iep75 : EpOk Q 75 := ⟨fun neg x y => by cases neg <;> kernel_rfl, fun neg x y a => by cases neg <;> kernel_rfl, fun neg x y a => by cases neg <;> kernel_rfl⟩
instance ifa82_1 : FaOk Q 82 1 1 := ⟨fun b o s => by kernel_rfl⟩
instance iiaa78 : IaaOk Q 78 4096 1 := ⟨fun b o s k j => by kernel_rfl⟩
noncomputable abbrev z80 : List Value := [(.int .i64 0), (.int .i64 0), (.int .u64 0), (.int .u64 0), (.bool false)]
instance ial80 : AlOk Q 80 z80 := ⟨fun G => by kernel_rfl⟩
instance ibd80_ : BdOk Q 80 z80 [] := bd_ok Q (by kernel_rfl) (by kernel_rfl) (by kernel_rfl)
instance ist80 : StOk Q 80 5 := ⟨fun b o s v G => by kernel_rfl⟩
instance ibd80_0_1 : BdOk Q 80 z80 [(0, 0, 1), (1, 1, 1)] := bd_ok Q (by kernel_rfl) (by kernel_rfl) (by kernel_rfl)
instance ifa82_2 : FaOk Q 82 2 2 := ⟨fun b o s => by kernel_rfl⟩
instance ild76 : LdOk Q 76 := ⟨fun b o s G => (show _ = loadOne b o G by kernel_rfl).trans (loadOne_eq b o G)⟩
instance ifa80_2 : FaOk Q 80 2 2 := ⟨fun b o s => by kernel_rfl⟩
instance ist33 : StOk Q 33 1 := ⟨fun b o s v G => by kernel_rfl⟩
instance ifa80_3 : FaOk Q 80 3 3 := ⟨fun b o s => by kernel_rfl⟩
instance ifa80_4 : FaOk Q 80 4 4 := ⟨fun b o s => by kernel_rfl⟩
instance ist76 : StOk Q 76 1 := ⟨fun b o s v G => by kernel_rfl⟩
instance ilda80 : LdAOk Q 80 5 := ⟨fun b o s G => by kernel_rfl⟩
instance ild84 : LdOk Q 84 := ⟨fun b o s G => (show _ = loadOne b o G by kernel_rfl).trans (loadOne_eq b o G)⟩
instance ief84 : EfOk Q 84 := ⟨fun neg x y => by cases neg <;> kernel_rfl, fun neg x y f a b => by cases neg <;> kernel_rfl⟩
instance ifa131_2 : FaOk Q 131 2 5 := ⟨fun b o s => by kernel_rfl⟩
noncomputable abbrev z131 : List Value := [(.int .i64 0), (.int .i64 0), (.int .i64 0), (.int .i64 0), .nilFunc, (.bool false), (.int .i64 0)]
instance ial131 : AlOk Q 131 z131 := ⟨fun G => by kernel_rfl⟩
instance ibd131_2_3 : BdOk Q 131 z131 [(2, 5, 1), (3, 6, 1)] := bd_ok Q (by kernel_rfl) (by kernel_rfl) (by kernel_rfl)
instance ist131 : StOk Q 131 7 := ⟨fun b o s v G => by kernel_rfl⟩
instance ibd131_0_2 : BdOk Q 131 z131 [(0, 0, 4), (2, 5, 1)] := bd_ok Q (by kernel_rfl) (by kernel_rfl) (by kernel_rfl)
instance ilda131 : LdAOk Q 131 7 := ⟨fun b o s G => by kernel_rfl⟩
instance ifa131_0 : FaOk Q 131 0 0 := ⟨fun b o s => by kernel_rfl⟩
instance ifa139_1 : FaOk Q 139 1 7 := ⟨fun b o s => by kernel_rfl⟩
instance ifa134_2 : FaOk Q 134 2 8 := ⟨fun b o s => by kernel_rfl⟩
instance ibd59_0_1_2_3 : BdOk Q 59 z59 [(0, 0, 1), (1, 1, 1), (2, 2, 1), (3, 3, 1)] := bd_ok Q (by kernel_rfl) (by kernel_rfl) (by kernel_rfl)
noncomputable abbrev z33 : List Value := [(.int .u64 0)]
instance imk142 : MkSlOk Q 142 1 8 z33 := ⟨fun k k' l c G => by kernel_rfl⟩
instance isla78 : SlAOk Q 78 4096 1 := ⟨fun a lo hi mx G => by kernel_rfl⟩
instance iln164 : LnOk Q 164 := ⟨fun a n c => by kernel_rfl⟩
instance iias164 : IasOk Q 164 1 := ⟨fun b o s n c k j => by kernel_rfl⟩
instance iias142 : IasOk Q 142 1 := ⟨fun b o s n c k j => by kernel_rfl⟩
instance ild142 : LdOk Q 142 := ⟨fun b o s G => (show _ = loadOne b o G by kernel_rfl).trans (loadOne_eq b o G)⟩
instance iln142 : LnOk Q 142 := ⟨fun a n c => by kernel_rfl⟩
instance icv3_33 : CvOk Q 3 33 .i64 .u64 := ⟨fun n => by kernel_rfl⟩
instance icv33_3 : CvOk Q 33 3 .u64 .i64 := ⟨fun n => by kernel_rfl⟩
instance icv132_3 : CvOk Q 132 3 .u64 .i64 := ⟨fun n => by kernel_rfl⟩
instance ibd64_0_2_6 : BdOk Q 64 z64 [(0, 0, 1), (2, 5, 1), (6, 9, 1)] := bd_ok Q (by kernel_rfl) (by kernel_rfl) (by kernel_rfl)
instance ifa127_1 : FaOk Q 127 1 1 := ⟨fun b o s => by kernel_rfl⟩
instance iep27 : EpOk Q 27 := ⟨fun neg x y => by cases neg <;> kernel_rfl, fun neg x y a => by cases neg <;> kernel_rfl, fun neg x y a => by cases neg <;> kernel_rfl⟩
instance ifa158_0 : FaOk Q 158 0 0 := ⟨fun b o s => by kernel_rfl⟩
instance ifa158_1 : FaOk Q 158 1 9 := ⟨fun b o s => by kernel_rfl⟩
instance ild156 : LdOk Q 156 := ⟨fun b o s G => (show _ = loadOne b o G by kernel_rfl).trans (loadOne_eq b o G)⟩
instance ifa114_5 : FaOk Q 114 5 7 := ⟨fun b o s => by kernel_rfl⟩
instance iep124 : EpOk Q 124 := ⟨fun neg x y => by cases neg <;> kernel_rfl, fun neg x y a => by cases neg <;> kernel_rfl, fun neg x y a => by cases neg <;> kernel_rfl⟩
instance icv162_132 : CvOk Q 162 132 .u32 .u64 := ⟨fun n => by kernel_rfl⟩
instance icv33_162 : CvOk Q 33 162 .u64 .u32 := ⟨fun n => by kernel_rfl⟩
instance ifa134_3 : FaOk Q 134 3 9 := ⟨fun b o s => by kernel_rfl⟩
instance ist132 : StOk Q 132 1 := ⟨fun b o s v G => by kernel_rfl⟩
instance ild132 : LdOk Q 132 := ⟨fun b o s G => (show _ = loadOne b o G by kernel_rfl).trans (loadOne_eq b o G)⟩
instance icv132_162 : CvOk Q 132 162 .u64 .u32 := ⟨fun n => by kernel_rfl⟩
instance iep38 : EpOk Q 38 := ⟨fun neg x y => by cases neg <;> kernel_rfl, fun neg x y a => by cases neg <;> kernel_rfl, fun neg x y a => by cases neg <;> kernel_rfl⟩
instance ifa117_0 : FaOk Q 117 0 0 := ⟨fun b o s => by kernel_rfl⟩
instance ifa117_1 : FaOk Q 117 1 9 := ⟨fun b o s => by kernel_rfl⟩
instance ild115 : LdOk Q 115 := ⟨fun b o s G => (show _ = loadOne b o G by kernel_rfl).trans (loadOne_eq b o G)⟩
instance iep153 : EpOk Q 153 := ⟨fun neg x y => by cases neg <;> kernel_rfl, fun neg x y a => by cases neg <;> kernel_rfl, fun neg x y a => by cases neg <;> kernel_rfl⟩
instance ifa114_4 : FaOk Q 114 4 6 := ⟨fun b o s => by kernel_rfl⟩
instance ifa134_1 : FaOk Q 134 1 7 := ⟨fun b o s => by kernel_rfl⟩
instance ibd127_0_1_2 : BdOk Q 127 z127 [(0, 0, 1), (1, 1, 1), (2, 2, 1)] := bd_ok Q (by kernel_rfl) (by kernel_rfl) (by kernel_rfl)
instance ifd80_4 : FdOk Q 80 4 4 := ⟨fun l => by kernel_rfl⟩
instance icv3_132 : CvOk Q 3 132 .i64 .u64 := ⟨fun n => by kernel_rfl⟩
instance ifa127_2 : FaOk Q 127 2 2 := ⟨fun b o s => by kernel_rfl⟩
instance iep95 : EpOk Q 95 := ⟨fun neg x y => by cases neg <;> kernel_rfl, fun neg x y a => by cases neg <;> kernel_rfl, fun neg x y a => by cases neg <;> kernel_rfl⟩
instance ilp4_0 : LpIs Q 4 0 (subAt [1, 1, 1, 1, 0, 1, 0, 0] (bodyOf Try.f4)) 114 := ⟨by kernel_rfl, by kernel_rfl⟩
noncomputable def b4_0 (q : Bool) (e : Ex) (lp : Env → GS → Option (Exit × Env × GS)) (τ : Env) (G : GS) : Option (Exit × Env × GS) :=
  bV q (τ 3) fun a3_ =>
  bV q (τ 5) fun a5_ =>
  bV q (τ 6) fun a6_ =>
  bV q (τ 7) fun a7_ =>
  bP (bn Q q .lss 3 (.tmp 28) (.const (.int .i64 2)) a7_ (.int .i64 2)) fun x0 =>
  ifV x0 (
  bP (ias Q q 65 1 a6_ a7_) fun x1 =>
  bP (ld Q q 57 x1 G) fun x2 =>
  bS (e.ev.cl 14 [x2] G) fun x3 G4 =>
  bP (pExtract x3 0) fun x5 =>
  bP (pExtract x3 1) fun x6 =>
  bP (ias Q q 56 1 a5_ a7_) fun x7 =>
  bP (ld Q q 52 x7 G4) fun x8 =>
  bS (e.ev.cl 15 [x8, a3_] G4) fun x9 G10 =>
  bP (un Q q .not x9) fun x11 =>
  bS (gd x11 false (some (a6_, G10)) G10) fun x12 G13 =>
  bS (gd x11 false (some (a7_, G13)) G13) fun x14 G15 =>
  bS (gd x11 false (bP (ias Q q 65 1 x12 x14) fun y => some (y, G15)) G15) fun x16 G17 =>
  bS (gd x11 false (bP (ld Q q 57 x16 G17) fun y => some (y, G17)) G17) fun x18 G19 =>
  bS (gd x11 false (some (a3_, G19)) G19) fun x20 G21 =>
  bS (gd x11 false (bS (e.ev.cl 16 [x18, x20] G21) fun y G => some (y, G)) G21) fun x22 G23 =>
  bS (gd x11 false (bP (un Q q .not x22) fun y => some (y, G23)) G23) fun x24 G25 =>
  bP (pickV x11 (.bool true) x24) fun x26 =>
  bS (gd x26 false (some (a5_, G25)) G25) fun x27 G28 =>
  bS (gd x26 false (some (a7_, G28)) G28) fun x29 G30 =>
  bS (gd x26 false (bP (ias Q q 56 1 x27 x29) fun y => some (y, G30)) G30) fun x31 G32 =>
  bS (gd x26 false (bP (ld Q q 52 x31 G32) fun y => some (y, G32)) G32) fun x33 G34 =>
  bS (gd x26 false (bS (e.ev.cl 17 [x33] G34) fun y G => some (y, G)) G34) fun x35 G36 =>
  bS (gd x26 false (bP (bn Q q .neq 23 (.tmp 61) (.const (.int .i64 1)) x35 (.int .i64 1)) fun y => some (y, G36)) G36) fun x37 G38 =>
  bP (pickV x26 (.bool true) x37) fun x39 =>
  bS (gd x39 false (some (x5, G38)) G38) fun x40 G41 =>
  bS (gd x39 false (bP (ln Q q 62 x40) fun y => some (y, G41)) G41) fun x42 G43 =>
  bS (gd x39 false (bP (bn Q q .neq 3 (.tmp 66) (.const (.int .i64 0)) x42 (.int .i64 0)) fun y => some (y, G43)) G43) fun x44 G45 =>
  bP (pickV x39 (.bool true) x44) fun x46 =>
  bS (gd x46 false (some (x6, G45)) G45) fun x47 G48 =>
  bS (gd x46 false (bP (bn Q q .neq 23 (.tmp 70) (.const (.int .i64 1)) x47 (.int .i64 1)) fun y => some (y, G48)) G48) fun x49 G50 =>
  bP (pickV x46 (.bool true) x49) fun x51 =>
  ifV x51 (
  some (.ret, clq q 114 (tu τ [(3, a3_), (5, a5_), (6, a6_), (7, a7_), (2, (.bool false)), (8, x5), (9, x6), (28, a7_), (29, x0), (32, x3), (33, a6_), (34, a7_), (35, x1), (36, x2), (37, x3), (38, x5), (39, x6), (40, a5_), (41, a7_), (42, x7), (43, x8), (44, a3_), (45, x9), (46, x11), (47, x11), (48, x12), (49, x14), (50, x16), (51, x18), (52, x20), (53, x22), (54, x24), (55, x26), (56, x26), (57, x27), (58, x29), (59, x31), (60, x33), (61, x35), (62, x37), (63, x39), (64, x39), (65, x40), (66, x42), (67, x44), (68, x46), (69, x46), (70, x47), (71, x49), (72, x51)]), G50)) (
  bP (bn Q q .add 3 (.tmp 30) (.const (.int .i64 1)) a7_ (.int .i64 1)) fun x52 =>
  lp (tu τ [(3, a3_), (5, a5_), (6, a6_), (7, x52), (8, x5), (9, x6), (28, a7_), (29, x0), (30, a7_), (31, x52), (32, x3), (33, a6_), (34, a7_), (35, x1), (36, x2), (37, x3), (38, x5), (39, x6), (40, a5_), (41, a7_), (42, x7), (43, x8), (44, a3_), (45, x9), (46, x11), (47, x11), (48, x12), (49, x14), (50, x16), (51, x18), (52, x20), (53, x22), (54, x24), (55, x26), (56, x26), (57, x27), (58, x29), (59, x31), (60, x33), (61, x35), (62, x37), (63, x39), (64, x39), (65, x40), (66, x42), (67, x44), (68, x46), (69, x46), (70, x47), (71, x49), (72, x51)]) G50)) (
  some ((.exit 0), clq q 114 (tu τ [(3, a3_), (5, a5_), (6, a6_), (7, a7_), (28, a7_), (29, x0)]), G))
theorem mb4_0 {e : Ex} {E : Ev} (h : ExLe Q e E) {lp lp' : Env → GS → Option (Exit × Env × GS)} (hlp : LpLe lp lp') (τ : Env) (G : GS) : Ref (b4_0 true e lp τ G) (b4_0 false (Ex.of E) lp' τ G) := by
  unfold b4_0
  exact Ref.go
set_option maxHeartbeats 8000000 in
theorem l4_0 {orc : FuncId → Bool} {e : Ex} (h : ExLe Q e (E orc)) (lp : Env → GS → Option (Exit × Env × GS)) (hlp : ∀ τ G, Ref (lp τ G) (mapE ((E orc).lp (subAt [1, 1, 1, 1, 0, 1, 0, 0] (bodyOf Try.f4)) (lst 114 τ) G))) (T : List Value) (G : GS) (hT : T.length = 114) : Ref (b4_0 true e lp (nth undef T) G) (mapE ((E orc).lp (subAt [1, 1, 1, 1, 0, 1, 0, 0] (bodyOf Try.f4)) T G)) :=
  fun r hr => lp_sxM Q orc G hT (by kernel_rfl) (mb4_0 h ⟨hlp⟩ _ _ r hr)
/-- coxswain/coxswainlaw25.MailNone -/
noncomputable def s4 (q : Bool) (e : Ex) (v0 : Value) (G : GS) : Option (Value × GS) :=
  bS (e.ev.cl 5 [(.int .i64 9)] G) fun x0 G1 =>
  bP (pExtract x0 0) fun x2 =>
  bP (pExtract x0 1) fun x3 =>
  bP (bn Q q .neq 23 (.tmp 16) (.const (.int .i64 0)) x3 (.int .i64 0)) fun x4 =>
  bS (gd x4 false (some (x2, G1)) G1) fun x5 G6 =>
  bS (gd x4 false (bP (ep Q q false 22 (.tmp 19) (.const (.pointer none)) x5 (.pointer none)) fun y => some (y, G6)) G6) fun x7 G8 =>
  bP (pickV x4 (.bool true) x7) fun x9 =>
  ifV x9 (
  some ((.bool false), G8)) (
  bP (bd Q q 55 z55 [] []) fun x10 =>
  bS (bx q x10 G8) fun x11 G12 =>
  bS (bs Q q 56 2 (rep z52 2) 1 [(0, 0, 1), (1, 1, 1)] [(.pointer none), x11] G12) fun x13 G14 =>
  bP (bd Q q 64 z64 [] []) fun x15 =>
  bS (bx q x15 G14) fun x16 G17 =>
  bS (bs Q q 65 2 (rep z57 2) 1 [(0, 0, 1), (1, 1, 1)] [(.pointer none), x16] G17) fun x18 G19 =>
  bL q e 4 0 (subAt [1, 1, 1, 1, 0, 1, 0, 0] (bodyOf Try.f4)) 114 (tu (nth undef [v0]) [(2, (.bool false)), (3, x2), (4, x3), (5, x13), (6, x18), (7, (.int .i64 0)), (12, x0), (13, x0), (14, x2), (15, x3), (16, x3), (17, x4), (18, x4), (19, x5), (20, x7), (21, x9), (22, x10), (23, x11), (24, x13), (25, x15), (26, x16), (27, x18)]) G19 fun e20 t21 G22 =>
  bV q (t21 0) fun t21x0_ =>
  bV q (t21 2) fun t21x2_ =>
  bV q (t21 3) fun t21x3_ =>
  ifE e20 (.exit 0) (
  bS (e.ev.cl 19 [] G22) fun x23 G24 =>
  bS (e.ev.cl 11 [t21x0_, (.int .i64 9)] G24) fun x25 G26 =>
  bP (bn Q q .add 3 (.const (.int .i64 2)) (.tmp 75) (.int .i64 2) x25) fun x27 =>
  bS (e.ev.cl 18 [x23, x27, (.int .i64 1)] G26) fun x28 G29 =>
  bS (e.ev.cl 19 [] G29) fun x30 G31 =>
  bS (al Q q 70 z70 G31) fun x32 G33 =>
  bP (st Q q 70 3 x32 x30 G33) fun G34 =>
  bS (e.ev.cl 11 [t21x0_, (.int .i64 9)] G34) fun x35 G36 =>
  bP (bn Q q .add 3 (.const (.int .i64 17)) (.tmp 80) (.int .i64 17) x35) fun x37 =>
  bP (fa Q q 70 2 2 x32) fun x38 =>
  bP (st Q q 3 1 x38 x37 G36) fun G39 =>
  bP (lda Q q 70 3 x32 G39) fun x40 =>
  bS (e.ev.cl 20 [x40, t21x3_] G39) fun x41 G42 =>
  bS (e.ev.cl 19 [] G42) fun x43 G44 =>
  bS (e.ev.cl 20 [x43, (.pointer none)] G44) fun x45 G46 =>
  bS (e.ev.cl 15 [x28, t21x3_] G46) fun x47 G48 =>
  bS (gd x47 true (some (x28, G48)) G48) fun x49 G50 =>
  bS (gd x47 true (bS (e.ev.cl 17 [x49] G50) fun y G => some (y, G)) G50) fun x51 G52 =>
  bS (gd x47 true (bP (bn Q q .eql 23 (.tmp 93) (.const (.int .i64 3)) x51 (.int .i64 3)) fun y => some (y, G52)) G52) fun x53 G54 =>
  bP (pickV x47 x53 (.bool false)) fun x55 =>
  bS (gd x55 true (bS (e.ev.cl 19 [] G54) fun y G => some (y, G)) G54) fun x56 G57 =>
  bS (gd x55 true (bS (e.ev.cl 21 [x56, (.int .i64 1), (.pointer none)] G57) fun y G => some (y, G)) G57) fun x58 G59 =>
  bS (gd x55 true (bP (ln Q q 62 x58) fun y => some (y, G59)) G59) fun x60 G61 =>
  bS (gd x55 true (bP (bn Q q .eql 3 (.tmp 99) (.const (.int .i64 0)) x60 (.int .i64 0)) fun y => some (y, G61)) G61) fun x62 G63 =>
  bP (pickV x55 x62 (.bool false)) fun x64 =>
  bS (gd x64 true (bS (e.ev.cl 19 [] G63) fun y G => some (y, G)) G63) fun x65 G66 =>
  bS (gd x64 true (bS (e.ev.cl 22 [x65, (.pointer none)] G66) fun y G => some (y, G)) G66) fun x67 G68 =>
  bP (pickV x64 x67 (.bool false)) fun x69 =>
  bS (gd x69 true (some (t21x3_, G68)) G68) fun x70 G71 =>
  bS (gd x69 true (bS (e.ev.cl 12 [x70] G71) fun y G => some (y, G)) G71) fun x72 G73 =>
  bS (gd x69 true (bP (bn Q q .eql 3 (.tmp 108) (.const (.int .i64 0)) x72 (.int .i64 0)) fun y => some (y, G73)) G73) fun x74 G75 =>
  bP (pickV x69 x74 (.bool false)) fun x76 =>
  bS (gd x76 true (bS (e.ev.cl 23 [] G75) fun y G => some (y, G)) G75) fun x77 G78 =>
  bP (pickV x76 x77 (.bool false)) fun x79 =>
  some (x79, G78)) (ifE e20 .ret (
  some (t21x2_, G22)) (none)))
theorem m4 {e : Ex} {E : Ev} (h : ExLe Q e E) (v0 : Value) (G : GS) : Ref (s4 true e v0 G) (s4 false (Ex.of E) v0 G) := by
  unfold s4
  exact Ref.go
set_option maxHeartbeats 8000000 in
theorem f4 {orc : FuncId → Bool} {e : Ex} (h : ExLe Q e (E orc)) (v0 : Value) (G : GS) : Ref (s4 true e v0 G) ((E orc).cl 4 [v0] G) :=
  fun r hr => cl_sxE_some Q orc (vs := [v0]) G Try.func4 (by kernel_rfl) (by kernel_rfl) (by kernel_rfl) (by kernel_rfl) (by kernel_rfl) (m4 h v0 G r hr)
/-- coxswain/cells.New -/
noncomputable def s5 (q : Bool) (e : Ex) (v0 : Value) (G : GS) : Option (Value × GS) :=
  bP (bn Q q .lss 3 (.tmp 4) (.const (.int .i64 1)) v0 (.int .i64 1)) fun x0 =>
  bS (gd x0 false (some (v0, G)) G) fun x1 G2 =>
  bS (gd x0 false (bP (bn Q q .gtr 3 (.tmp 7) (.const (.int .i64 4096)) x1 (.int .i64 4096)) fun y => some (y, G2)) G2) fun x3 G4 =>
  bP (pickV x0 (.bool true) x3) fun x5 =>
  ifV x5 (
  some (.tuple #[(.pointer none), (.int .i64 3)], G4)) (
  bS (al Q q 78 z78 G4) fun x6 G7 =>
  bP (bd Q q 82 z82 [(0, 0, 1), (1, 1, 1)] [x6, v0]) fun x8 =>
  bS (bx q x8 G7) fun x9 G10 =>
  some (.tuple #[x9, (.int .i64 0)], G10))
theorem m5 {e : Ex} {E : Ev} (h : ExLe Q e E) (v0 : Value) (G : GS) : Ref (s5 true e v0 G) (s5 false (Ex.of E) v0 G) := by
  unfold s5
  exact Ref.go
theorem f5 {orc : FuncId → Bool} {e : Ex} (h : ExLe Q e (E orc)) (v0 : Value) (G : GS) : Ref (s5 true e v0 G) ((E orc).cl 5 [v0] G) :=
  fun r hr => cl_sxE_some Q orc (vs := [v0]) G Try.func5 (by kernel_rfl) (by kernel_rfl) (by kernel_rfl) (by kernel_rfl) (by kernel_rfl) (m5 h v0 G r hr)
/-- (*coxswain/arena.Alloc).Step -/
noncomputable def s7 (q : Bool) (e : Ex) (v0 v1 : Value) (G : GS) : Option (Value × GS) :=
  bP (ep Q q false 26 (.tmp 5) (.const (.pointer none)) v0 (.pointer none)) fun x0 =>
  bS (gd x0 false (some (v0, G)) G) fun x1 G2 =>
  bS (gd x0 false (bP (pNil x1) fun y => some (y, G2)) G2) fun x3 G4 =>
  bS (gd x0 false (bP (fa Q q 35 3 8 x3) fun y => some (y, G4)) G4) fun x5 G6 =>
  bS (gd x0 false (bP (ld Q q 32 x5 G6) fun y => some (y, G6)) G6) fun x7 G8 =>
  bS (gd x0 false (bP (ef Q q false 32 (.tmp 11) (.const .nilFunc) x7 .nilFunc) fun y => some (y, G8)) G8) fun x9 G10 =>
  bP (pickV x0 (.bool true) x9) fun x11 =>
  ifV x11 (
  some ((.bool true), G10)) (
  bP (pNil v0) fun x12 =>
  bP (fa Q q 35 3 8 x12) fun x13 =>
  bP (ld Q q 32 x13 G10) fun x14 =>
  bS (cValue e.ev x14 [v0, v1] G10) fun x15 G16 =>
  bP (pNil v0) fun x17 =>
  bP (fa Q q 35 3 8 x17) fun x18 =>
  bP (ld Q q 32 x18 G16) fun x19 =>
  bP (ef Q q false 32 (.tmp 24) (.const .nilFunc) x19 .nilFunc) fun x20 =>
  some (x20, G16))
theorem m7 {e : Ex} {E : Ev} (h : ExLe Q e E) (v0 v1 : Value) (G : GS) : Ref (s7 true e v0 v1 G) (s7 false (Ex.of E) v0 v1 G) := by
  unfold s7
  exact Ref.go
theorem f7 {orc : FuncId → Bool} {e : Ex} (h : ExLe Q e (E orc)) (v0 v1 : Value) (G : GS) : Ref (s7 true e v0 v1 G) ((E orc).cl 7 [v0, v1] G) :=
  fun r hr => cl_sxE_some Q orc (vs := [v0, v1]) G Try.func7 (by kernel_rfl) (by kernel_rfl) (by kernel_rfl) (by kernel_rfl) (by kernel_rfl) (m7 h v0 v1 G r hr)
/-- (*coxswain/arena.Free).Step -/
noncomputable def s8 (q : Bool) (e : Ex) (v0 v1 : Value) (G : GS) : Option (Value × GS) :=
  bP (ep Q q false 37 (.tmp 5) (.const (.pointer none)) v0 (.pointer none)) fun x0 =>
  bS (gd x0 false (some (v0, G)) G) fun x1 G2 =>
  bS (gd x0 false (bP (pNil x1) fun y => some (y, G2)) G2) fun x3 G4 =>
  bS (gd x0 false (bP (fa Q q 41 3 8 x3) fun y => some (y, G4)) G4) fun x5 G6 =>
  bS (gd x0 false (bP (ld Q q 39 x5 G6) fun y => some (y, G6)) G6) fun x7 G8 =>
  bS (gd x0 false (bP (ef Q q false 39 (.tmp 11) (.const .nilFunc) x7 .nilFunc) fun y => some (y, G8)) G8) fun x9 G10 =>
  bP (pickV x0 (.bool true) x9) fun x11 =>
  ifV x11 (
  some ((.bool true), G10)) (
  bP (pNil v0) fun x12 =>
  bP (fa Q q 41 3 8 x12) fun x13 =>
  bP (ld Q q 39 x13 G10) fun x14 =>
  bS (cValue e.ev x14 [v0, v1] G10) fun x15 G16 =>
  bP (pNil v0) fun x17 =>
  bP (fa Q q 41 3 8 x17) fun x18 =>
  bP (ld Q q 39 x18 G16) fun x19 =>
  bP (ef Q q false 39 (.tmp 24) (.const .nilFunc) x19 .nilFunc) fun x20 =>
  some (x20, G16))
theorem m8 {e : Ex} {E : Ev} (h : ExLe Q e E) (v0 v1 : Value) (G : GS) : Ref (s8 true e v0 v1 G) (s8 false (Ex.of E) v0 v1 G) := by
  unfold s8
  exact Ref.go
theorem f8 {orc : FuncId → Bool} {e : Ex} (h : ExLe Q e (E orc)) (v0 v1 : Value) (G : GS) : Ref (s8 true e v0 v1 G) ((E orc).cl 8 [v0, v1] G) :=
  fun r hr => cl_sxE_some Q orc (vs := [v0, v1]) G Try.func8 (by kernel_rfl) (by kernel_rfl) (by kernel_rfl) (by kernel_rfl) (by kernel_rfl) (m8 h v0 v1 G r hr)
/-- coxswain/coxswainkit.Pick -/
noncomputable def s11 (q : Bool) (e : Ex) (v0 v1 : Value) (G : GS) : Option (Value × GS) :=
  bP (bn Q q .leq 3 (.tmp 5) (.const (.int .i64 0)) v1 (.int .i64 0)) fun x0 =>
  ifV x0 (
  some ((.int .i64 0), G)) (
  bP (bn Q q .rem 3 (.tmp 7) (.tmp 8) v0 v1) fun x1 =>
  bP (bn Q q .lss 3 (.tmp 10) (.const (.int .i64 0)) x1 (.int .i64 0)) fun x2 =>
  ifV x2 (
  bP (bn Q q .add 3 (.tmp 12) (.tmp 13) x1 v1) fun x3 =>
  some (x3, G)) (
  some (x1, G)))
theorem m11 {e : Ex} {E : Ev} (h : ExLe Q e E) (v0 v1 : Value) (G : GS) : Ref (s11 true e v0 v1 G) (s11 false (Ex.of E) v0 v1 G) := by
  unfold s11
  exact Ref.go
theorem f11 {orc : FuncId → Bool} {e : Ex} (h : ExLe Q e (E orc)) (v0 v1 : Value) (G : GS) : Ref (s11 true e v0 v1 G) ((E orc).cl 11 [v0, v1] G) :=
  fun r hr => cl_sxE_some Q orc (vs := [v0, v1]) G Try.func11 (by kernel_rfl) (by kernel_rfl) (by kernel_rfl) (by kernel_rfl) (by kernel_rfl) (m11 h v0 v1 G r hr)
/-- (*coxswain/cells.Mem).Count -/
noncomputable def s12 (q : Bool) (e : Ex) (v0 : Value) (G : GS) : Option (Value × GS) :=
  bP (ep Q q false 22 (.tmp 3) (.const (.pointer none)) v0 (.pointer none)) fun x0 =>
  ifV x0 (
  some ((.int .i64 0), G)) (
  bP (pNil v0) fun x1 =>
  bP (fa Q q 82 3 7 x1) fun x2 =>
  bP (ld Q q 3 x2 G) fun x3 =>
  some (x3, G))
theorem m12 {e : Ex} {E : Ev} (h : ExLe Q e E) (v0 : Value) (G : GS) : Ref (s12 true e v0 G) (s12 false (Ex.of E) v0 G) := by
  unfold s12
  exact Ref.go
theorem f12 {orc : FuncId → Bool} {e : Ex} (h : ExLe Q e (E orc)) (v0 : Value) (G : GS) : Ref (s12 true e v0 G) ((E orc).cl 12 [v0] G) :=
  fun r hr => cl_sxE_some Q orc (vs := [v0]) G Try.func12 (by kernel_rfl) (by kernel_rfl) (by kernel_rfl) (by kernel_rfl) (by kernel_rfl) (m12 h v0 G r hr)
/-- (*coxswain/mail.Drain).Values -/
noncomputable def s14 (q : Bool) (e : Ex) (v0 : Value) (G : GS) : Option (Value × GS) :=
  bP (ep Q q false 57 (.tmp 5) (.const (.pointer none)) v0 (.pointer none)) fun x0 =>
  bS (gd x0 false (some (v0, G)) G) fun x1 G2 =>
  bS (gd x0 false (bP (pNil x1) fun y => some (y, G2)) G2) fun x3 G4 =>
  bS (gd x0 false (bP (fa Q q 64 0 0 x3) fun y => some (y, G4)) G4) fun x5 G6 =>
  bS (gd x0 false (bP (ld Q q 4 x5 G6) fun y => some (y, G6)) G6) fun x7 G8 =>
  bS (gd x0 false (bP (un Q q .not x7) fun y => some (y, G8)) G8) fun x9 G10 =>
  bP (pickV x0 (.bool true) x9) fun x11 =>
  ifV x11 (
  some (.tuple #[(.slice none 0 0), (.int .i64 1)], G10)) (
  bP (pNil v0) fun x12 =>
  bP (fa Q q 64 3 6 x12) fun x13 =>
  bP (ld Q q 61 x13 G10) fun x14 =>
  bP (bn Q q .neq 61 (.tmp 18) (.const .nilIface) x14 .nilIface) fun x15 =>
  ifV x15 (
  some (.tuple #[(.slice none 0 0), (.int .i64 14)], G10)) (
  bP (pNil v0) fun x16 =>
  bP (fa Q q 64 6 9 x16) fun x17 =>
  bP (ld Q q 23 x17 G10) fun x18 =>
  bP (bn Q q .neq 23 (.tmp 24) (.const (.int .i64 0)) x18 (.int .i64 0)) fun x19 =>
  ifV x19 (
  bP (pNil v0) fun x20 =>
  bP (fa Q q 64 6 9 x20) fun x21 =>
  bP (ld Q q 23 x21 (G10.room 6)) fun x22 =>
  some (.tuple #[(.slice none 0 0), x22], (G10.room 6))) (
  bP (pNil v0) fun x23 =>
  bP (fa Q q 64 4 7 x23) fun x24 =>
  bP (ld Q q 62 x24 G10) fun x25 =>
  bS (e.ev.cl 32 [x25] G10) fun x26 G27 =>
  some (.tuple #[x26, (.int .i64 0)], G27))))
theorem m14 {e : Ex} {E : Ev} (h : ExLe Q e E) (v0 : Value) (G : GS) : Ref (s14 true e v0 G) (s14 false (Ex.of E) v0 G) := by
  unfold s14
  exact Ref.go
theorem f14 {orc : FuncId → Bool} {e : Ex} (h : ExLe Q e (E orc)) (v0 : Value) (G : GS) : Ref (s14 true e v0 G) ((E orc).cl 14 [v0] G) :=
  fun r hr => cl_sxE_some Q orc (vs := [v0]) G Try.func14 (by kernel_rfl) (by kernel_rfl) (by kernel_rfl) (by kernel_rfl) (by kernel_rfl) (m14 h v0 G r hr)
/-- (*coxswain/mail.Send).Step -/
noncomputable def s15 (q : Bool) (e : Ex) (v0 v1 : Value) (G : GS) : Option (Value × GS) :=
  bP (ep Q q false 52 (.tmp 6) (.const (.pointer none)) v0 (.pointer none)) fun x0 =>
  bS (gd x0 false (some (v0, G)) G) fun x1 G2 =>
  bS (gd x0 false (bP (pNil x1) fun y => some (y, G2)) G2) fun x3 G4 =>
  bS (gd x0 false (bP (fa Q q 55 1 1 x3) fun y => some (y, G4)) G4) fun x5 G6 =>
  bS (gd x0 false (bP (ld Q q 53 x5 G6) fun y => some (y, G6)) G6) fun x7 G8 =>
  bS (gd x0 false (bP (ep Q q false 53 (.tmp 12) (.const (.pointer none)) x7 (.pointer none)) fun y => some (y, G8)) G8) fun x9 G10 =>
  bP (pickV x0 (.bool true) x9) fun x11 =>
  ifV x11 (
  some ((.bool true), G10)) (
  bP (pNil v0) fun x12 =>
  bP (fa Q q 55 1 1 x12) fun x13 =>
  bP (ld Q q 53 x13 G10) fun x14 =>
  bS (e.ev.cl 33 [x14, v1] G10) fun x15 G16 =>
  ifV x15 (
  bP (pNil v0) fun x17 =>
  bP (fa Q q 55 1 1 x17) fun x18 =>
  bP (ld Q q 53 x18 G16) fun x19 =>
  bS (e.ev.cl 34 [x19] G16) fun x20 G21 =>
  bP (pNil v0) fun x22 =>
  bP (fa Q q 55 2 2 x22) fun x23 =>
  bP (st Q q 23 1 x23 x20 G21) fun G24 =>
  bP (pNil v0) fun x25 =>
  bP (fa Q q 55 1 1 x25) fun x26 =>
  bP (st Q q 53 1 x26 (.pointer none) G24) fun G27 =>
  some (x15, G27)) (
  some (x15, G16)))
theorem m15 {e : Ex} {E : Ev} (h : ExLe Q e E) (v0 v1 : Value) (G : GS) : Ref (s15 true e v0 v1 G) (s15 false (Ex.of E) v0 v1 G) := by
  unfold s15
  exact Ref.go
theorem f15 {orc : FuncId → Bool} {e : Ex} (h : ExLe Q e (E orc)) (v0 v1 : Value) (G : GS) : Ref (s15 true e v0 v1 G) ((E orc).cl 15 [v0, v1] G) :=
  fun r hr => cl_sxE_some Q orc (vs := [v0, v1]) G Try.func15 (by kernel_rfl) (by kernel_rfl) (by kernel_rfl) (by kernel_rfl) (by kernel_rfl) (m15 h v0 v1 G r hr)
/-- (*coxswain/mail.Drain).Step -/
noncomputable def s16 (q : Bool) (e : Ex) (v0 v1 : Value) (G : GS) : Option (Value × GS) :=
  bP (ep Q q false 57 (.tmp 9) (.const (.pointer none)) v0 (.pointer none)) fun x0 =>
  bS (gd x0 false (some (v0, G)) G) fun x1 G2 =>
  bS (gd x0 false (bP (pNil x1) fun y => some (y, G2)) G2) fun x3 G4 =>
  bS (gd x0 false (bP (fa Q q 64 3 6 x3) fun y => some (y, G4)) G4) fun x5 G6 =>
  bS (gd x0 false (bP (ld Q q 61 x5 G6) fun y => some (y, G6)) G6) fun x7 G8 =>
  bS (gd x0 false (bP (bn Q q .eql 61 (.tmp 15) (.const .nilIface) x7 .nilIface) fun y => some (y, G8)) G8) fun x9 G10 =>
  bP (pickV x0 (.bool true) x9) fun x11 =>
  ifV x11 (
  some ((.bool true), G10)) (
  bP (pNil v0) fun x12 =>
  bP (fa Q q 64 3 6 x12) fun x13 =>
  bP (ld Q q 61 x13 G10) fun x14 =>
  bS (cInvoke Q e.ev x14 "Step" [v1] G10) fun x15 G16 =>
  bP (un Q q .not x15) fun x17 =>
  ifV x17 (
  some ((.bool false), G16)) (
  bP (pNil v0) fun x18 =>
  bP (fa Q q 64 3 6 x18) fun x19 =>
  bP (ld Q q 61 x19 G16) fun x20 =>
  bP (gAssert Q x20 92 true) fun x21 =>
  bP (pExtract x21 1) fun x22 =>
  bP (pExtract x21 0) fun x23 =>
  ifV x22 (
  bS (e.ev.cl 35 [x23] G16) fun x24 G25 =>
  bP (pExtract x24 0) fun x26 =>
  bP (pExtract x24 1) fun x27 =>
  bP (pNil v0) fun x28 =>
  bP (fa Q q 64 5 8 x28) fun x29 =>
  bP (st Q q 3 1 x29 x26 G25) fun G30 =>
  bP (pNil v0) fun x31 =>
  bP (fa Q q 64 3 6 x31) fun x32 =>
  bP (st Q q 61 1 x32 .nilIface G30) fun G33 =>
  bP (bn Q q .eql 23 (.tmp 44) (.const (.int .i64 0)) x27 (.int .i64 0)) fun x34 =>
  ifV x34 (
  bP (pNil v0) fun x35 =>
  bP (fa Q q 64 1 1 x35) fun x36 =>
  bP (lda Q q 59 4 x36 (G33.room 12)) fun x37 =>
  bS (e.ev.cl 37 [x23] (G33.room 12)) fun x39 G38 =>
  chk ((sameO (lda Q q 59 4 x36 G38) x37 && true)) <|
  bS (e.ev.cl 36 [x37, x39] G38) fun x41 G40 =>
  bP (ifc Q q 95 x41) fun x42 =>
  bP (pNil v0) fun x43 =>
  bP (fa Q q 64 3 6 x43) fun x44 =>
  bP (st Q q 61 1 x44 x42 G40) fun G45 =>
  bP (pNil v0) fun x46 =>
  bP (fa Q q 64 3 6 x46) fun x47 =>
  bP (ld Q q 61 x47 G45) fun x48 =>
  bP (bn Q q .eql 61 (.tmp 98) (.const .nilIface) x48 .nilIface) fun x49 =>
  some (x49, G45)) (
  bP (pNil v0) fun x50 =>
  bP (fa Q q 64 3 6 x50) fun x51 =>
  bP (ld Q q 61 x51 G33) fun x52 =>
  bP (bn Q q .eql 61 (.tmp 98) (.const .nilIface) x52 .nilIface) fun x53 =>
  some (x53, G33))) (
  bP (gAssert Q x20 95 true) fun x54 =>
  bP (pExtract x54 1) fun x55 =>
  bP (pExtract x54 0) fun x56 =>
  ifV x55 (
  bP (pNil v0) fun x57 =>
  bP (fa Q q 64 4 7 x57) fun x58 =>
  bP (ld Q q 62 x58 (G16.room 18)) fun x59 =>
  bP (pNil v0) fun x60 =>
  bP (fa Q q 64 5 8 x60) fun x61 =>
  bP (ld Q q 3 x61 (G16.room 18)) fun x62 =>
  bS (bs Q q 62 1 (rep z3 1) 1 [(0, 0, 1)] [x62] ((G16.room 18).at' (G16.nx + 10))) fun x63 G64 =>
  bS (ap Q q 62 62 1 8 x59 x63 (G64.back (G16.room 18))) fun x66 G65 =>
  bP (pNil v0) fun x67 =>
  bP (fa Q q 64 4 7 x67) fun x68 =>
  bP (st Q q 62 1 x68 x66 G65) fun G69 =>
  bP (pNil v0) fun x70 =>
  bP (fa Q q 64 3 6 x70) fun x71 =>
  bP (st Q q 61 1 x71 .nilIface G69) fun G72 =>
  bP (pNil v0) fun x73 =>
  bP (fa Q q 64 4 7 x73) fun x74 =>
  bP (ld Q q 62 x74 (G72.room 10)) fun x75 =>
  bP (ln Q q 62 x75) fun x76 =>
  bP (pNil v0) fun x77 =>
  bP (fa Q q 64 2 5 x77) fun x78 =>
  bP (ld Q q 3 x78 (G72.room 10)) fun x79 =>
  bP (bn Q q .lss 3 (.tmp 80) (.tmp 84) x76 x79) fun x80 =>
  ifV x80 (
  bP (pNil v0) fun x81 =>
  bP (fa Q q 64 1 1 x81) fun x82 =>
  bP (lda Q q 59 4 x82 (G72.room 10)) fun x83 =>
  bS (e.ev.cl 38 [x83] (G72.room 10)) fun x84 G85 =>
  bP (ifc Q q 92 x84) fun x86 =>
  bP (pNil v0) fun x87 =>
  bP (fa Q q 64 3 6 x87) fun x88 =>
  bP (st Q q 61 1 x88 x86 G85) fun G89 =>
  bP (pNil v0) fun x90 =>
  bP (fa Q q 64 3 6 x90) fun x91 =>
  bP (ld Q q 61 x91 G89) fun x92 =>
  bP (bn Q q .eql 61 (.tmp 98) (.const .nilIface) x92 .nilIface) fun x93 =>
  some (x93, G89)) (
  bP (pNil v0) fun x94 =>
  bP (fa Q q 64 3 6 x94) fun x95 =>
  bP (ld Q q 61 x95 (G72.room 10)) fun x96 =>
  bP (bn Q q .eql 61 (.tmp 98) (.const .nilIface) x96 .nilIface) fun x97 =>
  some (x97, (G72.room 10)))) (
  bP (pNil v0) fun x98 =>
  bP (fa Q q 64 3 6 x98) fun x99 =>
  bP (ld Q q 61 x99 G16) fun x100 =>
  bP (bn Q q .eql 61 (.tmp 98) (.const .nilIface) x100 .nilIface) fun x101 =>
  some (x101, G16)))))
theorem m16 {e : Ex} {E : Ev} (h : ExLe Q e E) (v0 v1 : Value) (G : GS) : Ref (s16 true e v0 v1 G) (s16 false (Ex.of E) v0 v1 G) := by
  unfold s16
  exact Ref.go
set_option maxHeartbeats 8000000 in
theorem f16 {orc : FuncId → Bool} {e : Ex} (h : ExLe Q e (E orc)) (v0 v1 : Value) (G : GS) : Ref (s16 true e v0 v1 G) ((E orc).cl 16 [v0, v1] G) :=
  fun r hr => cl_sxE_some Q orc (vs := [v0, v1]) G Try.func16 (by kernel_rfl) (by kernel_rfl) (by kernel_rfl) (by kernel_rfl) (by kernel_rfl) (m16 h v0 v1 G r hr)
/-- (*coxswain/mail.Send).Err -/
noncomputable def s17 (q : Bool) (e : Ex) (v0 : Value) (G : GS) : Option (Value × GS) :=
  bP (ep Q q false 52 (.tmp 4) (.const (.pointer none)) v0 (.pointer none)) fun x0 =>
  bS (gd x0 false (some (v0, G)) G) fun x1 G2 =>
  bS (gd x0 false (bP (pNil x1) fun y => some (y, G2)) G2) fun x3 G4 =>
  bS (gd x0 false (bP (fa Q q 55 0 0 x3) fun y => some (y, G4)) G4) fun x5 G6 =>
  bS (gd x0 false (bP (ld Q q 4 x5 G6) fun y => some (y, G6)) G6) fun x7 G8 =>
  bS (gd x0 false (bP (un Q q .not x7) fun y => some (y, G8)) G8) fun x9 G10 =>
  bP (pickV x0 (.bool true) x9) fun x11 =>
  ifV x11 (
  some ((.int .i64 1), G10)) (
  bP (pNil v0) fun x12 =>
  bP (fa Q q 55 1 1 x12) fun x13 =>
  bP (ld Q q 53 x13 G10) fun x14 =>
  bP (ep Q q true 53 (.tmp 17) (.const (.pointer none)) x14 (.pointer none)) fun x15 =>
  ifV x15 (
  some ((.int .i64 14), G10)) (
  bP (pNil v0) fun x16 =>
  bP (fa Q q 55 2 2 x16) fun x17 =>
  bP (ld Q q 23 x17 G10) fun x18 =>
  some (x18, G10)))
theorem m17 {e : Ex} {E : Ev} (h : ExLe Q e E) (v0 : Value) (G : GS) : Ref (s17 true e v0 G) (s17 false (Ex.of E) v0 G) := by
  unfold s17
  exact Ref.go
theorem f17 {orc : FuncId → Bool} {e : Ex} (h : ExLe Q e (E orc)) (v0 : Value) (G : GS) : Ref (s17 true e v0 G) ((E orc).cl 17 [v0] G) :=
  fun r hr => cl_sxE_some Q orc (vs := [v0]) G Try.func17 (by kernel_rfl) (by kernel_rfl) (by kernel_rfl) (by kernel_rfl) (by kernel_rfl) (m17 h v0 G r hr)
/-- coxswain/mail.NewSend -/
noncomputable def s18 (q : Bool) (e : Ex) (v0 v1 v2 : Value) (G : GS) : Option (Value × GS) :=
  bS (bx q v0 G) fun x0 G1 =>
  bP (lda Q q 70 3 x0 G1) fun x2 =>
  bS (e.ev.cl 39 [x2, v1] G1) fun x3 G4 =>
  bP (bd Q q 55 z55 [(0, 0, 1), (2, 2, 1)] [(.bool true), x3]) fun x5 =>
  bS (bx q x5 G4) fun x6 G7 =>
  bP (pNil x6) fun x8 =>
  bP (fa Q q 55 2 2 x8) fun x9 =>
  bP (ld Q q 23 x9 G7) fun x10 =>
  bP (bn Q q .eql 23 (.tmp 18) (.const (.int .i64 0)) x10 (.int .i64 0)) fun x11 =>
  bS (gd x11 true (some (v2, G7)) G7) fun x12 G13 =>
  bS (gd x11 true (bP (bn Q q .lss 3 (.tmp 21) (.const (.int .i64 0)) x12 (.int .i64 0)) fun y => some (y, G13)) G13) fun x14 G15 =>
  bS (gd x11 true (some (x14, G15)) G15) fun x16 G17 =>
  bS (gd x16 false (some (v2, G17)) G17) fun x18 G19 =>
  bS (gd x16 false (bP (bn Q q .gtr 3 (.tmp 24) (.const (.int .i64 65535)) x18 (.int .i64 65535)) fun y => some (y, G19)) G19) fun x20 G21 =>
  bS (gd x11 true (bP (pickV x16 (.bool true) x20) fun y => some (y, G21)) G21) fun x22 G23 =>
  bP (pickV x11 x22 (.bool false)) fun x24 =>
  ifV x24 (
  bP (pNil x6) fun x25 =>
  bP (fa Q q 55 2 2 x25) fun x26 =>
  bP (st Q q 23 1 x26 (.int .i64 3) G23) fun G27 =>
  bP (lda Q q 70 3 x0 G27) fun x28 =>
  bS (e.ev.cl 40 [x28, v1] G27) fun x29 G30 =>
  bP (pExtract x29 0) fun x31 =>
  bP (pExtract x29 1) fun x32 =>
  bS (al Q q 59 z59 G30) fun x33 G34 =>
  bP (st Q q 59 4 x33 x31 G34) fun G35 =>
  bS (gd x32 true (some (x6, G35)) G35) fun x36 G37 =>
  bS (gd x32 true (bP (pNil x36) fun y => some (y, G37)) G37) fun x38 G39 =>
  bS (gd x32 true (bP (fa Q q 55 2 2 x38) fun y => some (y, G39)) G39) fun x40 G41 =>
  bS (gd x32 true (bP (ld Q q 23 x40 G41) fun y => some (y, G41)) G41) fun x42 G43 =>
  bS (gd x32 true (bP (bn Q q .eql 23 (.tmp 42) (.const (.int .i64 0)) x42 (.int .i64 0)) fun y => some (y, G43)) G43) fun x44 G45 =>
  bP (pickV x32 x44 (.bool false)) fun x46 =>
  ifV x46 (
  bP (lda Q q 59 4 x33 G45) fun x47 =>
  bS (e.ev.cl 41 [x47, v2] G45) fun x48 G49 =>
  bP (pNil x6) fun x50 =>
  bP (fa Q q 55 1 1 x50) fun x51 =>
  bP (st Q q 53 1 x51 x48 G49) fun G52 =>
  some (x6, G52)) (
  some (x6, G45))) (
  bP (lda Q q 70 3 x0 G23) fun x53 =>
  bS (e.ev.cl 40 [x53, v1] G23) fun x54 G55 =>
  bP (pExtract x54 0) fun x56 =>
  bP (pExtract x54 1) fun x57 =>
  bS (al Q q 59 z59 G55) fun x58 G59 =>
  bP (st Q q 59 4 x58 x56 G59) fun G60 =>
  bS (gd x57 true (some (x6, G60)) G60) fun x61 G62 =>
  bS (gd x57 true (bP (pNil x61) fun y => some (y, G62)) G62) fun x63 G64 =>
  bS (gd x57 true (bP (fa Q q 55 2 2 x63) fun y => some (y, G64)) G64) fun x65 G66 =>
  bS (gd x57 true (bP (ld Q q 23 x65 G66) fun y => some (y, G66)) G66) fun x67 G68 =>
  bS (gd x57 true (bP (bn Q q .eql 23 (.tmp 42) (.const (.int .i64 0)) x67 (.int .i64 0)) fun y => some (y, G68)) G68) fun x69 G70 =>
  bP (pickV x57 x69 (.bool false)) fun x71 =>
  ifV x71 (
  bP (lda Q q 59 4 x58 G70) fun x72 =>
  bS (e.ev.cl 41 [x72, v2] G70) fun x73 G74 =>
  bP (pNil x6) fun x75 =>
  bP (fa Q q 55 1 1 x75) fun x76 =>
  bP (st Q q 53 1 x76 x73 G74) fun G77 =>
  some (x6, G77)) (
  some (x6, G70)))
theorem m18 {e : Ex} {E : Ev} (h : ExLe Q e E) (v0 v1 v2 : Value) (G : GS) : Ref (s18 true e v0 v1 v2 G) (s18 false (Ex.of E) v0 v1 v2 G) := by
  unfold s18
  exact Ref.go
theorem f18 {orc : FuncId → Bool} {e : Ex} (h : ExLe Q e (E orc)) (v0 v1 v2 : Value) (G : GS) : Ref (s18 true e v0 v1 v2 G) ((E orc).cl 18 [v0, v1, v2] G) :=
  fun r hr => cl_sxE_some Q orc (vs := [v0, v1, v2]) G Try.func18 (by kernel_rfl) (by kernel_rfl) (by kernel_rfl) (by kernel_rfl) (by kernel_rfl) (m18 h v0 v1 v2 G r hr)
/-- coxswain/coxswainlaw25.chapter -/
noncomputable def s19 (q : Bool) (e : Ex) (G : GS) : Option (Value × GS) :=
  bS (al Q q 70 z70 G) fun x0 G1 =>
  bP (bd Q q 70 z70 [(0, 0, 1), (1, 1, 1), (2, 2, 1)] [(.int .i64 1), (.int .i64 2), (.int .i64 2)]) fun x2 =>
  bP (st Q q 70 3 x0 x2 G1) fun G3 =>
  bP (lda Q q 70 3 x0 G3) fun x4 =>
  some (x4, G3)
theorem m19 {e : Ex} {E : Ev} (h : ExLe Q e E) (G : GS) : Ref (s19 true e  G) (s19 false (Ex.of E)  G) := by
  unfold s19
  exact Ref.go
theorem f19 {orc : FuncId → Bool} {e : Ex} (h : ExLe Q e (E orc)) (ho : orc 19 = false) (G : GS) : Ref (s19 true e  G) ((E orc).cl 19 [] G) :=
  fun r hr => cl_sxE_some Q orc (vs := []) G Try.func19 (by kernel_rfl) (by kernel_rfl) ho (by kernel_rfl) (by kernel_rfl) (m19 h  G r hr)
/-- coxswain/mail.Fill -/
noncomputable def s20 (q : Bool) (e : Ex) (v0 v1 : Value) (G : GS) : Option (Value × GS) :=
  bS (bx q v0 G) fun x0 G1 =>
  bS (bx q v1 G1) fun x2 G3 =>
  bP (lda Q q 70 3 x0 G3) fun x4 =>
  bS (e.ev.cl 42 [x4] G3) fun x5 G6 =>
  bP (un Q q .not x5) fun x7 =>
  ifV x7 (
  some (.tuple #[], G6)) (
  bP (lda Q q 70 3 x0 G6) fun x8 =>
  bS (e.ev.cl 43 [x8] G6) fun x9 G10 =>
  bX (xRange e.ev x9 #[11, 12] (subAt [1, 1, 1, 0, 0] (bodyOf Try.f20)) (subAt [1, 1, 1, 0, 1] (bodyOf Try.f20)) (lst 16 (tu (nth undef [v0, v1]) [(2, x0), (3, x2), (6, x4), (7, x5), (8, x7), (9, x8), (10, x9)])) G10) fun e11 T12 G13 =>
  ifE e11 .normal (
  some (.tuple #[], G13)) (none))
theorem m20 {e : Ex} {E : Ev} (h : ExLe Q e E) (v0 v1 : Value) (G : GS) : Ref (s20 true e v0 v1 G) (s20 false (Ex.of E) v0 v1 G) := by
  unfold s20
  exact Ref.go
theorem f20 {orc : FuncId → Bool} {e : Ex} (h : ExLe Q e (E orc)) (v0 v1 : Value) (G : GS) : Ref (s20 true e v0 v1 G) ((E orc).cl 20 [v0, v1] G) :=
  fun r hr => cl_sxE_some Q orc (vs := [v0, v1]) G Try.func20 (by kernel_rfl) (by kernel_rfl) (by kernel_rfl) (by kernel_rfl) (by kernel_rfl) (m20 h v0 v1 G r hr)
/-- coxswain/mail.All -/
noncomputable def s21 (q : Bool) (e : Ex) (v0 v1 v2 : Value) (G : GS) : Option (Value × GS) :=
  bS (bx q v0 G) fun x0 G1 =>
  bP (lda Q q 70 3 x0 G1) fun x2 =>
  bS (e.ev.cl 40 [x2, v1] G1) fun x3 G4 =>
  bP (pExtract x3 0) fun x5 =>
  bP (pExtract x3 1) fun x6 =>
  bS (al Q q 59 z59 G4) fun x7 G8 =>
  bP (st Q q 59 4 x7 x5 G8) fun G9 =>
  bP (un Q q .not x6) fun x10 =>
  ifV x10 (
  some ((.slice none 0 0), G9)) (
  bP (lda Q q 59 4 x7 G9) fun x11 =>
  bS (e.ev.cl 45 [x11, v2] G9) fun x12 G13 =>
  some (x12, G13))
theorem m21 {e : Ex} {E : Ev} (h : ExLe Q e E) (v0 v1 v2 : Value) (G : GS) : Ref (s21 true e v0 v1 v2 G) (s21 false (Ex.of E) v0 v1 v2 G) := by
  unfold s21
  exact Ref.go
theorem f21 {orc : FuncId → Bool} {e : Ex} (h : ExLe Q e (E orc)) (v0 v1 v2 : Value) (G : GS) : Ref (s21 true e v0 v1 v2 G) ((E orc).cl 21 [v0, v1, v2] G) :=
  fun r hr => cl_sxE_some Q orc (vs := [v0, v1, v2]) G Try.func21 (by kernel_rfl) (by kernel_rfl) (by kernel_rfl) (by kernel_rfl) (by kernel_rfl) (m21 h v0 v1 v2 G r hr)
/-- coxswain/mail.Empty -/
noncomputable def s22 (q : Bool) (e : Ex) (v0 v1 : Value) (G : GS) : Option (Value × GS) :=
  bS (bx q v0 G) fun x0 G1 =>
  bS (bx q v1 G1) fun x2 G3 =>
  bS (al Q q 4 z4 G3) fun x4 G5 =>
  bP (lda Q q 70 3 x0 G5) fun x6 =>
  bS (e.ev.cl 46 [x6] G5) fun x7 G8 =>
  bP (un Q q .not x7) fun x9 =>
  ifV x9 (
  bP (st Q q 4 1 x4 (.bool true) G8) fun G10 =>
  bP (ld Q q 4 x4 G10) fun x11 =>
  some (x11, G10)) (
  bP (lda Q q 70 3 x0 G8) fun x12 =>
  bS (e.ev.cl 43 [x12] G8) fun x13 G14 =>
  bX (xRange e.ev x13 #[12, 13] (subAt [1, 1, 0, 1, 0, 0] (bodyOf Try.f22)) (subAt [1, 1, 0, 1, 0, 1] (bodyOf Try.f22)) (lst 19 (tu (nth undef [v0, v1]) [(2, x0), (3, x2), (4, x4), (7, x6), (8, x7), (9, x9), (10, x12), (11, x13)])) G14) fun e15 T16 G17 =>
  bV q (nth undef T16 4) fun T16x4_ =>
  ifE e15 .normal (
  bP (st Q q 4 1 T16x4_ (.bool true) G17) fun G18 =>
  bP (ld Q q 4 T16x4_ G18) fun x19 =>
  some (x19, G18)) (ifE e15 .ret (
  bP (ld Q q 4 T16x4_ G17) fun x20 =>
  some (x20, G17)) (none)))
theorem m22 {e : Ex} {E : Ev} (h : ExLe Q e E) (v0 v1 : Value) (G : GS) : Ref (s22 true e v0 v1 G) (s22 false (Ex.of E) v0 v1 G) := by
  unfold s22
  exact Ref.go
theorem f22 {orc : FuncId → Bool} {e : Ex} (h : ExLe Q e (E orc)) (v0 v1 : Value) (G : GS) : Ref (s22 true e v0 v1 G) ((E orc).cl 22 [v0, v1] G) :=
  fun r hr => cl_sxE_some Q orc (vs := [v0, v1]) G Try.func22 (by kernel_rfl) (by kernel_rfl) (by kernel_rfl) (by kernel_rfl) (by kernel_rfl) (m22 h v0 v1 G r hr)
/-- coxswain/coxswainlaw25.awake -/
noncomputable def s23 (q : Bool) (e : Ex) (G : GS) : Option (Value × GS) :=
  bS (e.ev.cl 19 [] G) fun x0 G1 =>
  bS (al Q q 70 z70 G1) fun x2 G3 =>
  bP (st Q q 70 3 x2 x0 G3) fun G4 =>
  bS (e.ev.cl 47 [] G4) fun x5 G6 =>
  bP (ep Q q false 22 (.tmp 7) (.const (.pointer none)) x5 (.pointer none)) fun x7 =>
  bS (gd x7 false (bP (lda Q q 70 3 x2 G6) fun y => some (y, G6)) G6) fun x8 G9 =>
  bS (gd x7 false (some (x5, G9)) G9) fun x10 G11 =>
  bS (gd x7 false (bS (e.ev.cl 21 [x8, (.int .i64 1), x10] G11) fun y G => some (y, G)) G11) fun x12 G13 =>
  bS (gd x7 false (bS (bs Q q 62 2 (rep z3 2) 1 [(0, 0, 1), (1, 1, 1)] [(.int .i64 9), (.int .i64 8)] G13) fun y G => some (y, G)) G13) fun x14 G15 =>
  bS (gd x7 false (bS (e.ev.cl 48 [x12, x14] G15) fun y G => some (y, G)) G15) fun x16 G17 =>
  bS (gd x7 false (bP (un Q q .not x16) fun y => some (y, G17)) G17) fun x18 G19 =>
  bP (pickV x7 (.bool true) x18) fun x20 =>
  bS (gd x20 false (bP (lda Q q 70 3 x2 G19) fun y => some (y, G19)) G19) fun x21 G22 =>
  bS (gd x20 false (some (x5, G22)) G22) fun x23 G24 =>
  bS (gd x20 false (bS (e.ev.cl 22 [x21, x23] G24) fun y G => some (y, G)) G24) fun x25 G26 =>
  bP (pickV x20 (.bool true) x25) fun x27 =>
  ifV x27 (
  some ((.bool false), G26)) (
  bP (lda Q q 70 3 x2 G26) fun x28 =>
  bS (e.ev.cl 49 [x28, x5, (.int .i64 1), (.int .i64 1)] G26) fun x29 G30 =>
  bP (pExtract x29 0) fun x31 =>
  bP (pExtract x29 1) fun x32 =>
  bS (bs Q q 62 1 (rep z3 1) 1 [(0, 0, 1)] [(.int .i64 9)] G30) fun x33 G34 =>
  bS (e.ev.cl 48 [x31, x33] G34) fun x35 G36 =>
  bS (gd x35 true (some (x32, G36)) G36) fun x37 G38 =>
  bS (gd x35 true (bP (bn Q q .eql 3 (.tmp 32) (.const (.int .i64 4)) x37 (.int .i64 4)) fun y => some (y, G38)) G38) fun x39 G40 =>
  bP (pickV x35 x39 (.bool false)) fun x41 =>
  some (x41, G40))
theorem m23 {e : Ex} {E : Ev} (h : ExLe Q e E) (G : GS) : Ref (s23 true e  G) (s23 false (Ex.of E)  G) := by
  unfold s23
  exact Ref.go
theorem f23 {orc : FuncId → Bool} {e : Ex} (h : ExLe Q e (E orc)) (ho : orc 23 = false) (G : GS) : Ref (s23 true e  G) ((E orc).cl 23 [] G) :=
  fun r hr => cl_sxE_some Q orc (vs := []) G Try.func23 (by kernel_rfl) (by kernel_rfl) ho (by kernel_rfl) (by kernel_rfl) (m23 h  G r hr)
/-- (*coxswain/cells.Mem).Load -/
noncomputable def s31 (q : Bool) (e : Ex) (v0 v1 : Value) (G : GS) : Option (Value × GS) :=
  bS (e.ev.cl 60 [v0, v1] G) fun x0 G1 =>
  bP (bd Q q 127 z127 [(0, 0, 1)] [x0]) fun x2 =>
  bS (al Q q 127 z127 G1) fun x3 G4 =>
  bP (st Q q 127 3 x3 x2 G4) fun G5 =>
  bP (fa Q q 127 0 0 x3) fun x6 =>
  bP (ld Q q 124 x6 G5) fun x7 =>
  bP (lda Q q 127 3 x3 G5) fun x8 =>
  bS (e.ev.cl 61 [v0, (.int .i64 1), v1, x7, (.func (.func 62) #[x8] #[])] G5) fun x9 G10 =>
  bP (fd Q q 80 3 3 x9) fun x11 =>
  some (x11, G10)
theorem m31 {e : Ex} {E : Ev} (h : ExLe Q e E) (v0 v1 : Value) (G : GS) : Ref (s31 true e v0 v1 G) (s31 false (Ex.of E) v0 v1 G) := by
  unfold s31
  exact Ref.go
theorem f31 {orc : FuncId → Bool} {e : Ex} (h : ExLe Q e (E orc)) (v0 v1 : Value) (G : GS) : Ref (s31 true e v0 v1 G) ((E orc).cl 31 [v0, v1] G) :=
  fun r hr => cl_sxE_some Q orc (vs := [v0, v1]) G Try.func31 (by kernel_rfl) (by kernel_rfl) (by kernel_rfl) (by kernel_rfl) (by kernel_rfl) (m31 h v0 v1 G r hr)
/-- slices.Clone[[]int,int] -/
noncomputable def s32 (q : Bool) (e : Ex) (v0 : Value) (G : GS) : Option (Value × GS) :=
  bP (es Q q false 62 (.tmp 3) (.const (.slice none 0 0)) v0 (.slice none 0 0)) fun x0 =>
  ifV x0 (
  some ((.slice none 0 0), G)) (
  bS (bs Q q 62 0 (rep z3 0) 1 [] [] G) fun x1 G2 =>
  bS (ap Q q 62 62 1 8 x1 v0 G2) fun x3 G4 =>
  some (x3, G4))
theorem m32 {e : Ex} {E : Ev} (h : ExLe Q e E) (v0 : Value) (G : GS) : Ref (s32 true e v0 G) (s32 false (Ex.of E) v0 G) := by
  unfold s32
  exact Ref.go
theorem f32 {orc : FuncId → Bool} {e : Ex} (h : ExLe Q e (E orc)) (v0 : Value) (G : GS) : Ref (s32 true e v0 G) ((E orc).cl 32 [v0] G) :=
  fun r hr => cl_sxE_some Q orc (vs := [v0]) G Try.func32 (by kernel_rfl) (by kernel_rfl) (by kernel_rfl) (by kernel_rfl) (by kernel_rfl) (m32 h v0 G r hr)
/-- (*coxswain/ring.Push).Step -/
noncomputable def s33 (q : Bool) (e : Ex) (v0 v1 : Value) (G : GS) : Option (Value × GS) :=
  bP (ep Q q false 53 (.tmp 5) (.const (.pointer none)) v0 (.pointer none)) fun x0 =>
  bS (gd x0 false (some (v0, G)) G) fun x1 G2 =>
  bS (gd x0 false (bP (pNil x1) fun y => some (y, G2)) G2) fun x3 G4 =>
  bS (gd x0 false (bP (fa Q q 134 0 0 x3) fun y => some (y, G4)) G4) fun x5 G6 =>
  bS (gd x0 false (some (v1, G6)) G6) fun x7 G8 =>
  bS (gd x0 false (bS (e.ev.cl 63 [x5, x7] G8) fun y G => some (y, G)) G8) fun x9 G10 =>
  bP (pickV x0 (.bool true) x9) fun x11 =>
  some (x11, G10)
theorem m33 {e : Ex} {E : Ev} (h : ExLe Q e E) (v0 v1 : Value) (G : GS) : Ref (s33 true e v0 v1 G) (s33 false (Ex.of E) v0 v1 G) := by
  unfold s33
  exact Ref.go
theorem f33 {orc : FuncId → Bool} {e : Ex} (h : ExLe Q e (E orc)) (v0 v1 : Value) (G : GS) : Ref (s33 true e v0 v1 G) ((E orc).cl 33 [v0, v1] G) :=
  fun r hr => cl_sxE_some Q orc (vs := [v0, v1]) G Try.func33 (by kernel_rfl) (by kernel_rfl) (by kernel_rfl) (by kernel_rfl) (by kernel_rfl) (m33 h v0 v1 G r hr)
/-- (*coxswain/ring.Push).Err -/
noncomputable def s34 (q : Bool) (e : Ex) (v0 : Value) (G : GS) : Option (Value × GS) :=
  bP (ep Q q false 53 (.tmp 3) (.const (.pointer none)) v0 (.pointer none)) fun x0 =>
  ifV x0 (
  some ((.int .i64 1), G)) (
  bP (pNil v0) fun x1 =>
  bP (fa Q q 134 0 0 x1) fun x2 =>
  bS (e.ev.cl 64 [x2] G) fun x3 G4 =>
  some (x3, G4))
theorem m34 {e : Ex} {E : Ev} (h : ExLe Q e E) (v0 : Value) (G : GS) : Ref (s34 true e v0 G) (s34 false (Ex.of E) v0 G) := by
  unfold s34
  exact Ref.go
theorem f34 {orc : FuncId → Bool} {e : Ex} (h : ExLe Q e (E orc)) (v0 : Value) (G : GS) : Ref (s34 true e v0 G) ((E orc).cl 34 [v0] G) :=
  fun r hr => cl_sxE_some Q orc (vs := [v0]) G Try.func34 (by kernel_rfl) (by kernel_rfl) (by kernel_rfl) (by kernel_rfl) (by kernel_rfl) (m34 h v0 G r hr)
/-- (*coxswain/ring.Front).Value -/
noncomputable def s35 (q : Bool) (e : Ex) (v0 : Value) (G : GS) : Option (Value × GS) :=
  bP (ep Q q false 92 (.tmp 4) (.const (.pointer none)) v0 (.pointer none)) fun x0 =>
  ifV x0 (
  some (.tuple #[(.int .i64 0), (.int .i64 1)], G)) (
  bP (pNil v0) fun x1 =>
  bP (fa Q q 136 2 8 x1) fun x2 =>
  bP (ld Q q 3 x2 (G.room 10)) fun x3 =>
  bP (pNil v0) fun x4 =>
  bP (fa Q q 136 0 0 x4) fun x5 =>
  bS (e.ev.cl 64 [x5] (G.room 10)) fun x7 G6 =>
  chk ((sameO (ld Q q 3 x2 G6) x3 && true)) <|
  some (.tuple #[x3, x7], G6))
theorem m35 {e : Ex} {E : Ev} (h : ExLe Q e E) (v0 : Value) (G : GS) : Ref (s35 true e v0 G) (s35 false (Ex.of E) v0 G) := by
  unfold s35
  exact Ref.go
theorem f35 {orc : FuncId → Bool} {e : Ex} (h : ExLe Q e (E orc)) (v0 : Value) (G : GS) : Ref (s35 true e v0 G) ((E orc).cl 35 [v0] G) :=
  fun r hr => cl_sxE_some Q orc (vs := [v0]) G Try.func35 (by kernel_rfl) (by kernel_rfl) (by kernel_rfl) (by kernel_rfl) (by kernel_rfl) (m35 h v0 G r hr)
/-- coxswain/ring.NewDrop -/
noncomputable def s36 (q : Bool) (e : Ex) (v0 v1 : Value) (G : GS) : Option (Value × GS) :=
  bS (bx q v0 G) fun x0 G1 =>
  bP (lda Q q 59 4 x0 G1) fun x2 =>
  bS (e.ev.cl 65 [x2] G1) fun x3 G4 =>
  bP (bd Q q 139 z139 [(0, 0, 7), (1, 7, 1)] [x3, v1]) fun x5 =>
  bS (bx q x5 G4) fun x6 G7 =>
  bP (pNil x6) fun x8 =>
  bP (fa Q q 139 0 0 x8) fun x9 =>
  bP (fa Q q 131 3 6 x9) fun x10 =>
  bP (ld Q q 23 x10 G7) fun x11 =>
  bP (bn Q q .eql 23 (.tmp 15) (.const (.int .i64 0)) x11 (.int .i64 0)) fun x12 =>
  ifV x12 (
  bP (pNil x6) fun x13 =>
  bP (fa Q q 139 0 0 x13) fun x14 =>
  bP (fa Q q 131 1 4 x14) fun x15 =>
  bP (st Q q 84 1 x15 (.func (.func 66) #[x6] #[]) G7) fun G16 =>
  some (x6, G16)) (
  some (x6, G7))
theorem m36 {e : Ex} {E : Ev} (h : ExLe Q e E) (v0 v1 : Value) (G : GS) : Ref (s36 true e v0 v1 G) (s36 false (Ex.of E) v0 v1 G) := by
  unfold s36
  exact Ref.go
theorem f36 {orc : FuncId → Bool} {e : Ex} (h : ExLe Q e (E orc)) (v0 v1 : Value) (G : GS) : Ref (s36 true e v0 v1 G) ((E orc).cl 36 [v0, v1] G) :=
  fun r hr => cl_sxE_some Q orc (vs := [v0, v1]) G Try.func36 (by kernel_rfl) (by kernel_rfl) (by kernel_rfl) (by kernel_rfl) (by kernel_rfl) (m36 h v0 v1 G r hr)
/-- (*coxswain/ring.Front).At -/
noncomputable def s37 (q : Bool) (e : Ex) (v0 : Value) (G : GS) : Option (Value × GS) :=
  bP (ep Q q false 92 (.tmp 3) (.const (.pointer none)) v0 (.pointer none)) fun x0 =>
  ifV x0 (
  some ((.int .u64 0), G)) (
  bP (pNil v0) fun x1 =>
  bP (fa Q q 136 1 7 x1) fun x2 =>
  bP (ld Q q 33 x2 G) fun x3 =>
  some (x3, G))
theorem m37 {e : Ex} {E : Ev} (h : ExLe Q e E) (v0 : Value) (G : GS) : Ref (s37 true e v0 G) (s37 false (Ex.of E) v0 G) := by
  unfold s37
  exact Ref.go
theorem f37 {orc : FuncId → Bool} {e : Ex} (h : ExLe Q e (E orc)) (v0 : Value) (G : GS) : Ref (s37 true e v0 G) ((E orc).cl 37 [v0] G) :=
  fun r hr => cl_sxE_some Q orc (vs := [v0]) G Try.func37 (by kernel_rfl) (by kernel_rfl) (by kernel_rfl) (by kernel_rfl) (by kernel_rfl) (m37 h v0 G r hr)
/-- coxswain/ring.NewFront -/
noncomputable def s38 (q : Bool) (e : Ex) (v0 : Value) (G : GS) : Option (Value × GS) :=
  bS (bx q v0 G) fun x0 G1 =>
  bP (lda Q q 59 4 x0 G1) fun x2 =>
  bS (e.ev.cl 65 [x2] G1) fun x3 G4 =>
  bP (bd Q q 136 z136 [(0, 0, 7)] [x3]) fun x5 =>
  bS (bx q x5 G4) fun x6 G7 =>
  bP (pNil x6) fun x8 =>
  bP (fa Q q 136 0 0 x8) fun x9 =>
  bP (fa Q q 131 3 6 x9) fun x10 =>
  bP (ld Q q 23 x10 G7) fun x11 =>
  bP (bn Q q .eql 23 (.tmp 12) (.const (.int .i64 0)) x11 (.int .i64 0)) fun x12 =>
  ifV x12 (
  bP (pNil x6) fun x13 =>
  bP (fa Q q 136 0 0 x13) fun x14 =>
  bP (fa Q q 131 1 4 x14) fun x15 =>
  bP (st Q q 84 1 x15 (.func (.func 67) #[x6] #[]) G7) fun G16 =>
  some (x6, G16)) (
  some (x6, G7))
theorem m38 {e : Ex} {E : Ev} (h : ExLe Q e E) (v0 : Value) (G : GS) : Ref (s38 true e v0 G) (s38 false (Ex.of E) v0 G) := by
  unfold s38
  exact Ref.go
theorem f38 {orc : FuncId → Bool} {e : Ex} (h : ExLe Q e (E orc)) (v0 : Value) (G : GS) : Ref (s38 true e v0 G) ((E orc).cl 38 [v0] G) :=
  fun r hr => cl_sxE_some Q orc (vs := [v0]) G Try.func38 (by kernel_rfl) (by kernel_rfl) (by kernel_rfl) (by kernel_rfl) (by kernel_rfl) (m38 h v0 G r hr)
/-- coxswain/mail.refused -/
noncomputable def s39 (q : Bool) (e : Ex) (v0 v1 : Value) (G : GS) : Option (Value × GS) :=
  bS (bx q v0 G) fun x0 G1 =>
  bP (lda Q q 70 3 x0 G1) fun x2 =>
  bS (e.ev.cl 46 [x2] G1) fun x3 G4 =>
  bP (un Q q .not x3) fun x5 =>
  ifV x5 (
  some ((.int .i64 2), G4)) (
  bP (bn Q q .lss 3 (.tmp 10) (.const (.int .i64 0)) v1 (.int .i64 0)) fun x6 =>
  bS (gd x6 false (some (v1, G4)) G4) fun x7 G8 =>
  bS (gd x6 false (bP (fa Q q 70 1 1 x0) fun y => some (y, G8)) G8) fun x9 G10 =>
  bS (gd x6 false (bP (ld Q q 3 x9 G10) fun y => some (y, G10)) G10) fun x11 G12 =>
  bS (gd x6 false (bP (bn Q q .geq 3 (.tmp 13) (.tmp 15) x7 x11) fun y => some (y, G12)) G12) fun x13 G14 =>
  bP (pickV x6 (.bool true) x13) fun x15 =>
  ifV x15 (
  some ((.int .i64 3), G14)) (
  some ((.int .i64 0), G14)))
theorem m39 {e : Ex} {E : Ev} (h : ExLe Q e E) (v0 v1 : Value) (G : GS) : Ref (s39 true e v0 v1 G) (s39 false (Ex.of E) v0 v1 G) := by
  unfold s39
  exact Ref.go
theorem f39 {orc : FuncId → Bool} {e : Ex} (h : ExLe Q e (E orc)) (v0 v1 : Value) (G : GS) : Ref (s39 true e v0 v1 G) ((E orc).cl 39 [v0, v1] G) :=
  fun r hr => cl_sxE_some Q orc (vs := [v0, v1]) G Try.func39 (by kernel_rfl) (by kernel_rfl) (by kernel_rfl) (by kernel_rfl) (by kernel_rfl) (m39 h v0 v1 G r hr)
/-- coxswain/mail.Box -/
noncomputable def s40 (q : Bool) (e : Ex) (v0 v1 : Value) (G : GS) : Option (Value × GS) :=
  bS (bx q v0 G) fun x0 G1 =>
  bS (bx q v1 G1) fun x2 G3 =>
  bS (al Q q 59 z59 G3) fun x4 G5 =>
  bS (al Q q 4 z4 G5) fun x6 G7 =>
  bP (lda Q q 70 3 x0 G7) fun x8 =>
  bS (e.ev.cl 46 [x8] G7) fun x9 G10 =>
  bP (un Q q .not x9) fun x11 =>
  ifV x11 (
  bP (bd Q q 59 z59 [] []) fun x12 =>
  bP (st Q q 59 4 x4 x12 G10) fun G13 =>
  bP (st Q q 4 1 x6 (.bool false) G13) fun G14 =>
  bP (lda Q q 59 4 x4 G14) fun x15 =>
  bP (ld Q q 4 x6 G14) fun x16 =>
  some (.tuple #[x15, x16], G14)) (
  bP (lda Q q 70 3 x0 G10) fun x17 =>
  bS (e.ev.cl 43 [x17] G10) fun x18 G19 =>
  bX (xRange e.ev x18 #[14, 15] (subAt [1, 1, 0, 1, 0, 0] (bodyOf Try.f40)) (subAt [1, 1, 0, 1, 0, 1] (bodyOf Try.f40)) (lst 21 (tu (nth undef [v0, v1]) [(2, x0), (3, x2), (4, x4), (5, x6), (8, x8), (9, x9), (10, x11), (12, x17), (13, x18)])) G19) fun e20 T21 G22 =>
  bV q (nth undef T21 4) fun T21x4_ =>
  bV q (nth undef T21 5) fun T21x5_ =>
  ifE e20 .normal (
  bP (bd Q q 59 z59 [] []) fun x23 =>
  bP (st Q q 59 4 T21x4_ x23 G22) fun G24 =>
  bP (st Q q 4 1 T21x5_ (.bool false) G24) fun G25 =>
  bP (lda Q q 59 4 T21x4_ G25) fun x26 =>
  bP (ld Q q 4 T21x5_ G25) fun x27 =>
  some (.tuple #[x26, x27], G25)) (ifE e20 .ret (
  bP (lda Q q 59 4 T21x4_ G22) fun x28 =>
  bP (ld Q q 4 T21x5_ G22) fun x29 =>
  some (.tuple #[x28, x29], G22)) (none)))
theorem m40 {e : Ex} {E : Ev} (h : ExLe Q e E) (v0 v1 : Value) (G : GS) : Ref (s40 true e v0 v1 G) (s40 false (Ex.of E) v0 v1 G) := by
  unfold s40
  exact Ref.go
theorem f40 {orc : FuncId → Bool} {e : Ex} (h : ExLe Q e (E orc)) (v0 v1 : Value) (G : GS) : Ref (s40 true e v0 v1 G) ((E orc).cl 40 [v0, v1] G) :=
  fun r hr => cl_sxE_some Q orc (vs := [v0, v1]) G Try.func40 (by kernel_rfl) (by kernel_rfl) (by kernel_rfl) (by kernel_rfl) (by kernel_rfl) (m40 h v0 v1 G r hr)
/-- coxswain/ring.NewPush -/
noncomputable def s41 (q : Bool) (e : Ex) (v0 v1 : Value) (G : GS) : Option (Value × GS) :=
  bS (bx q v0 G) fun x0 G1 =>
  bP (lda Q q 59 4 x0 G1) fun x2 =>
  bS (e.ev.cl 65 [x2] G1) fun x3 G4 =>
  bP (bd Q q 134 z134 [(0, 0, 7), (1, 7, 1)] [x3, v1]) fun x5 =>
  bS (bx q x5 G4) fun x6 G7 =>
  bP (pNil x6) fun x8 =>
  bP (fa Q q 134 0 0 x8) fun x9 =>
  bP (fa Q q 131 3 6 x9) fun x10 =>
  bP (ld Q q 23 x10 G7) fun x11 =>
  bP (bn Q q .neq 23 (.tmp 22) (.const (.int .i64 0)) x11 (.int .i64 0)) fun x12 =>
  ifV x12 (
  some (x6, G7)) (
  bP (bn Q q .lss 3 (.tmp 25) (.const (.int .i64 0)) v1 (.int .i64 0)) fun x13 =>
  bS (gd x13 false (some (v1, G7)) G7) fun x14 G15 =>
  bS (gd x13 false (bP (bn Q q .gtr 3 (.tmp 28) (.const (.int .i64 65535)) x14 (.int .i64 65535)) fun y => some (y, G15)) G15) fun x16 G17 =>
  bP (pickV x13 (.bool true) x16) fun x18 =>
  ifV x18 (
  bP (pNil x6) fun x19 =>
  bP (fa Q q 134 0 0 x19) fun x20 =>
  bS (e.ev.cl 68 [x20, (.int .i64 3)] G17) fun x21 G22 =>
  some (x6, G22)) (
  bP (pNil x6) fun x23 =>
  bP (fa Q q 134 0 0 x23) fun x24 =>
  bP (fa Q q 131 1 4 x24) fun x25 =>
  bP (st Q q 84 1 x25 (.func (.func 69) #[x6] #[]) G17) fun G26 =>
  some (x6, G26)))
theorem m41 {e : Ex} {E : Ev} (h : ExLe Q e E) (v0 v1 : Value) (G : GS) : Ref (s41 true e v0 v1 G) (s41 false (Ex.of E) v0 v1 G) := by
  unfold s41
  exact Ref.go
theorem f41 {orc : FuncId → Bool} {e : Ex} (h : ExLe Q e (E orc)) (v0 v1 : Value) (G : GS) : Ref (s41 true e v0 v1 G) ((E orc).cl 41 [v0, v1] G) :=
  fun r hr => cl_sxE_some Q orc (vs := [v0, v1]) G Try.func41 (by kernel_rfl) (by kernel_rfl) (by kernel_rfl) (by kernel_rfl) (by kernel_rfl) (m41 h v0 v1 G r hr)
/-- coxswain/mail.sized -/
noncomputable def s42 (q : Bool) (e : Ex) (v0 : Value) (G : GS) : Option (Value × GS) :=
  bS (bx q v0 G) fun x0 G1 =>
  bP (fa Q q 70 1 1 x0) fun x2 =>
  bP (ld Q q 3 x2 G1) fun x3 =>
  bP (bn Q q .geq 3 (.tmp 4) (.const (.int .i64 1)) x3 (.int .i64 1)) fun x4 =>
  bS (gd x4 true (bP (fa Q q 70 1 1 x0) fun y => some (y, G1)) G1) fun x5 G6 =>
  bS (gd x4 true (bP (ld Q q 3 x5 G6) fun y => some (y, G6)) G6) fun x7 G8 =>
  bS (gd x4 true (bP (bn Q q .leq 3 (.tmp 8) (.const (.int .i64 64)) x7 (.int .i64 64)) fun y => some (y, G8)) G8) fun x9 G10 =>
  bP (pickV x4 x9 (.bool false)) fun x11 =>
  bS (gd x11 true (bP (fa Q q 70 2 2 x0) fun y => some (y, G10)) G10) fun x12 G13 =>
  bS (gd x11 true (bP (ld Q q 3 x12 G13) fun y => some (y, G13)) G13) fun x14 G15 =>
  bS (gd x11 true (bP (bn Q q .geq 3 (.tmp 13) (.const (.int .i64 1)) x14 (.int .i64 1)) fun y => some (y, G15)) G15) fun x16 G17 =>
  bP (pickV x11 x16 (.bool false)) fun x18 =>
  bS (gd x18 true (bP (fa Q q 70 2 2 x0) fun y => some (y, G17)) G17) fun x19 G20 =>
  bS (gd x18 true (bP (ld Q q 3 x19 G20) fun y => some (y, G20)) G20) fun x21 G22 =>
  bS (gd x18 true (bP (bn Q q .leq 3 (.tmp 18) (.const (.int .i64 16)) x21 (.int .i64 16)) fun y => some (y, G22)) G22) fun x23 G24 =>
  bP (pickV x18 x23 (.bool false)) fun x25 =>
  some (x25, G24)
theorem m42 {e : Ex} {E : Ev} (h : ExLe Q e E) (v0 : Value) (G : GS) : Ref (s42 true e v0 G) (s42 false (Ex.of E) v0 G) := by
  unfold s42
  exact Ref.go
theorem f42 {orc : FuncId → Bool} {e : Ex} (h : ExLe Q e (E orc)) (v0 : Value) (G : GS) : Ref (s42 true e v0 G) ((E orc).cl 42 [v0] G) :=
  fun r hr => cl_sxE_some Q orc (vs := [v0]) G Try.func42 (by kernel_rfl) (by kernel_rfl) (by kernel_rfl) (by kernel_rfl) (by kernel_rfl) (m42 h v0 G r hr)
/-- coxswain/mail.boxes -/
noncomputable def s43 (q : Bool) (e : Ex) (v0 : Value) (G : GS) : Option (Value × GS) :=
  bS (bx q v0 G) fun x0 G1 =>
  some ((.func (.func 70) #[] #[x0]), G1)
theorem m43 {e : Ex} {E : Ev} (h : ExLe Q e E) (v0 : Value) (G : GS) : Ref (s43 true e v0 G) (s43 false (Ex.of E) v0 G) := by
  unfold s43
  exact Ref.go
theorem f43 {orc : FuncId → Bool} {e : Ex} (h : ExLe Q e (E orc)) (v0 : Value) (G : GS) : Ref (s43 true e v0 G) ((E orc).cl 43 [v0] G) :=
  fun r hr => cl_sxE_some Q orc (vs := [v0]) G Try.func43 (by kernel_rfl) (by kernel_rfl) (by kernel_rfl) (by kernel_rfl) (by kernel_rfl) (m43 h v0 G r hr)
instance ilp44_0 : LpIs Q 44 0 (subAt [1, 1, 1, 1, 1, 0, 0] (bodyOf Try.f44)) 28 := ⟨by kernel_rfl, by kernel_rfl⟩
noncomputable def b44_0 (q : Bool) (e : Ex) (lp : Env → GS → Option (Exit × Env × GS)) (τ : Env) (G : GS) : Option (Exit × Env × GS) :=
  bV q (τ 1) fun a1_ =>
  bV q (τ 2) fun a2_ =>
  bV q (τ 17) fun a17_ =>
  bV q (τ 18) fun a18_ =>
  bP (bn Q q .lss 3 (.tmp 18) (.tmp 17) a18_ a17_) fun x0 =>
  ifV x0 (
  bP (fa Q q 59 2 2 a2_) fun x1 =>
  bP (ld Q q 3 x1 G) fun x2 =>
  bP (bn Q q .add 3 (.tmp 23) (.tmp 24) x2 a18_) fun x3 =>
  bS (e.ev.cl 57 [a1_, x3, (.int .u64 0)] G) fun x4 G5 =>
  bP (bn Q q .add 3 (.tmp 18) (.const (.int .i64 1)) a18_ (.int .i64 1)) fun x6 =>
  lp (tu τ [(1, a1_), (2, a2_), (17, a17_), (18, x6), (4, a18_), (19, x0), (20, a18_), (21, a1_), (22, x1), (23, x2), (24, a18_), (25, x3), (26, x4), (27, x6)]) G5) (
  some ((.exit 0), clq q 28 (tu τ [(1, a1_), (2, a2_), (17, a17_), (18, a18_), (19, x0)]), G))
theorem mb44_0 {e : Ex} {E : Ev} (h : ExLe Q e E) {lp lp' : Env → GS → Option (Exit × Env × GS)} (hlp : LpLe lp lp') (τ : Env) (G : GS) : Ref (b44_0 true e lp τ G) (b44_0 false (Ex.of E) lp' τ G) := by
  unfold b44_0
  exact Ref.go
theorem l44_0 {orc : FuncId → Bool} {e : Ex} (h : ExLe Q e (E orc)) (lp : Env → GS → Option (Exit × Env × GS)) (hlp : ∀ τ G, Ref (lp τ G) (mapE ((E orc).lp (subAt [1, 1, 1, 1, 1, 0, 0] (bodyOf Try.f44)) (lst 28 τ) G))) (T : List Value) (G : GS) (hT : T.length = 28) : Ref (b44_0 true e lp (nth undef T) G) (mapE ((E orc).lp (subAt [1, 1, 1, 1, 1, 0, 0] (bodyOf Try.f44)) T G)) :=
  fun r hr => lp_sxM Q orc G hT (by kernel_rfl) (mb44_0 h ⟨hlp⟩ _ _ r hr)
/-- coxswain/ring.Fill -/
noncomputable def s44 (q : Bool) (e : Ex) (v0 v1 : Value) (G : GS) : Option (Value × GS) :=
  bS (bx q v0 G) fun x0 G1 =>
  bP (lda Q q 59 4 x0 G1) fun x2 =>
  bS (e.ev.cl 71 [x2] G1) fun x3 G4 =>
  bP (un Q q .not x3) fun x5 =>
  ifV x5 (
  some (.tuple #[], G4)) (
  bP (fa Q q 59 0 0 x0) fun x6 =>
  bP (ld Q q 3 x6 G4) fun x7 =>
  bS (e.ev.cl 57 [v1, x7, (.int .u64 0)] G4) fun x8 G9 =>
  bP (fa Q q 59 1 1 x0) fun x10 =>
  bP (ld Q q 3 x10 G9) fun x11 =>
  bS (e.ev.cl 57 [v1, x11, (.int .u64 0)] G9) fun x12 G13 =>
  bP (fa Q q 59 3 3 x0) fun x14 =>
  bP (ld Q q 3 x14 G13) fun x15 =>
  bL q e 44 0 (subAt [1, 1, 1, 1, 1, 0, 0] (bodyOf Try.f44)) 28 (tu (nth undef [v0, v1]) [(2, x0), (5, x2), (6, x3), (7, x5), (8, v1), (9, x6), (10, x7), (11, x8), (12, v1), (13, x10), (14, x11), (15, x12), (16, x14), (17, x15), (18, (.int .i64 0))]) G13 fun e16 t17 G18 =>
  ifE e16 (.exit 0) (
  some (.tuple #[], G18)) (none))
theorem m44 {e : Ex} {E : Ev} (h : ExLe Q e E) (v0 v1 : Value) (G : GS) : Ref (s44 true e v0 v1 G) (s44 false (Ex.of E) v0 v1 G) := by
  unfold s44
  exact Ref.go
theorem f44 {orc : FuncId → Bool} {e : Ex} (h : ExLe Q e (E orc)) (v0 v1 : Value) (G : GS) : Ref (s44 true e v0 v1 G) ((E orc).cl 44 [v0, v1] G) :=
  fun r hr => cl_sxE_some Q orc (vs := [v0, v1]) G Try.func44 (by kernel_rfl) (by kernel_rfl) (by kernel_rfl) (by kernel_rfl) (by kernel_rfl) (m44 h v0 v1 G r hr)
/-- coxswain/ring.All -/
noncomputable def s45 (q : Bool) (e : Ex) (v0 v1 : Value) (G : GS) : Option (Value × GS) :=
  bS (bx q v0 G) fun x0 G1 =>
  bP (lda Q q 59 4 x0 G1) fun x2 =>
  bS (e.ev.cl 71 [x2] G1) fun x3 G4 =>
  bP (un Q q .not x3) fun x5 =>
  ifV x5 (
  some ((.slice none 0 0), G4)) (
  bS (e.ev.cl 72 [v1] G4) fun x6 G7 =>
  bS (al Q q 142 z142 G7) fun x8 G9 =>
  bP (st Q q 142 1 x8 x6 G9) fun G10 =>
  bS (al Q q 90 z90 G10) fun x11 G12 =>
  bP (st Q q 90 1 x11 (.func (.func 73) #[] #[x8]) G12) fun G13 =>
  bS (al Q q 62 z62 G13) fun x14 G15 =>
  bP (lda Q q 59 4 x0 G15) fun x16 =>
  bP (ld Q q 90 x11 G15) fun x17 =>
  bS (e.ev.cl 74 [x16, x17] G15) fun x18 G19 =>
  bX (xRange e.ev x18 #[18] (subAt [1, 1, 1, 1, 1, 0, 1, 0, 0] (bodyOf Try.f45)) (subAt [1, 1, 1, 1, 1, 0, 1, 0, 1] (bodyOf Try.f45)) (lst 29 (tu (nth undef [v0, v1]) [(2, x0), (4, (.slice none 0 0)), (5, x8), (6, x11), (7, x14), (9, x2), (10, x3), (11, x5), (12, v1), (13, x6), (14, (.func (.func 73) #[] #[x8])), (15, x16), (16, x17), (17, x18)])) G19) fun e20 T21 G22 =>
  bV q (nth undef T21 7) fun T21x7_ =>
  ifE e20 .normal (
  bP (ld Q q 62 T21x7_ G22) fun x23 =>
  some (x23, G22)) (none))
theorem m45 {e : Ex} {E : Ev} (h : ExLe Q e E) (v0 v1 : Value) (G : GS) : Ref (s45 true e v0 v1 G) (s45 false (Ex.of E) v0 v1 G) := by
  unfold s45
  exact Ref.go
theorem f45 {orc : FuncId → Bool} {e : Ex} (h : ExLe Q e (E orc)) (v0 v1 : Value) (G : GS) : Ref (s45 true e v0 v1 G) ((E orc).cl 45 [v0, v1] G) :=
  fun r hr => cl_sxE_some Q orc (vs := [v0, v1]) G Try.func45 (by kernel_rfl) (by kernel_rfl) (by kernel_rfl) (by kernel_rfl) (by kernel_rfl) (m45 h v0 v1 G r hr)
/-- coxswain/mail.placed -/
noncomputable def s46 (q : Bool) (e : Ex) (v0 : Value) (G : GS) : Option (Value × GS) :=
  bS (bx q v0 G) fun x0 G1 =>
  bP (lda Q q 70 3 x0 G1) fun x2 =>
  bS (e.ev.cl 42 [x2] G1) fun x3 G4 =>
  bS (gd x3 true (bP (fa Q q 70 0 0 x0) fun y => some (y, G4)) G4) fun x5 G6 =>
  bS (gd x3 true (bP (ld Q q 3 x5 G6) fun y => some (y, G6)) G6) fun x7 G8 =>
  bS (gd x3 true (bP (bn Q q .geq 3 (.tmp 7) (.const (.int .i64 0)) x7 (.int .i64 0)) fun y => some (y, G8)) G8) fun x9 G10 =>
  bP (pickV x3 x9 (.bool false)) fun x11 =>
  bS (gd x11 true (bP (fa Q q 70 0 0 x0) fun y => some (y, G10)) G10) fun x12 G13 =>
  bS (gd x11 true (bP (ld Q q 3 x12 G13) fun y => some (y, G13)) G13) fun x14 G15 =>
  bS (gd x11 true (bP (bn Q q .lss 3 (.tmp 12) (.const (.int .i64 4096)) x14 (.int .i64 4096)) fun y => some (y, G15)) G15) fun x16 G17 =>
  bP (pickV x11 x16 (.bool false)) fun x18 =>
  some (x18, G17)
theorem m46 {e : Ex} {E : Ev} (h : ExLe Q e E) (v0 : Value) (G : GS) : Ref (s46 true e v0 G) (s46 false (Ex.of E) v0 G) := by
  unfold s46
  exact Ref.go
theorem f46 {orc : FuncId → Bool} {e : Ex} (h : ExLe Q e (E orc)) (v0 : Value) (G : GS) : Ref (s46 true e v0 G) ((E orc).cl 46 [v0] G) :=
  fun r hr => cl_sxE_some Q orc (vs := [v0]) G Try.func46 (by kernel_rfl) (by kernel_rfl) (by kernel_rfl) (by kernel_rfl) (by kernel_rfl) (m46 h v0 G r hr)
/-- coxswain/coxswainlaw25.sent -/
noncomputable def s47 (q : Bool) (e : Ex) (G : GS) : Option (Value × GS) :=
  bS (e.ev.cl 19 [] G) fun x0 G1 =>
  bS (al Q q 70 z70 G1) fun x2 G3 =>
  bP (st Q q 70 3 x2 x0 G3) fun G4 =>
  bP (lda Q q 70 3 x2 G4) fun x5 =>
  bS (e.ev.cl 77 [x5, (.int .i64 9)] G4) fun x6 G7 =>
  bP (ep Q q false 22 (.tmp 12) (.const (.pointer none)) x6 (.pointer none)) fun x8 =>
  ifV x8 (
  some ((.pointer none), G7)) (
  bP (lda Q q 70 3 x2 G7) fun x9 =>
  bS (e.ev.cl 78 [x9, x6, (.int .i64 1), (.int .i64 9)] G7) fun x10 G11 =>
  bP (pExtract x10 0) fun x12 =>
  bP (pExtract x10 1) fun x13 =>
  bP (lda Q q 70 3 x2 G11) fun x14 =>
  bS (e.ev.cl 78 [x14, x6, (.int .i64 1), (.int .i64 8)] G11) fun x15 G16 =>
  bP (pExtract x15 0) fun x17 =>
  bP (pExtract x15 1) fun x18 =>
  bP (lda Q q 70 3 x2 G16) fun x19 =>
  bS (e.ev.cl 78 [x19, x6, (.int .i64 1), (.int .i64 7)] G16) fun x20 G21 =>
  bP (pExtract x20 0) fun x22 =>
  bP (pExtract x20 1) fun x23 =>
  bP (bn Q q .neq 23 (.tmp 32) (.const (.int .i64 0)) x12 (.int .i64 0)) fun x24 =>
  bS (gd x24 false (some (x13, G21)) G21) fun x25 G26 =>
  bS (gd x24 false (bP (bn Q q .neq 3 (.tmp 35) (.const (.int .i64 4)) x25 (.int .i64 4)) fun y => some (y, G26)) G26) fun x27 G28 =>
  bP (pickV x24 (.bool true) x27) fun x29 =>
  bS (gd x29 false (some (x17, G28)) G28) fun x30 G31 =>
  bS (gd x29 false (bP (bn Q q .neq 23 (.tmp 39) (.const (.int .i64 0)) x30 (.int .i64 0)) fun y => some (y, G31)) G31) fun x32 G33 =>
  bP (pickV x29 (.bool true) x32) fun x34 =>
  bS (gd x34 false (some (x22, G33)) G33) fun x35 G36 =>
  bS (gd x34 false (bP (bn Q q .neq 23 (.tmp 43) (.const (.int .i64 7)) x35 (.int .i64 7)) fun y => some (y, G36)) G36) fun x37 G38 =>
  bP (pickV x34 (.bool true) x37) fun x39 =>
  ifV x39 (
  some ((.pointer none), G38)) (
  some (x6, G38)))
theorem m47 {e : Ex} {E : Ev} (h : ExLe Q e E) (G : GS) : Ref (s47 true e  G) (s47 false (Ex.of E)  G) := by
  unfold s47
  exact Ref.go
theorem f47 {orc : FuncId → Bool} {e : Ex} (h : ExLe Q e (E orc)) (ho : orc 47 = false) (G : GS) : Ref (s47 true e  G) ((E orc).cl 47 [] G) :=
  fun r hr => cl_sxE_some Q orc (vs := []) G Try.func47 (by kernel_rfl) (by kernel_rfl) ho (by kernel_rfl) (by kernel_rfl) (m47 h  G r hr)
instance ilp48_0 : LpIs Q 48 0 (subAt [1, 1, 0, 1, 0, 0] (bodyOf Try.f48)) 31 := ⟨by kernel_rfl, by kernel_rfl⟩
noncomputable def b48_0 (q : Bool) (e : Ex) (lp : Env → GS → Option (Exit × Env × GS)) (τ : Env) (G : GS) : Option (Exit × Env × GS) :=
  bV q (τ 0) fun a0_ =>
  bV q (τ 1) fun a1_ =>
  bV q (τ 5) fun a5_ =>
  bV q (τ 6) fun a6_ =>
  bS (gd a5_ true (some (a6_, G)) G) fun x0 G1 =>
  bS (gd a5_ true (some (a0_, G1)) G1) fun x2 G3 =>
  bS (gd a5_ true (bP (ln Q q 62 x2) fun y => some (y, G3)) G3) fun x4 G5 =>
  bS (gd a5_ true (bP (bn Q q .lss 3 (.tmp 14) (.tmp 16) x0 x4) fun y => some (y, G5)) G5) fun x6 G7 =>
  bP (pickV a5_ x6 (.bool false)) fun x8 =>
  ifV x8 (
  bP (ias Q q 62 1 a0_ a6_) fun x9 =>
  bP (ld Q q 3 x9 (G7.room 10)) fun x10 =>
  bP (ias Q q 62 1 a1_ a6_) fun x11 =>
  bP (ld Q q 3 x11 (G7.room 10)) fun x12 =>
  bP (bn Q q .eql 3 (.tmp 24) (.tmp 28) x10 x12) fun x13 =>
  bP (bn Q q .add 3 (.tmp 19) (.const (.int .i64 1)) a6_ (.int .i64 1)) fun x14 =>
  lp (tu τ [(0, a0_), (1, a1_), (5, x13), (6, x14), (12, a5_), (13, a5_), (14, x0), (15, x2), (16, x4), (17, x6), (18, x8), (19, a6_), (20, x14), (21, a0_), (22, a6_), (23, x9), (24, x10), (25, a1_), (26, a6_), (27, x11), (28, x12), (29, x13)]) (G7.room 10)) (
  some ((.exit 0), clq q 31 (tu τ [(0, a0_), (1, a1_), (5, a5_), (6, a6_), (12, a5_), (13, a5_), (14, x0), (15, x2), (16, x4), (17, x6), (18, x8)]), G7))
theorem mb48_0 {e : Ex} {E : Ev} (h : ExLe Q e E) {lp lp' : Env → GS → Option (Exit × Env × GS)} (hlp : LpLe lp lp') (τ : Env) (G : GS) : Ref (b48_0 true e lp τ G) (b48_0 false (Ex.of E) lp' τ G) := by
  unfold b48_0
  exact Ref.go
theorem l48_0 {orc : FuncId → Bool} {e : Ex} (h : ExLe Q e (E orc)) (lp : Env → GS → Option (Exit × Env × GS)) (hlp : ∀ τ G, Ref (lp τ G) (mapE ((E orc).lp (subAt [1, 1, 0, 1, 0, 0] (bodyOf Try.f48)) (lst 31 τ) G))) (T : List Value) (G : GS) (hT : T.length = 31) : Ref (b48_0 true e lp (nth undef T) G) (mapE ((E orc).lp (subAt [1, 1, 0, 1, 0, 0] (bodyOf Try.f48)) T G)) :=
  fun r hr => lp_sxM Q orc G hT (by kernel_rfl) (mb48_0 h ⟨hlp⟩ _ _ r hr)
/-- coxswain/coxswainkit.SameInts -/
noncomputable def s48 (q : Bool) (e : Ex) (v0 v1 : Value) (G : GS) : Option (Value × GS) :=
  bP (ln Q q 62 v0) fun x0 =>
  bP (ln Q q 62 v1) fun x1 =>
  bP (bn Q q .eql 3 (.tmp 8) (.tmp 10) x0 x1) fun x2 =>
  bL q e 48 0 (subAt [1, 1, 0, 1, 0, 0] (bodyOf Try.f48)) 31 (tu (nth undef [v0, v1]) [(4, (.bool false)), (5, x2), (6, (.int .i64 0)), (7, v0), (8, x0), (9, v1), (10, x1), (11, x2)]) G fun e3 t4 G5 =>
  bV q (t4 5) fun t4x5_ =>
  ifE e3 (.exit 0) (
  some (t4x5_, G5)) (none)
theorem m48 {e : Ex} {E : Ev} (h : ExLe Q e E) (v0 v1 : Value) (G : GS) : Ref (s48 true e v0 v1 G) (s48 false (Ex.of E) v0 v1 G) := by
  unfold s48
  exact Ref.go
theorem f48 {orc : FuncId → Bool} {e : Ex} (h : ExLe Q e (E orc)) (v0 v1 : Value) (G : GS) : Ref (s48 true e v0 v1 G) ((E orc).cl 48 [v0, v1] G) :=
  fun r hr => cl_sxE_some Q orc (vs := [v0, v1]) G Try.func48 (by kernel_rfl) (by kernel_rfl) (by kernel_rfl) (by kernel_rfl) (by kernel_rfl) (m48 h v0 v1 G r hr)
instance ilp49_0 : LpIs Q 49 0 (subAt [1, 1, 1, 0, 0, 0] (bodyOf Try.f49)) 37 := ⟨by kernel_rfl, by kernel_rfl⟩
noncomputable def b49_0 (q : Bool) (e : Ex) (lp : Env → GS → Option (Exit × Env × GS)) (τ : Env) (G : GS) : Option (Exit × Env × GS) :=
  bV q (τ 1) fun a1_ =>
  bV q (τ 10) fun a10_ =>
  bV q (τ 11) fun a11_ =>
  bP (bn Q q .lss 3 (.tmp 18) (.const (.int .i64 200)) a11_ (.int .i64 200)) fun x0 =>
  bS (gd x0 true (some (a10_, G)) G) fun x1 G2 =>
  bS (gd x0 true (some (a1_, G2)) G2) fun x3 G4 =>
  bS (gd x0 true (bS (e.ev.cl 16 [x1, x3] G4) fun y G => some (y, G)) G4) fun x5 G6 =>
  bS (gd x0 true (bP (un Q q .not x5) fun y => some (y, G6)) G6) fun x7 G8 =>
  bP (pickV x0 x7 (.bool false)) fun x9 =>
  ifV x9 (
  bP (bn Q q .add 3 (.tmp 26) (.const (.int .i64 1)) a11_ (.int .i64 1)) fun x10 =>
  lp (tu τ [(1, a1_), (10, a10_), (11, x10), (18, a11_), (19, x0), (20, x0), (21, x1), (22, x3), (23, x5), (24, x7), (25, x9), (26, a11_), (27, x10)]) G8) (
  some ((.exit 0), clq q 37 (tu τ [(1, a1_), (10, a10_), (11, a11_), (18, a11_), (19, x0), (20, x0), (21, x1), (22, x3), (23, x5), (24, x7), (25, x9)]), G8))
theorem mb49_0 {e : Ex} {E : Ev} (h : ExLe Q e E) {lp lp' : Env → GS → Option (Exit × Env × GS)} (hlp : LpLe lp lp') (τ : Env) (G : GS) : Ref (b49_0 true e lp τ G) (b49_0 false (Ex.of E) lp' τ G) := by
  unfold b49_0
  exact Ref.go
theorem l49_0 {orc : FuncId → Bool} {e : Ex} (h : ExLe Q e (E orc)) (lp : Env → GS → Option (Exit × Env × GS)) (hlp : ∀ τ G, Ref (lp τ G) (mapE ((E orc).lp (subAt [1, 1, 1, 0, 0, 0] (bodyOf Try.f49)) (lst 37 τ) G))) (T : List Value) (G : GS) (hT : T.length = 37) : Ref (b49_0 true e lp (nth undef T) G) (mapE ((E orc).lp (subAt [1, 1, 1, 0, 0, 0] (bodyOf Try.f49)) T G)) :=
  fun r hr => lp_sxM Q orc G hT (by kernel_rfl) (mb49_0 h ⟨hlp⟩ _ _ r hr)
/-- coxswain/coxswainlaw25.drain -/
noncomputable def s49 (q : Bool) (e : Ex) (v0 v1 v2 v3 : Value) (G : GS) : Option (Value × GS) :=
  bS (bx q v0 G) fun x0 G1 =>
  bP (lda Q q 70 3 x0 G1) fun x2 =>
  bS (e.ev.cl 79 [x2, v2, v3] G1) fun x3 G4 =>
  bL q e 49 0 (subAt [1, 1, 1, 0, 0, 0] (bodyOf Try.f49)) 37 (tu (nth undef [v0, v1, v2, v3]) [(4, x0), (8, (.slice none 0 0)), (9, (.int .i64 0)), (10, x3), (11, (.int .i64 1)), (14, x2), (15, v2), (16, v3), (17, x3)]) G4 fun e5 t6 G7 =>
  bV q (t6 10) fun t6x10_ =>
  bV q (t6 11) fun t6x11_ =>
  ifE e5 (.exit 0) (
  bS (e.ev.cl 14 [t6x10_] G7) fun x8 G9 =>
  bP (pExtract x8 0) fun x10 =>
  bP (pExtract x8 1) fun x11 =>
  bP (bn Q q .neq 23 (.tmp 33) (.const (.int .i64 0)) x11 (.int .i64 0)) fun x12 =>
  ifV x12 (
  some (.tuple #[(.slice none 0 0), (.int .i64 0)], G9)) (
  some (.tuple #[x10, t6x11_], G9))) (none)
theorem m49 {e : Ex} {E : Ev} (h : ExLe Q e E) (v0 v1 v2 v3 : Value) (G : GS) : Ref (s49 true e v0 v1 v2 v3 G) (s49 false (Ex.of E) v0 v1 v2 v3 G) := by
  unfold s49
  exact Ref.go
theorem f49 {orc : FuncId → Bool} {e : Ex} (h : ExLe Q e (E orc)) (v0 v1 v2 v3 : Value) (G : GS) : Ref (s49 true e v0 v1 v2 v3 G) ((E orc).cl 49 [v0, v1, v2, v3] G) :=
  fun r hr => cl_sxE_some Q orc (vs := [v0, v1, v2, v3]) G Try.func49 (by kernel_rfl) (by kernel_rfl) (by kernel_rfl) (by kernel_rfl) (by kernel_rfl) (m49 h v0 v1 v2 v3 G r hr)
/-- (*coxswain/cells.Mem).Store -/
noncomputable def s57 (q : Bool) (e : Ex) (v0 v1 v2 : Value) (G : GS) : Option (Value × GS) :=
  bS (e.ev.cl 60 [v0, v1] G) fun x0 G1 =>
  bP (bd Q q 127 z127 [(0, 0, 1), (1, 1, 1)] [x0, v2]) fun x2 =>
  bS (al Q q 127 z127 G1) fun x3 G4 =>
  bP (st Q q 127 3 x3 x2 G4) fun G5 =>
  bP (fa Q q 127 0 0 x3) fun x6 =>
  bP (ld Q q 124 x6 G5) fun x7 =>
  bP (lda Q q 127 3 x3 G5) fun x8 =>
  bS (e.ev.cl 61 [v0, (.int .i64 2), v1, x7, (.func (.func 86) #[x8] #[])] G5) fun x9 G10 =>
  some (.tuple #[], G10)
theorem m57 {e : Ex} {E : Ev} (h : ExLe Q e E) (v0 v1 v2 : Value) (G : GS) : Ref (s57 true e v0 v1 v2 G) (s57 false (Ex.of E) v0 v1 v2 G) := by
  unfold s57
  exact Ref.go
theorem f57 {orc : FuncId → Bool} {e : Ex} (h : ExLe Q e (E orc)) (v0 v1 v2 : Value) (G : GS) : Ref (s57 true e v0 v1 v2 G) ((E orc).cl 57 [v0, v1, v2] G) :=
  fun r hr => cl_sxE_some Q orc (vs := [v0, v1, v2]) G Try.func57 (by kernel_rfl) (by kernel_rfl) (by kernel_rfl) (by kernel_rfl) (by kernel_rfl) (m57 h v0 v1 v2 G r hr)
/-- (*coxswain/cells.Mem).cell -/
noncomputable def s60 (q : Bool) (e : Ex) (v0 v1 : Value) (G : GS) : Option (Value × GS) :=
  bP (ep Q q false 22 (.tmp 5) (.const (.pointer none)) v0 (.pointer none)) fun x0 =>
  bS (gd x0 false (some (v0, G)) G) fun x1 G2 =>
  bS (gd x0 false (bP (pNil x1) fun y => some (y, G2)) G2) fun x3 G4 =>
  bS (gd x0 false (bP (fa Q q 82 0 0 x3) fun y => some (y, G4)) G4) fun x5 G6 =>
  bS (gd x0 false (bP (ld Q q 75 x5 G6) fun y => some (y, G6)) G6) fun x7 G8 =>
  bS (gd x0 false (bP (ep Q q false 75 (.tmp 11) (.const (.pointer none)) x7 (.pointer none)) fun y => some (y, G8)) G8) fun x9 G10 =>
  bP (pickV x0 (.bool true) x9) fun x11 =>
  bS (gd x11 false (some (v1, G10)) G10) fun x12 G13 =>
  bS (gd x11 false (bP (bn Q q .lss 3 (.tmp 15) (.const (.int .i64 0)) x12 (.int .i64 0)) fun y => some (y, G13)) G13) fun x14 G15 =>
  bP (pickV x11 (.bool true) x14) fun x16 =>
  bS (gd x16 false (some (v1, G15)) G15) fun x17 G18 =>
  bS (gd x16 false (some (v0, G18)) G18) fun x19 G20 =>
  bS (gd x16 false (bP (pNil x19) fun y => some (y, G20)) G20) fun x21 G22 =>
  bS (gd x16 false (bP (fa Q q 82 1 1 x21) fun y => some (y, G22)) G22) fun x23 G24 =>
  bS (gd x16 false (bP (ld Q q 3 x23 G24) fun y => some (y, G24)) G24) fun x25 G26 =>
  bS (gd x16 false (bP (bn Q q .geq 3 (.tmp 19) (.tmp 23) x17 x25) fun y => some (y, G26)) G26) fun x27 G28 =>
  bP (pickV x16 (.bool true) x27) fun x29 =>
  ifV x29 (
  some ((.pointer none), G28)) (
  bP (pNil v0) fun x30 =>
  bP (fa Q q 82 0 0 x30) fun x31 =>
  bP (ld Q q 75 x31 G28) fun x32 =>
  bP (pNil x32) fun x33 =>
  bP (iaa Q q 78 4096 1 x33 v1) fun x34 =>
  some (x34, G28))
theorem m60 {e : Ex} {E : Ev} (h : ExLe Q e E) (v0 v1 : Value) (G : GS) : Ref (s60 true e v0 v1 G) (s60 false (Ex.of E) v0 v1 G) := by
  unfold s60
  exact Ref.go
theorem f60 {orc : FuncId → Bool} {e : Ex} (h : ExLe Q e (E orc)) (v0 v1 : Value) (G : GS) : Ref (s60 true e v0 v1 G) ((E orc).cl 60 [v0, v1] G) :=
  fun r hr => cl_sxE_some Q orc (vs := [v0, v1]) G Try.func60 (by kernel_rfl) (by kernel_rfl) (by kernel_rfl) (by kernel_rfl) (by kernel_rfl) (m60 h v0 v1 G r hr)
/-- (*coxswain/cells.Mem).do -/
noncomputable def s61 (q : Bool) (e : Ex) (v0 v1 v2 v3 v4 : Value) (G : GS) : Option (Value × GS) :=
  bS (al Q q 80 z80 G) fun x0 G1 =>
  bP (ep Q q false 22 (.tmp 13) (.const (.pointer none)) v0 (.pointer none)) fun x2 =>
  bS (gd x2 false (some (v0, G1)) G1) fun x3 G4 =>
  bS (gd x2 false (bP (pNil x3) fun y => some (y, G4)) G4) fun x5 G6 =>
  bS (gd x2 false (bP (fa Q q 82 0 0 x5) fun y => some (y, G6)) G6) fun x7 G8 =>
  bS (gd x2 false (bP (ld Q q 75 x7 G8) fun y => some (y, G8)) G8) fun x9 G10 =>
  bS (gd x2 false (bP (ep Q q false 75 (.tmp 19) (.const (.pointer none)) x9 (.pointer none)) fun y => some (y, G10)) G10) fun x11 G12 =>
  bP (pickV x2 (.bool true) x11) fun x13 =>
  ifV x13 (
  bP (bd Q q 80 z80 [] []) fun x14 =>
  bP (st Q q 80 5 x0 x14 G12) fun G15 =>
  bP (lda Q q 80 5 x0 G15) fun x16 =>
  some (x16, G15)) (
  bP (pNil v0) fun x17 =>
  bP (fa Q q 82 3 7 x17) fun x18 =>
  bP (ld Q q 3 x18 G12) fun x19 =>
  bP (bn Q q .add 3 (.tmp 26) (.const (.int .i64 1)) x19 (.int .i64 1)) fun x20 =>
  bP (pNil v0) fun x21 =>
  bP (fa Q q 82 3 7 x21) fun x22 =>
  bP (st Q q 3 1 x22 x20 G12) fun G23 =>
  bP (bd Q q 80 z80 [(0, 0, 1), (1, 1, 1)] [v1, v2]) fun x24 =>
  bP (pNil v0) fun x25 =>
  bP (fa Q q 82 2 2 x25) fun x26 =>
  bP (st Q q 80 5 x26 x24 G23) fun G27 =>
  bS (e.ev.cl 92 [v3] G27) fun x28 G29 =>
  ifV x28 (
  bS (cValue e.ev v4 [] G29) fun x30 G31 =>
  bP (pExtract x30 0) fun x32 =>
  bP (pExtract x30 1) fun x33 =>
  bP (pNil v3) fun x34 =>
  bP (ld Q q 76 x34 G31) fun x35 =>
  bP (pNil v0) fun x36 =>
  bP (fa Q q 82 2 2 x36) fun x37 =>
  bP (fa Q q 80 2 2 x37) fun x38 =>
  bP (st Q q 33 1 x38 x35 G31) fun G39 =>
  bP (pNil v0) fun x40 =>
  bP (fa Q q 82 2 2 x40) fun x41 =>
  bP (fa Q q 80 3 3 x41) fun x42 =>
  bP (st Q q 33 1 x42 x32 G39) fun G43 =>
  bP (pNil v0) fun x44 =>
  bP (fa Q q 82 2 2 x44) fun x45 =>
  bP (fa Q q 80 4 4 x45) fun x46 =>
  bP (st Q q 4 1 x46 x33 G43) fun G47 =>
  bP (pNil v3) fun x48 =>
  bP (st Q q 76 1 x48 x32 G47) fun G49 =>
  bP (pNil v0) fun x50 =>
  bP (fa Q q 82 2 2 x50) fun x51 =>
  bP (lda Q q 80 5 x51 G49) fun x52 =>
  bP (st Q q 80 5 x0 x52 G49) fun G53 =>
  bP (lda Q q 80 5 x0 G53) fun x54 =>
  some (x54, G53)) (
  bP (pNil v0) fun x55 =>
  bP (fa Q q 82 2 2 x55) fun x56 =>
  bP (lda Q q 80 5 x56 G29) fun x57 =>
  bP (st Q q 80 5 x0 x57 G29) fun G58 =>
  bP (lda Q q 80 5 x0 G58) fun x59 =>
  some (x59, G58)))
theorem m61 {e : Ex} {E : Ev} (h : ExLe Q e E) (v0 v1 v2 v3 v4 : Value) (G : GS) : Ref (s61 true e v0 v1 v2 v3 v4 G) (s61 false (Ex.of E) v0 v1 v2 v3 v4 G) := by
  unfold s61
  exact Ref.go
theorem f61 {orc : FuncId → Bool} {e : Ex} (h : ExLe Q e (E orc)) (v0 v1 v2 v3 v4 : Value) (G : GS) : Ref (s61 true e v0 v1 v2 v3 v4 G) ((E orc).cl 61 [v0, v1, v2, v3, v4] G) :=
  fun r hr => cl_sxE_some Q orc (vs := [v0, v1, v2, v3, v4]) G Try.func61 (by kernel_rfl) (by kernel_rfl) (by kernel_rfl) (by kernel_rfl) (by kernel_rfl) (m61 h v0 v1 v2 v3 v4 G r hr)
/-- (coxswain/cells.deed).load -/
noncomputable def s62 (q : Bool) (e : Ex) (v0 : Value) (G : GS) : Option (Value × GS) :=
  bS (bx q v0 G) fun x0 G1 =>
  bP (fa Q q 127 0 0 x0) fun x2 =>
  bP (ld Q q 124 x2 G1) fun x3 =>
  bP (pNil x3) fun x4 =>
  bP (ld Q q 76 x4 G1) fun x5 =>
  some (.tuple #[x5, (.bool false)], G1)
theorem m62 {e : Ex} {E : Ev} (h : ExLe Q e E) (v0 : Value) (G : GS) : Ref (s62 true e v0 G) (s62 false (Ex.of E) v0 G) := by
  unfold s62
  exact Ref.go
theorem f62 {orc : FuncId → Bool} {e : Ex} (h : ExLe Q e (E orc)) (v0 : Value) (G : GS) : Ref (s62 true e v0 G) ((E orc).cl 62 [v0] G) :=
  fun r hr => cl_sxE_some Q orc (vs := [v0]) G Try.func62 (by kernel_rfl) (by kernel_rfl) (by kernel_rfl) (by kernel_rfl) (by kernel_rfl) (m62 h v0 G r hr)
/-- (*coxswain/ring.work).step -/
noncomputable def s63 (q : Bool) (e : Ex) (v0 v1 : Value) (G : GS) : Option (Value × GS) :=
  bP (pNil v0) fun x0 =>
  bP (fa Q q 131 1 4 x0) fun x1 =>
  bP (ld Q q 84 x1 G) fun x2 =>
  bP (ef Q q true 84 (.tmp 8) (.const .nilFunc) x2 .nilFunc) fun x3 =>
  ifV x3 (
  bP (pNil v0) fun x4 =>
  bP (fa Q q 131 1 4 x4) fun x5 =>
  bP (ld Q q 84 x5 G) fun x6 =>
  bS (cValue e.ev x6 [v1] G) fun x7 G8 =>
  bP (pNil v0) fun x9 =>
  bP (fa Q q 131 1 4 x9) fun x10 =>
  bP (ld Q q 84 x10 G8) fun x11 =>
  bP (ef Q q false 84 (.tmp 19) (.const .nilFunc) x11 .nilFunc) fun x12 =>
  some (x12, G8)) (
  bP (pNil v0) fun x13 =>
  bP (fa Q q 131 1 4 x13) fun x14 =>
  bP (ld Q q 84 x14 G) fun x15 =>
  bP (ef Q q false 84 (.tmp 19) (.const .nilFunc) x15 .nilFunc) fun x16 =>
  some (x16, G))
theorem m63 {e : Ex} {E : Ev} (h : ExLe Q e E) (v0 v1 : Value) (G : GS) : Ref (s63 true e v0 v1 G) (s63 false (Ex.of E) v0 v1 G) := by
  unfold s63
  exact Ref.go
theorem f63 {orc : FuncId → Bool} {e : Ex} (h : ExLe Q e (E orc)) (v0 v1 : Value) (G : GS) : Ref (s63 true e v0 v1 G) ((E orc).cl 63 [v0, v1] G) :=
  fun r hr => cl_sxE_some Q orc (vs := [v0, v1]) G Try.func63 (by kernel_rfl) (by kernel_rfl) (by kernel_rfl) (by kernel_rfl) (by kernel_rfl) (m63 h v0 v1 G r hr)
/-- (*coxswain/ring.work).told -/
noncomputable def s64 (q : Bool) (e : Ex) (v0 : Value) (G : GS) : Option (Value × GS) :=
  bP (pNil v0) fun x0 =>
  bP (fa Q q 131 2 5 x0) fun x1 =>
  bP (ld Q q 4 x1 G) fun x2 =>
  bP (un Q q .not x2) fun x3 =>
  ifV x3 (
  some ((.int .i64 1), G)) (
  bP (pNil v0) fun x4 =>
  bP (fa Q q 131 1 4 x4) fun x5 =>
  bP (ld Q q 84 x5 G) fun x6 =>
  bP (ef Q q true 84 (.tmp 13) (.const .nilFunc) x6 .nilFunc) fun x7 =>
  ifV x7 (
  some ((.int .i64 14), G)) (
  bP (pNil v0) fun x8 =>
  bP (fa Q q 131 3 6 x8) fun x9 =>
  bP (ld Q q 23 x9 G) fun x10 =>
  some (x10, G)))
theorem m64 {e : Ex} {E : Ev} (h : ExLe Q e E) (v0 : Value) (G : GS) : Ref (s64 true e v0 G) (s64 false (Ex.of E) v0 G) := by
  unfold s64
  exact Ref.go
theorem f64 {orc : FuncId → Bool} {e : Ex} (h : ExLe Q e (E orc)) (v0 : Value) (G : GS) : Ref (s64 true e v0 G) ((E orc).cl 64 [v0] G) :=
  fun r hr => cl_sxE_some Q orc (vs := [v0]) G Try.func64 (by kernel_rfl) (by kernel_rfl) (by kernel_rfl) (by kernel_rfl) (by kernel_rfl) (m64 h v0 G r hr)
/-- coxswain/ring.begun -/
noncomputable def s65 (q : Bool) (e : Ex) (v0 : Value) (G : GS) : Option (Value × GS) :=
  bS (bx q v0 G) fun x0 G1 =>
  bS (al Q q 131 z131 G1) fun x2 G3 =>
  bP (lda Q q 59 4 x0 G3) fun x4 =>
  bS (e.ev.cl 71 [x4] G3) fun x5 G6 =>
  bP (un Q q .not x5) fun x7 =>
  ifV x7 (
  bP (bd Q q 131 z131 [(2, 5, 1), (3, 6, 1)] [(.bool true), (.int .i64 2)]) fun x8 =>
  bP (st Q q 131 7 x2 x8 G6) fun G9 =>
  bP (lda Q q 131 7 x2 G9) fun x10 =>
  some (x10, G9)) (
  bP (lda Q q 59 4 x0 G6) fun x11 =>
  bP (bd Q q 131 z131 [(0, 0, 4), (2, 5, 1)] [x11, (.bool true)]) fun x12 =>
  bP (st Q q 131 7 x2 x12 G6) fun G13 =>
  bP (lda Q q 131 7 x2 G13) fun x14 =>
  some (x14, G13))
theorem m65 {e : Ex} {E : Ev} (h : ExLe Q e E) (v0 : Value) (G : GS) : Ref (s65 true e v0 G) (s65 false (Ex.of E) v0 G) := by
  unfold s65
  exact Ref.go
theorem f65 {orc : FuncId → Bool} {e : Ex} (h : ExLe Q e (E orc)) (v0 : Value) (G : GS) : Ref (s65 true e v0 G) ((E orc).cl 65 [v0] G) :=
  fun r hr => cl_sxE_some Q orc (vs := [v0]) G Try.func65 (by kernel_rfl) (by kernel_rfl) (by kernel_rfl) (by kernel_rfl) (by kernel_rfl) (m65 h v0 G r hr)
/-- (*coxswain/ring.Drop).clear -/
noncomputable def s66 (q : Bool) (e : Ex) (v0 v1 : Value) (G : GS) : Option (Value × GS) :=
  bP (pNil v0) fun x0 =>
  bP (fa Q q 139 0 0 x0) fun x1 =>
  bP (fa Q q 131 0 0 x1) fun x2 =>
  bP (lda Q q 59 4 x2 (G.room 24)) fun x3 =>
  bP (pNil v0) fun x4 =>
  bP (fa Q q 139 1 7 x4) fun x5 =>
  bP (ld Q q 33 x5 (G.room 24)) fun x6 =>
  bS (e.ev.cl 75 [x3, x6] (G.room 24)) fun x8 G7 =>
  bP (pNil v0) fun x9 =>
  bP (fa Q q 139 0 0 x9) fun x10 =>
  bP (fa Q q 131 0 0 x10) fun x11 =>
  bP (lda Q q 59 4 x11 G7) fun x12 =>
  chk ((sameO (lda Q q 59 4 x11 (G.room 24)) x12 && true)) <|
  bP (pNil v0) fun x13 =>
  bP (fa Q q 139 1 7 x13) fun x14 =>
  bP (ld Q q 33 x14 G7) fun x15 =>
  chk ((sameO (ld Q q 33 x14 (G.room 24)) x15 && true)) <|
  bS (e.ev.cl 94 [x12, x15] G7) fun x17 G16 =>
  bP (bn Q q .add 162 (.tmp 24) (.const (.int .u32 1)) x17 (.int .u32 1)) fun x18 =>
  bS (e.ev.cl 93 [x18] G16) fun x20 G19 =>
  bS (e.ev.cl 57 [v1, x8, x20] G19) fun x22 G21 =>
  bP (pNil v0) fun x23 =>
  bP (fa Q q 139 0 0 x23) fun x24 =>
  bP (fa Q q 131 1 4 x24) fun x25 =>
  bP (st Q q 84 1 x25 (.func (.func 95) #[v0] #[]) G21) fun G26 =>
  some (.tuple #[], G26)
theorem m66 {e : Ex} {E : Ev} (h : ExLe Q e E) (v0 v1 : Value) (G : GS) : Ref (s66 true e v0 v1 G) (s66 false (Ex.of E) v0 v1 G) := by
  unfold s66
  exact Ref.go
theorem f66 {orc : FuncId → Bool} {e : Ex} (h : ExLe Q e (E orc)) (v0 v1 : Value) (G : GS) : Ref (s66 true e v0 v1 G) ((E orc).cl 66 [v0, v1] G) :=
  fun r hr => cl_sxE_some Q orc (vs := [v0, v1]) G Try.func66 (by kernel_rfl) (by kernel_rfl) (by kernel_rfl) (by kernel_rfl) (by kernel_rfl) (m66 h v0 v1 G r hr)
/-- (*coxswain/ring.Front).head -/
noncomputable def s67 (q : Bool) (e : Ex) (v0 v1 : Value) (G : GS) : Option (Value × GS) :=
  bP (pNil v0) fun x0 =>
  bP (fa Q q 136 0 0 x0) fun x1 =>
  bP (fa Q q 131 0 0 x1) fun x2 =>
  bP (fa Q q 59 0 0 x2) fun x3 =>
  bP (ld Q q 3 x3 G) fun x4 =>
  bS (e.ev.cl 31 [v1, x4] G) fun x5 G6 =>
  bP (pNil v0) fun x7 =>
  bP (fa Q q 136 1 7 x7) fun x8 =>
  bP (st Q q 33 1 x8 x5 G6) fun G9 =>
  bP (pNil v0) fun x10 =>
  bP (fa Q q 136 0 0 x10) fun x11 =>
  bP (fa Q q 131 1 4 x11) fun x12 =>
  bP (st Q q 84 1 x12 (.func (.func 96) #[v0] #[]) G9) fun G13 =>
  some (.tuple #[], G13)
theorem m67 {e : Ex} {E : Ev} (h : ExLe Q e E) (v0 v1 : Value) (G : GS) : Ref (s67 true e v0 v1 G) (s67 false (Ex.of E) v0 v1 G) := by
  unfold s67
  exact Ref.go
theorem f67 {orc : FuncId → Bool} {e : Ex} (h : ExLe Q e (E orc)) (v0 v1 : Value) (G : GS) : Ref (s67 true e v0 v1 G) ((E orc).cl 67 [v0, v1] G) :=
  fun r hr => cl_sxE_some Q orc (vs := [v0, v1]) G Try.func67 (by kernel_rfl) (by kernel_rfl) (by kernel_rfl) (by kernel_rfl) (by kernel_rfl) (m67 h v0 v1 G r hr)
/-- (*coxswain/ring.work).ends -/
noncomputable def s68 (q : Bool) (e : Ex) (v0 v1 : Value) (G : GS) : Option (Value × GS) :=
  bP (pNil v0) fun x0 =>
  bP (fa Q q 131 1 4 x0) fun x1 =>
  bP (st Q q 84 1 x1 .nilFunc G) fun G2 =>
  bP (pNil v0) fun x3 =>
  bP (fa Q q 131 3 6 x3) fun x4 =>
  bP (st Q q 23 1 x4 v1 G2) fun G5 =>
  some (.tuple #[], G5)
theorem m68 {e : Ex} {E : Ev} (h : ExLe Q e E) (v0 v1 : Value) (G : GS) : Ref (s68 true e v0 v1 G) (s68 false (Ex.of E) v0 v1 G) := by
  unfold s68
  exact Ref.go
theorem f68 {orc : FuncId → Bool} {e : Ex} (h : ExLe Q e (E orc)) (v0 v1 : Value) (G : GS) : Ref (s68 true e v0 v1 G) ((E orc).cl 68 [v0, v1] G) :=
  fun r hr => cl_sxE_some Q orc (vs := [v0, v1]) G Try.func68 (by kernel_rfl) (by kernel_rfl) (by kernel_rfl) (by kernel_rfl) (by kernel_rfl) (m68 h v0 v1 G r hr)
/-- (*coxswain/ring.Push).tail -/
noncomputable def s69 (q : Bool) (e : Ex) (v0 v1 : Value) (G : GS) : Option (Value × GS) :=
  bP (pNil v0) fun x0 =>
  bP (fa Q q 134 0 0 x0) fun x1 =>
  bP (fa Q q 131 0 0 x1) fun x2 =>
  bP (fa Q q 59 1 1 x2) fun x3 =>
  bP (ld Q q 3 x3 G) fun x4 =>
  bS (e.ev.cl 31 [v1, x4] G) fun x5 G6 =>
  bP (pNil v0) fun x7 =>
  bP (fa Q q 134 2 8 x7) fun x8 =>
  bP (st Q q 33 1 x8 x5 G6) fun G9 =>
  bP (pNil v0) fun x10 =>
  bP (fa Q q 134 0 0 x10) fun x11 =>
  bP (fa Q q 131 1 4 x11) fun x12 =>
  bP (st Q q 84 1 x12 (.func (.func 97) #[v0] #[]) G9) fun G13 =>
  some (.tuple #[], G13)
theorem m69 {e : Ex} {E : Ev} (h : ExLe Q e E) (v0 v1 : Value) (G : GS) : Ref (s69 true e v0 v1 G) (s69 false (Ex.of E) v0 v1 G) := by
  unfold s69
  exact Ref.go
theorem f69 {orc : FuncId → Bool} {e : Ex} (h : ExLe Q e (E orc)) (v0 v1 : Value) (G : GS) : Ref (s69 true e v0 v1 G) ((E orc).cl 69 [v0, v1] G) :=
  fun r hr => cl_sxE_some Q orc (vs := [v0, v1]) G Try.func69 (by kernel_rfl) (by kernel_rfl) (by kernel_rfl) (by kernel_rfl) (by kernel_rfl) (m69 h v0 v1 G r hr)
instance ilp70_0 : LpIs Q 70 0 (subAt [1, 0, 0] (bodyOf Try.f70)) 31 := ⟨by kernel_rfl, by kernel_rfl⟩
noncomputable def b70_0 (q : Bool) (e : Ex) (lp : Env → GS → Option (Exit × Env × GS)) (τ : Env) (G : GS) : Option (Exit × Env × GS) :=
  bV q (τ 0) fun a0_ =>
  bV q (τ 1) fun a1_ =>
  bV q (τ 6) fun a6_ =>
  bV q (τ 7) fun a7_ =>
  bP (bn Q q .lss 3 (.tmp 7) (.tmp 6) a7_ a6_) fun x0 =>
  ifV x0 (
  bP (fa Q q 70 0 0 a1_) fun x1 =>
  bP (ld Q q 3 x1 G) fun x2 =>
  bP (fa Q q 70 2 2 a1_) fun x3 =>
  bP (ld Q q 3 x3 G) fun x4 =>
  bP (bn Q q .add 3 (.tmp 14) (.const (.int .i64 2)) x4 (.int .i64 2)) fun x5 =>
  bP (bn Q q .mul 3 (.tmp 12) (.tmp 15) a7_ x5) fun x6 =>
  bP (bn Q q .add 3 (.tmp 11) (.tmp 16) x2 x6) fun x7 =>
  bP (bn Q q .add 3 (.tmp 21) (.const (.int .i64 1)) x7 (.int .i64 1)) fun x8 =>
  bP (bn Q q .add 3 (.tmp 23) (.const (.int .i64 2)) x7 (.int .i64 2)) fun x9 =>
  bP (fa Q q 70 2 2 a1_) fun x10 =>
  bP (ld Q q 3 x10 G) fun x11 =>
  bP (bd Q q 59 z59 [(0, 0, 1), (1, 1, 1), (2, 2, 1), (3, 3, 1)] [x7, x8, x9, x11]) fun x12 =>
  bS (cValue e.ev a0_ [a7_, x12] G) fun x13 G14 =>
  bP (un Q q .not x13) fun x15 =>
  ifV x15 (
  some (.ret, clq q 31 (tu τ [(0, a0_), (1, a1_), (6, a6_), (7, a7_), (3, a7_), (4, x7), (8, x0), (9, a7_), (10, x1), (11, x2), (12, a7_), (13, x3), (14, x4), (15, x5), (16, x6), (17, x7), (18, a0_), (19, a7_), (20, x7), (21, x7), (22, x8), (23, x7), (24, x9), (25, x10), (26, x11), (27, x12), (28, x13), (29, x15)]), G14)) (
  bP (bn Q q .add 3 (.tmp 7) (.const (.int .i64 1)) a7_ (.int .i64 1)) fun x16 =>
  lp (tu τ [(0, a0_), (1, a1_), (6, a6_), (7, x16), (3, a7_), (4, x7), (8, x0), (9, a7_), (10, x1), (11, x2), (12, a7_), (13, x3), (14, x4), (15, x5), (16, x6), (17, x7), (18, a0_), (19, a7_), (20, x7), (21, x7), (22, x8), (23, x7), (24, x9), (25, x10), (26, x11), (27, x12), (28, x13), (29, x15), (30, x16)]) G14)) (
  some ((.exit 0), clq q 31 (tu τ [(0, a0_), (1, a1_), (6, a6_), (7, a7_), (8, x0)]), G))
theorem mb70_0 {e : Ex} {E : Ev} (h : ExLe Q e E) {lp lp' : Env → GS → Option (Exit × Env × GS)} (hlp : LpLe lp lp') (τ : Env) (G : GS) : Ref (b70_0 true e lp τ G) (b70_0 false (Ex.of E) lp' τ G) := by
  unfold b70_0
  exact Ref.go
theorem l70_0 {orc : FuncId → Bool} {e : Ex} (h : ExLe Q e (E orc)) (lp : Env → GS → Option (Exit × Env × GS)) (hlp : ∀ τ G, Ref (lp τ G) (mapE ((E orc).lp (subAt [1, 0, 0] (bodyOf Try.f70)) (lst 31 τ) G))) (T : List Value) (G : GS) (hT : T.length = 31) : Ref (b70_0 true e lp (nth undef T) G) (mapE ((E orc).lp (subAt [1, 0, 0] (bodyOf Try.f70)) T G)) :=
  fun r hr => lp_sxM Q orc G hT (by kernel_rfl) (mb70_0 h ⟨hlp⟩ _ _ r hr)
/-- coxswain/mail.boxes$1 -/
noncomputable def s70 (q : Bool) (e : Ex) (v0 v1 : Value) (G : GS) : Option (Value × GS) :=
  bP (fa Q q 70 1 1 v1) fun x0 =>
  bP (ld Q q 3 x0 G) fun x1 =>
  bL q e 70 0 (subAt [1, 0, 0] (bodyOf Try.f70)) 31 (tu (nth undef [v0, v1]) [(5, x0), (6, x1), (7, (.int .i64 0))]) G fun e2 t3 G4 =>
  ifE e2 (.exit 0) (
  some (.tuple #[], G4)) (ifE e2 .ret (
  some (.tuple #[], G4)) (none))
theorem m70 {e : Ex} {E : Ev} (h : ExLe Q e E) (v0 v1 : Value) (G : GS) : Ref (s70 true e v0 v1 G) (s70 false (Ex.of E) v0 v1 G) := by
  unfold s70
  exact Ref.go
theorem f70 {orc : FuncId → Bool} {e : Ex} (h : ExLe Q e (E orc)) (v0 v1 : Value) (G : GS) : Ref (s70 true e v0 v1 G) ((E orc).cl 70 [v0, v1] G) :=
  fun r hr => cl_sxE_some Q orc (vs := [v0, v1]) G Try.func70 (by kernel_rfl) (by kernel_rfl) (by kernel_rfl) (by kernel_rfl) (by kernel_rfl) (m70 h v0 v1 G r hr)
/-- coxswain/ring.sized -/
noncomputable def s71 (q : Bool) (e : Ex) (v0 : Value) (G : GS) : Option (Value × GS) :=
  bS (bx q v0 G) fun x0 G1 =>
  bP (fa Q q 59 3 3 x0) fun x2 =>
  bP (ld Q q 3 x2 G1) fun x3 =>
  bP (bn Q q .geq 3 (.tmp 4) (.const (.int .i64 1)) x3 (.int .i64 1)) fun x4 =>
  bS (gd x4 true (bP (fa Q q 59 3 3 x0) fun y => some (y, G1)) G1) fun x5 G6 =>
  bS (gd x4 true (bP (ld Q q 3 x5 G6) fun y => some (y, G6)) G6) fun x7 G8 =>
  bS (gd x4 true (bP (bn Q q .leq 3 (.tmp 8) (.const (.int .i64 4096)) x7 (.int .i64 4096)) fun y => some (y, G8)) G8) fun x9 G10 =>
  bP (pickV x4 x9 (.bool false)) fun x11 =>
  some (x11, G10)
theorem m71 {e : Ex} {E : Ev} (h : ExLe Q e E) (v0 : Value) (G : GS) : Ref (s71 true e v0 G) (s71 false (Ex.of E) v0 G) := by
  unfold s71
  exact Ref.go
theorem f71 {orc : FuncId → Bool} {e : Ex} (h : ExLe Q e (E orc)) (v0 : Value) (G : GS) : Ref (s71 true e v0 G) ((E orc).cl 71 [v0] G) :=
  fun r hr => cl_sxE_some Q orc (vs := [v0]) G Try.func71 (by kernel_rfl) (by kernel_rfl) (by kernel_rfl) (by kernel_rfl) (by kernel_rfl) (m71 h v0 G r hr)
instance ilp72_0 : LpIs Q 72 0 (subAt [1, 1, 1, 0, 1, 0, 0] (bodyOf Try.f72)) 42 := ⟨by kernel_rfl, by kernel_rfl⟩
noncomputable def b72_0 (q : Bool) (e : Ex) (lp : Env → GS → Option (Exit × Env × GS)) (τ : Env) (G : GS) : Option (Exit × Env × GS) :=
  bV q (τ 3) fun a3_ =>
  bV q (τ 29) fun a29_ =>
  bV q (τ 30) fun a30_ =>
  bV q (τ 31) fun a31_ =>
  bP (bn Q q .lss 3 (.tmp 31) (.tmp 30) a31_ a30_) fun x0 =>
  ifV x0 (
  bP (ias Q q 164 1 a29_ a31_) fun x1 =>
  bP (ld Q q 76 x1 G) fun x2 =>
  bP (ias Q q 142 1 a3_ a31_) fun x3 =>
  bP (st Q q 33 1 x3 x2 G) fun G4 =>
  bP (bn Q q .add 3 (.tmp 31) (.const (.int .i64 1)) a31_ (.int .i64 1)) fun x5 =>
  lp (tu τ [(3, a3_), (29, a29_), (30, a30_), (31, x5), (4, a31_), (5, x2), (32, x0), (33, a31_), (34, x1), (35, x2), (36, a3_), (37, a31_), (38, x2), (39, x3), (40, x5)]) G4) (
  some ((.exit 0), clq q 42 (tu τ [(3, a3_), (29, a29_), (30, a30_), (31, a31_), (32, x0)]), G))
theorem mb72_0 {e : Ex} {E : Ev} (h : ExLe Q e E) {lp lp' : Env → GS → Option (Exit × Env × GS)} (hlp : LpLe lp lp') (τ : Env) (G : GS) : Ref (b72_0 true e lp τ G) (b72_0 false (Ex.of E) lp' τ G) := by
  unfold b72_0
  exact Ref.go
theorem l72_0 {orc : FuncId → Bool} {e : Ex} (h : ExLe Q e (E orc)) (lp : Env → GS → Option (Exit × Env × GS)) (hlp : ∀ τ G, Ref (lp τ G) (mapE ((E orc).lp (subAt [1, 1, 1, 0, 1, 0, 0] (bodyOf Try.f72)) (lst 42 τ) G))) (T : List Value) (G : GS) (hT : T.length = 42) : Ref (b72_0 true e lp (nth undef T) G) (mapE ((E orc).lp (subAt [1, 1, 1, 0, 1, 0, 0] (bodyOf Try.f72)) T G)) :=
  fun r hr => lp_sxM Q orc G hT (by kernel_rfl) (mb72_0 h ⟨hlp⟩ _ _ r hr)
/-- (*coxswain/cells.Mem).Words -/
noncomputable def s72 (q : Bool) (e : Ex) (v0 : Value) (G : GS) : Option (Value × GS) :=
  bP (ep Q q false 22 (.tmp 6) (.const (.pointer none)) v0 (.pointer none)) fun x0 =>
  bS (gd x0 false (some (v0, G)) G) fun x1 G2 =>
  bS (gd x0 false (bP (pNil x1) fun y => some (y, G2)) G2) fun x3 G4 =>
  bS (gd x0 false (bP (fa Q q 82 0 0 x3) fun y => some (y, G4)) G4) fun x5 G6 =>
  bS (gd x0 false (bP (ld Q q 75 x5 G6) fun y => some (y, G6)) G6) fun x7 G8 =>
  bS (gd x0 false (bP (ep Q q false 75 (.tmp 12) (.const (.pointer none)) x7 (.pointer none)) fun y => some (y, G8)) G8) fun x9 G10 =>
  bP (pickV x0 (.bool true) x9) fun x11 =>
  ifV x11 (
  some ((.slice none 0 0), G10)) (
  bP (pNil v0) fun x12 =>
  bP (fa Q q 82 1 1 x12) fun x13 =>
  bP (ld Q q 3 x13 G10) fun x14 =>
  bS (mk Q q 142 1 8 z33 x14 x14 G10) fun x15 G16 =>
  bP (pNil v0) fun x17 =>
  bP (fa Q q 82 0 0 x17) fun x18 =>
  bP (ld Q q 75 x18 (G16.room 12)) fun x19 =>
  bP (pNil x19) fun x20 =>
  bP (pNil v0) fun x21 =>
  bP (fa Q q 82 1 1 x21) fun x22 =>
  bP (ld Q q 3 x22 (G16.room 12)) fun x23 =>
  bP (sla Q q 78 4096 1 x20 none (some x23) none (G16.room 12)) fun x24 =>
  bP (ln Q q 164 x24) fun x25 =>
  bL q e 72 0 (subAt [1, 1, 1, 0, 1, 0, 0] (bodyOf Try.f72)) 42 (tu (nth undef [v0]) [(2, (.slice none 0 0)), (3, x15), (6, v0), (7, x0), (8, x0), (9, x1), (10, x3), (11, x5), (12, x7), (13, x9), (14, x11), (15, v0), (16, x12), (17, x13), (18, x14), (19, x15), (20, v0), (21, x17), (22, x18), (23, x19), (24, x20), (25, v0), (26, x21), (27, x22), (28, x23), (29, x24), (30, x25), (31, (.int .i64 0))]) (G16.room 12) fun e26 t27 G28 =>
  bV q (t27 3) fun t27x3_ =>
  ifE e26 (.exit 0) (
  some (t27x3_, G28)) (none))
theorem m72 {e : Ex} {E : Ev} (h : ExLe Q e E) (v0 : Value) (G : GS) : Ref (s72 true e v0 G) (s72 false (Ex.of E) v0 G) := by
  unfold s72
  exact Ref.go
theorem f72 {orc : FuncId → Bool} {e : Ex} (h : ExLe Q e (E orc)) (v0 : Value) (G : GS) : Ref (s72 true e v0 G) ((E orc).cl 72 [v0] G) :=
  fun r hr => cl_sxE_some Q orc (vs := [v0]) G Try.func72 (by kernel_rfl) (by kernel_rfl) (by kernel_rfl) (by kernel_rfl) (by kernel_rfl) (m72 h v0 G r hr)
/-- coxswain/ring.All$1 -/
noncomputable def s73 (q : Bool) (e : Ex) (v0 v1 : Value) (G : GS) : Option (Value × GS) :=
  bP (bn Q q .lss 3 (.tmp 4) (.const (.int .i64 0)) v0 (.int .i64 0)) fun x0 =>
  bS (gd x0 false (some (v0, G)) G) fun x1 G2 =>
  bS (gd x0 false (bP (ld Q q 142 v1 G2) fun y => some (y, G2)) G2) fun x3 G4 =>
  bS (gd x0 false (bP (ln Q q 142 x3) fun y => some (y, G4)) G4) fun x5 G6 =>
  bS (gd x0 false (bP (bn Q q .geq 3 (.tmp 7) (.tmp 9) x1 x5) fun y => some (y, G6)) G6) fun x7 G8 =>
  bP (pickV x0 (.bool true) x7) fun x9 =>
  ifV x9 (
  some ((.int .u64 0), G8)) (
  bP (ld Q q 142 v1 G8) fun x10 =>
  bP (ias Q q 142 1 x10 v0) fun x11 =>
  bP (ld Q q 33 x11 G8) fun x12 =>
  some (x12, G8))
theorem m73 {e : Ex} {E : Ev} (h : ExLe Q e E) (v0 v1 : Value) (G : GS) : Ref (s73 true e v0 v1 G) (s73 false (Ex.of E) v0 v1 G) := by
  unfold s73
  exact Ref.go
theorem f73 {orc : FuncId → Bool} {e : Ex} (h : ExLe Q e (E orc)) (v0 v1 : Value) (G : GS) : Ref (s73 true e v0 v1 G) ((E orc).cl 73 [v0, v1] G) :=
  fun r hr => cl_sxE_some Q orc (vs := [v0, v1]) G Try.func73 (by kernel_rfl) (by kernel_rfl) (by kernel_rfl) (by kernel_rfl) (by kernel_rfl) (m73 h v0 v1 G r hr)
/-- coxswain/ring.numbers -/
noncomputable def s74 (q : Bool) (e : Ex) (v0 v1 : Value) (G : GS) : Option (Value × GS) :=
  bS (bx q v0 G) fun x0 G1 =>
  bS (bx q v1 G1) fun x2 G3 =>
  some ((.func (.func 98) #[] #[x2, x0]), G3)
theorem m74 {e : Ex} {E : Ev} (h : ExLe Q e E) (v0 v1 : Value) (G : GS) : Ref (s74 true e v0 v1 G) (s74 false (Ex.of E) v0 v1 G) := by
  unfold s74
  exact Ref.go
theorem f74 {orc : FuncId → Bool} {e : Ex} (h : ExLe Q e (E orc)) (v0 v1 : Value) (G : GS) : Ref (s74 true e v0 v1 G) ((E orc).cl 74 [v0, v1] G) :=
  fun r hr => cl_sxE_some Q orc (vs := [v0, v1]) G Try.func74 (by kernel_rfl) (by kernel_rfl) (by kernel_rfl) (by kernel_rfl) (by kernel_rfl) (m74 h v0 v1 G r hr)
/-- coxswain/ring.place -/
noncomputable def s75 (q : Bool) (e : Ex) (v0 v1 : Value) (G : GS) : Option (Value × GS) :=
  bS (bx q v0 G) fun x0 G1 =>
  bP (fa Q q 59 2 2 x0) fun x2 =>
  bP (ld Q q 3 x2 (G1.room 10)) fun x3 =>
  bP (fa Q q 59 3 3 x0) fun x4 =>
  bP (ld Q q 3 x4 (G1.room 10)) fun x5 =>
  bP (cv Q q 3 33 .i64 .u64 x5) fun x6 =>
  bP (bn Q q .rem 33 (.tmp 7) (.tmp 10) v1 x6) fun x7 =>
  bP (cv Q q 33 3 .u64 .i64 x7) fun x8 =>
  bP (bn Q q .add 3 (.tmp 6) (.tmp 12) x3 x8) fun x9 =>
  some (x9, (G1.room 10))
theorem m75 {e : Ex} {E : Ev} (h : ExLe Q e E) (v0 v1 : Value) (G : GS) : Ref (s75 true e v0 v1 G) (s75 false (Ex.of E) v0 v1 G) := by
  unfold s75
  exact Ref.go
theorem f75 {orc : FuncId → Bool} {e : Ex} (h : ExLe Q e (E orc)) (v0 v1 : Value) (G : GS) : Ref (s75 true e v0 v1 G) ((E orc).cl 75 [v0, v1] G) :=
  fun r hr => cl_sxE_some Q orc (vs := [v0, v1]) G Try.func75 (by kernel_rfl) (by kernel_rfl) (by kernel_rfl) (by kernel_rfl) (by kernel_rfl) (m75 h v0 v1 G r hr)
/-- (coxswain/ring.slot).value -/
noncomputable def s76 (q : Bool) (e : Ex) (v0 : Value) (G : GS) : Option (Value × GS) :=
  bP (bn Q q .and 132 (.tmp 3) (.const (.int .u64 65535)) v0 (.int .u64 65535)) fun x0 =>
  bP (cv Q q 132 3 .u64 .i64 x0) fun x1 =>
  some (x1, G)
theorem m76 {e : Ex} {E : Ev} (h : ExLe Q e E) (v0 : Value) (G : GS) : Ref (s76 true e v0 G) (s76 false (Ex.of E) v0 G) := by
  unfold s76
  exact Ref.go
theorem f76 {orc : FuncId → Bool} {e : Ex} (h : ExLe Q e (E orc)) (v0 : Value) (G : GS) : Ref (s76 true e v0 G) ((E orc).cl 76 [v0] G) :=
  fun r hr => cl_sxE_some Q orc (vs := [v0]) G Try.func76 (by kernel_rfl) (by kernel_rfl) (by kernel_rfl) (by kernel_rfl) (by kernel_rfl) (m76 h v0 G r hr)
/-- coxswain/coxswainlaw25.filled -/
noncomputable def s77 (q : Bool) (e : Ex) (v0 v1 : Value) (G : GS) : Option (Value × GS) :=
  bS (bx q v0 G) fun x0 G1 =>
  bS (e.ev.cl 5 [v1] G1) fun x2 G3 =>
  bP (pExtract x2 0) fun x4 =>
  bP (pExtract x2 1) fun x5 =>
  bP (bn Q q .neq 23 (.tmp 12) (.const (.int .i64 0)) x5 (.int .i64 0)) fun x6 =>
  bS (gd x6 false (some (x4, G3)) G3) fun x7 G8 =>
  bS (gd x6 false (bP (ep Q q false 22 (.tmp 15) (.const (.pointer none)) x7 (.pointer none)) fun y => some (y, G8)) G8) fun x9 G10 =>
  bP (pickV x6 (.bool true) x9) fun x11 =>
  ifV x11 (
  some ((.pointer none), G10)) (
  bP (lda Q q 70 3 x0 G10) fun x12 =>
  bS (e.ev.cl 20 [x12, x4] G10) fun x13 G14 =>
  some (x4, G14))
theorem m77 {e : Ex} {E : Ev} (h : ExLe Q e E) (v0 v1 : Value) (G : GS) : Ref (s77 true e v0 v1 G) (s77 false (Ex.of E) v0 v1 G) := by
  unfold s77
  exact Ref.go
theorem f77 {orc : FuncId → Bool} {e : Ex} (h : ExLe Q e (E orc)) (v0 v1 : Value) (G : GS) : Ref (s77 true e v0 v1 G) ((E orc).cl 77 [v0, v1] G) :=
  fun r hr => cl_sxE_some Q orc (vs := [v0, v1]) G Try.func77 (by kernel_rfl) (by kernel_rfl) (by kernel_rfl) (by kernel_rfl) (by kernel_rfl) (m77 h v0 v1 G r hr)
instance ilp78_0 : LpIs Q 78 0 (subAt [1, 1, 1, 0, 0, 0] (bodyOf Try.f78)) 29 := ⟨by kernel_rfl, by kernel_rfl⟩
noncomputable def b78_0 (q : Bool) (e : Ex) (lp : Env → GS → Option (Exit × Env × GS)) (τ : Env) (G : GS) : Option (Exit × Env × GS) :=
  bV q (τ 1) fun a1_ =>
  bV q (τ 10) fun a10_ =>
  bV q (τ 11) fun a11_ =>
  bP (bn Q q .lss 3 (.tmp 16) (.const (.int .i64 20)) a11_ (.int .i64 20)) fun x0 =>
  bS (gd x0 true (some (a10_, G)) G) fun x1 G2 =>
  bS (gd x0 true (some (a1_, G2)) G2) fun x3 G4 =>
  bS (gd x0 true (bS (e.ev.cl 15 [x1, x3] G4) fun y G => some (y, G)) G4) fun x5 G6 =>
  bS (gd x0 true (bP (un Q q .not x5) fun y => some (y, G6)) G6) fun x7 G8 =>
  bP (pickV x0 x7 (.bool false)) fun x9 =>
  ifV x9 (
  bP (bn Q q .add 3 (.tmp 24) (.const (.int .i64 1)) a11_ (.int .i64 1)) fun x10 =>
  lp (tu τ [(1, a1_), (10, a10_), (11, x10), (16, a11_), (17, x0), (18, x0), (19, x1), (20, x3), (21, x5), (22, x7), (23, x9), (24, a11_), (25, x10)]) G8) (
  some ((.exit 0), clq q 29 (tu τ [(1, a1_), (10, a10_), (11, a11_), (16, a11_), (17, x0), (18, x0), (19, x1), (20, x3), (21, x5), (22, x7), (23, x9)]), G8))
theorem mb78_0 {e : Ex} {E : Ev} (h : ExLe Q e E) {lp lp' : Env → GS → Option (Exit × Env × GS)} (hlp : LpLe lp lp') (τ : Env) (G : GS) : Ref (b78_0 true e lp τ G) (b78_0 false (Ex.of E) lp' τ G) := by
  unfold b78_0
  exact Ref.go
theorem l78_0 {orc : FuncId → Bool} {e : Ex} (h : ExLe Q e (E orc)) (lp : Env → GS → Option (Exit × Env × GS)) (hlp : ∀ τ G, Ref (lp τ G) (mapE ((E orc).lp (subAt [1, 1, 1, 0, 0, 0] (bodyOf Try.f78)) (lst 29 τ) G))) (T : List Value) (G : GS) (hT : T.length = 29) : Ref (b78_0 true e lp (nth undef T) G) (mapE ((E orc).lp (subAt [1, 1, 1, 0, 0, 0] (bodyOf Try.f78)) T G)) :=
  fun r hr => lp_sxM Q orc G hT (by kernel_rfl) (mb78_0 h ⟨hlp⟩ _ _ r hr)
/-- coxswain/coxswainlaw25.send -/
noncomputable def s78 (q : Bool) (e : Ex) (v0 v1 v2 v3 : Value) (G : GS) : Option (Value × GS) :=
  bS (bx q v0 G) fun x0 G1 =>
  bP (lda Q q 70 3 x0 G1) fun x2 =>
  bS (e.ev.cl 18 [x2, v2, v3] G1) fun x3 G4 =>
  bL q e 78 0 (subAt [1, 1, 1, 0, 0, 0] (bodyOf Try.f78)) 29 (tu (nth undef [v0, v1, v2, v3]) [(4, x0), (8, (.int .i64 0)), (9, (.int .i64 0)), (10, x3), (11, (.int .i64 1)), (12, x2), (13, v2), (14, v3), (15, x3)]) G4 fun e5 t6 G7 =>
  bV q (t6 10) fun t6x10_ =>
  bV q (t6 11) fun t6x11_ =>
  ifE e5 (.exit 0) (
  bS (e.ev.cl 17 [t6x10_] G7) fun x8 G9 =>
  some (.tuple #[x8, t6x11_], G9)) (none)
theorem m78 {e : Ex} {E : Ev} (h : ExLe Q e E) (v0 v1 v2 v3 : Value) (G : GS) : Ref (s78 true e v0 v1 v2 v3 G) (s78 false (Ex.of E) v0 v1 v2 v3 G) := by
  unfold s78
  exact Ref.go
theorem f78 {orc : FuncId → Bool} {e : Ex} (h : ExLe Q e (E orc)) (v0 v1 v2 v3 : Value) (G : GS) : Ref (s78 true e v0 v1 v2 v3 G) ((E orc).cl 78 [v0, v1, v2, v3] G) :=
  fun r hr => cl_sxE_some Q orc (vs := [v0, v1, v2, v3]) G Try.func78 (by kernel_rfl) (by kernel_rfl) (by kernel_rfl) (by kernel_rfl) (by kernel_rfl) (m78 h v0 v1 v2 v3 G r hr)
/-- coxswain/mail.NewDrain -/
noncomputable def s79 (q : Bool) (e : Ex) (v0 v1 v2 : Value) (G : GS) : Option (Value × GS) :=
  bS (bx q v0 G) fun x0 G1 =>
  bP (lda Q q 70 3 x0 G1) fun x2 =>
  bS (e.ev.cl 39 [x2, v1] G1) fun x3 G4 =>
  bP (bd Q q 64 z64 [(0, 0, 1), (2, 5, 1), (6, 9, 1)] [(.bool true), v2, x3]) fun x5 =>
  bS (bx q x5 G4) fun x6 G7 =>
  bP (pNil x6) fun x8 =>
  bP (fa Q q 64 6 9 x8) fun x9 =>
  bP (ld Q q 23 x9 G7) fun x10 =>
  bP (bn Q q .eql 23 (.tmp 19) (.const (.int .i64 0)) x10 (.int .i64 0)) fun x11 =>
  bS (gd x11 true (some (v2, G7)) G7) fun x12 G13 =>
  bS (gd x11 true (bP (bn Q q .lss 3 (.tmp 22) (.const (.int .i64 1)) x12 (.int .i64 1)) fun y => some (y, G13)) G13) fun x14 G15 =>
  bP (pickV x11 x14 (.bool false)) fun x16 =>
  ifV x16 (
  bP (pNil x6) fun x17 =>
  bP (fa Q q 64 6 9 x17) fun x18 =>
  bP (st Q q 23 1 x18 (.int .i64 3) G15) fun G19 =>
  bP (lda Q q 70 3 x0 G19) fun x20 =>
  bS (e.ev.cl 40 [x20, v1] G19) fun x21 G22 =>
  bP (pExtract x21 0) fun x23 =>
  bP (pExtract x21 1) fun x24 =>
  bS (al Q q 59 z59 G22) fun x25 G26 =>
  bP (st Q q 59 4 x25 x23 G26) fun G27 =>
  bS (gd x24 true (some (x6, G27)) G27) fun x28 G29 =>
  bS (gd x24 true (bP (pNil x28) fun y => some (y, G29)) G29) fun x30 G31 =>
  bS (gd x24 true (bP (fa Q q 64 6 9 x30) fun y => some (y, G31)) G31) fun x32 G33 =>
  bS (gd x24 true (bP (ld Q q 23 x32 G33) fun y => some (y, G33)) G33) fun x34 G35 =>
  bS (gd x24 true (bP (bn Q q .eql 23 (.tmp 39) (.const (.int .i64 0)) x34 (.int .i64 0)) fun y => some (y, G35)) G35) fun x36 G37 =>
  bP (pickV x24 x36 (.bool false)) fun x38 =>
  ifV x38 (
  bP (lda Q q 59 4 x25 (G37.room 12)) fun x39 =>
  bP (lda Q q 59 4 x25 (G37.room 12)) fun x40 =>
  bS (e.ev.cl 38 [x40] (G37.room 12)) fun x42 G41 =>
  chk ((sameO (lda Q q 59 4 x25 G41) x39 && true)) <|
  bP (ifc Q q 92 x42) fun x43 =>
  bP (pNil x6) fun x44 =>
  bP (fa Q q 64 1 1 x44) fun x45 =>
  bP (st Q q 59 4 x45 x39 G41) fun G46 =>
  bP (pNil x6) fun x47 =>
  bP (fa Q q 64 3 6 x47) fun x48 =>
  bP (st Q q 61 1 x48 x43 G46) fun G49 =>
  some (x6, G49)) (
  some (x6, G37))) (
  bP (lda Q q 70 3 x0 G15) fun x50 =>
  bS (e.ev.cl 40 [x50, v1] G15) fun x51 G52 =>
  bP (pExtract x51 0) fun x53 =>
  bP (pExtract x51 1) fun x54 =>
  bS (al Q q 59 z59 G52) fun x55 G56 =>
  bP (st Q q 59 4 x55 x53 G56) fun G57 =>
  bS (gd x54 true (some (x6, G57)) G57) fun x58 G59 =>
  bS (gd x54 true (bP (pNil x58) fun y => some (y, G59)) G59) fun x60 G61 =>
  bS (gd x54 true (bP (fa Q q 64 6 9 x60) fun y => some (y, G61)) G61) fun x62 G63 =>
  bS (gd x54 true (bP (ld Q q 23 x62 G63) fun y => some (y, G63)) G63) fun x64 G65 =>
  bS (gd x54 true (bP (bn Q q .eql 23 (.tmp 39) (.const (.int .i64 0)) x64 (.int .i64 0)) fun y => some (y, G65)) G65) fun x66 G67 =>
  bP (pickV x54 x66 (.bool false)) fun x68 =>
  ifV x68 (
  bP (lda Q q 59 4 x55 (G67.room 12)) fun x69 =>
  bP (lda Q q 59 4 x55 (G67.room 12)) fun x70 =>
  bS (e.ev.cl 38 [x70] (G67.room 12)) fun x72 G71 =>
  chk ((sameO (lda Q q 59 4 x55 G71) x69 && true)) <|
  bP (ifc Q q 92 x72) fun x73 =>
  bP (pNil x6) fun x74 =>
  bP (fa Q q 64 1 1 x74) fun x75 =>
  bP (st Q q 59 4 x75 x69 G71) fun G76 =>
  bP (pNil x6) fun x77 =>
  bP (fa Q q 64 3 6 x77) fun x78 =>
  bP (st Q q 61 1 x78 x73 G76) fun G79 =>
  some (x6, G79)) (
  some (x6, G67)))
theorem m79 {e : Ex} {E : Ev} (h : ExLe Q e E) (v0 v1 v2 : Value) (G : GS) : Ref (s79 true e v0 v1 v2 G) (s79 false (Ex.of E) v0 v1 v2 G) := by
  unfold s79
  exact Ref.go
theorem f79 {orc : FuncId → Bool} {e : Ex} (h : ExLe Q e (E orc)) (v0 v1 v2 : Value) (G : GS) : Ref (s79 true e v0 v1 v2 G) ((E orc).cl 79 [v0, v1, v2] G) :=
  fun r hr => cl_sxE_some Q orc (vs := [v0, v1, v2]) G Try.func79 (by kernel_rfl) (by kernel_rfl) (by kernel_rfl) (by kernel_rfl) (by kernel_rfl) (m79 h v0 v1 v2 G r hr)
/-- (coxswain/cells.deed).store -/
noncomputable def s86 (q : Bool) (e : Ex) (v0 : Value) (G : GS) : Option (Value × GS) :=
  bS (bx q v0 G) fun x0 G1 =>
  bP (fa Q q 127 1 1 x0) fun x2 =>
  bP (ld Q q 33 x2 G1) fun x3 =>
  some (.tuple #[x3, (.bool true)], G1)
theorem m86 {e : Ex} {E : Ev} (h : ExLe Q e E) (v0 : Value) (G : GS) : Ref (s86 true e v0 G) (s86 false (Ex.of E) v0 G) := by
  unfold s86
  exact Ref.go
theorem f86 {orc : FuncId → Bool} {e : Ex} (h : ExLe Q e (E orc)) (v0 : Value) (G : GS) : Ref (s86 true e v0 G) ((E orc).cl 86 [v0] G) :=
  fun r hr => cl_sxE_some Q orc (vs := [v0]) G Try.func86 (by kernel_rfl) (by kernel_rfl) (by kernel_rfl) (by kernel_rfl) (by kernel_rfl) (m86 h v0 G r hr)
/-- (*coxswain/stack.Pop).Step -/
noncomputable def s88 (q : Bool) (e : Ex) (v0 v1 : Value) (G : GS) : Option (Value × GS) :=
  bP (ep Q q false 27 (.tmp 5) (.const (.pointer none)) v0 (.pointer none)) fun x0 =>
  bS (gd x0 false (some (v0, G)) G) fun x1 G2 =>
  bS (gd x0 false (bP (pNil x1) fun y => some (y, G2)) G2) fun x3 G4 =>
  bS (gd x0 false (bP (fa Q q 158 0 0 x3) fun y => some (y, G4)) G4) fun x5 G6 =>
  bS (gd x0 false (bS (e.ev.cl 106 [x5] G6) fun y G => some (y, G)) G6) fun x7 G8 =>
  bP (pickV x0 (.bool true) x7) fun x9 =>
  ifV x9 (
  some ((.bool true), G8)) (
  bP (pNil v0) fun x10 =>
  bP (fa Q q 158 1 9 x10) fun x11 =>
  bP (ld Q q 156 x11 G8) fun x12 =>
  bS (cValue e.ev x12 [v0, v1] G8) fun x13 G14 =>
  bP (pNil v0) fun x15 =>
  bP (fa Q q 158 0 0 x15) fun x16 =>
  bP (fa Q q 114 5 7 x16) fun x17 =>
  bP (ld Q q 4 x17 G14) fun x18 =>
  some (x18, G14))
theorem m88 {e : Ex} {E : Ev} (h : ExLe Q e E) (v0 v1 : Value) (G : GS) : Ref (s88 true e v0 v1 G) (s88 false (Ex.of E) v0 v1 G) := by
  unfold s88
  exact Ref.go
theorem f88 {orc : FuncId → Bool} {e : Ex} (h : ExLe Q e (E orc)) (v0 v1 : Value) (G : GS) : Ref (s88 true e v0 v1 G) ((E orc).cl 88 [v0, v1] G) :=
  fun r hr => cl_sxE_some Q orc (vs := [v0, v1]) G Try.func88 (by kernel_rfl) (by kernel_rfl) (by kernel_rfl) (by kernel_rfl) (by kernel_rfl) (m88 h v0 v1 G r hr)
/-- (*coxswain/cells.place).is -/
noncomputable def s92 (q : Bool) (e : Ex) (v0 : Value) (G : GS) : Option (Value × GS) :=
  bP (ep Q q true 124 (.tmp 3) (.const (.pointer none)) v0 (.pointer none)) fun x0 =>
  some (x0, G)
theorem m92 {e : Ex} {E : Ev} (h : ExLe Q e E) (v0 : Value) (G : GS) : Ref (s92 true e v0 G) (s92 false (Ex.of E) v0 G) := by
  unfold s92
  exact Ref.go
theorem f92 {orc : FuncId → Bool} {e : Ex} (h : ExLe Q e (E orc)) (v0 : Value) (G : GS) : Ref (s92 true e v0 G) ((E orc).cl 92 [v0] G) :=
  fun r hr => cl_sxE_some Q orc (vs := [v0]) G Try.func92 (by kernel_rfl) (by kernel_rfl) (by kernel_rfl) (by kernel_rfl) (by kernel_rfl) (m92 h v0 G r hr)
/-- coxswain/ring.of -/
noncomputable def s93 (q : Bool) (e : Ex) (v0 : Value) (G : GS) : Option (Value × GS) :=
  bP (cv Q q 162 132 .u32 .u64 v0) fun x0 =>
  bP (bn Q q .shl 132 (.tmp 4) (.const (.int .u64 32)) x0 (.int .u64 32)) fun x1 =>
  some (x1, G)
theorem m93 {e : Ex} {E : Ev} (h : ExLe Q e E) (v0 : Value) (G : GS) : Ref (s93 true e v0 G) (s93 false (Ex.of E) v0 G) := by
  unfold s93
  exact Ref.go
theorem f93 {orc : FuncId → Bool} {e : Ex} (h : ExLe Q e (E orc)) (v0 : Value) (G : GS) : Ref (s93 true e v0 G) ((E orc).cl 93 [v0] G) :=
  fun r hr => cl_sxE_some Q orc (vs := [v0]) G Try.func93 (by kernel_rfl) (by kernel_rfl) (by kernel_rfl) (by kernel_rfl) (by kernel_rfl) (m93 h v0 G r hr)
/-- coxswain/ring.lap -/
noncomputable def s94 (q : Bool) (e : Ex) (v0 v1 : Value) (G : GS) : Option (Value × GS) :=
  bS (bx q v0 G) fun x0 G1 =>
  bP (fa Q q 59 3 3 x0) fun x2 =>
  bP (ld Q q 3 x2 G1) fun x3 =>
  bP (cv Q q 3 33 .i64 .u64 x3) fun x4 =>
  bP (bn Q q .quo 33 (.tmp 5) (.tmp 8) v1 x4) fun x5 =>
  bP (cv Q q 33 162 .u64 .u32 x5) fun x6 =>
  some (x6, G1)
theorem m94 {e : Ex} {E : Ev} (h : ExLe Q e E) (v0 v1 : Value) (G : GS) : Ref (s94 true e v0 v1 G) (s94 false (Ex.of E) v0 v1 G) := by
  unfold s94
  exact Ref.go
theorem f94 {orc : FuncId → Bool} {e : Ex} (h : ExLe Q e (E orc)) (v0 v1 : Value) (G : GS) : Ref (s94 true e v0 v1 G) ((E orc).cl 94 [v0, v1] G) :=
  fun r hr => cl_sxE_some Q orc (vs := [v0, v1]) G Try.func94 (by kernel_rfl) (by kernel_rfl) (by kernel_rfl) (by kernel_rfl) (by kernel_rfl) (m94 h v0 v1 G r hr)
/-- (*coxswain/ring.Drop).head -/
noncomputable def s95 (q : Bool) (e : Ex) (v0 v1 : Value) (G : GS) : Option (Value × GS) :=
  bP (pNil v0) fun x0 =>
  bP (fa Q q 139 0 0 x0) fun x1 =>
  bP (fa Q q 131 0 0 x1) fun x2 =>
  bP (fa Q q 59 0 0 x2) fun x3 =>
  bP (ld Q q 3 x3 (G.room 13)) fun x4 =>
  bP (pNil v0) fun x5 =>
  bP (fa Q q 139 1 7 x5) fun x6 =>
  bP (ld Q q 33 x6 (G.room 13)) fun x7 =>
  bP (bn Q q .add 33 (.tmp 14) (.const (.int .u64 1)) x7 (.int .u64 1)) fun x8 =>
  bS (e.ev.cl 57 [v1, x4, x8] (G.room 13)) fun x10 G9 =>
  bP (pNil v0) fun x11 =>
  bP (fa Q q 139 0 0 x11) fun x12 =>
  bS (e.ev.cl 68 [x12, (.int .i64 0)] G9) fun x13 G14 =>
  some (.tuple #[], G14)
theorem m95 {e : Ex} {E : Ev} (h : ExLe Q e E) (v0 v1 : Value) (G : GS) : Ref (s95 true e v0 v1 G) (s95 false (Ex.of E) v0 v1 G) := by
  unfold s95
  exact Ref.go
theorem f95 {orc : FuncId → Bool} {e : Ex} (h : ExLe Q e (E orc)) (v0 v1 : Value) (G : GS) : Ref (s95 true e v0 v1 G) ((E orc).cl 95 [v0, v1] G) :=
  fun r hr => cl_sxE_some Q orc (vs := [v0, v1]) G Try.func95 (by kernel_rfl) (by kernel_rfl) (by kernel_rfl) (by kernel_rfl) (by kernel_rfl) (m95 h v0 v1 G r hr)
/-- (*coxswain/ring.Front).look -/
noncomputable def s96 (q : Bool) (e : Ex) (v0 v1 : Value) (G : GS) : Option (Value × GS) :=
  bP (pNil v0) fun x0 =>
  bP (fa Q q 136 0 0 x0) fun x1 =>
  bP (fa Q q 131 0 0 x1) fun x2 =>
  bP (lda Q q 59 4 x2 (G.room 13)) fun x3 =>
  bP (pNil v0) fun x4 =>
  bP (fa Q q 136 1 7 x4) fun x5 =>
  bP (ld Q q 33 x5 (G.room 13)) fun x6 =>
  bS (e.ev.cl 75 [x3, x6] (G.room 13)) fun x8 G7 =>
  bS (e.ev.cl 31 [v1, x8] G7) fun x10 G9 =>
  bP (pNil v0) fun x11 =>
  bP (fa Q q 136 0 0 x11) fun x12 =>
  bS (e.ev.cl 68 [x12, (.int .i64 15)] G9) fun x13 G14 =>
  bP (pNil v0) fun x15 =>
  bP (fa Q q 136 0 0 x15) fun x16 =>
  bP (fa Q q 131 0 0 x16) fun x17 =>
  bP (lda Q q 59 4 x17 (G14.room 12)) fun x18 =>
  bP (pNil v0) fun x19 =>
  bP (fa Q q 136 1 7 x19) fun x20 =>
  bP (ld Q q 33 x20 (G14.room 12)) fun x21 =>
  bS (e.ev.cl 94 [x18, x21] (G14.room 12)) fun x23 G22 =>
  bS (e.ev.cl 99 [x10, x23] G22) fun x25 G24 =>
  ifV x25 (
  bS (e.ev.cl 76 [x10] G24) fun x26 G27 =>
  bP (pNil v0) fun x28 =>
  bP (fa Q q 136 2 8 x28) fun x29 =>
  bP (st Q q 3 1 x29 x26 G27) fun G30 =>
  bP (pNil v0) fun x31 =>
  bP (fa Q q 136 0 0 x31) fun x32 =>
  bS (e.ev.cl 68 [x32, (.int .i64 0)] G30) fun x33 G34 =>
  some (.tuple #[], G34)) (
  some (.tuple #[], G24))
theorem m96 {e : Ex} {E : Ev} (h : ExLe Q e E) (v0 v1 : Value) (G : GS) : Ref (s96 true e v0 v1 G) (s96 false (Ex.of E) v0 v1 G) := by
  unfold s96
  exact Ref.go
theorem f96 {orc : FuncId → Bool} {e : Ex} (h : ExLe Q e (E orc)) (v0 v1 : Value) (G : GS) : Ref (s96 true e v0 v1 G) ((E orc).cl 96 [v0, v1] G) :=
  fun r hr => cl_sxE_some Q orc (vs := [v0, v1]) G Try.func96 (by kernel_rfl) (by kernel_rfl) (by kernel_rfl) (by kernel_rfl) (by kernel_rfl) (m96 h v0 v1 G r hr)
/-- (*coxswain/ring.Push).look -/
noncomputable def s97 (q : Bool) (e : Ex) (v0 v1 : Value) (G : GS) : Option (Value × GS) :=
  bP (pNil v0) fun x0 =>
  bP (fa Q q 134 0 0 x0) fun x1 =>
  bP (fa Q q 131 0 0 x1) fun x2 =>
  bP (lda Q q 59 4 x2 (G.room 16)) fun x3 =>
  bP (pNil v0) fun x4 =>
  bP (fa Q q 134 2 8 x4) fun x5 =>
  bP (ld Q q 33 x5 (G.room 16)) fun x6 =>
  bS (e.ev.cl 75 [x3, x6] (G.room 16)) fun x8 G7 =>
  bS (e.ev.cl 31 [v1, x8] G7) fun x10 G9 =>
  bP (pNil v0) fun x11 =>
  bP (fa Q q 134 3 9 x11) fun x12 =>
  bP (st Q q 132 1 x12 x10 G9) fun G13 =>
  bP (pNil v0) fun x14 =>
  bP (fa Q q 134 0 0 x14) fun x15 =>
  bP (fa Q q 131 0 0 x15) fun x16 =>
  bP (lda Q q 59 4 x16 (G13.room 11)) fun x17 =>
  bP (pNil v0) fun x18 =>
  bP (fa Q q 134 2 8 x18) fun x19 =>
  bP (ld Q q 33 x19 (G13.room 11)) fun x20 =>
  bS (e.ev.cl 94 [x17, x20] (G13.room 11)) fun x22 G21 =>
  bP (pNil v0) fun x23 =>
  bP (fa Q q 134 3 9 x23) fun x24 =>
  bP (ld Q q 132 x24 G21) fun x25 =>
  bS (e.ev.cl 109 [x25, x22] G21) fun x26 G27 =>
  ifV x26 (
  bP (pNil v0) fun x28 =>
  bP (fa Q q 134 0 0 x28) fun x29 =>
  bP (fa Q q 131 1 4 x29) fun x30 =>
  bP (st Q q 84 1 x30 (.func (.func 110) #[v0] #[]) G27) fun G31 =>
  some (.tuple #[], G31)) (
  bP (pNil v0) fun x32 =>
  bP (fa Q q 134 3 9 x32) fun x33 =>
  bP (ld Q q 132 x33 G27) fun x34 =>
  bP (bn Q q .sub 162 (.tmp 54) (.const (.int .u32 1)) x22 (.int .u32 1)) fun x35 =>
  bS (e.ev.cl 99 [x34, x35] G27) fun x36 G37 =>
  ifV x36 (
  bP (pNil v0) fun x38 =>
  bP (fa Q q 134 0 0 x38) fun x39 =>
  bS (e.ev.cl 68 [x39, (.int .i64 7)] G37) fun x40 G41 =>
  some (.tuple #[], G41)) (
  bP (pNil v0) fun x42 =>
  bP (fa Q q 134 0 0 x42) fun x43 =>
  bP (fa Q q 131 1 4 x43) fun x44 =>
  bP (st Q q 84 1 x44 (.func (.func 111) #[v0] #[]) G37) fun G45 =>
  some (.tuple #[], G45)))
theorem m97 {e : Ex} {E : Ev} (h : ExLe Q e E) (v0 v1 : Value) (G : GS) : Ref (s97 true e v0 v1 G) (s97 false (Ex.of E) v0 v1 G) := by
  unfold s97
  exact Ref.go
theorem f97 {orc : FuncId → Bool} {e : Ex} (h : ExLe Q e (E orc)) (v0 v1 : Value) (G : GS) : Ref (s97 true e v0 v1 G) ((E orc).cl 97 [v0, v1] G) :=
  fun r hr => cl_sxE_some Q orc (vs := [v0, v1]) G Try.func97 (by kernel_rfl) (by kernel_rfl) (by kernel_rfl) (by kernel_rfl) (by kernel_rfl) (m97 h v0 v1 G r hr)
instance ilp98_0 : LpIs Q 98 0 (subAt [1, 1, 0, 0] (bodyOf Try.f98)) 32 := ⟨by kernel_rfl, by kernel_rfl⟩
noncomputable def b98_0 (q : Bool) (e : Ex) (lp : Env → GS → Option (Exit × Env × GS)) (τ : Env) (G : GS) : Option (Exit × Env × GS) :=
  bV q (τ 0) fun a0_ =>
  bV q (τ 1) fun a1_ =>
  bV q (τ 2) fun a2_ =>
  bV q (τ 4) fun a4_ =>
  bV q (τ 10) fun a10_ =>
  bV q (τ 11) fun a11_ =>
  bP (bn Q q .lss 3 (.tmp 11) (.tmp 10) a11_ a10_) fun x0 =>
  ifV x0 (
  bP (ld Q q 90 a1_ (G.room 16)) fun x1 =>
  bP (lda Q q 59 4 a2_ (G.room 16)) fun x2 =>
  bS (e.ev.cl 75 [x2, a4_] (G.room 16)) fun x4 G3 =>
  chk ((sameO (ld Q q 90 a1_ G3) x1 && true)) <|
  bS (cValue e.ev x1 [x4] G3) fun x6 G5 =>
  bP (lda Q q 59 4 a2_ G5) fun x7 =>
  chk ((sameO (lda Q q 59 4 a2_ G3) x7 && (sameO (lda Q q 59 4 a2_ (G.room 16)) x7 && true))) <|
  bS (e.ev.cl 94 [x7, a4_] G5) fun x9 G8 =>
  bS (e.ev.cl 99 [x6, x9] G8) fun x11 G10 =>
  bP (un Q q .not x11) fun x12 =>
  bS (gd x12 false (some (a0_, G10)) G10) fun x13 _ =>
  bS (gd x12 false (some (a4_, G10)) G10) fun x14 _ =>
  bS (gd x12 false (bS (cValue e.ev x13 [x14] G10) fun y G => some (y, G)) G10) fun x16 G15 =>
  bS (gd x12 false (bP (un Q q .not x16) fun y => some (y, G15)) G15) fun x17 _ =>
  bP (pickV x12 (.bool true) x17) fun x18 =>
  ifV x18 (
  some (.ret, clq q 32 (tu τ [(0, a0_), (1, a1_), (2, a2_), (4, a4_), (10, a10_), (11, a11_), (12, x0), (13, x1), (14, x2), (15, a4_), (16, x4), (17, x6), (18, x7), (19, a4_), (20, x9), (21, x11), (22, x12), (23, x12), (24, x13), (25, x14), (26, x16), (27, x17), (28, x18)]), G15)) (
  bP (bn Q q .add 33 (.tmp 29) (.const (.int .u64 1)) a4_ (.int .u64 1)) fun x19 =>
  bP (bn Q q .add 3 (.tmp 11) (.const (.int .i64 1)) a11_ (.int .i64 1)) fun x20 =>
  lp (tu τ [(0, a0_), (1, a1_), (2, a2_), (4, x19), (10, a10_), (11, x20), (12, x0), (13, x1), (14, x2), (15, a4_), (16, x4), (17, x6), (18, x7), (19, a4_), (20, x9), (21, x11), (22, x12), (23, x12), (24, x13), (25, x14), (26, x16), (27, x17), (28, x18), (29, a4_), (30, x19), (31, x20)]) G15)) (
  some ((.exit 0), clq q 32 (tu τ [(0, a0_), (1, a1_), (2, a2_), (4, a4_), (10, a10_), (11, a11_), (12, x0)]), G))
theorem mb98_0 {e : Ex} {E : Ev} (h : ExLe Q e E) {lp lp' : Env → GS → Option (Exit × Env × GS)} (hlp : LpLe lp lp') (τ : Env) (G : GS) : Ref (b98_0 true e lp τ G) (b98_0 false (Ex.of E) lp' τ G) := by
  unfold b98_0
  exact Ref.go
theorem l98_0 {orc : FuncId → Bool} {e : Ex} (h : ExLe Q e (E orc)) (lp : Env → GS → Option (Exit × Env × GS)) (hlp : ∀ τ G, Ref (lp τ G) (mapE ((E orc).lp (subAt [1, 1, 0, 0] (bodyOf Try.f98)) (lst 32 τ) G))) (T : List Value) (G : GS) (hT : T.length = 32) : Ref (b98_0 true e lp (nth undef T) G) (mapE ((E orc).lp (subAt [1, 1, 0, 0] (bodyOf Try.f98)) T G)) :=
  fun r hr => lp_sxM Q orc G hT (by kernel_rfl) (mb98_0 h ⟨hlp⟩ _ _ r hr)
/-- coxswain/ring.numbers$1 -/
noncomputable def s98 (q : Bool) (e : Ex) (v0 v1 v2 : Value) (G : GS) : Option (Value × GS) :=
  bP (ld Q q 90 v1 G) fun x0 =>
  bP (fa Q q 59 0 0 v2) fun x1 =>
  bP (ld Q q 3 x1 G) fun x2 =>
  bS (cValue e.ev x0 [x2] G) fun x3 G4 =>
  bP (fa Q q 59 3 3 v2) fun x5 =>
  bP (ld Q q 3 x5 G4) fun x6 =>
  bL q e 98 0 (subAt [1, 1, 0, 0] (bodyOf Try.f98)) 32 (tu (nth undef [v0, v1, v2]) [(4, x3), (5, x0), (6, x1), (7, x2), (8, x3), (9, x5), (10, x6), (11, (.int .i64 0))]) G4 fun e7 t8 G9 =>
  ifE e7 (.exit 0) (
  some (.tuple #[], G9)) (ifE e7 .ret (
  some (.tuple #[], G9)) (none))
theorem m98 {e : Ex} {E : Ev} (h : ExLe Q e E) (v0 v1 v2 : Value) (G : GS) : Ref (s98 true e v0 v1 v2 G) (s98 false (Ex.of E) v0 v1 v2 G) := by
  unfold s98
  exact Ref.go
theorem f98 {orc : FuncId → Bool} {e : Ex} (h : ExLe Q e (E orc)) (v0 v1 v2 : Value) (G : GS) : Ref (s98 true e v0 v1 v2 G) ((E orc).cl 98 [v0, v1, v2] G) :=
  fun r hr => cl_sxE_some Q orc (vs := [v0, v1, v2]) G Try.func98 (by kernel_rfl) (by kernel_rfl) (by kernel_rfl) (by kernel_rfl) (by kernel_rfl) (m98 h v0 v1 v2 G r hr)
/-- (coxswain/ring.slot).full -/
noncomputable def s99 (q : Bool) (e : Ex) (v0 v1 : Value) (G : GS) : Option (Value × GS) :=
  bP (bn Q q .shr 132 (.tmp 5) (.const (.int .u64 32)) v0 (.int .u64 32)) fun x0 =>
  bP (cv Q q 132 162 .u64 .u32 x0) fun x1 =>
  bP (bn Q q .eql 162 (.tmp 7) (.tmp 8) x1 v1) fun x2 =>
  bS (gd x2 true (some (v0, G)) G) fun x3 G4 =>
  bS (gd x2 true (bP (bn Q q .and 132 (.tmp 11) (.const (.int .u64 65536)) x3 (.int .u64 65536)) fun y => some (y, G4)) G4) fun x5 G6 =>
  bS (gd x2 true (bP (bn Q q .neq 132 (.tmp 12) (.const (.int .u64 0)) x5 (.int .u64 0)) fun y => some (y, G6)) G6) fun x7 G8 =>
  bP (pickV x2 x7 (.bool false)) fun x9 =>
  some (x9, G8)
theorem m99 {e : Ex} {E : Ev} (h : ExLe Q e E) (v0 v1 : Value) (G : GS) : Ref (s99 true e v0 v1 G) (s99 false (Ex.of E) v0 v1 G) := by
  unfold s99
  exact Ref.go
theorem f99 {orc : FuncId → Bool} {e : Ex} (h : ExLe Q e (E orc)) (v0 v1 : Value) (G : GS) : Ref (s99 true e v0 v1 G) ((E orc).cl 99 [v0, v1] G) :=
  fun r hr => cl_sxE_some Q orc (vs := [v0, v1]) G Try.func99 (by kernel_rfl) (by kernel_rfl) (by kernel_rfl) (by kernel_rfl) (by kernel_rfl) (m99 h v0 v1 G r hr)
/-- (*coxswain/stack.Push).Step -/
noncomputable def s102 (q : Bool) (e : Ex) (v0 v1 : Value) (G : GS) : Option (Value × GS) :=
  bP (ep Q q false 38 (.tmp 5) (.const (.pointer none)) v0 (.pointer none)) fun x0 =>
  bS (gd x0 false (some (v0, G)) G) fun x1 G2 =>
  bS (gd x0 false (bP (pNil x1) fun y => some (y, G2)) G2) fun x3 G4 =>
  bS (gd x0 false (bP (fa Q q 117 0 0 x3) fun y => some (y, G4)) G4) fun x5 G6 =>
  bS (gd x0 false (bS (e.ev.cl 106 [x5] G6) fun y G => some (y, G)) G6) fun x7 G8 =>
  bP (pickV x0 (.bool true) x7) fun x9 =>
  ifV x9 (
  some ((.bool true), G8)) (
  bP (pNil v0) fun x10 =>
  bP (fa Q q 117 1 9 x10) fun x11 =>
  bP (ld Q q 115 x11 G8) fun x12 =>
  bS (cValue e.ev x12 [v0, v1] G8) fun x13 G14 =>
  bP (pNil v0) fun x15 =>
  bP (fa Q q 117 0 0 x15) fun x16 =>
  bP (fa Q q 114 5 7 x16) fun x17 =>
  bP (ld Q q 4 x17 G14) fun x18 =>
  some (x18, G14))
theorem m102 {e : Ex} {E : Ev} (h : ExLe Q e E) (v0 v1 : Value) (G : GS) : Ref (s102 true e v0 v1 G) (s102 false (Ex.of E) v0 v1 G) := by
  unfold s102
  exact Ref.go
theorem f102 {orc : FuncId → Bool} {e : Ex} (h : ExLe Q e (E orc)) (v0 v1 : Value) (G : GS) : Ref (s102 true e v0 v1 G) ((E orc).cl 102 [v0, v1] G) :=
  fun r hr => cl_sxE_some Q orc (vs := [v0, v1]) G Try.func102 (by kernel_rfl) (by kernel_rfl) (by kernel_rfl) (by kernel_rfl) (by kernel_rfl) (m102 h v0 v1 G r hr)
/-- (*coxswain/stack.held).over -/
noncomputable def s106 (q : Bool) (e : Ex) (v0 : Value) (G : GS) : Option (Value × GS) :=
  bP (ep Q q false 153 (.tmp 3) (.const (.pointer none)) v0 (.pointer none)) fun x0 =>
  bS (gd x0 false (some (v0, G)) G) fun x1 G2 =>
  bS (gd x0 false (bP (pNil x1) fun y => some (y, G2)) G2) fun x3 G4 =>
  bS (gd x0 false (bP (fa Q q 114 4 6 x3) fun y => some (y, G4)) G4) fun x5 G6 =>
  bS (gd x0 false (bP (ld Q q 4 x5 G6) fun y => some (y, G6)) G6) fun x7 G8 =>
  bS (gd x0 false (bP (un Q q .not x7) fun y => some (y, G8)) G8) fun x9 G10 =>
  bP (pickV x0 (.bool true) x9) fun x11 =>
  bS (gd x11 false (some (v0, G10)) G10) fun x12 G13 =>
  bS (gd x11 false (bP (pNil x12) fun y => some (y, G13)) G13) fun x14 G15 =>
  bS (gd x11 false (bP (fa Q q 114 5 7 x14) fun y => some (y, G15)) G15) fun x16 G17 =>
  bS (gd x11 false (bP (ld Q q 4 x16 G17) fun y => some (y, G17)) G17) fun x18 G19 =>
  bP (pickV x11 (.bool true) x18) fun x20 =>
  some (x20, G19)
theorem m106 {e : Ex} {E : Ev} (h : ExLe Q e E) (v0 : Value) (G : GS) : Ref (s106 true e v0 G) (s106 false (Ex.of E) v0 G) := by
  unfold s106
  exact Ref.go
theorem f106 {orc : FuncId → Bool} {e : Ex} (h : ExLe Q e (E orc)) (v0 : Value) (G : GS) : Ref (s106 true e v0 G) ((E orc).cl 106 [v0] G) :=
  fun r hr => cl_sxE_some Q orc (vs := [v0]) G Try.func106 (by kernel_rfl) (by kernel_rfl) (by kernel_rfl) (by kernel_rfl) (by kernel_rfl) (m106 h v0 G r hr)
/-- (coxswain/ring.slot).empty -/
noncomputable def s109 (q : Bool) (e : Ex) (v0 v1 : Value) (G : GS) : Option (Value × GS) :=
  bP (bn Q q .shr 132 (.tmp 5) (.const (.int .u64 32)) v0 (.int .u64 32)) fun x0 =>
  bP (cv Q q 132 162 .u64 .u32 x0) fun x1 =>
  bP (bn Q q .eql 162 (.tmp 7) (.tmp 8) x1 v1) fun x2 =>
  bS (gd x2 true (some (v0, G)) G) fun x3 G4 =>
  bS (gd x2 true (bP (bn Q q .and 132 (.tmp 11) (.const (.int .u64 65536)) x3 (.int .u64 65536)) fun y => some (y, G4)) G4) fun x5 G6 =>
  bS (gd x2 true (bP (bn Q q .eql 132 (.tmp 12) (.const (.int .u64 0)) x5 (.int .u64 0)) fun y => some (y, G6)) G6) fun x7 G8 =>
  bP (pickV x2 x7 (.bool false)) fun x9 =>
  some (x9, G8)
theorem m109 {e : Ex} {E : Ev} (h : ExLe Q e E) (v0 v1 : Value) (G : GS) : Ref (s109 true e v0 v1 G) (s109 false (Ex.of E) v0 v1 G) := by
  unfold s109
  exact Ref.go
theorem f109 {orc : FuncId → Bool} {e : Ex} (h : ExLe Q e (E orc)) (v0 v1 : Value) (G : GS) : Ref (s109 true e v0 v1 G) ((E orc).cl 109 [v0, v1] G) :=
  fun r hr => cl_sxE_some Q orc (vs := [v0, v1]) G Try.func109 (by kernel_rfl) (by kernel_rfl) (by kernel_rfl) (by kernel_rfl) (by kernel_rfl) (m109 h v0 v1 G r hr)
/-- (*coxswain/ring.Push).lay -/
noncomputable def s110 (q : Bool) (e : Ex) (v0 v1 : Value) (G : GS) : Option (Value × GS) :=
  bP (pNil v0) fun x0 =>
  bP (fa Q q 134 0 0 x0) fun x1 =>
  bP (fa Q q 131 1 4 x1) fun x2 =>
  bP (st Q q 84 1 x2 (.func (.func 111) #[v0] #[]) G) fun G3 =>
  bP (pNil v0) fun x4 =>
  bP (fa Q q 134 0 0 x4) fun x5 =>
  bP (fa Q q 131 0 0 x5) fun x6 =>
  bP (lda Q q 59 4 x6 (G3.room 32)) fun x7 =>
  bP (pNil v0) fun x8 =>
  bP (fa Q q 134 2 8 x8) fun x9 =>
  bP (ld Q q 33 x9 (G3.room 32)) fun x10 =>
  bS (e.ev.cl 75 [x7, x10] (G3.room 32)) fun x12 G11 =>
  bP (pNil v0) fun x13 =>
  bP (fa Q q 134 3 9 x13) fun x14 =>
  bP (ld Q q 132 x14 G11) fun x15 =>
  chk ((sameO (ld Q q 132 x14 (G3.room 32)) x15 && true)) <|
  bP (pNil v0) fun x16 =>
  bP (fa Q q 134 0 0 x16) fun x17 =>
  bP (fa Q q 131 0 0 x17) fun x18 =>
  bP (lda Q q 59 4 x18 G11) fun x19 =>
  chk ((sameO (lda Q q 59 4 x18 (G3.room 32)) x19 && true)) <|
  bP (pNil v0) fun x20 =>
  bP (fa Q q 134 2 8 x20) fun x21 =>
  bP (ld Q q 33 x21 G11) fun x22 =>
  chk ((sameO (ld Q q 33 x21 (G3.room 32)) x22 && true)) <|
  bS (e.ev.cl 94 [x19, x22] G11) fun x24 G23 =>
  chk ((sameO (ld Q q 132 x14 G23) x15 && true)) <|
  bS (e.ev.cl 93 [x24] G23) fun x26 G25 =>
  chk ((sameO (ld Q q 132 x14 G25) x15 && true)) <|
  bP (pNil v0) fun x27 =>
  bP (fa Q q 134 1 7 x27) fun x28 =>
  bP (ld Q q 3 x28 G25) fun x29 =>
  chk ((sameO (ld Q q 3 x28 G23) x29 && (sameO (ld Q q 3 x28 G11) x29 && (sameO (ld Q q 3 x28 (G3.room 32)) x29 && true)))) <|
  bS (e.ev.cl 122 [x26, x29] G25) fun x31 G30 =>
  chk ((sameO (ld Q q 132 x14 G30) x15 && true)) <|
  bS (e.ev.cl 121 [v1, x12, x15, x31] G30) fun x33 G32 =>
  ifV x33 (
  bP (pNil v0) fun x34 =>
  bP (fa Q q 134 0 0 x34) fun x35 =>
  bP (fa Q q 131 1 4 x35) fun x36 =>
  bP (st Q q 84 1 x36 (.func (.func 123) #[v0] #[]) G32) fun G37 =>
  some (.tuple #[], G37)) (
  some (.tuple #[], G32))
theorem m110 {e : Ex} {E : Ev} (h : ExLe Q e E) (v0 v1 : Value) (G : GS) : Ref (s110 true e v0 v1 G) (s110 false (Ex.of E) v0 v1 G) := by
  unfold s110
  exact Ref.go
theorem f110 {orc : FuncId → Bool} {e : Ex} (h : ExLe Q e (E orc)) (v0 v1 : Value) (G : GS) : Ref (s110 true e v0 v1 G) ((E orc).cl 110 [v0, v1] G) :=
  fun r hr => cl_sxE_some Q orc (vs := [v0, v1]) G Try.func110 (by kernel_rfl) (by kernel_rfl) (by kernel_rfl) (by kernel_rfl) (by kernel_rfl) (m110 h v0 v1 G r hr)
/-- (*coxswain/ring.Push).help -/
noncomputable def s111 (q : Bool) (e : Ex) (v0 v1 : Value) (G : GS) : Option (Value × GS) :=
  bP (pNil v0) fun x0 =>
  bP (fa Q q 134 0 0 x0) fun x1 =>
  bP (fa Q q 131 0 0 x1) fun x2 =>
  bP (fa Q q 59 1 1 x2) fun x3 =>
  bP (ld Q q 3 x3 (G.room 17)) fun x4 =>
  bP (pNil v0) fun x5 =>
  bP (fa Q q 134 2 8 x5) fun x6 =>
  bP (ld Q q 33 x6 (G.room 17)) fun x7 =>
  bP (pNil v0) fun x8 =>
  bP (fa Q q 134 2 8 x8) fun x9 =>
  bP (ld Q q 33 x9 (G.room 17)) fun x10 =>
  bP (bn Q q .add 33 (.tmp 18) (.const (.int .u64 1)) x10 (.int .u64 1)) fun x11 =>
  bS (e.ev.cl 121 [v1, x4, x7, x11] (G.room 17)) fun x13 G12 =>
  bP (pNil v0) fun x14 =>
  bP (fa Q q 134 0 0 x14) fun x15 =>
  bP (fa Q q 131 1 4 x15) fun x16 =>
  bP (st Q q 84 1 x16 (.func (.func 69) #[v0] #[]) G12) fun G17 =>
  some (.tuple #[], G17)
theorem m111 {e : Ex} {E : Ev} (h : ExLe Q e E) (v0 v1 : Value) (G : GS) : Ref (s111 true e v0 v1 G) (s111 false (Ex.of E) v0 v1 G) := by
  unfold s111
  exact Ref.go
theorem f111 {orc : FuncId → Bool} {e : Ex} (h : ExLe Q e (E orc)) (v0 v1 : Value) (G : GS) : Ref (s111 true e v0 v1 G) ((E orc).cl 111 [v0, v1] G) :=
  fun r hr => cl_sxE_some Q orc (vs := [v0, v1]) G Try.func111 (by kernel_rfl) (by kernel_rfl) (by kernel_rfl) (by kernel_rfl) (by kernel_rfl) (m111 h v0 v1 G r hr)
/-- (*coxswain/cells.Mem).CAS -/
noncomputable def s121 (q : Bool) (e : Ex) (v0 v1 v2 v3 : Value) (G : GS) : Option (Value × GS) :=
  bS (e.ev.cl 60 [v0, v1] G) fun x0 G1 =>
  bP (bd Q q 127 z127 [(0, 0, 1), (1, 1, 1), (2, 2, 1)] [x0, v2, v3]) fun x2 =>
  bS (al Q q 127 z127 G1) fun x3 G4 =>
  bP (st Q q 127 3 x3 x2 G4) fun G5 =>
  bP (fa Q q 127 0 0 x3) fun x6 =>
  bP (ld Q q 124 x6 G5) fun x7 =>
  bP (lda Q q 127 3 x3 G5) fun x8 =>
  bS (e.ev.cl 61 [v0, (.int .i64 3), v1, x7, (.func (.func 126) #[x8] #[])] G5) fun x9 G10 =>
  bP (fd Q q 80 4 4 x9) fun x11 =>
  some (x11, G10)
theorem m121 {e : Ex} {E : Ev} (h : ExLe Q e E) (v0 v1 v2 v3 : Value) (G : GS) : Ref (s121 true e v0 v1 v2 v3 G) (s121 false (Ex.of E) v0 v1 v2 v3 G) := by
  unfold s121
  exact Ref.go
theorem f121 {orc : FuncId → Bool} {e : Ex} (h : ExLe Q e (E orc)) (v0 v1 v2 v3 : Value) (G : GS) : Ref (s121 true e v0 v1 v2 v3 G) ((E orc).cl 121 [v0, v1, v2, v3] G) :=
  fun r hr => cl_sxE_some Q orc (vs := [v0, v1, v2, v3]) G Try.func121 (by kernel_rfl) (by kernel_rfl) (by kernel_rfl) (by kernel_rfl) (by kernel_rfl) (m121 h v0 v1 v2 v3 G r hr)
/-- (coxswain/ring.slot).with -/
noncomputable def s122 (q : Bool) (e : Ex) (v0 v1 : Value) (G : GS) : Option (Value × GS) :=
  bP (bn Q q .andNot 132 (.tmp 5) (.const (.int .u64 65535)) v0 (.int .u64 65535)) fun x0 =>
  bP (bn Q q .or 132 (.tmp 6) (.const (.int .u64 65536)) x0 (.int .u64 65536)) fun x1 =>
  bP (cv Q q 3 132 .i64 .u64 v1) fun x2 =>
  bP (bn Q q .or 132 (.tmp 7) (.tmp 9) x1 x2) fun x3 =>
  some (x3, G)
theorem m122 {e : Ex} {E : Ev} (h : ExLe Q e E) (v0 v1 : Value) (G : GS) : Ref (s122 true e v0 v1 G) (s122 false (Ex.of E) v0 v1 G) := by
  unfold s122
  exact Ref.go
theorem f122 {orc : FuncId → Bool} {e : Ex} (h : ExLe Q e (E orc)) (v0 v1 : Value) (G : GS) : Ref (s122 true e v0 v1 G) ((E orc).cl 122 [v0, v1] G) :=
  fun r hr => cl_sxE_some Q orc (vs := [v0, v1]) G Try.func122 (by kernel_rfl) (by kernel_rfl) (by kernel_rfl) (by kernel_rfl) (by kernel_rfl) (m122 h v0 v1 G r hr)
/-- (*coxswain/ring.Push).last -/
noncomputable def s123 (q : Bool) (e : Ex) (v0 v1 : Value) (G : GS) : Option (Value × GS) :=
  bP (pNil v0) fun x0 =>
  bP (fa Q q 134 0 0 x0) fun x1 =>
  bP (fa Q q 131 0 0 x1) fun x2 =>
  bP (fa Q q 59 1 1 x2) fun x3 =>
  bP (ld Q q 3 x3 (G.room 17)) fun x4 =>
  bP (pNil v0) fun x5 =>
  bP (fa Q q 134 2 8 x5) fun x6 =>
  bP (ld Q q 33 x6 (G.room 17)) fun x7 =>
  bP (pNil v0) fun x8 =>
  bP (fa Q q 134 2 8 x8) fun x9 =>
  bP (ld Q q 33 x9 (G.room 17)) fun x10 =>
  bP (bn Q q .add 33 (.tmp 18) (.const (.int .u64 1)) x10 (.int .u64 1)) fun x11 =>
  bS (e.ev.cl 121 [v1, x4, x7, x11] (G.room 17)) fun x13 G12 =>
  bP (pNil v0) fun x14 =>
  bP (fa Q q 134 0 0 x14) fun x15 =>
  bS (e.ev.cl 68 [x15, (.int .i64 0)] G12) fun x16 G17 =>
  some (.tuple #[], G17)
theorem m123 {e : Ex} {E : Ev} (h : ExLe Q e E) (v0 v1 : Value) (G : GS) : Ref (s123 true e v0 v1 G) (s123 false (Ex.of E) v0 v1 G) := by
  unfold s123
  exact Ref.go
theorem f123 {orc : FuncId → Bool} {e : Ex} (h : ExLe Q e (E orc)) (v0 v1 : Value) (G : GS) : Ref (s123 true e v0 v1 G) ((E orc).cl 123 [v0, v1] G) :=
  fun r hr => cl_sxE_some Q orc (vs := [v0, v1]) G Try.func123 (by kernel_rfl) (by kernel_rfl) (by kernel_rfl) (by kernel_rfl) (by kernel_rfl) (m123 h v0 v1 G r hr)
/-- (coxswain/cells.deed).swap -/
noncomputable def s126 (q : Bool) (e : Ex) (v0 : Value) (G : GS) : Option (Value × GS) :=
  bS (bx q v0 G) fun x0 G1 =>
  bP (fa Q q 127 0 0 x0) fun x2 =>
  bP (ld Q q 124 x2 (G1.room 7)) fun x3 =>
  bP (pNil x3) fun x4 =>
  bP (ld Q q 76 x4 (G1.room 7)) fun x5 =>
  bP (fa Q q 127 1 1 x0) fun x6 =>
  bP (ld Q q 33 x6 (G1.room 7)) fun x7 =>
  bP (bn Q q .neq 33 (.tmp 7) (.tmp 9) x5 x7) fun x8 =>
  ifV x8 (
  bP (fa Q q 127 0 0 x0) fun x9 =>
  bP (ld Q q 124 x9 (G1.room 7)) fun x10 =>
  bP (pNil x10) fun x11 =>
  bP (ld Q q 76 x11 (G1.room 7)) fun x12 =>
  some (.tuple #[x12, (.bool false)], (G1.room 7))) (
  bP (fa Q q 127 2 2 x0) fun x13 =>
  bP (ld Q q 33 x13 (G1.room 7)) fun x14 =>
  some (.tuple #[x14, (.bool true)], (G1.room 7)))
theorem m126 {e : Ex} {E : Ev} (h : ExLe Q e E) (v0 : Value) (G : GS) : Ref (s126 true e v0 G) (s126 false (Ex.of E) v0 G) := by
  unfold s126
  exact Ref.go
theorem f126 {orc : FuncId → Bool} {e : Ex} (h : ExLe Q e (E orc)) (v0 : Value) (G : GS) : Ref (s126 true e v0 G) ((E orc).cl 126 [v0] G) :=
  fun r hr => cl_sxE_some Q orc (vs := [v0]) G Try.func126 (by kernel_rfl) (by kernel_rfl) (by kernel_rfl) (by kernel_rfl) (by kernel_rfl) (m126 h v0 G r hr)
/-- (*coxswain/ring.Front).Step -/
noncomputable def s142 (q : Bool) (e : Ex) (v0 v1 : Value) (G : GS) : Option (Value × GS) :=
  bP (ep Q q false 92 (.tmp 5) (.const (.pointer none)) v0 (.pointer none)) fun x0 =>
  bS (gd x0 false (some (v0, G)) G) fun x1 G2 =>
  bS (gd x0 false (bP (pNil x1) fun y => some (y, G2)) G2) fun x3 G4 =>
  bS (gd x0 false (bP (fa Q q 136 0 0 x3) fun y => some (y, G4)) G4) fun x5 G6 =>
  bS (gd x0 false (some (v1, G6)) G6) fun x7 G8 =>
  bS (gd x0 false (bS (e.ev.cl 63 [x5, x7] G8) fun y G => some (y, G)) G8) fun x9 G10 =>
  bP (pickV x0 (.bool true) x9) fun x11 =>
  some (x11, G10)
theorem m142 {e : Ex} {E : Ev} (h : ExLe Q e E) (v0 v1 : Value) (G : GS) : Ref (s142 true e v0 v1 G) (s142 false (Ex.of E) v0 v1 G) := by
  unfold s142
  exact Ref.go
theorem f142 {orc : FuncId → Bool} {e : Ex} (h : ExLe Q e (E orc)) (v0 v1 : Value) (G : GS) : Ref (s142 true e v0 v1 G) ((E orc).cl 142 [v0, v1] G) :=
  fun r hr => cl_sxE_some Q orc (vs := [v0, v1]) G Try.func142 (by kernel_rfl) (by kernel_rfl) (by kernel_rfl) (by kernel_rfl) (by kernel_rfl) (m142 h v0 v1 G r hr)
/-- (*coxswain/ring.Drop).Step -/
noncomputable def s144 (q : Bool) (e : Ex) (v0 v1 : Value) (G : GS) : Option (Value × GS) :=
  bP (ep Q q false 95 (.tmp 5) (.const (.pointer none)) v0 (.pointer none)) fun x0 =>
  bS (gd x0 false (some (v0, G)) G) fun x1 G2 =>
  bS (gd x0 false (bP (pNil x1) fun y => some (y, G2)) G2) fun x3 G4 =>
  bS (gd x0 false (bP (fa Q q 139 0 0 x3) fun y => some (y, G4)) G4) fun x5 G6 =>
  bS (gd x0 false (some (v1, G6)) G6) fun x7 G8 =>
  bS (gd x0 false (bS (e.ev.cl 63 [x5, x7] G8) fun y G => some (y, G)) G8) fun x9 G10 =>
  bP (pickV x0 (.bool true) x9) fun x11 =>
  some (x11, G10)
theorem m144 {e : Ex} {E : Ev} (h : ExLe Q e E) (v0 v1 : Value) (G : GS) : Ref (s144 true e v0 v1 G) (s144 false (Ex.of E) v0 v1 G) := by
  unfold s144
  exact Ref.go
theorem f144 {orc : FuncId → Bool} {e : Ex} (h : ExLe Q e (E orc)) (v0 v1 : Value) (G : GS) : Ref (s144 true e v0 v1 G) ((E orc).cl 144 [v0, v1] G) :=
  fun r hr => cl_sxE_some Q orc (vs := [v0, v1]) G Try.func144 (by kernel_rfl) (by kernel_rfl) (by kernel_rfl) (by kernel_rfl) (by kernel_rfl) (m144 h v0 v1 G r hr)
noncomputable def clT (orc : FuncId → Bool) (e : Ex) (f : FuncId) (vs : List Value) (G : GS) : Option (Value × GS) :=
  fork f 61 (
fork f 33 (
fork f 16 (
fork f 8 (
fork f 5 (
fork f 4 (
leaf f 4 (app1 (s4 true e) vs G)) (
leaf f 5 (app1 (s5 true e) vs G))) (
fork f 7 (
leaf f 7 (app2 (s7 true e) vs G)) (
leaf f 8 (app2 (s8 true e) vs G)))) (
fork f 12 (
fork f 11 (
leaf f 11 (app2 (s11 true e) vs G)) (
leaf f 12 (app1 (s12 true e) vs G))) (
fork f 14 (
leaf f 14 (app1 (s14 true e) vs G)) (
fork f 15 (
leaf f 15 (app2 (s15 true e) vs G)) (
leaf f 16 (app2 (s16 true e) vs G)))))) (
fork f 21 (
fork f 18 (
fork f 17 (
leaf f 17 (app1 (s17 true e) vs G)) (
leaf f 18 (app3 (s18 true e) vs G))) (
fork f 19 (
leaf f 19 (app0 (orc 19) (s19 true e) vs G)) (
fork f 20 (
leaf f 20 (app2 (s20 true e) vs G)) (
leaf f 21 (app3 (s21 true e) vs G))))) (
fork f 23 (
fork f 22 (
leaf f 22 (app2 (s22 true e) vs G)) (
leaf f 23 (app0 (orc 23) (s23 true e) vs G))) (
fork f 31 (
leaf f 31 (app2 (s31 true e) vs G)) (
fork f 32 (
leaf f 32 (app1 (s32 true e) vs G)) (
leaf f 33 (app2 (s33 true e) vs G))))))) (
fork f 42 (
fork f 37 (
fork f 35 (
fork f 34 (
leaf f 34 (app1 (s34 true e) vs G)) (
leaf f 35 (app1 (s35 true e) vs G))) (
fork f 36 (
leaf f 36 (app2 (s36 true e) vs G)) (
leaf f 37 (app1 (s37 true e) vs G)))) (
fork f 39 (
fork f 38 (
leaf f 38 (app1 (s38 true e) vs G)) (
leaf f 39 (app2 (s39 true e) vs G))) (
fork f 40 (
leaf f 40 (app2 (s40 true e) vs G)) (
fork f 41 (
leaf f 41 (app2 (s41 true e) vs G)) (
leaf f 42 (app1 (s42 true e) vs G)))))) (
fork f 47 (
fork f 44 (
fork f 43 (
leaf f 43 (app1 (s43 true e) vs G)) (
leaf f 44 (app2 (s44 true e) vs G))) (
fork f 45 (
leaf f 45 (app2 (s45 true e) vs G)) (
fork f 46 (
leaf f 46 (app1 (s46 true e) vs G)) (
leaf f 47 (app0 (orc 47) (s47 true e) vs G))))) (
fork f 49 (
fork f 48 (
leaf f 48 (app2 (s48 true e) vs G)) (
leaf f 49 (app4 (s49 true e) vs G))) (
fork f 57 (
leaf f 57 (app3 (s57 true e) vs G)) (
fork f 60 (
leaf f 60 (app2 (s60 true e) vs G)) (
leaf f 61 (app5 (s61 true e) vs G)))))))) (
fork f 86 (
fork f 70 (
fork f 65 (
fork f 63 (
fork f 62 (
leaf f 62 (app1 (s62 true e) vs G)) (
leaf f 63 (app2 (s63 true e) vs G))) (
fork f 64 (
leaf f 64 (app1 (s64 true e) vs G)) (
leaf f 65 (app1 (s65 true e) vs G)))) (
fork f 67 (
fork f 66 (
leaf f 66 (app2 (s66 true e) vs G)) (
leaf f 67 (app2 (s67 true e) vs G))) (
fork f 68 (
leaf f 68 (app2 (s68 true e) vs G)) (
fork f 69 (
leaf f 69 (app2 (s69 true e) vs G)) (
leaf f 70 (app2 (s70 true e) vs G)))))) (
fork f 75 (
fork f 72 (
fork f 71 (
leaf f 71 (app1 (s71 true e) vs G)) (
leaf f 72 (app1 (s72 true e) vs G))) (
fork f 73 (
leaf f 73 (app2 (s73 true e) vs G)) (
fork f 74 (
leaf f 74 (app2 (s74 true e) vs G)) (
leaf f 75 (app2 (s75 true e) vs G))))) (
fork f 77 (
fork f 76 (
leaf f 76 (app1 (s76 true e) vs G)) (
leaf f 77 (app2 (s77 true e) vs G))) (
fork f 78 (
leaf f 78 (app4 (s78 true e) vs G)) (
fork f 79 (
leaf f 79 (app3 (s79 true e) vs G)) (
leaf f 86 (app1 (s86 true e) vs G))))))) (
fork f 102 (
fork f 95 (
fork f 92 (
fork f 88 (
leaf f 88 (app2 (s88 true e) vs G)) (
leaf f 92 (app1 (s92 true e) vs G))) (
fork f 93 (
leaf f 93 (app1 (s93 true e) vs G)) (
fork f 94 (
leaf f 94 (app2 (s94 true e) vs G)) (
leaf f 95 (app2 (s95 true e) vs G))))) (
fork f 97 (
fork f 96 (
leaf f 96 (app2 (s96 true e) vs G)) (
leaf f 97 (app2 (s97 true e) vs G))) (
fork f 98 (
leaf f 98 (app3 (s98 true e) vs G)) (
fork f 99 (
leaf f 99 (app2 (s99 true e) vs G)) (
leaf f 102 (app2 (s102 true e) vs G)))))) (
fork f 121 (
fork f 109 (
fork f 106 (
leaf f 106 (app1 (s106 true e) vs G)) (
leaf f 109 (app2 (s109 true e) vs G))) (
fork f 110 (
leaf f 110 (app2 (s110 true e) vs G)) (
fork f 111 (
leaf f 111 (app2 (s111 true e) vs G)) (
leaf f 121 (app4 (s121 true e) vs G))))) (
fork f 123 (
fork f 122 (
leaf f 122 (app2 (s122 true e) vs G)) (
leaf f 123 (app2 (s123 true e) vs G))) (
fork f 126 (
leaf f 126 (app1 (s126 true e) vs G)) (
fork f 142 (
leaf f 142 (app2 (s142 true e) vs G)) (
leaf f 144 (app2 (s144 true e) vs G))))))))
theorem clT_ok {orc : FuncId → Bool} {e : Ex} (h : ExLe Q e (E orc)) (f : FuncId) (vs : List Value) (G : GS) : Ref (clT orc e f vs G) ((E orc).cl f vs G) :=
  Ref.fork (
Ref.fork (
Ref.fork (
Ref.fork (
Ref.fork (
Ref.fork (
Ref.leaf (y := fun f => (E orc).cl f vs G) (Ref.app1 (fun u0 G => f4 h u0 G) vs G)) (
Ref.leaf (y := fun f => (E orc).cl f vs G) (Ref.app1 (fun u0 G => f5 h u0 G) vs G))) (
Ref.fork (
Ref.leaf (y := fun f => (E orc).cl f vs G) (Ref.app2 (fun u0 u1 G => f7 h u0 u1 G) vs G)) (
Ref.leaf (y := fun f => (E orc).cl f vs G) (Ref.app2 (fun u0 u1 G => f8 h u0 u1 G) vs G)))) (
Ref.fork (
Ref.fork (
Ref.leaf (y := fun f => (E orc).cl f vs G) (Ref.app2 (fun u0 u1 G => f11 h u0 u1 G) vs G)) (
Ref.leaf (y := fun f => (E orc).cl f vs G) (Ref.app1 (fun u0 G => f12 h u0 G) vs G))) (
Ref.fork (
Ref.leaf (y := fun f => (E orc).cl f vs G) (Ref.app1 (fun u0 G => f14 h u0 G) vs G)) (
Ref.fork (
Ref.leaf (y := fun f => (E orc).cl f vs G) (Ref.app2 (fun u0 u1 G => f15 h u0 u1 G) vs G)) (
Ref.leaf (y := fun f => (E orc).cl f vs G) (Ref.app2 (fun u0 u1 G => f16 h u0 u1 G) vs G)))))) (
Ref.fork (
Ref.fork (
Ref.fork (
Ref.leaf (y := fun f => (E orc).cl f vs G) (Ref.app1 (fun u0 G => f17 h u0 G) vs G)) (
Ref.leaf (y := fun f => (E orc).cl f vs G) (Ref.app3 (fun u0 u1 u2 G => f18 h u0 u1 u2 G) vs G))) (
Ref.fork (
Ref.leaf (y := fun f => (E orc).cl f vs G) (Ref.app0 (fun ho G => f19 h ho G) vs G)) (
Ref.fork (
Ref.leaf (y := fun f => (E orc).cl f vs G) (Ref.app2 (fun u0 u1 G => f20 h u0 u1 G) vs G)) (
Ref.leaf (y := fun f => (E orc).cl f vs G) (Ref.app3 (fun u0 u1 u2 G => f21 h u0 u1 u2 G) vs G))))) (
Ref.fork (
Ref.fork (
Ref.leaf (y := fun f => (E orc).cl f vs G) (Ref.app2 (fun u0 u1 G => f22 h u0 u1 G) vs G)) (
Ref.leaf (y := fun f => (E orc).cl f vs G) (Ref.app0 (fun ho G => f23 h ho G) vs G))) (
Ref.fork (
Ref.leaf (y := fun f => (E orc).cl f vs G) (Ref.app2 (fun u0 u1 G => f31 h u0 u1 G) vs G)) (
Ref.fork (
Ref.leaf (y := fun f => (E orc).cl f vs G) (Ref.app1 (fun u0 G => f32 h u0 G) vs G)) (
Ref.leaf (y := fun f => (E orc).cl f vs G) (Ref.app2 (fun u0 u1 G => f33 h u0 u1 G) vs G))))))) (
Ref.fork (
Ref.fork (
Ref.fork (
Ref.fork (
Ref.leaf (y := fun f => (E orc).cl f vs G) (Ref.app1 (fun u0 G => f34 h u0 G) vs G)) (
Ref.leaf (y := fun f => (E orc).cl f vs G) (Ref.app1 (fun u0 G => f35 h u0 G) vs G))) (
Ref.fork (
Ref.leaf (y := fun f => (E orc).cl f vs G) (Ref.app2 (fun u0 u1 G => f36 h u0 u1 G) vs G)) (
Ref.leaf (y := fun f => (E orc).cl f vs G) (Ref.app1 (fun u0 G => f37 h u0 G) vs G)))) (
Ref.fork (
Ref.fork (
Ref.leaf (y := fun f => (E orc).cl f vs G) (Ref.app1 (fun u0 G => f38 h u0 G) vs G)) (
Ref.leaf (y := fun f => (E orc).cl f vs G) (Ref.app2 (fun u0 u1 G => f39 h u0 u1 G) vs G))) (
Ref.fork (
Ref.leaf (y := fun f => (E orc).cl f vs G) (Ref.app2 (fun u0 u1 G => f40 h u0 u1 G) vs G)) (
Ref.fork (
Ref.leaf (y := fun f => (E orc).cl f vs G) (Ref.app2 (fun u0 u1 G => f41 h u0 u1 G) vs G)) (
Ref.leaf (y := fun f => (E orc).cl f vs G) (Ref.app1 (fun u0 G => f42 h u0 G) vs G)))))) (
Ref.fork (
Ref.fork (
Ref.fork (
Ref.leaf (y := fun f => (E orc).cl f vs G) (Ref.app1 (fun u0 G => f43 h u0 G) vs G)) (
Ref.leaf (y := fun f => (E orc).cl f vs G) (Ref.app2 (fun u0 u1 G => f44 h u0 u1 G) vs G))) (
Ref.fork (
Ref.leaf (y := fun f => (E orc).cl f vs G) (Ref.app2 (fun u0 u1 G => f45 h u0 u1 G) vs G)) (
Ref.fork (
Ref.leaf (y := fun f => (E orc).cl f vs G) (Ref.app1 (fun u0 G => f46 h u0 G) vs G)) (
Ref.leaf (y := fun f => (E orc).cl f vs G) (Ref.app0 (fun ho G => f47 h ho G) vs G))))) (
Ref.fork (
Ref.fork (
Ref.leaf (y := fun f => (E orc).cl f vs G) (Ref.app2 (fun u0 u1 G => f48 h u0 u1 G) vs G)) (
Ref.leaf (y := fun f => (E orc).cl f vs G) (Ref.app4 (fun u0 u1 u2 u3 G => f49 h u0 u1 u2 u3 G) vs G))) (
Ref.fork (
Ref.leaf (y := fun f => (E orc).cl f vs G) (Ref.app3 (fun u0 u1 u2 G => f57 h u0 u1 u2 G) vs G)) (
Ref.fork (
Ref.leaf (y := fun f => (E orc).cl f vs G) (Ref.app2 (fun u0 u1 G => f60 h u0 u1 G) vs G)) (
Ref.leaf (y := fun f => (E orc).cl f vs G) (Ref.app5 (fun u0 u1 u2 u3 u4 G => f61 h u0 u1 u2 u3 u4 G) vs G)))))))) (
Ref.fork (
Ref.fork (
Ref.fork (
Ref.fork (
Ref.fork (
Ref.leaf (y := fun f => (E orc).cl f vs G) (Ref.app1 (fun u0 G => f62 h u0 G) vs G)) (
Ref.leaf (y := fun f => (E orc).cl f vs G) (Ref.app2 (fun u0 u1 G => f63 h u0 u1 G) vs G))) (
Ref.fork (
Ref.leaf (y := fun f => (E orc).cl f vs G) (Ref.app1 (fun u0 G => f64 h u0 G) vs G)) (
Ref.leaf (y := fun f => (E orc).cl f vs G) (Ref.app1 (fun u0 G => f65 h u0 G) vs G)))) (
Ref.fork (
Ref.fork (
Ref.leaf (y := fun f => (E orc).cl f vs G) (Ref.app2 (fun u0 u1 G => f66 h u0 u1 G) vs G)) (
Ref.leaf (y := fun f => (E orc).cl f vs G) (Ref.app2 (fun u0 u1 G => f67 h u0 u1 G) vs G))) (
Ref.fork (
Ref.leaf (y := fun f => (E orc).cl f vs G) (Ref.app2 (fun u0 u1 G => f68 h u0 u1 G) vs G)) (
Ref.fork (
Ref.leaf (y := fun f => (E orc).cl f vs G) (Ref.app2 (fun u0 u1 G => f69 h u0 u1 G) vs G)) (
Ref.leaf (y := fun f => (E orc).cl f vs G) (Ref.app2 (fun u0 u1 G => f70 h u0 u1 G) vs G)))))) (
Ref.fork (
Ref.fork (
Ref.fork (
Ref.leaf (y := fun f => (E orc).cl f vs G) (Ref.app1 (fun u0 G => f71 h u0 G) vs G)) (
Ref.leaf (y := fun f => (E orc).cl f vs G) (Ref.app1 (fun u0 G => f72 h u0 G) vs G))) (
Ref.fork (
Ref.leaf (y := fun f => (E orc).cl f vs G) (Ref.app2 (fun u0 u1 G => f73 h u0 u1 G) vs G)) (
Ref.fork (
Ref.leaf (y := fun f => (E orc).cl f vs G) (Ref.app2 (fun u0 u1 G => f74 h u0 u1 G) vs G)) (
Ref.leaf (y := fun f => (E orc).cl f vs G) (Ref.app2 (fun u0 u1 G => f75 h u0 u1 G) vs G))))) (
Ref.fork (
Ref.fork (
Ref.leaf (y := fun f => (E orc).cl f vs G) (Ref.app1 (fun u0 G => f76 h u0 G) vs G)) (
Ref.leaf (y := fun f => (E orc).cl f vs G) (Ref.app2 (fun u0 u1 G => f77 h u0 u1 G) vs G))) (
Ref.fork (
Ref.leaf (y := fun f => (E orc).cl f vs G) (Ref.app4 (fun u0 u1 u2 u3 G => f78 h u0 u1 u2 u3 G) vs G)) (
Ref.fork (
Ref.leaf (y := fun f => (E orc).cl f vs G) (Ref.app3 (fun u0 u1 u2 G => f79 h u0 u1 u2 G) vs G)) (
Ref.leaf (y := fun f => (E orc).cl f vs G) (Ref.app1 (fun u0 G => f86 h u0 G) vs G))))))) (
Ref.fork (
Ref.fork (
Ref.fork (
Ref.fork (
Ref.leaf (y := fun f => (E orc).cl f vs G) (Ref.app2 (fun u0 u1 G => f88 h u0 u1 G) vs G)) (
Ref.leaf (y := fun f => (E orc).cl f vs G) (Ref.app1 (fun u0 G => f92 h u0 G) vs G))) (
Ref.fork (
Ref.leaf (y := fun f => (E orc).cl f vs G) (Ref.app1 (fun u0 G => f93 h u0 G) vs G)) (
Ref.fork (
Ref.leaf (y := fun f => (E orc).cl f vs G) (Ref.app2 (fun u0 u1 G => f94 h u0 u1 G) vs G)) (
Ref.leaf (y := fun f => (E orc).cl f vs G) (Ref.app2 (fun u0 u1 G => f95 h u0 u1 G) vs G))))) (
Ref.fork (
Ref.fork (
Ref.leaf (y := fun f => (E orc).cl f vs G) (Ref.app2 (fun u0 u1 G => f96 h u0 u1 G) vs G)) (
Ref.leaf (y := fun f => (E orc).cl f vs G) (Ref.app2 (fun u0 u1 G => f97 h u0 u1 G) vs G))) (
Ref.fork (
Ref.leaf (y := fun f => (E orc).cl f vs G) (Ref.app3 (fun u0 u1 u2 G => f98 h u0 u1 u2 G) vs G)) (
Ref.fork (
Ref.leaf (y := fun f => (E orc).cl f vs G) (Ref.app2 (fun u0 u1 G => f99 h u0 u1 G) vs G)) (
Ref.leaf (y := fun f => (E orc).cl f vs G) (Ref.app2 (fun u0 u1 G => f102 h u0 u1 G) vs G)))))) (
Ref.fork (
Ref.fork (
Ref.fork (
Ref.leaf (y := fun f => (E orc).cl f vs G) (Ref.app1 (fun u0 G => f106 h u0 G) vs G)) (
Ref.leaf (y := fun f => (E orc).cl f vs G) (Ref.app2 (fun u0 u1 G => f109 h u0 u1 G) vs G))) (
Ref.fork (
Ref.leaf (y := fun f => (E orc).cl f vs G) (Ref.app2 (fun u0 u1 G => f110 h u0 u1 G) vs G)) (
Ref.fork (
Ref.leaf (y := fun f => (E orc).cl f vs G) (Ref.app2 (fun u0 u1 G => f111 h u0 u1 G) vs G)) (
Ref.leaf (y := fun f => (E orc).cl f vs G) (Ref.app4 (fun u0 u1 u2 u3 G => f121 h u0 u1 u2 u3 G) vs G))))) (
Ref.fork (
Ref.fork (
Ref.leaf (y := fun f => (E orc).cl f vs G) (Ref.app2 (fun u0 u1 G => f122 h u0 u1 G) vs G)) (
Ref.leaf (y := fun f => (E orc).cl f vs G) (Ref.app2 (fun u0 u1 G => f123 h u0 u1 G) vs G))) (
Ref.fork (
Ref.leaf (y := fun f => (E orc).cl f vs G) (Ref.app1 (fun u0 G => f126 h u0 G) vs G)) (
Ref.fork (
Ref.leaf (y := fun f => (E orc).cl f vs G) (Ref.app2 (fun u0 u1 G => f142 h u0 u1 G) vs G)) (
Ref.leaf (y := fun f => (E orc).cl f vs G) (Ref.app2 (fun u0 u1 G => f144 h u0 u1 G) vs G))))))))
noncomputable def lpT (FUEL : Nat) (e : Ex) (f k : Nat) (τ : Env) (G : GS) : Option (Exit × Env × GS) :=
  fork f 49 (
fork f 44 (
fork f 4 (
leaf f 4 (leaf k 0 (lpS 114 (b4_0 true e) FUEL τ G))) (
leaf f 44 (leaf k 0 (lpS 28 (b44_0 true e) FUEL τ G)))) (
fork f 48 (
leaf f 48 (leaf k 0 (lpS 31 (b48_0 true e) FUEL τ G))) (
leaf f 49 (leaf k 0 (lpS 37 (b49_0 true e) FUEL τ G))))) (
fork f 72 (
fork f 70 (
leaf f 70 (leaf k 0 (lpS 31 (b70_0 true e) FUEL τ G))) (
leaf f 72 (leaf k 0 (lpS 42 (b72_0 true e) FUEL τ G)))) (
fork f 78 (
leaf f 78 (leaf k 0 (lpS 29 (b78_0 true e) FUEL τ G))) (
leaf f 98 (leaf k 0 (lpS 32 (b98_0 true e) FUEL τ G)))))
theorem lpT_ok {orc : FuncId → Bool} {e : Ex} (h : ExLe Q e (E orc)) (FUEL f k : Nat) (τ : Env) (G : GS) : Ref (lpT FUEL e f k τ G) (mapE ((E orc).lp (codeAt Q f k) (lst (nOf Q f) τ) G)) :=
  Ref.fork (
Ref.fork (
Ref.fork (
Ref.leaf (y := fun f => mapE ((E orc).lp (codeAt Q f k) (lst (nOf Q f) τ) G)) (Ref.leaf (y := fun k => mapE ((E orc).lp (codeAt Q 4 k) (lst (nOf Q 4) τ) G)) (lp_leaf (c := (subAt [1, 1, 1, 1, 0, 1, 0, 0] (bodyOf Try.f4))) (l4_0 h) _ _ _))) (
Ref.leaf (y := fun f => mapE ((E orc).lp (codeAt Q f k) (lst (nOf Q f) τ) G)) (Ref.leaf (y := fun k => mapE ((E orc).lp (codeAt Q 44 k) (lst (nOf Q 44) τ) G)) (lp_leaf (c := (subAt [1, 1, 1, 1, 1, 0, 0] (bodyOf Try.f44))) (l44_0 h) _ _ _)))) (
Ref.fork (
Ref.leaf (y := fun f => mapE ((E orc).lp (codeAt Q f k) (lst (nOf Q f) τ) G)) (Ref.leaf (y := fun k => mapE ((E orc).lp (codeAt Q 48 k) (lst (nOf Q 48) τ) G)) (lp_leaf (c := (subAt [1, 1, 0, 1, 0, 0] (bodyOf Try.f48))) (l48_0 h) _ _ _))) (
Ref.leaf (y := fun f => mapE ((E orc).lp (codeAt Q f k) (lst (nOf Q f) τ) G)) (Ref.leaf (y := fun k => mapE ((E orc).lp (codeAt Q 49 k) (lst (nOf Q 49) τ) G)) (lp_leaf (c := (subAt [1, 1, 1, 0, 0, 0] (bodyOf Try.f49))) (l49_0 h) _ _ _))))) (
Ref.fork (
Ref.fork (
Ref.leaf (y := fun f => mapE ((E orc).lp (codeAt Q f k) (lst (nOf Q f) τ) G)) (Ref.leaf (y := fun k => mapE ((E orc).lp (codeAt Q 70 k) (lst (nOf Q 70) τ) G)) (lp_leaf (c := (subAt [1, 0, 0] (bodyOf Try.f70))) (l70_0 h) _ _ _))) (
Ref.leaf (y := fun f => mapE ((E orc).lp (codeAt Q f k) (lst (nOf Q f) τ) G)) (Ref.leaf (y := fun k => mapE ((E orc).lp (codeAt Q 72 k) (lst (nOf Q 72) τ) G)) (lp_leaf (c := (subAt [1, 1, 1, 0, 1, 0, 0] (bodyOf Try.f72))) (l72_0 h) _ _ _)))) (
Ref.fork (
Ref.leaf (y := fun f => mapE ((E orc).lp (codeAt Q f k) (lst (nOf Q f) τ) G)) (Ref.leaf (y := fun k => mapE ((E orc).lp (codeAt Q 78 k) (lst (nOf Q 78) τ) G)) (lp_leaf (c := (subAt [1, 1, 1, 0, 0, 0] (bodyOf Try.f78))) (l78_0 h) _ _ _))) (
Ref.leaf (y := fun f => mapE ((E orc).lp (codeAt Q f k) (lst (nOf Q f) τ) G)) (Ref.leaf (y := fun k => mapE ((E orc).lp (codeAt Q 98 k) (lst (nOf Q 98) τ) G)) (lp_leaf (c := (subAt [1, 1, 0, 0] (bodyOf Try.f98))) (l98_0 h) _ _ _)))))
noncomputable def kE (orc : FuncId → Bool) (n : Nat) : Ex := Nat.rec (motive := fun _ => Ex) ⟨Ev.zero, fun _ _ _ _ => none⟩ (fun _ e => ⟨⟨(evO Q orc 0).ex, clT orc e, (evO Q orc 2000).rd, (evO Q orc 2000).sc, (evO Q orc 0).lp⟩, lpT 6000 e⟩) n
theorem kE_ok (orc : FuncId → Bool) : ∀ n, ExLe Q (kE orc n) (E orc)
  | 0 => ⟨zero_le _, fun _ _ _ _ => .nil _⟩
  | n + 1 => ⟨⟨(le_evL Q orc 0).ex, fun f vs G r hr => clT_ok (kE_ok orc n) f vs G r hr, (le_evL Q orc 2000).rd, (le_evL Q orc 2000).sc, (le_evL Q orc 0).lp⟩, lpT_ok (kE_ok orc n) 6000⟩
/-- what the tables find true is true -/
theorem at_kE {orc : FuncId → Bool} {n f : Nat} {vs : List Value} (h : isTrue ((kE orc n).ev.cl f vs GS.empty) = true) : ∃ G', (E orc).cl f vs GS.empty = some (.bool true, G') := isTrue_of ((kE_ok orc n).ev.cl f vs GS.empty) h
theorem closed_kE {orc : FuncId → Bool} (ho : OrcOk Q orc) (hmix : Q.follows .mixedOrders = true) {n f : Nat} (h : isTrue ((kE orc n).ev.cl f [] GS.empty) = true) (w : World) : Calls Q f #[] w fun e w' => e = .returned (.bool true) ∧ Go.RowKit.Below w.heap.size w w' :=
  let ⟨_, hG⟩ := at_kE h
  law_plain hmix ho hG fun _ => trivial
end Go.Proofs.Ytgcceeillefbpaa.Lift
