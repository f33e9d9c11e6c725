/- the program's code, spelled out by a program of ours (lift3.lean) -/
import Derived.Test.YtaanpcoglijohaaGreatProg
import Derived.Test.YtaanpcoglijohaaGreatGhPJ
import Derived.Test.YtaanpcoglijohaaGreatGhPG
import Derived.KernelRfl
namespace Go.Proofs.YtaanpcoglijohaaGreat.Lift
open Go Go.Proofs.YtaanpcoglijohaaGreat.Gh Go.Proofs
set_option linter.unusedVariables false
set_option maxRecDepth 100000
@[reducible] noncomputable def Q : Program := Tryz.prog
@[reducible] noncomputable def E (orc : FuncId → Bool) : Ev := evL Tryz.prog orc
instance ilp3_0 : LpIs Q 3 0 (subAt [1, 1, 1, 1, 1, 1, 1, 1, 0, 1, 0, 0] (bodyOf Tryz.f3)) 192 := ⟨by kernel_rfl, by kernel_rfl⟩
instance ilp3_1 : LpIs Q 3 1 (subAt [1, 1, 1, 1, 1, 1, 1, 1, 1, 1, 0, 1, 0, 0] (bodyOf Tryz.f3)) 192 := ⟨by kernel_rfl, by kernel_rfl⟩
instance ilp13_0 : LpIs Q 13 0 (subAt [1, 1, 1, 0, 0] (bodyOf Tryz.f13)) 19 := ⟨by kernel_rfl, by kernel_rfl⟩
instance ilp21_0 : LpIs Q 21 0 (subAt [1, 1, 0, 1, 0, 0] (bodyOf Tryz.f21)) 31 := ⟨by kernel_rfl, by kernel_rfl⟩
instance ilp24_0 : LpIs Q 24 0 (subAt [1, 0, 1, 0, 0] (bodyOf Tryz.f24)) 22 := ⟨by kernel_rfl, by kernel_rfl⟩
instance ilp29_0 : LpIs Q 29 0 (subAt [1, 1, 0, 1, 0, 0] (bodyOf Tryz.f29)) 31 := ⟨by kernel_rfl, by kernel_rfl⟩
instance ilp30_0 : LpIs Q 30 0 (subAt [1, 1, 1, 0, 1, 0, 0] (bodyOf Tryz.f30)) 42 := ⟨by kernel_rfl, by kernel_rfl⟩
instance ilp32_0 : LpIs Q 32 0 (subAt [1, 0, 0] (bodyOf Tryz.f32)) 12 := ⟨by kernel_rfl, by kernel_rfl⟩
instance ilp49_0 : LpIs Q 49 0 (subAt [1, 1, 1, 1, 1, 0, 0] (bodyOf Tryz.f49)) 28 := ⟨by kernel_rfl, by kernel_rfl⟩
instance ilp50_0 : LpIs Q 50 0 (subAt [1, 1, 1, 1, 1, 0, 0] (bodyOf Tryz.f50)) 29 := ⟨by kernel_rfl, by kernel_rfl⟩
instance ilp71_0 : LpIs Q 71 0 (subAt [1, 1, 1, 1, 0, 0, 0] (bodyOf Tryz.f71)) 44 := ⟨by kernel_rfl, by kernel_rfl⟩
instance ilp101_0 : LpIs Q 101 0 (subAt [1, 0, 0] (bodyOf Tryz.f101)) 31 := ⟨by kernel_rfl, by kernel_rfl⟩
instance ilp175_0 : LpIs Q 175 0 (subAt [1, 1, 0, 0] (bodyOf Tryz.f175)) 32 := ⟨by kernel_rfl, by kernel_rfl⟩
instance ilda23 : LdAOk Q 23 3 := ⟨fun b o s G => by kernel_rfl⟩
instance iln24 : LnOk Q 24 := ⟨fun a n c => by kernel_rfl⟩
instance iln25 : LnOk Q 25 := ⟨fun a n c => by kernel_rfl⟩
instance iep30 : EpOk Q 30 := ⟨fun neg x y => by cases neg <;> kernel_rfl, fun neg x y a => by cases neg <;> kernel_rfl, fun neg x y a => by cases neg <;> kernel_rfl⟩
instance iias24 : IasOk Q 24 1 := ⟨fun b o s n c k j => by kernel_rfl⟩
instance ild39 : LdOk Q 39 := ⟨fun b o s G => (show _ = loadOne b o G by kernel_rfl).trans (loadOne_eq b o G)⟩
noncomputable abbrev z49 : List Value := [(.pointer none), (.pointer none), (.pointer none), (.pointer none)]
instance imk40 : MkSlOk Q 40 4 32 z49 := ⟨fun k k' l c G => by kernel_rfl⟩
instance iias25 : IasOk Q 25 4 := ⟨fun b o s n c k j => by kernel_rfl⟩
instance ifa43_0 : FaOk Q 43 0 0 := ⟨fun b o s => by kernel_rfl⟩
instance ild3 : LdOk Q 3 := ⟨fun b o s G => (show _ = loadOne b o G by kernel_rfl).trans (loadOne_eq b o G)⟩
instance ifa43_1 : FaOk Q 43 1 1 := ⟨fun b o s => by kernel_rfl⟩
instance iias40 : IasOk Q 40 4 := ⟨fun b o s n c k j => by kernel_rfl⟩
instance ilda49 : LdAOk Q 49 4 := ⟨fun b o s G => by kernel_rfl⟩
instance ilda43 : LdAOk Q 43 4 := ⟨fun b o s G => by kernel_rfl⟩
instance ist49 : StOk Q 49 4 := ⟨fun b o s v G => by kernel_rfl⟩
instance ieb4 : EbOk Q 4 := ⟨fun neg x y a b => by cases neg <;> cases a <;> cases b <;> kernel_rfl⟩
instance ifa23_0 : FaOk Q 23 0 0 := ⟨fun b o s => by kernel_rfl⟩
instance ifa23_1 : FaOk Q 23 1 1 := ⟨fun b o s => by kernel_rfl⟩
instance ifa23_2 : FaOk Q 23 2 2 := ⟨fun b o s => by kernel_rfl⟩
noncomputable abbrev z23 : List Value := [(.int .i64 0), (.int .i64 0), (.int .i64 0)]
instance ial23 : AlOk Q 23 z23 := ⟨fun G => by kernel_rfl⟩
instance ist23 : StOk Q 23 3 := ⟨fun b o s v G => by kernel_rfl⟩
noncomputable abbrev z3 : List Value := [(.int .i64 0)]
instance ibs52_2_0_1 : BsOk Q 52 2 (rep z3 2) 1 [(0, 0, 1), (1, 1, 1)] := bs_ok Q (z0 := z3) (by kernel_rfl) rfl (by decide) (by kernel_rfl)
instance ibs52_1_0 : BsOk Q 52 1 (rep z3 1) 1 [(0, 0, 1)] := bs_ok Q (z0 := z3) (by kernel_rfl) rfl (by decide) (by kernel_rfl)
noncomputable abbrev z110 : List Value := (zs 4096 (.int .u64 0))
instance ial110 : AlOk Q 110 z110 := ⟨fun G => by kernel_rfl⟩
noncomputable abbrev z112 : List Value := [(.pointer none), (.int .i64 0), (.int .i64 0), (.int .i64 0), (.int .u64 0), (.int .u64 0), (.bool false), (.int .i64 0)]
instance ibd112_0_1 : BdOk Q 112 z112 [(0, 0, 1), (1, 1, 1)] := bd_ok Q (by kernel_rfl) (by kernel_rfl) (by kernel_rfl)
noncomputable abbrev z39 : List Value := [(.int .u64 0)]
instance imk24 : MkSlOk Q 24 1 8 z39 := ⟨fun k k' l c G => by kernel_rfl⟩
noncomputable abbrev z114 : List Value := [(.slice none 0 0), (.int .i64 0), (.int .i64 0), (.int .u64 0), (.int .u64 0), (.bool false), (.int .i64 0)]
instance ibd114_0 : BdOk Q 114 z114 [(0, 0, 1)] := bd_ok Q (by kernel_rfl) (by kernel_rfl) (by kernel_rfl)
noncomputable abbrev z119 : List Value := [(.int .i64 0), (.int .i64 0), (.int .i64 0), (.int .i64 0)]
instance ial119 : AlOk Q 119 z119 := ⟨fun G => by kernel_rfl⟩
instance ist119 : StOk Q 119 4 := ⟨fun b o s v G => by kernel_rfl⟩
instance ilda119 : LdAOk Q 119 4 := ⟨fun b o s G => by kernel_rfl⟩
instance ild30 : LdOk Q 30 := ⟨fun b o s G => (show _ = loadOne b o G by kernel_rfl).trans (loadOne_eq b o G)⟩
noncomputable abbrev z126 : List Value := [(.pointer none), (.int .u64 0), (.int .u64 0)]
instance ibd126_0_1 : BdOk Q 126 z126 [(0, 0, 1), (1, 1, 1)] := bd_ok Q (by kernel_rfl) (by kernel_rfl) (by kernel_rfl)
instance ial126 : AlOk Q 126 z126 := ⟨fun G => by kernel_rfl⟩
instance ist126 : StOk Q 126 3 := ⟨fun b o s v G => by kernel_rfl⟩
instance ifa126_0 : FaOk Q 126 0 0 := ⟨fun b o s => by kernel_rfl⟩
instance ild123 : LdOk Q 123 := ⟨fun b o s G => (show _ = loadOne b o G by kernel_rfl).trans (loadOne_eq b o G)⟩
instance ilda126 : LdAOk Q 126 3 := ⟨fun b o s G => by kernel_rfl⟩
instance ifa49_1 : FaOk Q 49 1 1 := ⟨fun b o s => by kernel_rfl⟩
instance ild45 : LdOk Q 45 := ⟨fun b o s G => (show _ = loadOne b o G by kernel_rfl).trans (loadOne_eq b o G)⟩
instance iep45 : EpOk Q 45 := ⟨fun neg x y => by cases neg <;> kernel_rfl, fun neg x y a => by cases neg <;> kernel_rfl, fun neg x y a => by cases neg <;> kernel_rfl⟩
instance ifa49_0 : FaOk Q 49 0 0 := ⟨fun b o s => by kernel_rfl⟩
instance ild44 : LdOk Q 44 := ⟨fun b o s G => (show _ = loadOne b o G by kernel_rfl).trans (loadOne_eq b o G)⟩
instance ifa49_3 : FaOk Q 49 3 3 := ⟨fun b o s => by kernel_rfl⟩
instance ild47 : LdOk Q 47 := ⟨fun b o s G => (show _ = loadOne b o G by kernel_rfl).trans (loadOne_eq b o G)⟩
instance iep47 : EpOk Q 47 := ⟨fun neg x y => by cases neg <;> kernel_rfl, fun neg x y a => by cases neg <;> kernel_rfl, fun neg x y a => by cases neg <;> kernel_rfl⟩
instance ifa49_2 : FaOk Q 49 2 2 := ⟨fun b o s => by kernel_rfl⟩
instance ild46 : LdOk Q 46 := ⟨fun b o s G => (show _ = loadOne b o G by kernel_rfl).trans (loadOne_eq b o G)⟩
instance ial49 : AlOk Q 49 z49 := ⟨fun G => by kernel_rfl⟩
instance ifa43_2 : FaOk Q 43 2 2 := ⟨fun b o s => by kernel_rfl⟩
instance ifa43_3 : FaOk Q 43 3 3 := ⟨fun b o s => by kernel_rfl⟩
instance ibd49_0_1 : BdOk Q 49 z49 [(0, 0, 1), (1, 1, 1)] := bd_ok Q (by kernel_rfl) (by kernel_rfl) (by kernel_rfl)
instance ibd49_2_3 : BdOk Q 49 z49 [(2, 2, 1), (3, 3, 1)] := bd_ok Q (by kernel_rfl) (by kernel_rfl) (by kernel_rfl)
instance iln52 : LnOk Q 52 := ⟨fun a n c => by kernel_rfl⟩
instance iias52 : IasOk Q 52 1 := ⟨fun b o s n c k j => by kernel_rfl⟩
noncomputable abbrev z4 : List Value := [(.bool false)]
instance ial4 : AlOk Q 4 z4 := ⟨fun G => by kernel_rfl⟩
instance ist4 : StOk Q 4 1 := ⟨fun b o s v G => by kernel_rfl⟩
instance ild4 : LdOk Q 4 := ⟨fun b o s G => (show _ = loadOne b o G by kernel_rfl).trans (loadOne_eq b o G)⟩
noncomputable abbrev z59 : List Value := [(.int .i64 0), (.int .i64 0), (.int .u64 0), (.int .u64 0), (.bool false)]
instance ial59 : AlOk Q 59 z59 := ⟨fun G => by kernel_rfl⟩
instance ibd59_ : BdOk Q 59 z59 [] := bd_ok Q (by kernel_rfl) (by kernel_rfl) (by kernel_rfl)
instance ist59 : StOk Q 59 5 := ⟨fun b o s v G => by kernel_rfl⟩
instance ifa112_2 : FaOk Q 112 2 2 := ⟨fun b o s => by kernel_rfl⟩
instance ilda59 : LdAOk Q 59 5 := ⟨fun b o s G => by kernel_rfl⟩
instance ifa114_1 : FaOk Q 114 1 1 := ⟨fun b o s => by kernel_rfl⟩
instance ifa112_3 : FaOk Q 112 3 7 := ⟨fun b o s => by kernel_rfl⟩
instance ifa114_2 : FaOk Q 114 2 6 := ⟨fun b o s => by kernel_rfl⟩
instance ifa112_0 : FaOk Q 112 0 0 := ⟨fun b o s => by kernel_rfl⟩
instance ild107 : LdOk Q 107 := ⟨fun b o s G => (show _ = loadOne b o G by kernel_rfl).trans (loadOne_eq b o G)⟩
instance iep107 : EpOk Q 107 := ⟨fun neg x y => by cases neg <;> kernel_rfl, fun neg x y a => by cases neg <;> kernel_rfl, fun neg x y a => by cases neg <;> kernel_rfl⟩
instance ifa112_1 : FaOk Q 112 1 1 := ⟨fun b o s => by kernel_rfl⟩
instance isla110 : SlAOk Q 110 4096 1 := ⟨fun a lo hi mx G => by kernel_rfl⟩
instance iln143 : LnOk Q 143 := ⟨fun a n c => by kernel_rfl⟩
instance iias143 : IasOk Q 143 1 := ⟨fun b o s n c k j => by kernel_rfl⟩
instance ild108 : LdOk Q 108 := ⟨fun b o s G => (show _ = loadOne b o G by kernel_rfl).trans (loadOne_eq b o G)⟩
instance ist39 : StOk Q 39 1 := ⟨fun b o s v G => by kernel_rfl⟩
instance ifa114_0 : FaOk Q 114 0 0 := ⟨fun b o s => by kernel_rfl⟩
instance ild24 : LdOk Q 24 := ⟨fun b o s G => (show _ = loadOne b o G by kernel_rfl).trans (loadOne_eq b o G)⟩
instance ist3 : StOk Q 3 1 := ⟨fun b o s v G => by kernel_rfl⟩
instance ifa119_0 : FaOk Q 119 0 0 := ⟨fun b o s => by kernel_rfl⟩
instance ifa119_1 : FaOk Q 119 1 1 := ⟨fun b o s => by kernel_rfl⟩
instance ifa119_3 : FaOk Q 119 3 3 := ⟨fun b o s => by kernel_rfl⟩
instance ifa119_2 : FaOk Q 119 2 2 := ⟨fun b o s => by kernel_rfl⟩
instance ibd119_0_1_2_3 : BdOk Q 119 z119 [(0, 0, 1), (1, 1, 1), (2, 2, 1), (3, 3, 1)] := bd_ok Q (by kernel_rfl) (by kernel_rfl) (by kernel_rfl)
instance iiaa110 : IaaOk Q 110 4096 1 := ⟨fun b o s k j => by kernel_rfl⟩
instance ibd59_0_1 : BdOk Q 59 z59 [(0, 0, 1), (1, 1, 1)] := bd_ok Q (by kernel_rfl) (by kernel_rfl) (by kernel_rfl)
instance ifa59_2 : FaOk Q 59 2 2 := ⟨fun b o s => by kernel_rfl⟩
instance ifa59_3 : FaOk Q 59 3 3 := ⟨fun b o s => by kernel_rfl⟩
instance ifa59_4 : FaOk Q 59 4 4 := ⟨fun b o s => by kernel_rfl⟩
instance ist108 : StOk Q 108 1 := ⟨fun b o s v G => by kernel_rfl⟩
instance ifa126_1 : FaOk Q 126 1 1 := ⟨fun b o s => by kernel_rfl⟩
instance iep44 : EpOk Q 44 := ⟨fun neg x y => by cases neg <;> kernel_rfl, fun neg x y a => by cases neg <;> kernel_rfl, fun neg x y a => by cases neg <;> kernel_rfl⟩
instance ifa184_1 : FaOk Q 184 1 1 := ⟨fun b o s => by kernel_rfl⟩
instance ild182 : LdOk Q 182 := ⟨fun b o s G => (show _ = loadOne b o G by kernel_rfl).trans (loadOne_eq b o G)⟩
instance iep182 : EpOk Q 182 := ⟨fun neg x y => by cases neg <;> kernel_rfl, fun neg x y a => by cases neg <;> kernel_rfl, fun neg x y a => by cases neg <;> kernel_rfl⟩
instance ifa184_2 : FaOk Q 184 2 2 := ⟨fun b o s => by kernel_rfl⟩
instance ist26 : StOk Q 26 1 := ⟨fun b o s v G => by kernel_rfl⟩
instance ist182 : StOk Q 182 1 := ⟨fun b o s v G => by kernel_rfl⟩
instance ifa187_1 : FaOk Q 187 1 1 := ⟨fun b o s => by kernel_rfl⟩
instance ifa187_0 : FaOk Q 187 0 0 := ⟨fun b o s => by kernel_rfl⟩
instance ild185 : LdOk Q 185 := ⟨fun b o s G => (show _ = loadOne b o G by kernel_rfl).trans (loadOne_eq b o G)⟩
instance ifa187_2 : FaOk Q 187 2 2 := ⟨fun b o s => by kernel_rfl⟩
instance iep46 : EpOk Q 46 := ⟨fun neg x y => by cases neg <;> kernel_rfl, fun neg x y a => by cases neg <;> kernel_rfl, fun neg x y a => by cases neg <;> kernel_rfl⟩
instance ifa191_3 : FaOk Q 191 3 6 := ⟨fun b o s => by kernel_rfl⟩
instance ild189 : LdOk Q 189 := ⟨fun b o s G => (show _ = loadOne b o G by kernel_rfl).trans (loadOne_eq b o G)⟩
instance ifa191_5 : FaOk Q 191 5 8 := ⟨fun b o s => by kernel_rfl⟩
instance ist189 : StOk Q 189 1 := ⟨fun b o s v G => by kernel_rfl⟩
instance ifa191_1 : FaOk Q 191 1 1 := ⟨fun b o s => by kernel_rfl⟩
instance iifc195 : IfcOk Q 195 := ⟨fun v => by kernel_rfl⟩
instance ifa191_4 : FaOk Q 191 4 7 := ⟨fun b o s => by kernel_rfl⟩
instance ild52 : LdOk Q 52 := ⟨fun b o s G => (show _ = loadOne b o G by kernel_rfl).trans (loadOne_eq b o G)⟩
instance iap52_52 : ApOk Q 52 52 1 8 := ⟨fun s x G => by kernel_rfl⟩
instance ist52 : StOk Q 52 1 := ⟨fun b o s v G => by kernel_rfl⟩
instance ifa191_2 : FaOk Q 191 2 5 := ⟨fun b o s => by kernel_rfl⟩
instance iifc192 : IfcOk Q 192 := ⟨fun v => by kernel_rfl⟩
instance ifa201_6 : FaOk Q 201 6 9 := ⟨fun b o s => by kernel_rfl⟩
instance ifa201_4 : FaOk Q 201 4 7 := ⟨fun b o s => by kernel_rfl⟩
instance ild199 : LdOk Q 199 := ⟨fun b o s G => (show _ = loadOne b o G by kernel_rfl).trans (loadOne_eq b o G)⟩
instance iep199 : EpOk Q 199 := ⟨fun neg x y => by cases neg <;> kernel_rfl, fun neg x y a => by cases neg <;> kernel_rfl, fun neg x y a => by cases neg <;> kernel_rfl⟩
instance ifa201_2 : FaOk Q 201 2 5 := ⟨fun b o s => by kernel_rfl⟩
instance ifa201_5 : FaOk Q 201 5 8 := ⟨fun b o s => by kernel_rfl⟩
instance ist199 : StOk Q 199 1 := ⟨fun b o s v G => by kernel_rfl⟩
instance ifa201_0 : FaOk Q 201 0 0 := ⟨fun b o s => by kernel_rfl⟩
instance ifa201_3 : FaOk Q 201 3 6 := ⟨fun b o s => by kernel_rfl⟩
instance ist198 : StOk Q 198 1 := ⟨fun b o s v G => by kernel_rfl⟩
instance ifa201_1 : FaOk Q 201 1 4 := ⟨fun b o s => by kernel_rfl⟩
instance ild198 : LdOk Q 198 := ⟨fun b o s G => (show _ = loadOne b o G by kernel_rfl).trans (loadOne_eq b o G)⟩
noncomputable abbrev z184 : List Value := [(.bool false), (.pointer none), (.int .i64 0)]
instance ibd184_0_2 : BdOk Q 184 z184 [(0, 0, 1), (2, 2, 1)] := bd_ok Q (by kernel_rfl) (by kernel_rfl) (by kernel_rfl)
instance ild26 : LdOk Q 26 := ⟨fun b o s G => (show _ = loadOne b o G by kernel_rfl).trans (loadOne_eq b o G)⟩
noncomputable abbrev z187 : List Value := [(.pointer none), (.bool false), (.int .i64 0)]
instance ibd187_1_2 : BdOk Q 187 z187 [(1, 1, 1), (2, 2, 1)] := bd_ok Q (by kernel_rfl) (by kernel_rfl) (by kernel_rfl)
instance ibd187_0 : BdOk Q 187 z187 [(0, 0, 1)] := bd_ok Q (by kernel_rfl) (by kernel_rfl) (by kernel_rfl)
noncomputable abbrev z191 : List Value := [(.bool false), (.int .i64 0), (.int .i64 0), (.int .i64 0), (.int .i64 0), (.int .i64 0), .nilIface, (.slice none 0 0), (.int .i64 0), (.int .i64 0)]
instance ibd191_0_2_6 : BdOk Q 191 z191 [(0, 0, 1), (2, 5, 1), (6, 9, 1)] := bd_ok Q (by kernel_rfl) (by kernel_rfl) (by kernel_rfl)
instance ifa191_6 : FaOk Q 191 6 9 := ⟨fun b o s => by kernel_rfl⟩
noncomputable abbrev z201 : List Value := [(.int .i64 0), (.int .i64 0), (.int .i64 0), (.int .i64 0), (.int .i64 0), (.slice none 0 0), (.pointer none), (.pointer none), (.int .i64 0), (.bool false), (.int .i64 0)]
instance ibd201_6_7 : BdOk Q 201 z201 [(6, 9, 1), (7, 10, 1)] := bd_ok Q (by kernel_rfl) (by kernel_rfl) (by kernel_rfl)
instance ibd201_0_1_3 : BdOk Q 201 z201 [(0, 0, 4), (1, 4, 1), (3, 6, 1)] := bd_ok Q (by kernel_rfl) (by kernel_rfl) (by kernel_rfl)
instance ibd119_ : BdOk Q 119 z119 [] := bd_ok Q (by kernel_rfl) (by kernel_rfl) (by kernel_rfl)
noncomputable abbrev z24 : List Value := [(.slice none 0 0)]
instance ial24 : AlOk Q 24 z24 := ⟨fun G => by kernel_rfl⟩
instance ist24 : StOk Q 24 1 := ⟨fun b o s v G => by kernel_rfl⟩
noncomputable abbrev z206 : List Value := [.nilFunc]
instance ial206 : AlOk Q 206 z206 := ⟨fun G => by kernel_rfl⟩
instance ist206 : StOk Q 206 1 := ⟨fun b o s v G => by kernel_rfl⟩
noncomputable abbrev z52 : List Value := [(.slice none 0 0)]
instance ial52 : AlOk Q 52 z52 := ⟨fun G => by kernel_rfl⟩
instance ild206 : LdOk Q 206 := ⟨fun b o s G => (show _ = loadOne b o G by kernel_rfl).trans (loadOne_eq b o G)⟩
instance ifa184_0 : FaOk Q 184 0 0 := ⟨fun b o s => by kernel_rfl⟩
instance ifa191_0 : FaOk Q 191 0 0 := ⟨fun b o s => by kernel_rfl⟩
instance ifa201_7 : FaOk Q 201 7 10 := ⟨fun b o s => by kernel_rfl⟩
instance ibs52_0_ : BsOk Q 52 0 (rep z3 0) 1 [] := bs_ok Q (z0 := z3) (by kernel_rfl) rfl (by decide) (by kernel_rfl)
instance icv39_3 : CvOk Q 39 3 .u64 .i64 := ⟨fun n => by kernel_rfl⟩
instance ibs24_0_ : BsOk Q 24 0 (rep z39 0) 1 [] := bs_ok Q (z0 := z39) (by kernel_rfl) rfl (by decide) (by kernel_rfl)
instance iap24_24 : ApOk Q 24 24 1 8 := ⟨fun s x G => by kernel_rfl⟩
instance iep123 : EpOk Q 123 := ⟨fun neg x y => by cases neg <;> kernel_rfl, fun neg x y a => by cases neg <;> kernel_rfl, fun neg x y a => by cases neg <;> kernel_rfl⟩
instance ifa232_0 : FaOk Q 232 0 0 := ⟨fun b o s => by kernel_rfl⟩
instance ifa234_2 : FaOk Q 234 2 5 := ⟨fun b o s => by kernel_rfl⟩
instance ifa234_0 : FaOk Q 234 0 0 := ⟨fun b o s => by kernel_rfl⟩
instance ifa234_3 : FaOk Q 234 3 6 := ⟨fun b o s => by kernel_rfl⟩
instance ifa234_4 : FaOk Q 234 4 7 := ⟨fun b o s => by kernel_rfl⟩
instance ifa234_1 : FaOk Q 234 1 4 := ⟨fun b o s => by kernel_rfl⟩
instance icv3_39 : CvOk Q 3 39 .i64 .u64 := ⟨fun n => by kernel_rfl⟩
instance ifa234_5 : FaOk Q 234 5 8 := ⟨fun b o s => by kernel_rfl⟩
instance iep192 : EpOk Q 192 := ⟨fun neg x y => by cases neg <;> kernel_rfl, fun neg x y a => by cases neg <;> kernel_rfl, fun neg x y a => by cases neg <;> kernel_rfl⟩
instance ifa238_2 : FaOk Q 238 2 8 := ⟨fun b o s => by kernel_rfl⟩
instance ifa238_0 : FaOk Q 238 0 0 := ⟨fun b o s => by kernel_rfl⟩
noncomputable abbrev z241 : List Value := [(.int .i64 0), (.int .i64 0), (.int .i64 0), (.int .i64 0), .nilFunc, (.bool false), (.int .i64 0), (.int .u64 0)]
instance ibd241_0_1 : BdOk Q 241 z241 [(0, 0, 7), (1, 7, 1)] := bd_ok Q (by kernel_rfl) (by kernel_rfl) (by kernel_rfl)
instance ifa241_0 : FaOk Q 241 0 0 := ⟨fun b o s => by kernel_rfl⟩
instance ifa230_3 : FaOk Q 230 3 6 := ⟨fun b o s => by kernel_rfl⟩
instance ifa230_1 : FaOk Q 230 1 4 := ⟨fun b o s => by kernel_rfl⟩
instance ist224 : StOk Q 224 1 := ⟨fun b o s v G => by kernel_rfl⟩
instance ifa238_1 : FaOk Q 238 1 7 := ⟨fun b o s => by kernel_rfl⟩
noncomputable abbrev z238 : List Value := [(.int .i64 0), (.int .i64 0), (.int .i64 0), (.int .i64 0), .nilFunc, (.bool false), (.int .i64 0), (.int .u64 0), (.int .i64 0)]
instance ibd238_0 : BdOk Q 238 z238 [(0, 0, 7)] := bd_ok Q (by kernel_rfl) (by kernel_rfl) (by kernel_rfl)
instance ifa243_1 : FaOk Q 243 1 4 := ⟨fun b o s => by kernel_rfl⟩
instance ifa243_0 : FaOk Q 243 0 0 := ⟨fun b o s => by kernel_rfl⟩
instance ifa243_2 : FaOk Q 243 2 5 := ⟨fun b o s => by kernel_rfl⟩
noncomputable abbrev z245 : List Value := [(.int .i64 0), (.int .i64 0), (.int .i64 0), (.int .i64 0), (.int .i64 0), (.int .u64 0), (.int .i64 0), (.int .i64 0)]
instance ibd245_1_4 : BdOk Q 245 z245 [(1, 4, 1), (4, 7, 1)] := bd_ok Q (by kernel_rfl) (by kernel_rfl) (by kernel_rfl)
instance ibd245_0_1 : BdOk Q 245 z245 [(0, 0, 4), (1, 4, 1)] := bd_ok Q (by kernel_rfl) (by kernel_rfl) (by kernel_rfl)
instance ifa245_1 : FaOk Q 245 1 4 := ⟨fun b o s => by kernel_rfl⟩
instance ifa245_0 : FaOk Q 245 0 0 := ⟨fun b o s => by kernel_rfl⟩
instance ifa245_2 : FaOk Q 245 2 5 := ⟨fun b o s => by kernel_rfl⟩
instance ifa245_4 : FaOk Q 245 4 7 := ⟨fun b o s => by kernel_rfl⟩
instance ifa245_3 : FaOk Q 245 3 6 := ⟨fun b o s => by kernel_rfl⟩
noncomputable abbrev z243 : List Value := [(.int .i64 0), (.int .i64 0), (.int .i64 0), (.int .i64 0), (.int .i64 0), (.int .u64 0), (.int .i64 0)]
instance ibd243_1_3 : BdOk Q 243 z243 [(1, 4, 1), (3, 6, 1)] := bd_ok Q (by kernel_rfl) (by kernel_rfl) (by kernel_rfl)
instance ibd243_0_1_2 : BdOk Q 243 z243 [(0, 0, 4), (1, 4, 1), (2, 5, 1)] := bd_ok Q (by kernel_rfl) (by kernel_rfl) (by kernel_rfl)
noncomputable abbrev z232 : List Value := [(.int .i64 0), (.int .i64 0), (.int .i64 0), (.int .i64 0), .nilFunc, (.bool false), (.int .i64 0), (.int .i64 0), (.int .u64 0), (.int .u64 0)]
instance ibd232_0_1 : BdOk Q 232 z232 [(0, 0, 7), (1, 7, 1)] := bd_ok Q (by kernel_rfl) (by kernel_rfl) (by kernel_rfl)
noncomputable abbrev z234 : List Value := [(.int .i64 0), (.int .i64 0), (.int .i64 0), (.int .i64 0), (.int .i64 0), (.int .i64 0), (.int .u64 0), (.int .u64 0), (.int .i64 0)]
instance ibd234_2_5 : BdOk Q 234 z234 [(2, 5, 1), (5, 8, 1)] := bd_ok Q (by kernel_rfl) (by kernel_rfl) (by kernel_rfl)
instance ibd234_0_1_2 : BdOk Q 234 z234 [(0, 0, 4), (1, 4, 1), (2, 5, 1)] := bd_ok Q (by kernel_rfl) (by kernel_rfl) (by kernel_rfl)
instance icv210_3 : CvOk Q 210 3 .u64 .i64 := ⟨fun n => by kernel_rfl⟩
instance ies52 : EsOk Q 52 := ⟨fun neg x y => by cases neg <;> kernel_rfl, fun neg x y a n c => by cases neg <;> kernel_rfl⟩
instance ibd126_0_1_2 : BdOk Q 126 z126 [(0, 0, 1), (1, 1, 1), (2, 2, 1)] := bd_ok Q (by kernel_rfl) (by kernel_rfl) (by kernel_rfl)
instance ifd59_4 : FdOk Q 59 4 4 := ⟨fun l => by kernel_rfl⟩
instance ild224 : LdOk Q 224 := ⟨fun b o s G => (show _ = loadOne b o G by kernel_rfl).trans (loadOne_eq b o G)⟩
instance ief224 : EfOk Q 224 := ⟨fun neg x y => by cases neg <;> kernel_rfl, fun neg x y f a b => by cases neg <;> kernel_rfl⟩
instance ifa230_2 : FaOk Q 230 2 5 := ⟨fun b o s => by kernel_rfl⟩
noncomputable abbrev z230 : List Value := [(.int .i64 0), (.int .i64 0), (.int .i64 0), (.int .i64 0), .nilFunc, (.bool false), (.int .i64 0)]
instance ial230 : AlOk Q 230 z230 := ⟨fun G => by kernel_rfl⟩
instance ibd230_2_3 : BdOk Q 230 z230 [(2, 5, 1), (3, 6, 1)] := bd_ok Q (by kernel_rfl) (by kernel_rfl) (by kernel_rfl)
instance ist230 : StOk Q 230 7 := ⟨fun b o s v G => by kernel_rfl⟩
instance ibd230_0_2 : BdOk Q 230 z230 [(0, 0, 4), (2, 5, 1)] := bd_ok Q (by kernel_rfl) (by kernel_rfl) (by kernel_rfl)
instance ilda230 : LdAOk Q 230 7 := ⟨fun b o s G => by kernel_rfl⟩
instance ifa230_0 : FaOk Q 230 0 0 := ⟨fun b o s => by kernel_rfl⟩
instance ifa241_1 : FaOk Q 241 1 7 := ⟨fun b o s => by kernel_rfl⟩
instance ifa232_2 : FaOk Q 232 2 8 := ⟨fun b o s => by kernel_rfl⟩
instance icv210_249 : CvOk Q 210 249 .u64 .u32 := ⟨fun n => by kernel_rfl⟩
instance icv39_249 : CvOk Q 39 249 .u64 .u32 := ⟨fun n => by kernel_rfl⟩
instance ibd126_0 : BdOk Q 126 z126 [(0, 0, 1)] := bd_ok Q (by kernel_rfl) (by kernel_rfl) (by kernel_rfl)
instance ifd59_3 : FdOk Q 59 3 3 := ⟨fun l => by kernel_rfl⟩
instance ifa126_2 : FaOk Q 126 2 2 := ⟨fun b o s => by kernel_rfl⟩
instance icv249_210 : CvOk Q 249 210 .u32 .u64 := ⟨fun n => by kernel_rfl⟩
instance ifa232_3 : FaOk Q 232 3 9 := ⟨fun b o s => by kernel_rfl⟩
instance ist210 : StOk Q 210 1 := ⟨fun b o s v G => by kernel_rfl⟩
instance ild210 : LdOk Q 210 := ⟨fun b o s G => (show _ = loadOne b o G by kernel_rfl).trans (loadOne_eq b o G)⟩
instance ifa232_1 : FaOk Q 232 1 7 := ⟨fun b o s => by kernel_rfl⟩
instance icv3_210 : CvOk Q 3 210 .i64 .u64 := ⟨fun n => by kernel_rfl⟩
instance iep195 : EpOk Q 195 := ⟨fun neg x y => by cases neg <;> kernel_rfl, fun neg x y a => by cases neg <;> kernel_rfl, fun neg x y a => by cases neg <;> kernel_rfl⟩
noncomputable def b3_0 (q : Bool) (e : Ex) (lp : Env → GS → Option (Exit × Env × GS)) (τ : Env) (G : GS) : Option (Exit × Env × GS) :=
  bV q (τ 2) fun a2_ =>
  bV q (τ 11) fun a11_ =>
  bV q (τ 13) fun a13_ =>
  bV q (τ 15) fun a15_ =>
  bP (ln Q q 24 a2_) fun x0 =>
  bP (bn Q q .lss 3 (.tmp 79) (.tmp 81) a15_ x0) fun x1 =>
  ifV x1 (
  bP (ias Q q 24 1 a2_ a15_) fun x2 =>
  bP (ld Q q 39 x2 G) fun x3 =>
  bS (e.ev.cl 14 [a11_, a15_, x3] G) fun x4 G5 =>
  bP (ias Q q 24 1 a2_ a15_) fun x6 =>
  bP (ld Q q 39 x6 G5) fun x7 =>
  bS (e.ev.cl 15 [a13_, a15_, x7] G5) fun x8 G9 =>
  bP (bn Q q .add 3 (.tmp 83) (.const (.int .i64 1)) a15_ (.int .i64 1)) fun x10 =>
  lp (xq q 192 τ [(15, x10), (84, x10), (83, a15_), (98, x8), (97, x7), (96, x6), (95, a15_), (94, a2_), (93, a15_), (92, a13_), (91, x4), (90, x3), (89, x2), (88, a15_), (87, a2_), (86, a15_), (85, a11_), (82, x1), (81, x0), (80, a2_), (79, a15_)] [(2, a2_), (11, a11_), (13, a13_)]) G9) (
  some ((.exit 0), xq q 192 τ [(82, x1), (81, x0), (80, a2_), (79, a15_)] [(2, a2_), (11, a11_), (13, a13_), (15, a15_)], G))
theorem mb3_0 {e : Ex} {E : Ev} (h : ExLe Q e E) {lp lp' : Env → GS → Option (Exit × Env × GS)} (hlp : LpLe lp lp') (τ : Env) (G : GS) : Ref (b3_0 true e lp τ G) (b3_0 false (Ex.of E) lp' τ G) := by
  unfold b3_0
  exact Ref.gq
set_option maxHeartbeats 8000000 in
theorem l3_0 {orc : FuncId → Bool} {e : Ex} (h : ExLe Q e (E orc)) (lp : Env → GS → Option (Exit × Env × GS)) (hlp : ∀ τ G, Ref (lp τ G) (mapE ((E orc).lp (subAt [1, 1, 1, 1, 1, 1, 1, 1, 0, 1, 0, 0] (bodyOf Tryz.f3)) (lst 192 τ) G))) (T : List Value) (G : GS) (hT : T.length = 192) : Ref (b3_0 true e lp (nth undef T) G) (mapE ((E orc).lp (subAt [1, 1, 1, 1, 1, 1, 1, 1, 0, 1, 0, 0] (bodyOf Tryz.f3)) T G)) :=
  fun r hr => lp_sxN Q orc G hT (by kernel_rfl) (mb3_0 h ⟨hlp⟩ _ _ r hr)
noncomputable def jbl3_1_0 (q : Bool) (e : Ex) (lp : Env → GS → Option (Exit × Env × GS)) (τ : Env) (G : GS) : Option (Exit × Env × GS) :=
  bV q (τ 3) fun a3_ =>
  bV q (τ 4) fun a4_ =>
  bV q (τ 5) fun a5_ =>
  bV q (τ 11) fun a11_ =>
  bV q (τ 13) fun a13_ =>
  bV q (τ 16) fun a16_ =>
  bV q (τ 17) fun a17_ =>
  bV q (τ 18) fun a18_ =>
  bV q (τ 127) fun a127_ =>
  bP (lda Q q 23 3 a5_ G) fun x7 =>
  bS (e.ev.cl 19 [x7, a4_, a11_] G) fun x8 G9 =>
  bP (ias Q q 40 4 a16_ a18_) fun x10 =>
  bP (lda Q q 49 4 x10 (G9.room 46)) fun x11 =>
  bS (e.ev.cl 20 [x11] (G9.room 46)) fun x13 G12 =>
  bP (un Q q .not x13) fun x14 =>
  bS (gd x14 false (some (x8, G12)) G12) fun x15 _ =>
  bS (gd x14 false (bP (lda Q q 23 3 a5_ G12) fun y => some (y, G12)) G12) fun x16 _ =>
  bS (gd x14 false (some (a4_, G12)) G12) fun x17 _ =>
  bS (gd x14 false (some (a13_, G12)) G12) fun x18 _ =>
  bS (gd x14 false (bS (e.ev.cl 22 [x16, x17, x18] G12) fun y G => some (y, G)) G12) fun x20 G19 =>
  bS (gd x14 false (bS (e.ev.cl 21 [x15, x20] G19) fun y G => some (y, G)) G19) fun x22 G21 =>
  bS (gd x14 false (bP (un Q q .not x22) fun y => some (y, G21)) G21) fun x23 _ =>
  bP (pickV x14 (.bool true) x23) fun x24 =>
  bS (gd x24 false (bP (lda Q q 23 3 a5_ G21) fun y => some (y, G21)) G21) fun x25 _ =>
  bS (gd x24 false (some (a11_, G21)) G21) fun x26 _ =>
  bS (gd x24 false (bS (e.ev.cl 23 [x25, x26] G21) fun y G => some (y, G)) G21) fun x28 G27 =>
  bS (gd x24 false (bP (lda Q q 23 3 a5_ G27) fun y => some (y, G27)) G27) fun x29 _ =>
  chk (((!(gB x24 false) || (!(gB x24 false) || sameO (lda Q q 23 3 a5_ G21) x29)) && true)) <|
  bS (gd x24 false (some (a13_, G27)) G27) fun x30 _ =>
  bS (gd x24 false (bS (e.ev.cl 24 [x29, x30] G27) fun y G => some (y, G)) G27) fun x32 G31 =>
  bS (gd x24 false (bP (eb Q q true 4 (.tmp 161) (.tmp 164) x28 x32) fun y => some (y, G31)) G31) fun x33 _ =>
  bP (pickV x24 (.bool true) x33) fun x34 =>
  bS (gd x34 false (some (a11_, G31)) G31) fun x35 _ =>
  bS (gd x34 false (bS (e.ev.cl 25 [x35] G31) fun y G => some (y, G)) G31) fun x37 G36 =>
  bS (gd x34 false (some (a13_, G36)) G36) fun x38 _ =>
  bS (gd x34 false (bS (e.ev.cl 26 [x38] G36) fun y G => some (y, G)) G36) fun x40 G39 =>
  bS (gd x34 false (bP (bn Q q .neq 59 (.tmp 169) (.tmp 171) x37 x40) fun y => some (y, G39)) G39) fun x41 _ =>
  bP (pickV x34 (.bool true) x41) fun x42 =>
  bS (gd x42 false (some (a11_, G39)) G39) fun x43 _ =>
  bS (gd x42 false (bS (e.ev.cl 27 [x43] G39) fun y G => some (y, G)) G39) fun x45 G44 =>
  bS (gd x42 false (some (a13_, G44)) G44) fun x46 _ =>
  bS (gd x42 false (bS (e.ev.cl 28 [x46] G44) fun y G => some (y, G)) G44) fun x48 G47 =>
  bS (gd x42 false (bP (bn Q q .neq 3 (.tmp 176) (.tmp 178) x45 x48) fun y => some (y, G47)) G47) fun x49 _ =>
  bP (pickV x42 (.bool true) x49) fun x50 =>
  bS (gd x50 false (some (a11_, G47)) G47) fun x51 _ =>
  bS (gd x50 false (bS (e.ev.cl 30 [x51] G47) fun y G => some (y, G)) G47) fun x53 G52 =>
  bS (gd x50 false (some (a13_, G52)) G52) fun x54 _ =>
  bS (gd x50 false (bS (e.ev.cl 31 [x54] G52) fun y G => some (y, G)) G52) fun x56 G55 =>
  bS (gd x50 false (bS (e.ev.cl 29 [x53, x56] G55) fun y G => some (y, G)) G55) fun x58 G57 =>
  bS (gd x50 false (bP (un Q q .not x58) fun y => some (y, G57)) G57) fun x59 _ =>
  bP (pickV x50 (.bool true) x59) fun x60 =>
  ifV x60 (
  some (.ret, xq q 192 τ [(10, (.bool false)), (188, x60), (187, x59), (186, x58), (185, x56), (184, x54), (183, x53), (182, x51), (181, x50), (180, x50), (179, x49), (178, x48), (177, x46), (176, x45), (175, x43), (174, x42), (173, x42), (172, x41), (171, x40), (170, x38), (169, x37), (168, x35), (167, x34), (166, x34), (165, x33), (164, x32), (163, x30), (162, x29), (161, x28), (160, x26), (159, x25), (158, x24), (157, x24), (156, x23), (155, x22), (154, x20), (153, x18), (152, x17), (151, x16), (150, x15), (149, x14), (148, x14), (147, x13), (146, x11), (145, x10), (144, a18_), (143, a16_), (19, x8), (142, x8), (141, a11_), (140, a4_), (139, x7)] [(3, a3_), (4, a4_), (5, a5_), (11, a11_), (13, a13_), (16, a16_), (17, a17_), (18, a18_), (127, a127_)], G57)) (
  bS (e.ev.cl 32 [x8] G57) fun x61 G62 =>
  bP (bn Q q .add 3 (.tmp 104) (.const (.int .i64 1)) a17_ (.int .i64 1)) fun x63 =>
  lp (xq q 192 τ [(17, x63), (105, x63), (104, a17_), (190, x61), (189, x8), (188, x60), (187, x59), (186, x58), (185, x56), (184, x54), (183, x53), (182, x51), (181, x50), (180, x50), (179, x49), (178, x48), (177, x46), (176, x45), (175, x43), (174, x42), (173, x42), (172, x41), (171, x40), (170, x38), (169, x37), (168, x35), (167, x34), (166, x34), (165, x33), (164, x32), (163, x30), (162, x29), (161, x28), (160, x26), (159, x25), (158, x24), (157, x24), (156, x23), (155, x22), (154, x20), (153, x18), (152, x17), (151, x16), (150, x15), (149, x14), (148, x14), (147, x13), (146, x11), (145, x10), (144, a18_), (143, a16_), (19, x8), (142, x8), (141, a11_), (140, a4_), (139, x7)] [(3, a3_), (4, a4_), (5, a5_), (11, a11_), (13, a13_), (16, a16_), (18, a18_), (127, a127_)]) G62)
noncomputable def jl3_1_0 (q : Bool) (e : Ex) (lp : Env → GS → Option (Exit × Env × GS)) (τ : Env) (G : GS) : Option (Exit × Env × GS) := jbl3_1_0 q e lp τ G
theorem mjl3_1_0 {e : Ex} {E : Ev} (h : ExLe Q e E) {lp lp' : Env → GS → Option (Exit × Env × GS)} (hlp : LpLe lp lp') (τ : Env) (G : GS) : Ref (jl3_1_0 true e lp τ G) (jl3_1_0 false (Ex.of E) lp' τ G) := by
  unfold jl3_1_0 jbl3_1_0
  exact Ref.gq
theorem mkjl3_1_0 {e : Ex} {E : Ev} (h : ExLe Q e E) {lp lp' : Env → GS → Option (Exit × Env × GS)} (hlp : LpLe lp lp') {τ : Env} {l U : List (Nat × Value)} {G : GS} (hU : UOk τ U) : Ref (jl3_1_0 true e lp (xq true 192 τ l U) G) (jl3_1_0 false (Ex.of E) lp' (xq false 192 τ l U) G) := by
  rw [xq_eq hU]
  exact mjl3_1_0 h hlp _ _
noncomputable def jbl3_1_1 (q : Bool) (e : Ex) (lp : Env → GS → Option (Exit × Env × GS)) (J0 : Env → GS → Option (Exit × Env × GS)) (τ : Env) (G : GS) : Option (Exit × Env × GS) :=
  bV q (τ 3) fun a3_ =>
  bV q (τ 4) fun a4_ =>
  bV q (τ 5) fun a5_ =>
  bV q (τ 11) fun a11_ =>
  bV q (τ 13) fun a13_ =>
  bV q (τ 16) fun a16_ =>
  bV q (τ 17) fun a17_ =>
  bV q (τ 18) fun a18_ =>
  bV q (τ 127) fun a127_ =>
  ifV a127_ (
  bP (lda Q q 23 3 a5_ (G.room 10)) fun x73 =>
  bP (ias Q q 25 4 a3_ a17_) fun x74 =>
  bP (lda Q q 43 4 x74 (G.room 10)) fun x75 =>
  bS (e.ev.cl 18 [x73, x75] (G.room 10)) fun x77 G76 =>
  bP (ias Q q 40 4 a16_ a18_) fun x78 =>
  bP (st Q q 49 4 x78 x77 G76) fun G79 =>
  J0 (xq q 192 τ [(138, x78), (137, x77), (136, x75), (135, x74), (134, a17_), (133, a3_), (132, x73), (131, a18_), (130, a16_)] [(3, a3_), (4, a4_), (5, a5_), (11, a11_), (13, a13_), (16, a16_), (17, a17_), (18, a18_), (127, a127_)]) G79) (
  J0 (xq q 192 τ [] [(3, a3_), (4, a4_), (5, a5_), (11, a11_), (13, a13_), (16, a16_), (17, a17_), (18, a18_), (127, a127_)]) G)
noncomputable def jl3_1_1 (q : Bool) (e : Ex) (lp : Env → GS → Option (Exit × Env × GS)) (τ : Env) (G : GS) : Option (Exit × Env × GS) := jbl3_1_1 q e lp (jl3_1_0 q e lp) τ G
theorem mjl3_1_1 {e : Ex} {E : Ev} (h : ExLe Q e E) {lp lp' : Env → GS → Option (Exit × Env × GS)} (hlp : LpLe lp lp') (τ : Env) (G : GS) : Ref (jl3_1_1 true e lp τ G) (jl3_1_1 false (Ex.of E) lp' τ G) := by
  unfold jl3_1_1 jbl3_1_1
  repeat' (with_reducible first | exact Ref.rfl' _ | exact ROp.r | refine Ref.bP ?_ fun _ => ?_ | refine Ref.bS ?_ fun _ _ => ?_ | exact Ref.cl (by assumption) | refine Ref.ifV ?_ ?_ | refine LpLe.rx (by assumption) ?_ | refine Ref.xitq ?_ | exact UOk.z | refine UOk.c (by assumption) ?_ | exact Ref.nil _ | refine Ref.bVe fun _ _ => ?_ | refine Ref.bLq (by assumption) ?_ fun _ _ _ => ?_ | refine Ref.ifE ?_ ?_ | refine Ref.chk ?_ ?_ | refine Imp.and ?_ ?_ | refine Imp.or ?_ | exact Imp.rfl' _ | refine Imp.sameO ?_ | refine Ref.gd ?_ | exact Ref.cValue (by assumption) | refine Ref.bX ?_ fun _ _ _ => ?_ | exact Ref.scQ (by assumption) | exact Ref.xRangeQ (by assumption) | exact Ref.cInvoke (by assumption) | refine mkjl3_1_0 (by assumption) (by assumption) ?_)
theorem mkjl3_1_1 {e : Ex} {E : Ev} (h : ExLe Q e E) {lp lp' : Env → GS → Option (Exit × Env × GS)} (hlp : LpLe lp lp') {τ : Env} {l U : List (Nat × Value)} {G : GS} (hU : UOk τ U) : Ref (jl3_1_1 true e lp (xq true 192 τ l U) G) (jl3_1_1 false (Ex.of E) lp' (xq false 192 τ l U) G) := by
  rw [xq_eq hU]
  exact mjl3_1_1 h hlp _ _
noncomputable def bb3_1 (q : Bool) (e : Ex) (lp : Env → GS → Option (Exit × Env × GS)) (J0 J1 : Env → GS → Option (Exit × Env × GS)) (τ : Env) (G : GS) : Option (Exit × Env × GS) :=
  bV q (τ 3) fun a3_ =>
  bV q (τ 4) fun a4_ =>
  bV q (τ 5) fun a5_ =>
  bV q (τ 11) fun a11_ =>
  bV q (τ 13) fun a13_ =>
  bV q (τ 16) fun a16_ =>
  bV q (τ 17) fun a17_ =>
  bV q (τ 18) fun a18_ =>
  bV q (τ 127) fun a127_ =>
  bP (ln Q q 25 a3_) fun x0 =>
  bP (bn Q q .lss 3 (.tmp 100) (.tmp 102) a17_ x0) fun x1 =>
  ifV x1 (
  bP (ias Q q 25 4 a3_ a17_) fun x2 =>
  bP (fa Q q 43 0 0 x2) fun x3 =>
  bP (ld Q q 3 x3 G) fun x4 =>
  bS (e.ev.cl 16 [x4, (.int .i64 4)] G) fun x5 G6 =>
  bP (ias Q q 25 4 a3_ a17_) fun x64 =>
  bP (fa Q q 43 1 1 x64) fun x65 =>
  bP (ld Q q 3 x65 G6) fun x66 =>
  bP (bn Q q .eql 3 (.tmp 116) (.const (.int .i64 0)) x66 (.int .i64 0)) fun x67 =>
  ifV x67 (
  bP (ias Q q 40 4 a16_ x5) fun x68 =>
  bP (lda Q q 49 4 x68 G6) fun x69 =>
  bS (e.ev.cl 17 [x69, a11_, a13_] G6) fun x70 G71 =>
  bP (un Q q .not x70) fun x72 =>
  ifV x72 (
  some (.ret, xq q 192 τ [(10, (.bool false)), (126, x72), (125, x70), (124, a13_), (123, a11_), (122, x69), (121, x68), (120, x5), (119, a16_), (117, x67), (118, x67), (116, x66), (115, x65), (114, x64), (113, a17_), (112, a3_), (18, x5), (111, x5), (110, x4), (109, x3), (108, x2), (107, a17_), (106, a3_), (103, x1), (102, x0), (101, a3_), (100, a17_)] [(3, a3_), (4, a4_), (5, a5_), (11, a11_), (13, a13_), (16, a16_), (17, a17_), (127, a127_)], G71)) (
  J0 (xq q 192 τ [(126, x72), (125, x70), (124, a13_), (123, a11_), (122, x69), (121, x68), (120, x5), (119, a16_), (117, x67), (118, x67), (116, x66), (115, x65), (114, x64), (113, a17_), (112, a3_), (18, x5), (111, x5), (110, x4), (109, x3), (108, x2), (107, a17_), (106, a3_), (103, x1), (102, x0), (101, a3_), (100, a17_)] [(3, a3_), (4, a4_), (5, a5_), (11, a11_), (13, a13_), (16, a16_), (17, a17_), (127, a127_)]) G71)) (
  bP (bn Q q .eql 3 (.tmp 116) (.const (.int .i64 1)) x66 (.int .i64 1)) fun x80 =>
  ifV x80 (
  J1 (xq q 192 τ [(127, x80), (128, x80), (117, x67), (118, x67), (116, x66), (115, x65), (114, x64), (113, a17_), (112, a3_), (18, x5), (111, x5), (110, x4), (109, x3), (108, x2), (107, a17_), (106, a3_), (103, x1), (102, x0), (101, a3_), (100, a17_)] [(3, a3_), (4, a4_), (5, a5_), (11, a11_), (13, a13_), (16, a16_), (17, a17_)]) G6) (
  bP (bn Q q .eql 3 (.tmp 116) (.const (.int .i64 2)) x66 (.int .i64 2)) fun x81 =>
  J1 (xq q 192 τ [(127, x81), (129, x81), (127, x80), (128, x80), (117, x67), (118, x67), (116, x66), (115, x65), (114, x64), (113, a17_), (112, a3_), (18, x5), (111, x5), (110, x4), (109, x3), (108, x2), (107, a17_), (106, a3_), (103, x1), (102, x0), (101, a3_), (100, a17_)] [(3, a3_), (4, a4_), (5, a5_), (11, a11_), (13, a13_), (16, a16_), (17, a17_)]) G6))) (
  some ((.exit 2), xq q 192 τ [(103, x1), (102, x0), (101, a3_), (100, a17_)] [(3, a3_), (4, a4_), (5, a5_), (11, a11_), (13, a13_), (16, a16_), (17, a17_), (18, a18_), (127, a127_)], G))
noncomputable def b3_1 (q : Bool) (e : Ex) (lp : Env → GS → Option (Exit × Env × GS)) (τ : Env) (G : GS) : Option (Exit × Env × GS) := bb3_1 q e lp (jl3_1_0 q e lp) (jl3_1_1 q e lp) τ G
theorem mb3_1 {e : Ex} {E : Ev} (h : ExLe Q e E) {lp lp' : Env → GS → Option (Exit × Env × GS)} (hlp : LpLe lp lp') (τ : Env) (G : GS) : Ref (b3_1 true e lp τ G) (b3_1 false (Ex.of E) lp' τ G) := by
  unfold b3_1 bb3_1
  repeat' (with_reducible first | exact Ref.rfl' _ | exact ROp.r | refine Ref.bP ?_ fun _ => ?_ | refine Ref.bS ?_ fun _ _ => ?_ | exact Ref.cl (by assumption) | refine Ref.ifV ?_ ?_ | refine LpLe.rx (by assumption) ?_ | refine Ref.xitq ?_ | exact UOk.z | refine UOk.c (by assumption) ?_ | exact Ref.nil _ | refine Ref.bVe fun _ _ => ?_ | refine Ref.bLq (by assumption) ?_ fun _ _ _ => ?_ | refine Ref.ifE ?_ ?_ | refine Ref.chk ?_ ?_ | refine Imp.and ?_ ?_ | refine Imp.or ?_ | exact Imp.rfl' _ | refine Imp.sameO ?_ | refine Ref.gd ?_ | exact Ref.cValue (by assumption) | refine Ref.bX ?_ fun _ _ _ => ?_ | exact Ref.scQ (by assumption) | exact Ref.xRangeQ (by assumption) | exact Ref.cInvoke (by assumption) | refine mkjl3_1_0 (by assumption) (by assumption) ?_ | refine mkjl3_1_1 (by assumption) (by assumption) ?_)
noncomputable def jtl3_1 (J0 J1 : Env → GS → Option (Exit × Env × GS)) : JT (Exit × Env × GS) :=
  (.n none .e (.n none (.n none (.n none .e (.n (some (fun T G => J0 (nth undef T) G)) (.n none .e (.n none (.n none .e (.n none .e (.n (some (fun T G => J1 (nth undef T) G)) .e .e))) .e)) .e)) .e) .e))
set_option maxHeartbeats 8000000 in
theorem jrl3_1_0 (orc : FuncId → Bool) (J0 J1 : Env → GS → Option (Exit × Env × GS)) (T : List Value) (G : GS) : runC Q (evL Q orc) 192 (jtl3_1 J0 J1) (subAt [1, 1, 1, 1, 1, 1, 1, 1, 1, 1, 0, 1, 0, 0] (bodyOf Tryz.f3)) (seqXE (fun τ G' => mapE ((E orc).lp (subAt [1, 1, 1, 1, 1, 1, 1, 1, 1, 1, 0, 1, 0, 0] (bodyOf Tryz.f3)) (lst 192 (nth undef (lst 192 τ))) G')) fun e τ G' => some (e, nth undef (lst 192 τ), G')) [true, false, false, true] (nth undef T) G = jbl3_1_0 false (Ex.of (E orc)) (fun τ G => mapE ((E orc).lp (subAt [1, 1, 1, 1, 1, 1, 1, 1, 1, 1, 0, 1, 0, 0] (bodyOf Tryz.f3)) (lst 192 τ) G))  (nth undef T) G := by kernel_rfl
set_option maxHeartbeats 8000000 in
theorem jrl3_1_1 (orc : FuncId → Bool) (J0 J1 : Env → GS → Option (Exit × Env × GS)) (T : List Value) (G : GS) : runC Q (evL Q orc) 192 (jtl3_1 J0 J1) (subAt [1, 1, 1, 1, 1, 1, 1, 1, 1, 1, 0, 1, 0, 0] (bodyOf Tryz.f3)) (seqXE (fun τ G' => mapE ((E orc).lp (subAt [1, 1, 1, 1, 1, 1, 1, 1, 1, 1, 0, 1, 0, 0] (bodyOf Tryz.f3)) (lst 192 (nth undef (lst 192 τ))) G')) fun e τ G' => some (e, nth undef (lst 192 τ), G')) [true, false, false, true, false, true, false, true, true] (nth undef T) G = jbl3_1_1 false (Ex.of (E orc)) (fun τ G => mapE ((E orc).lp (subAt [1, 1, 1, 1, 1, 1, 1, 1, 1, 1, 0, 1, 0, 0] (bodyOf Tryz.f3)) (lst 192 τ) G)) J0 (nth undef T) G := by kernel_rfl
set_option maxHeartbeats 8000000 in
theorem jol3_1 (orc : FuncId → Bool) : JOk Q orc 192 (jtl3_1 (jl3_1_0 false (Ex.of (E orc)) (fun τ G => mapE ((E orc).lp (subAt [1, 1, 1, 1, 1, 1, 1, 1, 1, 1, 0, 1, 0, 0] (bodyOf Tryz.f3)) (lst 192 τ) G))) (jl3_1_1 false (Ex.of (E orc)) (fun τ G => mapE ((E orc).lp (subAt [1, 1, 1, 1, 1, 1, 1, 1, 1, 1, 0, 1, 0, 0] (bodyOf Tryz.f3)) (lst 192 τ) G))) ) (subAt [1, 1, 1, 1, 1, 1, 1, 1, 1, 1, 0, 1, 0, 0] (bodyOf Tryz.f3)) (seqXE (fun τ G' => mapE ((E orc).lp (subAt [1, 1, 1, 1, 1, 1, 1, 1, 1, 1, 0, 1, 0, 0] (bodyOf Tryz.f3)) (lst 192 (nth undef (lst 192 τ))) G')) fun e τ G' => some (e, nth undef (lst 192 τ), G')) :=
  jOk Q orc (l := [([true, false, false, true], (fun T G => jl3_1_0 false (Ex.of (E orc)) (fun τ G => mapE ((E orc).lp (subAt [1, 1, 1, 1, 1, 1, 1, 1, 1, 1, 0, 1, 0, 0] (bodyOf Tryz.f3)) (lst 192 τ) G)) (nth undef T) G)), ([true, false, false, true, false, true, false, true, true], (fun T G => jl3_1_1 false (Ex.of (E orc)) (fun τ G => mapE ((E orc).lp (subAt [1, 1, 1, 1, 1, 1, 1, 1, 1, 1, 0, 1, 0, 0] (bodyOf Tryz.f3)) (lst 192 τ) G)) (nth undef T) G))]) (by kernel_rfl) (AllE.c (fun T G => jrl3_1_0 orc (jl3_1_0 false (Ex.of (E orc)) (fun τ G => mapE ((E orc).lp (subAt [1, 1, 1, 1, 1, 1, 1, 1, 1, 1, 0, 1, 0, 0] (bodyOf Tryz.f3)) (lst 192 τ) G))) (jl3_1_1 false (Ex.of (E orc)) (fun τ G => mapE ((E orc).lp (subAt [1, 1, 1, 1, 1, 1, 1, 1, 1, 1, 0, 1, 0, 0] (bodyOf Tryz.f3)) (lst 192 τ) G))) T G) (AllE.c (fun T G => jrl3_1_1 orc (jl3_1_0 false (Ex.of (E orc)) (fun τ G => mapE ((E orc).lp (subAt [1, 1, 1, 1, 1, 1, 1, 1, 1, 1, 0, 1, 0, 0] (bodyOf Tryz.f3)) (lst 192 τ) G))) (jl3_1_1 false (Ex.of (E orc)) (fun τ G => mapE ((E orc).lp (subAt [1, 1, 1, 1, 1, 1, 1, 1, 1, 1, 0, 1, 0, 0] (bodyOf Tryz.f3)) (lst 192 τ) G))) T G) (AllE.z)))
set_option maxHeartbeats 8000000 in
theorem jel3_1 (orc : FuncId → Bool) (J0 J1 : Env → GS → Option (Exit × Env × GS)) (T : List Value) (G : GS) : sxC Q (evL Q orc) 192 (jtl3_1 J0 J1) (subAt [1, 1, 1, 1, 1, 1, 1, 1, 1, 1, 0, 1, 0, 0] (bodyOf Tryz.f3)) (nth undef T) G (seqXE (fun τ G' => mapE ((E orc).lp (subAt [1, 1, 1, 1, 1, 1, 1, 1, 1, 1, 0, 1, 0, 0] (bodyOf Tryz.f3)) (lst 192 (nth undef (lst 192 τ))) G')) fun e τ G' => some (e, nth undef (lst 192 τ), G')) = bb3_1 false (Ex.of (E orc)) (fun τ G => mapE ((E orc).lp (subAt [1, 1, 1, 1, 1, 1, 1, 1, 1, 1, 0, 1, 0, 0] (bodyOf Tryz.f3)) (lst 192 τ) G)) J0 J1 (nth undef T) G := by kernel_rfl
set_option maxHeartbeats 8000000 in
theorem l3_1 {orc : FuncId → Bool} {e : Ex} (h : ExLe Q e (E orc)) (lp : Env → GS → Option (Exit × Env × GS)) (hlp : ∀ τ G, Ref (lp τ G) (mapE ((E orc).lp (subAt [1, 1, 1, 1, 1, 1, 1, 1, 1, 1, 0, 1, 0, 0] (bodyOf Tryz.f3)) (lst 192 τ) G))) (T : List Value) (G : GS) (hT : T.length = 192) : Ref (b3_1 true e lp (nth undef T) G) (mapE ((E orc).lp (subAt [1, 1, 1, 1, 1, 1, 1, 1, 1, 1, 0, 1, 0, 0] (bodyOf Tryz.f3)) T G)) :=
  fun r hr => lp_sxC Q orc G (jtl3_1 (jl3_1_0 false (Ex.of (E orc)) (fun τ G => mapE ((E orc).lp (subAt [1, 1, 1, 1, 1, 1, 1, 1, 1, 1, 0, 1, 0, 0] (bodyOf Tryz.f3)) (lst 192 τ) G))) (jl3_1_1 false (Ex.of (E orc)) (fun τ G => mapE ((E orc).lp (subAt [1, 1, 1, 1, 1, 1, 1, 1, 1, 1, 0, 1, 0, 0] (bodyOf Tryz.f3)) (lst 192 τ) G))) ) hT (jol3_1 orc) (jel3_1 orc (jl3_1_0 false (Ex.of (E orc)) (fun τ G => mapE ((E orc).lp (subAt [1, 1, 1, 1, 1, 1, 1, 1, 1, 1, 0, 1, 0, 0] (bodyOf Tryz.f3)) (lst 192 τ) G))) (jl3_1_1 false (Ex.of (E orc)) (fun τ G => mapE ((E orc).lp (subAt [1, 1, 1, 1, 1, 1, 1, 1, 1, 1, 0, 1, 0, 0] (bodyOf Tryz.f3)) (lst 192 τ) G))) T G) (mb3_1 h ⟨hlp⟩ _ _ r hr)
/-- coxswain/coxswainlaw25.MailSteps -/
noncomputable def s3 (q : Bool) (e : Ex) (v0 v1 v2 v3 v4 : Value) (G : GS) : Option (Value × GS) :=
  bS (bx q v0 G) fun x0 G1 =>
  bP (lda Q q 23 3 x0 (G1.room 14)) fun x2 =>
  bS (e.ev.cl 5 [x2, v1] (G1.room 14)) fun x4 G3 =>
  bP (lda Q q 23 3 x0 G3) fun x5 =>
  chk ((sameO (lda Q q 23 3 x0 (G1.room 14)) x5 && true)) <|
  bS (e.ev.cl 6 [x5, v1] G3) fun x7 G6 =>
  bP (bn Q q .neq 26 (.tmp 22) (.tmp 25) x4 x7) fun x8 =>
  bS (gd x8 false (bP (lda Q q 23 3 x0 G6) fun y => some (y, G6)) G6) fun x9 _ =>
  bS (gd x8 false (bS (e.ev.cl 7 [x9] G6) fun y G => some (y, G)) G6) fun x11 G10 =>
  bS (gd x8 false (bP (lda Q q 23 3 x0 G10) fun y => some (y, G10)) G10) fun x12 _ =>
  chk (((!(gB x8 false) || (!(gB x8 false) || sameO (lda Q q 23 3 x0 G6) x12)) && true)) <|
  bS (gd x8 false (bS (e.ev.cl 8 [x12] G10) fun y G => some (y, G)) G10) fun x14 G13 =>
  bS (gd x8 false (bP (bn Q q .neq 3 (.tmp 29) (.tmp 31) x11 x14) fun y => some (y, G13)) G13) fun x15 _ =>
  bP (pickV x8 (.bool true) x15) fun x16 =>
  ifV x16 (
  some ((.bool false), G13)) (
  bP (lda Q q 23 3 x0 G13) fun x17 =>
  bS (e.ev.cl 6 [x17, v1] G13) fun x18 G19 =>
  bP (bn Q q .neq 26 (.tmp 36) (.const (.int .i64 0)) x18 (.int .i64 0)) fun x20 =>
  bS (gd x20 false (some (v1, G19)) G19) fun x21 G22 =>
  bS (gd x20 false (bP (bn Q q .gtr 3 (.tmp 39) (.const (.int .i64 100)) x21 (.int .i64 100)) fun y => some (y, G22)) G22) fun x23 G24 =>
  bP (pickV x20 (.bool true) x23) fun x25 =>
  bS (gd x25 false (some (v2, G24)) G24) fun x26 G27 =>
  bS (gd x25 false (bP (ln Q q 24 x26) fun y => some (y, G27)) G27) fun x28 G29 =>
  bS (gd x25 false (bP (bn Q q .gtr 3 (.tmp 44) (.const (.int .i64 100)) x28 (.int .i64 100)) fun y => some (y, G29)) G29) fun x30 G31 =>
  bP (pickV x25 (.bool true) x30) fun x32 =>
  bS (gd x32 false (some (v3, G31)) G31) fun x33 G34 =>
  bS (gd x32 false (bP (ln Q q 25 x33) fun y => some (y, G34)) G34) fun x35 G36 =>
  bS (gd x32 false (bP (bn Q q .gtr 3 (.tmp 49) (.const (.int .i64 150)) x35 (.int .i64 150)) fun y => some (y, G36)) G36) fun x37 G38 =>
  bP (pickV x32 (.bool true) x37) fun x39 =>
  ifV x39 (
  bS (e.ev.cl 9 [] G38) fun x40 G41 =>
  some (x40, G41)) (
  bS (e.ev.cl 10 [v1] G38) fun x42 G43 =>
  bP (pExtract x42 0) fun x44 =>
  bP (pExtract x42 1) fun x45 =>
  bS (e.ev.cl 11 [v1] G43) fun x46 G47 =>
  bP (pExtract x46 0) fun x48 =>
  bP (pExtract x46 1) fun x49 =>
  bP (bn Q q .neq 26 (.tmp 63) (.const (.int .i64 0)) x45 (.int .i64 0)) fun x50 =>
  bS (gd x50 false (some (x49, G47)) G47) fun x51 G52 =>
  bS (gd x50 false (bP (bn Q q .neq 26 (.tmp 66) (.const (.int .i64 0)) x51 (.int .i64 0)) fun y => some (y, G52)) G52) fun x53 G54 =>
  bP (pickV x50 (.bool true) x53) fun x55 =>
  bS (gd x55 false (some (x44, G54)) G54) fun x56 G57 =>
  bS (gd x55 false (bP (ep Q q false 30 (.tmp 70) (.const (.pointer none)) x56 (.pointer none)) fun y => some (y, G57)) G57) fun x58 G59 =>
  bP (pickV x55 (.bool true) x58) fun x60 =>
  ifV x60 (
  some ((.bool false), G59)) (
  bP (lda Q q 23 3 x0 G59) fun x61 =>
  bS (e.ev.cl 12 [x61, x44] G59) fun x62 G63 =>
  bP (lda Q q 23 3 x0 G63) fun x64 =>
  bS (e.ev.cl 13 [x64, x48] G63) fun x65 G66 =>
  bLq q e 3 0 (subAt [1, 1, 1, 1, 1, 1, 1, 1, 0, 1, 0, 0] (bodyOf Tryz.f3)) 192 (nth undef [v0, v1, v2, v3, v4]) [(15, (.int .i64 0)), (78, x65), (77, x48), (76, x64), (75, x62), (74, x44), (73, x61), (72, x60), (71, x58), (70, x56), (69, x55), (68, x55), (67, x53), (66, x51), (65, x50), (64, x50), (63, x45), (14, x49), (13, x48), (62, x49), (61, x48), (58, x46), (60, x46), (59, v1), (12, x45), (11, x44), (57, x45), (56, x44), (53, x42), (55, x42), (54, v1), (51, x39), (50, x37), (49, x35), (48, x33), (47, x32), (46, x32), (45, x30), (44, x28), (43, x26), (42, x25), (41, x25), (40, x23), (39, x21), (38, x20), (37, x20), (36, x18), (35, v1), (34, x17), (33, x16), (32, x15), (31, x14), (30, x12), (29, x11), (28, x9), (27, x8), (26, x8), (25, x7), (24, v1), (23, x5), (22, x4), (21, v1), (20, x2), (10, (.bool false)), (5, x0)] [] G66 fun e67 t68 G69 =>
  ifE e67 (.exit 0) (
  bS (mk Q q 40 4 32 z49 (.int .i64 4) (.int .i64 4) G69) fun x70 G71 =>
  bLq q e 3 1 (subAt [1, 1, 1, 1, 1, 1, 1, 1, 1, 1, 0, 1, 0, 0] (bodyOf Tryz.f3)) 192 t68 [(17, (.int .i64 0)), (16, x70), (99, x70)] [] G71 fun e72 t73 G74 =>
  bV q (t73 10) fun t73x10_ =>
  ifE e72 (.exit 2) (
  bS (e.ev.cl 9 [] G74) fun x75 G76 =>
  some (x75, G76)) (ifE e72 .ret (
  some (t73x10_, G74)) (none))) (none))))
theorem m3 {e : Ex} {E : Ev} (h : ExLe Q e E) (v0 v1 v2 v3 v4 : Value) (G : GS) : Ref (s3 true e v0 v1 v2 v3 v4 G) (s3 false (Ex.of E) v0 v1 v2 v3 v4 G) := by
  unfold s3
  exact Ref.gq
set_option maxHeartbeats 8000000 in
theorem f3 {orc : FuncId → Bool} {e : Ex} (h : ExLe Q e (E orc)) (v0 v1 v2 v3 v4 : Value) (G : GS) : Ref (s3 true e v0 v1 v2 v3 v4 G) ((E orc).cl 3 [v0, v1, v2, v3, v4] G) :=
  fun r hr => cl_sxE_some Q orc (vs := [v0, v1, v2, v3, v4]) G Tryz.func3 (by kernel_rfl) (by kernel_rfl) (by kernel_rfl) (by kernel_rfl) (by kernel_rfl) (by kernel_rfl) (m3 h v0 v1 v2 v3 v4 G r hr)
/-- coxswain/mail.Fits -/
noncomputable def s5 (q : Bool) (e : Ex) (v0 v1 : Value) (G : GS) : Option (Value × GS) :=
  bS (bx q v0 G) fun x0 G1 =>
  bP (bn Q q .lss 3 (.tmp 5) (.const (.int .i64 1)) v1 (.int .i64 1)) fun x2 =>
  bS (gd x2 false (some (v1, G1)) G1) fun x3 G4 =>
  bS (gd x2 false (bP (bn Q q .gtr 3 (.tmp 8) (.const (.int .i64 4096)) x3 (.int .i64 4096)) fun y => some (y, G4)) G4) fun x5 G6 =>
  bP (pickV x2 (.bool true) x5) fun x7 =>
  ifV x7 (
  some ((.int .i64 3), G6)) (
  bP (lda Q q 23 3 x0 (G6.room 12)) fun x8 =>
  bS (e.ev.cl 42 [x8] (G6.room 12)) fun x10 G9 =>
  bP (un Q q .not x10) fun x11 =>
  bS (gd x11 false (bP (fa Q q 23 0 0 x0) fun y => some (y, G9)) G9) fun x12 _ =>
  bS (gd x11 false (bP (ld Q q 3 x12 G9) fun y => some (y, G9)) G9) fun x13 _ =>
  bS (gd x11 false (some (v1, G9)) G9) fun x14 _ =>
  bS (gd x11 false (bP (lda Q q 23 3 x0 G9) fun y => some (y, G9)) G9) fun x15 _ =>
  bS (gd x11 false (bS (e.ev.cl 7 [x15] G9) fun y G => some (y, G)) G9) fun x17 G16 =>
  chk (((!(gB x11 false) || (!(gB x11 false) || sameO (ld Q q 3 x12 G16) x13)) && true)) <|
  bS (gd x11 false (bP (bn Q q .sub 3 (.tmp 17) (.tmp 19) x14 x17) fun y => some (y, G16)) G16) fun x18 _ =>
  bS (gd x11 false (bP (bn Q q .gtr 3 (.tmp 16) (.tmp 20) x13 x18) fun y => some (y, G16)) G16) fun x19 _ =>
  bP (pickV x11 (.bool true) x19) fun x20 =>
  ifV x20 (
  some ((.int .i64 2), G16)) (
  some ((.int .i64 0), G16)))
theorem m5 {e : Ex} {E : Ev} (h : ExLe Q e E) (v0 v1 : Value) (G : GS) : Ref (s5 true e v0 v1 G) (s5 false (Ex.of E) v0 v1 G) := by
  unfold s5
  exact Ref.gq
theorem f5 {orc : FuncId → Bool} {e : Ex} (h : ExLe Q e (E orc)) (v0 v1 : Value) (G : GS) : Ref (s5 true e v0 v1 G) ((E orc).cl 5 [v0, v1] G) :=
  fun r hr => cl_sxE_some Q orc (vs := [v0, v1]) G Tryz.func5 (by kernel_rfl) (by kernel_rfl) (by kernel_rfl) (by kernel_rfl) (by kernel_rfl) (by kernel_rfl) (m5 h v0 v1 G r hr)
/-- coxswain/coxswainref25.Fits -/
noncomputable def s6 (q : Bool) (e : Ex) (v0 v1 : Value) (G : GS) : Option (Value × GS) :=
  bS (bx q v0 G) fun x0 G1 =>
  bP (bn Q q .lss 3 (.tmp 6) (.const (.int .i64 1)) v1 (.int .i64 1)) fun x2 =>
  bS (gd x2 false (some (v1, G1)) G1) fun x3 G4 =>
  bS (gd x2 false (bP (bn Q q .gtr 3 (.tmp 9) (.const (.int .i64 4096)) x3 (.int .i64 4096)) fun y => some (y, G4)) G4) fun x5 G6 =>
  bP (pickV x2 (.bool true) x5) fun x7 =>
  ifV x7 (
  some ((.int .i64 3), G6)) (
  bP (lda Q q 23 3 x0 (G6.room 18)) fun x8 =>
  bS (e.ev.cl 43 [x8] (G6.room 18)) fun x10 G9 =>
  bP (un Q q .not x10) fun x11 =>
  bS (gd x11 false (bP (fa Q q 23 0 0 x0) fun y => some (y, G9)) G9) fun x12 _ =>
  bS (gd x11 false (bP (ld Q q 3 x12 G9) fun y => some (y, G9)) G9) fun x13 _ =>
  bS (gd x11 false (bP (bn Q q .lss 3 (.tmp 18) (.const (.int .i64 0)) x13 (.int .i64 0)) fun y => some (y, G9)) G9) fun x14 _ =>
  bP (pickV x11 (.bool true) x14) fun x15 =>
  bS (gd x15 false (bP (fa Q q 23 0 0 x0) fun y => some (y, G9)) G9) fun x16 _ =>
  bS (gd x15 false (bP (ld Q q 3 x16 G9) fun y => some (y, G9)) G9) fun x17 _ =>
  bS (gd x15 false (some (v1, G9)) G9) fun x18 _ =>
  bS (gd x15 false (bP (lda Q q 23 3 x0 G9) fun y => some (y, G9)) G9) fun x19 _ =>
  bS (gd x15 false (bS (e.ev.cl 8 [x19] G9) fun y G => some (y, G)) G9) fun x21 G20 =>
  chk (((!(gB x15 false) || (!(gB x15 false) || sameO (ld Q q 3 x16 G20) x17)) && true)) <|
  bS (gd x15 false (bP (bn Q q .sub 3 (.tmp 24) (.tmp 26) x18 x21) fun y => some (y, G20)) G20) fun x22 _ =>
  bS (gd x15 false (bP (bn Q q .gtr 3 (.tmp 23) (.tmp 27) x17 x22) fun y => some (y, G20)) G20) fun x23 _ =>
  bP (pickV x15 (.bool true) x23) fun x24 =>
  ifV x24 (
  some ((.int .i64 2), G20)) (
  some ((.int .i64 0), G20)))
theorem m6 {e : Ex} {E : Ev} (h : ExLe Q e E) (v0 v1 : Value) (G : GS) : Ref (s6 true e v0 v1 G) (s6 false (Ex.of E) v0 v1 G) := by
  unfold s6
  exact Ref.gq
theorem f6 {orc : FuncId → Bool} {e : Ex} (h : ExLe Q e (E orc)) (v0 v1 : Value) (G : GS) : Ref (s6 true e v0 v1 G) ((E orc).cl 6 [v0, v1] G) :=
  fun r hr => cl_sxE_some Q orc (vs := [v0, v1]) G Tryz.func6 (by kernel_rfl) (by kernel_rfl) (by kernel_rfl) (by kernel_rfl) (by kernel_rfl) (by kernel_rfl) (m6 h v0 v1 G r hr)
/-- coxswain/mail.Size -/
noncomputable def s7 (q : Bool) (e : Ex) (v0 : Value) (G : GS) : Option (Value × GS) :=
  bS (bx q v0 G) fun x0 G1 =>
  bP (lda Q q 23 3 x0 G1) fun x2 =>
  bS (e.ev.cl 44 [x2] G1) fun x3 G4 =>
  bP (un Q q .not x3) fun x5 =>
  ifV x5 (
  some ((.int .i64 0), G4)) (
  bP (fa Q q 23 1 1 x0) fun x6 =>
  bP (ld Q q 3 x6 G4) fun x7 =>
  bP (fa Q q 23 2 2 x0) fun x8 =>
  bP (ld Q q 3 x8 G4) fun x9 =>
  bP (bn Q q .add 3 (.tmp 9) (.const (.int .i64 2)) x9 (.int .i64 2)) fun x10 =>
  bP (bn Q q .mul 3 (.tmp 7) (.tmp 10) x7 x10) fun x11 =>
  some (x11, G4))
theorem m7 {e : Ex} {E : Ev} (h : ExLe Q e E) (v0 : Value) (G : GS) : Ref (s7 true e v0 G) (s7 false (Ex.of E) v0 G) := by
  unfold s7
  exact Ref.gq
theorem f7 {orc : FuncId → Bool} {e : Ex} (h : ExLe Q e (E orc)) (v0 : Value) (G : GS) : Ref (s7 true e v0 G) ((E orc).cl 7 [v0] G) :=
  fun r hr => cl_sxE_some Q orc (vs := [v0]) G Tryz.func7 (by kernel_rfl) (by kernel_rfl) (by kernel_rfl) (by kernel_rfl) (by kernel_rfl) (by kernel_rfl) (m7 h v0 G r hr)
/-- coxswain/coxswainref25.Size -/
noncomputable def s8 (q : Bool) (e : Ex) (v0 : Value) (G : GS) : Option (Value × GS) :=
  bS (bx q v0 G) fun x0 G1 =>
  bP (lda Q q 23 3 x0 G1) fun x2 =>
  bS (e.ev.cl 43 [x2] G1) fun x3 G4 =>
  bP (un Q q .not x3) fun x5 =>
  ifV x5 (
  some ((.int .i64 0), G4)) (
  bP (fa Q q 23 1 1 x0) fun x6 =>
  bP (ld Q q 3 x6 G4) fun x7 =>
  bP (fa Q q 23 2 2 x0) fun x8 =>
  bP (ld Q q 3 x8 G4) fun x9 =>
  bP (bn Q q .add 3 (.tmp 9) (.const (.int .i64 2)) x9 (.int .i64 2)) fun x10 =>
  bP (bn Q q .mul 3 (.tmp 7) (.tmp 10) x7 x10) fun x11 =>
  some (x11, G4))
theorem m8 {e : Ex} {E : Ev} (h : ExLe Q e E) (v0 : Value) (G : GS) : Ref (s8 true e v0 G) (s8 false (Ex.of E) v0 G) := by
  unfold s8
  exact Ref.gq
theorem f8 {orc : FuncId → Bool} {e : Ex} (h : ExLe Q e (E orc)) (v0 : Value) (G : GS) : Ref (s8 true e v0 G) ((E orc).cl 8 [v0] G) :=
  fun r hr => cl_sxE_some Q orc (vs := [v0]) G Tryz.func8 (by kernel_rfl) (by kernel_rfl) (by kernel_rfl) (by kernel_rfl) (by kernel_rfl) (by kernel_rfl) (m8 h v0 G r hr)
/-- coxswain/coxswainlaw25.awake -/
noncomputable def s9 (q : Bool) (e : Ex) (G : GS) : Option (Value × GS) :=
  bS (e.ev.cl 45 [] G) fun x0 G1 =>
  bS (al Q q 23 z23 G1) fun x2 G3 =>
  bP (st Q q 23 3 x2 x0 G3) fun G4 =>
  bS (e.ev.cl 46 [] G4) fun x5 G6 =>
  bP (ep Q q false 30 (.tmp 7) (.const (.pointer none)) x5 (.pointer none)) fun x7 =>
  bS (gd x7 false (bP (lda Q q 23 3 x2 G6) fun y => some (y, G6)) G6) fun x8 G9 =>
  bS (gd x7 false (some (x5, G9)) G9) fun x10 G11 =>
  bS (gd x7 false (bS (e.ev.cl 19 [x8, (.int .i64 1), x10] G11) fun y G => some (y, G)) G11) fun x12 G13 =>
  bS (gd x7 false (bS (bs Q q 52 2 (rep z3 2) 1 [(0, 0, 1), (1, 1, 1)] [(.int .i64 9), (.int .i64 8)] G13) fun y G => some (y, G)) G13) fun x14 G15 =>
  bS (gd x7 false (bS (e.ev.cl 21 [x12, x14] G15) fun y G => some (y, G)) G15) fun x16 G17 =>
  bS (gd x7 false (bP (un Q q .not x16) fun y => some (y, G17)) G17) fun x18 G19 =>
  bP (pickV x7 (.bool true) x18) fun x20 =>
  bS (gd x20 false (bP (lda Q q 23 3 x2 G19) fun y => some (y, G19)) G19) fun x21 G22 =>
  bS (gd x20 false (some (x5, G22)) G22) fun x23 G24 =>
  bS (gd x20 false (bS (e.ev.cl 23 [x21, x23] G24) fun y G => some (y, G)) G24) fun x25 G26 =>
  bP (pickV x20 (.bool true) x25) fun x27 =>
  ifV x27 (
  some ((.bool false), G26)) (
  bP (lda Q q 23 3 x2 G26) fun x28 =>
  bS (e.ev.cl 47 [x28, x5, (.int .i64 1), (.int .i64 1)] G26) fun x29 G30 =>
  bP (pExtract x29 0) fun x31 =>
  bP (pExtract x29 1) fun x32 =>
  bS (bs Q q 52 1 (rep z3 1) 1 [(0, 0, 1)] [(.int .i64 9)] G30) fun x33 G34 =>
  bS (e.ev.cl 21 [x31, x33] G34) fun x35 G36 =>
  bS (gd x35 true (some (x32, G36)) G36) fun x37 G38 =>
  bS (gd x35 true (bP (bn Q q .eql 3 (.tmp 32) (.const (.int .i64 4)) x37 (.int .i64 4)) fun y => some (y, G38)) G38) fun x39 G40 =>
  bP (pickV x35 x39 (.bool false)) fun x41 =>
  some (x41, G40))
theorem m9 {e : Ex} {E : Ev} (h : ExLe Q e E) (G : GS) : Ref (s9 true e  G) (s9 false (Ex.of E)  G) := by
  unfold s9
  exact Ref.gq
theorem f9 {orc : FuncId → Bool} {e : Ex} (h : ExLe Q e (E orc)) (ho : orc 9 = false) (G : GS) : Ref (s9 true e  G) ((E orc).cl 9 [] G) :=
  fun r hr => cl_sxE_some Q orc (vs := []) G Tryz.func9 (by kernel_rfl) (by kernel_rfl) ho (by kernel_rfl) (by kernel_rfl) (by kernel_rfl) (m9 h  G r hr)
/-- coxswain/cells.New -/
noncomputable def s10 (q : Bool) (e : Ex) (v0 : Value) (G : GS) : Option (Value × GS) :=
  bP (bn Q q .lss 3 (.tmp 4) (.const (.int .i64 1)) v0 (.int .i64 1)) fun x0 =>
  bS (gd x0 false (some (v0, G)) G) fun x1 G2 =>
  bS (gd x0 false (bP (bn Q q .gtr 3 (.tmp 7) (.const (.int .i64 4096)) x1 (.int .i64 4096)) fun y => some (y, G2)) G2) fun x3 G4 =>
  bP (pickV x0 (.bool true) x3) fun x5 =>
  ifV x5 (
  some (.tuple #[(.pointer none), (.int .i64 3)], G4)) (
  bS (al Q q 110 z110 G4) fun x6 G7 =>
  bP (bd Q q 112 z112 [(0, 0, 1), (1, 1, 1)] [x6, v0]) fun x8 =>
  bS (bx q x8 G7) fun x9 G10 =>
  some (.tuple #[x9, (.int .i64 0)], G10))
theorem m10 {e : Ex} {E : Ev} (h : ExLe Q e E) (v0 : Value) (G : GS) : Ref (s10 true e v0 G) (s10 false (Ex.of E) v0 G) := by
  unfold s10
  exact Ref.gq
theorem f10 {orc : FuncId → Bool} {e : Ex} (h : ExLe Q e (E orc)) (v0 : Value) (G : GS) : Ref (s10 true e v0 G) ((E orc).cl 10 [v0] G) :=
  fun r hr => cl_sxE_some Q orc (vs := [v0]) G Tryz.func10 (by kernel_rfl) (by kernel_rfl) (by kernel_rfl) (by kernel_rfl) (by kernel_rfl) (by kernel_rfl) (m10 h v0 G r hr)
/-- coxswain/coxswainref02.New -/
noncomputable def s11 (q : Bool) (e : Ex) (v0 : Value) (G : GS) : Option (Value × GS) :=
  bP (bn Q q .lss 3 (.tmp 4) (.const (.int .i64 1)) v0 (.int .i64 1)) fun x0 =>
  bS (gd x0 false (some (v0, G)) G) fun x1 G2 =>
  bS (gd x0 false (bP (bn Q q .gtr 3 (.tmp 7) (.const (.int .i64 4096)) x1 (.int .i64 4096)) fun y => some (y, G2)) G2) fun x3 G4 =>
  bP (pickV x0 (.bool true) x3) fun x5 =>
  ifV x5 (
  some (.tuple #[(.pointer none), (.int .i64 3)], G4)) (
  bS (mk Q q 24 1 8 z39 v0 v0 G4) fun x6 G7 =>
  bP (bd Q q 114 z114 [(0, 0, 1)] [x6]) fun x8 =>
  bS (bx q x8 G7) fun x9 G10 =>
  some (.tuple #[x9, (.int .i64 0)], G10))
theorem m11 {e : Ex} {E : Ev} (h : ExLe Q e E) (v0 : Value) (G : GS) : Ref (s11 true e v0 G) (s11 false (Ex.of E) v0 G) := by
  unfold s11
  exact Ref.gq
theorem f11 {orc : FuncId → Bool} {e : Ex} (h : ExLe Q e (E orc)) (v0 : Value) (G : GS) : Ref (s11 true e v0 G) ((E orc).cl 11 [v0] G) :=
  fun r hr => cl_sxE_some Q orc (vs := [v0]) G Tryz.func11 (by kernel_rfl) (by kernel_rfl) (by kernel_rfl) (by kernel_rfl) (by kernel_rfl) (by kernel_rfl) (m11 h v0 G r hr)
/-- coxswain/mail.Fill -/
noncomputable def s12 (q : Bool) (e : Ex) (v0 v1 : Value) (G : GS) : Option (Value × GS) :=
  bS (bx q v0 G) fun x0 G1 =>
  bS (bx q v1 G1) fun x2 G3 =>
  bP (lda Q q 23 3 x0 G3) fun x4 =>
  bS (e.ev.cl 44 [x4] G3) fun x5 G6 =>
  bP (un Q q .not x5) fun x7 =>
  ifV x7 (
  some (.tuple #[], G6)) (
  bP (lda Q q 23 3 x0 G6) fun x8 =>
  bS (e.ev.cl 48 [x8] G6) fun x9 G10 =>
  bX (xRange e.ev x9 #[11, 12] (subAt [1, 1, 1, 0, 0] (bodyOf Tryz.f12)) (subAt [1, 1, 1, 0, 1] (bodyOf Tryz.f12)) (lsq q 16 (nth undef [v0, v1]) [(10, x9), (9, x8), (8, x7), (7, x5), (6, x4), (3, x2), (2, x0)]) G10) fun e11 T12 G13 =>
  ifE e11 .normal (
  some (.tuple #[], G13)) (none))
theorem m12 {e : Ex} {E : Ev} (h : ExLe Q e E) (v0 v1 : Value) (G : GS) : Ref (s12 true e v0 v1 G) (s12 false (Ex.of E) v0 v1 G) := by
  unfold s12
  exact Ref.gq
theorem f12 {orc : FuncId → Bool} {e : Ex} (h : ExLe Q e (E orc)) (v0 v1 : Value) (G : GS) : Ref (s12 true e v0 v1 G) ((E orc).cl 12 [v0, v1] G) :=
  fun r hr => cl_sxE_some Q orc (vs := [v0, v1]) G Tryz.func12 (by kernel_rfl) (by kernel_rfl) (by kernel_rfl) (by kernel_rfl) (by kernel_rfl) (by kernel_rfl) (m12 h v0 v1 G r hr)
noncomputable def r12_0 (q : Bool) (e : Ex) (l : Nat) (τ : Env) (u0 u1 : Value) (G : GS) : Option (Value × GS) :=
  bV q (τ 3) fun a3_ =>
  bS (al Q q 119 z119 G) fun x0 G1 =>
  bP (st Q q 119 4 x0 u1 G1) fun G2 =>
  bP (G2.loop l) fun r3 => if r3.st = .ready then
  bP (lda Q q 119 4 x0 (G2.putLoop l (Lp.setSt r3 .busy))) fun x4 =>
  bP (ld Q q 30 a3_ (G2.putLoop l (Lp.setSt r3 .busy))) fun x5 =>
  bS (e.ev.cl 49 [x4, x5] (G2.putLoop l (Lp.setSt r3 .busy))) fun x6 G7 =>
  roundEnd l .normal G7
  else none
theorem mr12_0 {e : Ex} {E : Ev} (h : ExLe Q e E) (l : Nat) (τ : Env) (u0 u1 : Value) (G : GS) : Ref (r12_0 true e l τ u0 u1 G) (r12_0 false (Ex.of E) l τ u0 u1 G) := by
  unfold r12_0
  repeat' (with_reducible first | exact Ref.rfl' _ | exact ROp.r | refine Ref.bP ?_ fun _ => ?_ | refine Ref.bS ?_ fun _ _ => ?_ | exact Ref.cl (by assumption) | refine Ref.ifV ?_ ?_ | refine LpLe.rx (by assumption) ?_ | refine Ref.xitq ?_ | exact UOk.z | refine UOk.c (by assumption) ?_ | exact Ref.nil _ | refine Ref.bVe fun _ _ => ?_ | refine Ref.bLq (by assumption) ?_ fun _ _ _ => ?_ | refine Ref.ifE ?_ ?_ | refine Ref.chk ?_ ?_ | refine Imp.and ?_ ?_ | refine Imp.or ?_ | exact Imp.rfl' _ | refine Imp.sameO ?_ | refine Ref.gd ?_ | exact Ref.cValue (by assumption) | refine Ref.bX ?_ fun _ _ _ => ?_ | exact Ref.scQ (by assumption) | exact Ref.xRangeQ (by assumption) | exact Ref.cInvoke (by assumption) | refine Ref.rdy ?_)
theorem d12_0 {orc : FuncId → Bool} {e : Ex} (h : ExLe Q e (E orc)) (l : Nat) (T : List Value) (u0 u1 : Value) (G : GS) {st : LoopState} {pend : Option Code} (hl : G.loop l = some ⟨st, pend, T, [11, 12], (subAt [1, 1, 1, 0, 0] (bodyOf Tryz.f12)), (subAt [1, 1, 1, 0, 1] (bodyOf Tryz.f12))⟩) (hT : T.length = 16) : Ref (r12_0 true e l (nth undef T) u0 u1 G) ((E orc).rd l [u0, u1] G) :=
  fun r hr => rd_sxE Q orc hl (by kernel_rfl) hT (by kernel_rfl) (mr12_0 h l _ u0 u1 G r hr)
noncomputable def b13_0 (q : Bool) (e : Ex) (lp : Env → GS → Option (Exit × Env × GS)) (τ : Env) (G : GS) : Option (Exit × Env × GS) :=
  bV q (τ 1) fun a1_ =>
  bV q (τ 2) fun a2_ =>
  bV q (τ 4) fun a4_ =>
  bP (fa Q q 23 1 1 a2_) fun x0 =>
  bP (ld Q q 3 x0 G) fun x1 =>
  bP (bn Q q .lss 3 (.tmp 8) (.tmp 10) a4_ x1) fun x2 =>
  ifV x2 (
  bP (lda Q q 23 3 a2_ G) fun x3 =>
  bS (e.ev.cl 51 [x3, a4_] G) fun x4 G5 =>
  bS (e.ev.cl 50 [x4, a1_] G5) fun x6 G7 =>
  bP (bn Q q .add 3 (.tmp 12) (.const (.int .i64 1)) a4_ (.int .i64 1)) fun x8 =>
  lp (xq q 19 τ [(4, x8), (13, x8), (12, a4_), (18, x6), (17, a1_), (16, x4), (15, a4_), (14, x3), (11, x2), (10, x1), (9, x0), (8, a4_)] [(1, a1_), (2, a2_)]) G7) (
  some ((.exit 0), xq q 19 τ [(11, x2), (10, x1), (9, x0), (8, a4_)] [(1, a1_), (2, a2_), (4, a4_)], G))
theorem mb13_0 {e : Ex} {E : Ev} (h : ExLe Q e E) {lp lp' : Env → GS → Option (Exit × Env × GS)} (hlp : LpLe lp lp') (τ : Env) (G : GS) : Ref (b13_0 true e lp τ G) (b13_0 false (Ex.of E) lp' τ G) := by
  unfold b13_0
  exact Ref.gq
theorem l13_0 {orc : FuncId → Bool} {e : Ex} (h : ExLe Q e (E orc)) (lp : Env → GS → Option (Exit × Env × GS)) (hlp : ∀ τ G, Ref (lp τ G) (mapE ((E orc).lp (subAt [1, 1, 1, 0, 0] (bodyOf Tryz.f13)) (lst 19 τ) G))) (T : List Value) (G : GS) (hT : T.length = 19) : Ref (b13_0 true e lp (nth undef T) G) (mapE ((E orc).lp (subAt [1, 1, 1, 0, 0] (bodyOf Tryz.f13)) T G)) :=
  fun r hr => lp_sxN Q orc G hT (by kernel_rfl) (mb13_0 h ⟨hlp⟩ _ _ r hr)
/-- coxswain/coxswainref25.Fill -/
noncomputable def s13 (q : Bool) (e : Ex) (v0 v1 : Value) (G : GS) : Option (Value × GS) :=
  bS (bx q v0 G) fun x0 G1 =>
  bP (lda Q q 23 3 x0 G1) fun x2 =>
  bS (e.ev.cl 43 [x2] G1) fun x3 G4 =>
  bP (un Q q .not x3) fun x5 =>
  ifV x5 (
  some (.tuple #[], G4)) (
  bLq q e 13 0 (subAt [1, 1, 1, 0, 0] (bodyOf Tryz.f13)) 19 (nth undef [v0, v1]) [(4, (.int .i64 0)), (7, x5), (6, x3), (5, x2), (2, x0)] [] G4 fun e6 t7 G8 =>
  ifE e6 (.exit 0) (
  some (.tuple #[], G8)) (none))
theorem m13 {e : Ex} {E : Ev} (h : ExLe Q e E) (v0 v1 : Value) (G : GS) : Ref (s13 true e v0 v1 G) (s13 false (Ex.of E) v0 v1 G) := by
  unfold s13
  exact Ref.gq
theorem f13 {orc : FuncId → Bool} {e : Ex} (h : ExLe Q e (E orc)) (v0 v1 : Value) (G : GS) : Ref (s13 true e v0 v1 G) ((E orc).cl 13 [v0, v1] G) :=
  fun r hr => cl_sxE_some Q orc (vs := [v0, v1]) G Tryz.func13 (by kernel_rfl) (by kernel_rfl) (by kernel_rfl) (by kernel_rfl) (by kernel_rfl) (by kernel_rfl) (m13 h v0 v1 G r hr)
/-- (*coxswain/cells.Mem).Store -/
noncomputable def s14 (q : Bool) (e : Ex) (v0 v1 v2 : Value) (G : GS) : Option (Value × GS) :=
  bS (e.ev.cl 52 [v0, v1] G) fun x0 G1 =>
  bP (bd Q q 126 z126 [(0, 0, 1), (1, 1, 1)] [x0, v2]) fun x2 =>
  bS (al Q q 126 z126 G1) fun x3 G4 =>
  bP (st Q q 126 3 x3 x2 G4) fun G5 =>
  bP (fa Q q 126 0 0 x3) fun x6 =>
  bP (ld Q q 123 x6 G5) fun x7 =>
  bP (lda Q q 126 3 x3 G5) fun x8 =>
  bS (e.ev.cl 53 [v0, (.int .i64 2), v1, x7, (.func (.func 54) #[x8] #[])] G5) fun x9 G10 =>
  some (.tuple #[], G10)
theorem m14 {e : Ex} {E : Ev} (h : ExLe Q e E) (v0 v1 v2 : Value) (G : GS) : Ref (s14 true e v0 v1 v2 G) (s14 false (Ex.of E) v0 v1 v2 G) := by
  unfold s14
  exact Ref.gq
theorem f14 {orc : FuncId → Bool} {e : Ex} (h : ExLe Q e (E orc)) (v0 v1 v2 : Value) (G : GS) : Ref (s14 true e v0 v1 v2 G) ((E orc).cl 14 [v0, v1, v2] G) :=
  fun r hr => cl_sxE_some Q orc (vs := [v0, v1, v2]) G Tryz.func14 (by kernel_rfl) (by kernel_rfl) (by kernel_rfl) (by kernel_rfl) (by kernel_rfl) (by kernel_rfl) (m14 h v0 v1 v2 G r hr)
/-- (*coxswain/coxswainref02.Mem).Store -/
noncomputable def s15 (q : Bool) (e : Ex) (v0 v1 v2 : Value) (G : GS) : Option (Value × GS) :=
  bS (e.ev.cl 55 [v0, (.int .i64 2), v1, (.bool true), v2] G) fun x0 G1 =>
  some (.tuple #[], G1)
theorem m15 {e : Ex} {E : Ev} (h : ExLe Q e E) (v0 v1 v2 : Value) (G : GS) : Ref (s15 true e v0 v1 v2 G) (s15 false (Ex.of E) v0 v1 v2 G) := by
  unfold s15
  exact Ref.gq
theorem f15 {orc : FuncId → Bool} {e : Ex} (h : ExLe Q e (E orc)) (v0 v1 v2 : Value) (G : GS) : Ref (s15 true e v0 v1 v2 G) ((E orc).cl 15 [v0, v1, v2] G) :=
  fun r hr => cl_sxE_some Q orc (vs := [v0, v1, v2]) G Tryz.func15 (by kernel_rfl) (by kernel_rfl) (by kernel_rfl) (by kernel_rfl) (by kernel_rfl) (by kernel_rfl) (m15 h v0 v1 v2 G r hr)
/-- coxswain/coxswainkit.Pick -/
noncomputable def s16 (q : Bool) (e : Ex) (v0 v1 : Value) (G : GS) : Option (Value × GS) :=
  bP (bn Q q .leq 3 (.tmp 5) (.const (.int .i64 0)) v1 (.int .i64 0)) fun x0 =>
  ifV x0 (
  some ((.int .i64 0), G)) (
  bP (bn Q q .rem 3 (.tmp 7) (.tmp 8) v0 v1) fun x1 =>
  bP (bn Q q .lss 3 (.tmp 10) (.const (.int .i64 0)) x1 (.int .i64 0)) fun x2 =>
  ifV x2 (
  bP (bn Q q .add 3 (.tmp 12) (.tmp 13) x1 v1) fun x3 =>
  some (x3, G)) (
  some (x1, G)))
theorem m16 {e : Ex} {E : Ev} (h : ExLe Q e E) (v0 v1 : Value) (G : GS) : Ref (s16 true e v0 v1 G) (s16 false (Ex.of E) v0 v1 G) := by
  unfold s16
  exact Ref.gq
theorem f16 {orc : FuncId → Bool} {e : Ex} (h : ExLe Q e (E orc)) (v0 v1 : Value) (G : GS) : Ref (s16 true e v0 v1 G) ((E orc).cl 16 [v0, v1] G) :=
  fun r hr => cl_sxE_some Q orc (vs := [v0, v1]) G Tryz.func16 (by kernel_rfl) (by kernel_rfl) (by kernel_rfl) (by kernel_rfl) (by kernel_rfl) (by kernel_rfl) (m16 h v0 v1 G r hr)
noncomputable def jb17_0 (q : Bool) (e : Ex) (τ : Env) (G : GS) : Option (Value × GS) :=
  bV q (τ 3) fun a3_ =>
  bV q (τ 7) fun a7_ =>
  bV q (τ 8) fun a8_ =>
  bP (eb Q q false 4 (.tmp 31) (.tmp 32) a7_ a8_) fun x2 =>
  bS (gd x2 true (bP (lda Q q 49 4 a3_ G) fun y => some (y, G)) G) fun x3 G4 =>
  bS (gd x2 true (bS (e.ev.cl 20 [x3] G4) fun y G => some (y, G)) G4) fun x5 G6 =>
  bP (pickV x2 x5 (.bool false)) fun x7 =>
  some (x7, G6)
noncomputable def j17_0 (q : Bool) (e : Ex) (τ : Env) (G : GS) : Option (Value × GS) := jb17_0 q e τ G
theorem mj17_0 {e : Ex} {E : Ev} (h : ExLe Q e E) (τ : Env) (G : GS) : Ref (j17_0 true e τ G) (j17_0 false (Ex.of E) τ G) := by
  unfold j17_0 jb17_0
  exact Ref.gq
theorem mkj17_0 {e : Ex} {E : Ev} (h : ExLe Q e E) {τ : Env} {l U : List (Nat × Value)} {G : GS} (hU : UOk τ U) : Ref (j17_0 true e (xq true 38 τ l U) G) (j17_0 false (Ex.of E) (xq false 38 τ l U) G) := by
  rw [xq_eq hU]
  exact mj17_0 h _ _
noncomputable def jb17_1 (q : Bool) (e : Ex) (J0 : Env → GS → Option (Value × GS)) (τ : Env) (G : GS) : Option (Value × GS) :=
  bV q (τ 1) fun a1_ =>
  bV q (τ 2) fun a2_ =>
  bV q (τ 3) fun a3_ =>
  bP (fa Q q 49 3 3 a3_) fun x8 =>
  bP (ld Q q 47 x8 G) fun x9 =>
  bP (ep Q q true 47 (.tmp 21) (.const (.pointer none)) x9 (.pointer none)) fun x10 =>
  ifV x10 (
  bP (fa Q q 49 2 2 a3_) fun x11 =>
  bP (ld Q q 46 x11 (G.room 10)) fun x12 =>
  bS (e.ev.cl 58 [x12, a1_] (G.room 10)) fun x14 G13 =>
  bP (fa Q q 49 3 3 a3_) fun x15 =>
  bP (ld Q q 47 x15 G13) fun x16 =>
  chk ((sameO (ld Q q 47 x15 (G.room 10)) x16 && true)) <|
  bS (e.ev.cl 59 [x16, a2_] G13) fun x18 G17 =>
  J0 (xq q 38 τ [(8, x18), (7, x14), (30, x18), (29, a2_), (28, x16), (27, x15), (26, x14), (25, a1_), (24, x12), (23, x11), (22, x10), (21, x9), (20, x8)] []) G17) (
  J0 (xq q 38 τ [(22, x10), (21, x9), (20, x8)] []) G)
noncomputable def j17_1 (q : Bool) (e : Ex) (τ : Env) (G : GS) : Option (Value × GS) := jb17_1 q e (j17_0 q e) τ G
theorem mj17_1 {e : Ex} {E : Ev} (h : ExLe Q e E) (τ : Env) (G : GS) : Ref (j17_1 true e τ G) (j17_1 false (Ex.of E) τ G) := by
  unfold j17_1 jb17_1
  repeat' (with_reducible first | exact Ref.rfl' _ | exact ROp.r | refine Ref.bP ?_ fun _ => ?_ | refine Ref.bS ?_ fun _ _ => ?_ | exact Ref.cl (by assumption) | refine Ref.ifV ?_ ?_ | refine LpLe.rx (by assumption) ?_ | refine Ref.xitq ?_ | exact UOk.z | refine UOk.c (by assumption) ?_ | exact Ref.nil _ | refine Ref.bVe fun _ _ => ?_ | refine Ref.bLq (by assumption) ?_ fun _ _ _ => ?_ | refine Ref.ifE ?_ ?_ | refine Ref.chk ?_ ?_ | refine Imp.and ?_ ?_ | refine Imp.or ?_ | exact Imp.rfl' _ | refine Imp.sameO ?_ | refine Ref.gd ?_ | exact Ref.cValue (by assumption) | refine Ref.bX ?_ fun _ _ _ => ?_ | exact Ref.scQ (by assumption) | exact Ref.xRangeQ (by assumption) | exact Ref.cInvoke (by assumption) | refine mkj17_0 (by assumption) ?_)
theorem mkj17_1 {e : Ex} {E : Ev} (h : ExLe Q e E) {τ : Env} {l U : List (Nat × Value)} {G : GS} (hU : UOk τ U) : Ref (j17_1 true e (xq true 38 τ l U) G) (j17_1 false (Ex.of E) (xq false 38 τ l U) G) := by
  rw [xq_eq hU]
  exact mj17_1 h _ _
noncomputable def sb17 (q : Bool) (e : Ex) (J0 J1 : Env → GS → Option (Value × GS)) (v0 v1 v2 : Value) (G : GS) : Option (Value × GS) :=
  bS (bx q v0 G) fun x0 G1 =>
  bP (fa Q q 49 1 1 x0) fun x19 =>
  bP (ld Q q 45 x19 G1) fun x20 =>
  bP (ep Q q true 45 (.tmp 10) (.const (.pointer none)) x20 (.pointer none)) fun x21 =>
  ifV x21 (
  bP (fa Q q 49 0 0 x0) fun x22 =>
  bP (ld Q q 44 x22 (G1.room 10)) fun x23 =>
  bS (e.ev.cl 56 [x23, v1] (G1.room 10)) fun x25 G24 =>
  bP (fa Q q 49 1 1 x0) fun x26 =>
  bP (ld Q q 45 x26 G24) fun x27 =>
  chk ((sameO (ld Q q 45 x26 (G1.room 10)) x27 && true)) <|
  bS (e.ev.cl 57 [x27, v2] G24) fun x29 G28 =>
  J1 (xq q 38 (nth undef [v0, v1, v2]) [(8, x29), (7, x25), (19, x29), (18, v2), (17, x27), (16, x26), (15, x25), (14, v1), (13, x23), (12, x22), (11, x21), (10, x20), (9, x19), (8, (.bool false)), (7, (.bool false)), (6, (.bool false)), (3, x0)] []) G28) (
  J1 (xq q 38 (nth undef [v0, v1, v2]) [(11, x21), (10, x20), (9, x19), (8, (.bool false)), (7, (.bool false)), (6, (.bool false)), (3, x0)] []) G1)
/-- (coxswain/coxswainlaw25.both).step -/
noncomputable def s17 (q : Bool) (e : Ex) (v0 v1 v2 : Value) (G : GS) : Option (Value × GS) := sb17 q e (j17_0 q e) (j17_1 q e) v0 v1 v2 G
theorem m17 {e : Ex} {E : Ev} (h : ExLe Q e E) (v0 v1 v2 : Value) (G : GS) : Ref (s17 true e v0 v1 v2 G) (s17 false (Ex.of E) v0 v1 v2 G) := by
  unfold s17 sb17
  repeat' (with_reducible first | exact Ref.rfl' _ | exact ROp.r | refine Ref.bP ?_ fun _ => ?_ | refine Ref.bS ?_ fun _ _ => ?_ | exact Ref.cl (by assumption) | refine Ref.ifV ?_ ?_ | refine LpLe.rx (by assumption) ?_ | refine Ref.xitq ?_ | exact UOk.z | refine UOk.c (by assumption) ?_ | exact Ref.nil _ | refine Ref.bVe fun _ _ => ?_ | refine Ref.bLq (by assumption) ?_ fun _ _ _ => ?_ | refine Ref.ifE ?_ ?_ | refine Ref.chk ?_ ?_ | refine Imp.and ?_ ?_ | refine Imp.or ?_ | exact Imp.rfl' _ | refine Imp.sameO ?_ | refine Ref.gd ?_ | exact Ref.cValue (by assumption) | refine Ref.bX ?_ fun _ _ _ => ?_ | exact Ref.scQ (by assumption) | exact Ref.xRangeQ (by assumption) | exact Ref.cInvoke (by assumption) | refine mkj17_0 (by assumption) ?_ | refine mkj17_1 (by assumption) ?_)
noncomputable def jt17 (J0 J1 : Env → GS → Option (Value × GS)) : JT (Value × GS) :=
  (.n none .e (.n none .e (.n (some (fun T G => J1 (nth undef T) G)) .e (.n (some (fun T G => J0 (nth undef T) G)) .e .e))))
theorem jr17_1 (orc : FuncId → Bool) (J0 J1 : Env → GS → Option (Value × GS)) (T : List Value) (G : GS) : runC Q (evL Q orc) Tryz.f17.ntmps (jt17 J0 J1) (bodyOf Tryz.f17) (retE Q Tryz.f17.results.toList) [true, true] (nth undef T) G = jb17_1 false (Ex.of (E orc)) J0 (nth undef T) G := by kernel_rfl
theorem jr17_0 (orc : FuncId → Bool) (J0 J1 : Env → GS → Option (Value × GS)) (T : List Value) (G : GS) : runC Q (evL Q orc) Tryz.f17.ntmps (jt17 J0 J1) (bodyOf Tryz.f17) (retE Q Tryz.f17.results.toList) [true, true, true] (nth undef T) G = jb17_0 false (Ex.of (E orc))  (nth undef T) G := by kernel_rfl
theorem jo17 (orc : FuncId → Bool) : JOk Q orc Tryz.f17.ntmps (jt17 (j17_0 false (Ex.of (E orc))) (j17_1 false (Ex.of (E orc))) ) (bodyOf Tryz.f17) (retE Q Tryz.f17.results.toList) :=
  jOk Q orc (l := [([true, true], (fun T G => j17_1 false (Ex.of (E orc)) (nth undef T) G)), ([true, true, true], (fun T G => j17_0 false (Ex.of (E orc)) (nth undef T) G))]) (by kernel_rfl) (AllE.c (fun T G => jr17_1 orc (j17_0 false (Ex.of (E orc))) (j17_1 false (Ex.of (E orc))) T G) (AllE.c (fun T G => jr17_0 orc (j17_0 false (Ex.of (E orc))) (j17_1 false (Ex.of (E orc))) T G) (AllE.z)))
theorem je17 (orc : FuncId → Bool) (J0 J1 : Env → GS → Option (Value × GS)) (v0 v1 v2 : Value) (G : GS) : sxC Q (evL Q orc) Tryz.f17.ntmps (jt17 J0 J1) (bodyOf Tryz.f17) (nth undef [v0, v1, v2]) G (retE Q Tryz.f17.results.toList) = sb17 false (Ex.of (E orc)) J0 J1 v0 v1 v2 G := by kernel_rfl
theorem f17 {orc : FuncId → Bool} {e : Ex} (h : ExLe Q e (E orc)) (v0 v1 v2 : Value) (G : GS) : Ref (s17 true e v0 v1 v2 G) ((E orc).cl 17 [v0, v1, v2] G) :=
  fun r hr => cl_sxC Q orc (vs := [v0, v1, v2]) G (jt17 (j17_0 false (Ex.of (E orc))) (j17_1 false (Ex.of (E orc))) ) Tryz.func17 (by kernel_rfl) (by kernel_rfl) (by kernel_rfl) (by kernel_rfl) (by kernel_rfl) (jo17 orc) (je17 orc (j17_0 false (Ex.of (E orc))) (j17_1 false (Ex.of (E orc))) v0 v1 v2 G) (m17 h v0 v1 v2 G r hr)
/-- coxswain/coxswainlaw25.begin -/
noncomputable def s18 (q : Bool) (e : Ex) (v0 v1 : Value) (G : GS) : Option (Value × GS) :=
  bS (bx q v0 G) fun x0 G1 =>
  bS (bx q v1 G1) fun x2 G3 =>
  bS (al Q q 49 z49 G3) fun x4 G5 =>
  bP (fa Q q 43 1 1 x2) fun x6 =>
  bP (ld Q q 3 x6 G5) fun x7 =>
  bP (bn Q q .eql 3 (.tmp 6) (.const (.int .i64 1)) x7 (.int .i64 1)) fun x8 =>
  ifV x8 (
  bP (lda Q q 23 3 x0 (G5.room 14)) fun x9 =>
  bP (fa Q q 43 2 2 x2) fun x10 =>
  bP (ld Q q 3 x10 (G5.room 14)) fun x11 =>
  bP (fa Q q 43 3 3 x2) fun x12 =>
  bP (ld Q q 3 x12 (G5.room 14)) fun x13 =>
  bS (e.ev.cl 60 [x9, x11, x13] (G5.room 14)) fun x15 G14 =>
  bP (lda Q q 23 3 x0 G14) fun x16 =>
  chk ((sameO (lda Q q 23 3 x0 (G5.room 14)) x16 && true)) <|
  bP (fa Q q 43 2 2 x2) fun x17 =>
  bP (ld Q q 3 x17 G14) fun x18 =>
  chk ((sameO (ld Q q 3 x17 (G5.room 14)) x18 && true)) <|
  bP (fa Q q 43 3 3 x2) fun x19 =>
  bP (ld Q q 3 x19 G14) fun x20 =>
  chk ((sameO (ld Q q 3 x19 (G5.room 14)) x20 && true)) <|
  bS (e.ev.cl 61 [x16, x18, x20] G14) fun x22 G21 =>
  bP (bd Q q 49 z49 [(0, 0, 1), (1, 1, 1)] [x15, x22]) fun x23 =>
  bP (st Q q 49 4 x4 x23 G21) fun G24 =>
  bP (lda Q q 49 4 x4 G24) fun x25 =>
  some (x25, G24)) (
  bP (lda Q q 23 3 x0 (G5.room 14)) fun x26 =>
  bP (fa Q q 43 2 2 x2) fun x27 =>
  bP (ld Q q 3 x27 (G5.room 14)) fun x28 =>
  bP (fa Q q 43 3 3 x2) fun x29 =>
  bP (ld Q q 3 x29 (G5.room 14)) fun x30 =>
  bS (e.ev.cl 62 [x26, x28, x30] (G5.room 14)) fun x32 G31 =>
  bP (lda Q q 23 3 x0 G31) fun x33 =>
  chk ((sameO (lda Q q 23 3 x0 (G5.room 14)) x33 && true)) <|
  bP (fa Q q 43 2 2 x2) fun x34 =>
  bP (ld Q q 3 x34 G31) fun x35 =>
  chk ((sameO (ld Q q 3 x34 (G5.room 14)) x35 && true)) <|
  bP (fa Q q 43 3 3 x2) fun x36 =>
  bP (ld Q q 3 x36 G31) fun x37 =>
  chk ((sameO (ld Q q 3 x36 (G5.room 14)) x37 && true)) <|
  bS (e.ev.cl 63 [x33, x35, x37] G31) fun x39 G38 =>
  bP (bd Q q 49 z49 [(2, 2, 1), (3, 3, 1)] [x32, x39]) fun x40 =>
  bP (st Q q 49 4 x4 x40 G38) fun G41 =>
  bP (lda Q q 49 4 x4 G41) fun x42 =>
  some (x42, G41))
theorem m18 {e : Ex} {E : Ev} (h : ExLe Q e E) (v0 v1 : Value) (G : GS) : Ref (s18 true e v0 v1 G) (s18 false (Ex.of E) v0 v1 G) := by
  unfold s18
  exact Ref.gq
theorem f18 {orc : FuncId → Bool} {e : Ex} (h : ExLe Q e (E orc)) (v0 v1 : Value) (G : GS) : Ref (s18 true e v0 v1 G) ((E orc).cl 18 [v0, v1] G) :=
  fun r hr => cl_sxE_some Q orc (vs := [v0, v1]) G Tryz.func18 (by kernel_rfl) (by kernel_rfl) (by kernel_rfl) (by kernel_rfl) (by kernel_rfl) (by kernel_rfl) (m18 h v0 v1 G r hr)
/-- coxswain/mail.All -/
noncomputable def s19 (q : Bool) (e : Ex) (v0 v1 v2 : Value) (G : GS) : Option (Value × GS) :=
  bS (bx q v0 G) fun x0 G1 =>
  bP (lda Q q 23 3 x0 G1) fun x2 =>
  bS (e.ev.cl 64 [x2, v1] G1) fun x3 G4 =>
  bP (pExtract x3 0) fun x5 =>
  bP (pExtract x3 1) fun x6 =>
  bS (al Q q 119 z119 G4) fun x7 G8 =>
  bP (st Q q 119 4 x7 x5 G8) fun G9 =>
  bP (un Q q .not x6) fun x10 =>
  ifV x10 (
  some ((.slice none 0 0), G9)) (
  bP (lda Q q 119 4 x7 G9) fun x11 =>
  bS (e.ev.cl 65 [x11, v2] G9) fun x12 G13 =>
  some (x12, G13))
theorem m19 {e : Ex} {E : Ev} (h : ExLe Q e E) (v0 v1 v2 : Value) (G : GS) : Ref (s19 true e v0 v1 v2 G) (s19 false (Ex.of E) v0 v1 v2 G) := by
  unfold s19
  exact Ref.gq
theorem f19 {orc : FuncId → Bool} {e : Ex} (h : ExLe Q e (E orc)) (v0 v1 v2 : Value) (G : GS) : Ref (s19 true e v0 v1 v2 G) ((E orc).cl 19 [v0, v1, v2] G) :=
  fun r hr => cl_sxE_some Q orc (vs := [v0, v1, v2]) G Tryz.func19 (by kernel_rfl) (by kernel_rfl) (by kernel_rfl) (by kernel_rfl) (by kernel_rfl) (by kernel_rfl) (m19 h v0 v1 v2 G r hr)
/-- (coxswain/coxswainlaw25.both).told -/
noncomputable def s20 (q : Bool) (e : Ex) (v0 : Value) (G : GS) : Option (Value × GS) :=
  bS (bx q v0 G) fun x0 G1 =>
  bP (fa Q q 49 1 1 x0) fun x2 =>
  bP (ld Q q 45 x2 G1) fun x3 =>
  bP (ep Q q true 45 (.tmp 9) (.const (.pointer none)) x3 (.pointer none)) fun x4 =>
  ifV x4 (
  bP (fa Q q 49 0 0 x0) fun x5 =>
  bP (ld Q q 44 x5 (G1.room 8)) fun x6 =>
  bS (e.ev.cl 66 [x6] (G1.room 8)) fun x8 G7 =>
  bP (fa Q q 49 1 1 x0) fun x9 =>
  bP (ld Q q 45 x9 G7) fun x10 =>
  chk ((sameO (ld Q q 45 x9 (G1.room 8)) x10 && true)) <|
  bS (e.ev.cl 67 [x10] G7) fun x12 G11 =>
  bP (bn Q q .eql 26 (.tmp 13) (.tmp 16) x8 x12) fun x13 =>
  some (x13, G11)) (
  bP (fa Q q 49 3 3 x0) fun x14 =>
  bP (ld Q q 47 x14 G1) fun x15 =>
  bP (ep Q q true 47 (.tmp 19) (.const (.pointer none)) x15 (.pointer none)) fun x16 =>
  ifV x16 (
  bP (fa Q q 49 2 2 x0) fun x17 =>
  bP (ld Q q 46 x17 G1) fun x18 =>
  bS (e.ev.cl 68 [x18] G1) fun x19 G20 =>
  bP (pExtract x19 0) fun x21 =>
  bP (pExtract x19 1) fun x22 =>
  bP (fa Q q 49 3 3 x0) fun x23 =>
  bP (ld Q q 47 x23 G20) fun x24 =>
  bS (e.ev.cl 69 [x24] G20) fun x25 G26 =>
  bP (pExtract x25 0) fun x27 =>
  bP (pExtract x25 1) fun x28 =>
  bS (e.ev.cl 21 [x21, x27] G26) fun x29 G30 =>
  bS (gd x29 true (some (x22, G30)) G30) fun x31 G32 =>
  bS (gd x29 true (some (x28, G32)) G32) fun x33 G34 =>
  bS (gd x29 true (bP (bn Q q .eql 26 (.tmp 37) (.tmp 38) x31 x33) fun y => some (y, G34)) G34) fun x35 G36 =>
  bP (pickV x29 x35 (.bool false)) fun x37 =>
  bS (e.ev.cl 32 [x21] G36) fun x38 G39 =>
  some (x37, G39)) (
  some ((.bool true), G1)))
theorem m20 {e : Ex} {E : Ev} (h : ExLe Q e E) (v0 : Value) (G : GS) : Ref (s20 true e v0 G) (s20 false (Ex.of E) v0 G) := by
  unfold s20
  exact Ref.gq
theorem f20 {orc : FuncId → Bool} {e : Ex} (h : ExLe Q e (E orc)) (v0 : Value) (G : GS) : Ref (s20 true e v0 G) ((E orc).cl 20 [v0] G) :=
  fun r hr => cl_sxE_some Q orc (vs := [v0]) G Tryz.func20 (by kernel_rfl) (by kernel_rfl) (by kernel_rfl) (by kernel_rfl) (by kernel_rfl) (by kernel_rfl) (m20 h v0 G r hr)
noncomputable def b21_0 (q : Bool) (e : Ex) (lp : Env → GS → Option (Exit × Env × GS)) (τ : Env) (G : GS) : Option (Exit × Env × GS) :=
  bV q (τ 0) fun a0_ =>
  bV q (τ 1) fun a1_ =>
  bV q (τ 5) fun a5_ =>
  bV q (τ 6) fun a6_ =>
  bS (gd a5_ true (some (a6_, G)) G) fun x0 G1 =>
  bS (gd a5_ true (some (a0_, G1)) G1) fun x2 G3 =>
  bS (gd a5_ true (bP (ln Q q 52 x2) fun y => some (y, G3)) G3) fun x4 G5 =>
  bS (gd a5_ true (bP (bn Q q .lss 3 (.tmp 14) (.tmp 16) x0 x4) fun y => some (y, G5)) G5) fun x6 G7 =>
  bP (pickV a5_ x6 (.bool false)) fun x8 =>
  ifV x8 (
  bP (ias Q q 52 1 a0_ a6_) fun x9 =>
  bP (ld Q q 3 x9 (G7.room 10)) fun x10 =>
  bP (ias Q q 52 1 a1_ a6_) fun x11 =>
  bP (ld Q q 3 x11 (G7.room 10)) fun x12 =>
  bP (bn Q q .eql 3 (.tmp 24) (.tmp 28) x10 x12) fun x13 =>
  bP (bn Q q .add 3 (.tmp 19) (.const (.int .i64 1)) a6_ (.int .i64 1)) fun x14 =>
  lp (xq q 31 τ [(6, x14), (20, x14), (19, a6_), (5, x13), (29, x13), (28, x12), (27, x11), (26, a6_), (25, a1_), (24, x10), (23, x9), (22, a6_), (21, a0_), (18, x8), (17, x6), (16, x4), (15, x2), (14, x0), (13, a5_), (12, a5_)] [(0, a0_), (1, a1_)]) (G7.room 10)) (
  some ((.exit 0), xq q 31 τ [(18, x8), (17, x6), (16, x4), (15, x2), (14, x0), (13, a5_), (12, a5_)] [(0, a0_), (1, a1_), (5, a5_), (6, a6_)], G7))
theorem mb21_0 {e : Ex} {E : Ev} (h : ExLe Q e E) {lp lp' : Env → GS → Option (Exit × Env × GS)} (hlp : LpLe lp lp') (τ : Env) (G : GS) : Ref (b21_0 true e lp τ G) (b21_0 false (Ex.of E) lp' τ G) := by
  unfold b21_0
  exact Ref.gq
theorem l21_0 {orc : FuncId → Bool} {e : Ex} (h : ExLe Q e (E orc)) (lp : Env → GS → Option (Exit × Env × GS)) (hlp : ∀ τ G, Ref (lp τ G) (mapE ((E orc).lp (subAt [1, 1, 0, 1, 0, 0] (bodyOf Tryz.f21)) (lst 31 τ) G))) (T : List Value) (G : GS) (hT : T.length = 31) : Ref (b21_0 true e lp (nth undef T) G) (mapE ((E orc).lp (subAt [1, 1, 0, 1, 0, 0] (bodyOf Tryz.f21)) T G)) :=
  fun r hr => lp_sxN Q orc G hT (by kernel_rfl) (mb21_0 h ⟨hlp⟩ _ _ r hr)
/-- coxswain/coxswainkit.SameInts -/
noncomputable def s21 (q : Bool) (e : Ex) (v0 v1 : Value) (G : GS) : Option (Value × GS) :=
  bP (ln Q q 52 v0) fun x0 =>
  bP (ln Q q 52 v1) fun x1 =>
  bP (bn Q q .eql 3 (.tmp 8) (.tmp 10) x0 x1) fun x2 =>
  bLq q e 21 0 (subAt [1, 1, 0, 1, 0, 0] (bodyOf Tryz.f21)) 31 (nth undef [v0, v1]) [(6, (.int .i64 0)), (5, x2), (11, x2), (10, x1), (9, v1), (8, x0), (7, v0), (4, (.bool false))] [] G fun e3 t4 G5 =>
  bV q (t4 5) fun t4x5_ =>
  ifE e3 (.exit 0) (
  some (t4x5_, G5)) (none)
theorem m21 {e : Ex} {E : Ev} (h : ExLe Q e E) (v0 v1 : Value) (G : GS) : Ref (s21 true e v0 v1 G) (s21 false (Ex.of E) v0 v1 G) := by
  unfold s21
  exact Ref.gq
theorem f21 {orc : FuncId → Bool} {e : Ex} (h : ExLe Q e (E orc)) (v0 v1 : Value) (G : GS) : Ref (s21 true e v0 v1 G) ((E orc).cl 21 [v0, v1] G) :=
  fun r hr => cl_sxE_some Q orc (vs := [v0, v1]) G Tryz.func21 (by kernel_rfl) (by kernel_rfl) (by kernel_rfl) (by kernel_rfl) (by kernel_rfl) (by kernel_rfl) (m21 h v0 v1 G r hr)
/-- coxswain/coxswainref25.All -/
noncomputable def s22 (q : Bool) (e : Ex) (v0 v1 v2 : Value) (G : GS) : Option (Value × GS) :=
  bS (bx q v0 G) fun x0 G1 =>
  bP (lda Q q 23 3 x0 G1) fun x2 =>
  bS (e.ev.cl 70 [x2, v1] G1) fun x3 G4 =>
  bP (pExtract x3 0) fun x5 =>
  bP (pExtract x3 1) fun x6 =>
  bS (al Q q 119 z119 G4) fun x7 G8 =>
  bP (st Q q 119 4 x7 x5 G8) fun G9 =>
  bP (un Q q .not x6) fun x10 =>
  ifV x10 (
  some ((.slice none 0 0), G9)) (
  bP (lda Q q 119 4 x7 G9) fun x11 =>
  bS (e.ev.cl 71 [x11, v2] G9) fun x12 G13 =>
  some (x12, G13))
theorem m22 {e : Ex} {E : Ev} (h : ExLe Q e E) (v0 v1 v2 : Value) (G : GS) : Ref (s22 true e v0 v1 v2 G) (s22 false (Ex.of E) v0 v1 v2 G) := by
  unfold s22
  exact Ref.gq
theorem f22 {orc : FuncId → Bool} {e : Ex} (h : ExLe Q e (E orc)) (v0 v1 v2 : Value) (G : GS) : Ref (s22 true e v0 v1 v2 G) ((E orc).cl 22 [v0, v1, v2] G) :=
  fun r hr => cl_sxE_some Q orc (vs := [v0, v1, v2]) G Tryz.func22 (by kernel_rfl) (by kernel_rfl) (by kernel_rfl) (by kernel_rfl) (by kernel_rfl) (by kernel_rfl) (m22 h v0 v1 v2 G r hr)
/-- coxswain/mail.Empty -/
noncomputable def s23 (q : Bool) (e : Ex) (v0 v1 : Value) (G : GS) : Option (Value × GS) :=
  bS (bx q v0 G) fun x0 G1 =>
  bS (bx q v1 G1) fun x2 G3 =>
  bS (al Q q 4 z4 G3) fun x4 G5 =>
  bP (lda Q q 23 3 x0 G5) fun x6 =>
  bS (e.ev.cl 42 [x6] G5) fun x7 G8 =>
  bP (un Q q .not x7) fun x9 =>
  ifV x9 (
  bP (st Q q 4 1 x4 (.bool true) G8) fun G10 =>
  bP (ld Q q 4 x4 G10) fun x11 =>
  some (x11, G10)) (
  bP (lda Q q 23 3 x0 G8) fun x12 =>
  bS (e.ev.cl 48 [x12] G8) fun x13 G14 =>
  bX (xRange e.ev x13 #[12, 13] (subAt [1, 1, 0, 1, 0, 0] (bodyOf Tryz.f23)) (subAt [1, 1, 0, 1, 0, 1] (bodyOf Tryz.f23)) (lsq q 19 (nth undef [v0, v1]) [(11, x13), (10, x12), (9, x9), (8, x7), (7, x6), (4, x4), (3, x2), (2, x0)]) G14) fun e15 T16 G17 =>
  bV q (nth undef T16 4) fun T16x4_ =>
  ifE e15 .normal (
  bP (st Q q 4 1 T16x4_ (.bool true) G17) fun G18 =>
  bP (ld Q q 4 T16x4_ G18) fun x19 =>
  some (x19, G18)) (ifE e15 .ret (
  bP (ld Q q 4 T16x4_ G17) fun x20 =>
  some (x20, G17)) (none)))
theorem m23 {e : Ex} {E : Ev} (h : ExLe Q e E) (v0 v1 : Value) (G : GS) : Ref (s23 true e v0 v1 G) (s23 false (Ex.of E) v0 v1 G) := by
  unfold s23
  exact Ref.gq
theorem f23 {orc : FuncId → Bool} {e : Ex} (h : ExLe Q e (E orc)) (v0 v1 : Value) (G : GS) : Ref (s23 true e v0 v1 G) ((E orc).cl 23 [v0, v1] G) :=
  fun r hr => cl_sxE_some Q orc (vs := [v0, v1]) G Tryz.func23 (by kernel_rfl) (by kernel_rfl) (by kernel_rfl) (by kernel_rfl) (by kernel_rfl) (by kernel_rfl) (m23 h v0 v1 G r hr)
noncomputable def r23_0 (q : Bool) (e : Ex) (l : Nat) (τ : Env) (u0 u1 : Value) (G : GS) : Option (Value × GS) :=
  bV q (τ 3) fun a3_ =>
  bV q (τ 4) fun a4_ =>
  bS (al Q q 119 z119 G) fun x0 G1 =>
  bP (st Q q 119 4 x0 u1 G1) fun G2 =>
  bP (G2.loop l) fun r3 => if r3.st = .ready then
  bP (lda Q q 119 4 x0 (G2.putLoop l (Lp.setSt r3 .busy))) fun x4 =>
  bP (ld Q q 30 a3_ (G2.putLoop l (Lp.setSt r3 .busy))) fun x5 =>
  bS (e.ev.cl 65 [x4, x5] (G2.putLoop l (Lp.setSt r3 .busy))) fun x6 G7 =>
  bP (ln Q q 52 x6) fun x8 =>
  bP (bn Q q .gtr 3 (.tmp 17) (.const (.int .i64 0)) x8 (.int .i64 0)) fun x9 =>
  ifV x9 (
  bP (st Q q 4 1 a4_ (.bool false) G7) fun G10 =>
  roundEnd l .ret G10) (
  roundEnd l .normal G7)
  else none
theorem mr23_0 {e : Ex} {E : Ev} (h : ExLe Q e E) (l : Nat) (τ : Env) (u0 u1 : Value) (G : GS) : Ref (r23_0 true e l τ u0 u1 G) (r23_0 false (Ex.of E) l τ u0 u1 G) := by
  unfold r23_0
  repeat' (with_reducible first | exact Ref.rfl' _ | exact ROp.r | refine Ref.bP ?_ fun _ => ?_ | refine Ref.bS ?_ fun _ _ => ?_ | exact Ref.cl (by assumption) | refine Ref.ifV ?_ ?_ | refine LpLe.rx (by assumption) ?_ | refine Ref.xitq ?_ | exact UOk.z | refine UOk.c (by assumption) ?_ | exact Ref.nil _ | refine Ref.bVe fun _ _ => ?_ | refine Ref.bLq (by assumption) ?_ fun _ _ _ => ?_ | refine Ref.ifE ?_ ?_ | refine Ref.chk ?_ ?_ | refine Imp.and ?_ ?_ | refine Imp.or ?_ | exact Imp.rfl' _ | refine Imp.sameO ?_ | refine Ref.gd ?_ | exact Ref.cValue (by assumption) | refine Ref.bX ?_ fun _ _ _ => ?_ | exact Ref.scQ (by assumption) | exact Ref.xRangeQ (by assumption) | exact Ref.cInvoke (by assumption) | refine Ref.rdy ?_)
theorem d23_0 {orc : FuncId → Bool} {e : Ex} (h : ExLe Q e (E orc)) (l : Nat) (T : List Value) (u0 u1 : Value) (G : GS) {st : LoopState} {pend : Option Code} (hl : G.loop l = some ⟨st, pend, T, [12, 13], (subAt [1, 1, 0, 1, 0, 0] (bodyOf Tryz.f23)), (subAt [1, 1, 0, 1, 0, 1] (bodyOf Tryz.f23))⟩) (hT : T.length = 19) : Ref (r23_0 true e l (nth undef T) u0 u1 G) ((E orc).rd l [u0, u1] G) :=
  fun r hr => rd_sxE Q orc hl (by kernel_rfl) hT (by kernel_rfl) (mr23_0 h l _ u0 u1 G r hr)
noncomputable def b24_0 (q : Bool) (e : Ex) (lp : Env → GS → Option (Exit × Env × GS)) (τ : Env) (G : GS) : Option (Exit × Env × GS) :=
  bV q (τ 1) fun a1_ =>
  bV q (τ 2) fun a2_ =>
  bV q (τ 5) fun a5_ =>
  bP (fa Q q 23 1 1 a2_) fun x0 =>
  bP (ld Q q 3 x0 G) fun x1 =>
  bP (bn Q q .lss 3 (.tmp 6) (.tmp 8) a5_ x1) fun x2 =>
  bS (gd x2 true (bP (lda Q q 23 3 a2_ G) fun y => some (y, G)) G) fun x3 G4 =>
  bS (gd x2 true (bS (e.ev.cl 43 [x3] G4) fun y G => some (y, G)) G4) fun x5 G6 =>
  bP (pickV x2 x5 (.bool false)) fun x7 =>
  ifV x7 (
  bP (lda Q q 23 3 a2_ G6) fun x8 =>
  bS (e.ev.cl 22 [x8, a5_, a1_] G6) fun x9 G10 =>
  bP (ln Q q 52 x9) fun x11 =>
  bP (bn Q q .gtr 3 (.tmp 20) (.const (.int .i64 0)) x11 (.int .i64 0)) fun x12 =>
  ifV x12 (
  some (.ret, xq q 22 τ [(4, (.bool false)), (21, x12), (20, x11), (19, x9), (18, a1_), (17, a5_), (16, x8), (13, x7), (12, x5), (11, x3), (10, x2), (9, x2), (8, x1), (7, x0), (6, a5_)] [(1, a1_), (2, a2_), (5, a5_)], G10)) (
  bP (bn Q q .add 3 (.tmp 14) (.const (.int .i64 1)) a5_ (.int .i64 1)) fun x13 =>
  lp (xq q 22 τ [(5, x13), (15, x13), (14, a5_), (21, x12), (20, x11), (19, x9), (18, a1_), (17, a5_), (16, x8), (13, x7), (12, x5), (11, x3), (10, x2), (9, x2), (8, x1), (7, x0), (6, a5_)] [(1, a1_), (2, a2_)]) G10)) (
  some ((.exit 0), xq q 22 τ [(13, x7), (12, x5), (11, x3), (10, x2), (9, x2), (8, x1), (7, x0), (6, a5_)] [(1, a1_), (2, a2_), (5, a5_)], G6))
theorem mb24_0 {e : Ex} {E : Ev} (h : ExLe Q e E) {lp lp' : Env → GS → Option (Exit × Env × GS)} (hlp : LpLe lp lp') (τ : Env) (G : GS) : Ref (b24_0 true e lp τ G) (b24_0 false (Ex.of E) lp' τ G) := by
  unfold b24_0
  exact Ref.gq
theorem l24_0 {orc : FuncId → Bool} {e : Ex} (h : ExLe Q e (E orc)) (lp : Env → GS → Option (Exit × Env × GS)) (hlp : ∀ τ G, Ref (lp τ G) (mapE ((E orc).lp (subAt [1, 0, 1, 0, 0] (bodyOf Tryz.f24)) (lst 22 τ) G))) (T : List Value) (G : GS) (hT : T.length = 22) : Ref (b24_0 true e lp (nth undef T) G) (mapE ((E orc).lp (subAt [1, 0, 1, 0, 0] (bodyOf Tryz.f24)) T G)) :=
  fun r hr => lp_sxN Q orc G hT (by kernel_rfl) (mb24_0 h ⟨hlp⟩ _ _ r hr)
/-- coxswain/coxswainref25.Empty -/
noncomputable def s24 (q : Bool) (e : Ex) (v0 v1 : Value) (G : GS) : Option (Value × GS) :=
  bS (bx q v0 G) fun x0 G1 =>
  bLq q e 24 0 (subAt [1, 0, 1, 0, 0] (bodyOf Tryz.f24)) 22 (nth undef [v0, v1]) [(5, (.int .i64 0)), (4, (.bool false)), (2, x0)] [] G1 fun e2 t3 G4 =>
  bV q (t3 4) fun t3x4_ =>
  ifE e2 (.exit 0) (
  some ((.bool true), G4)) (ifE e2 .ret (
  some (t3x4_, G4)) (none))
theorem m24 {e : Ex} {E : Ev} (h : ExLe Q e E) (v0 v1 : Value) (G : GS) : Ref (s24 true e v0 v1 G) (s24 false (Ex.of E) v0 v1 G) := by
  unfold s24
  exact Ref.gq
theorem f24 {orc : FuncId → Bool} {e : Ex} (h : ExLe Q e (E orc)) (v0 v1 : Value) (G : GS) : Ref (s24 true e v0 v1 G) ((E orc).cl 24 [v0, v1] G) :=
  fun r hr => cl_sxE_some Q orc (vs := [v0, v1]) G Tryz.func24 (by kernel_rfl) (by kernel_rfl) (by kernel_rfl) (by kernel_rfl) (by kernel_rfl) (by kernel_rfl) (m24 h v0 v1 G r hr)
/-- (*coxswain/cells.Mem).Last -/
noncomputable def s25 (q : Bool) (e : Ex) (v0 : Value) (G : GS) : Option (Value × GS) :=
  bS (al Q q 59 z59 G) fun x0 G1 =>
  bP (ep Q q false 30 (.tmp 3) (.const (.pointer none)) v0 (.pointer none)) fun x2 =>
  ifV x2 (
  bP (bd Q q 59 z59 [] []) fun x3 =>
  bP (st Q q 59 5 x0 x3 G1) fun G4 =>
  bP (lda Q q 59 5 x0 G4) fun x5 =>
  some (x5, G4)) (
  bP (pNil v0) fun x6 =>
  bP (fa Q q 112 2 2 x6) fun x7 =>
  bP (lda Q q 59 5 x7 G1) fun x8 =>
  bP (st Q q 59 5 x0 x8 G1) fun G9 =>
  bP (lda Q q 59 5 x0 G9) fun x10 =>
  some (x10, G9))
theorem m25 {e : Ex} {E : Ev} (h : ExLe Q e E) (v0 : Value) (G : GS) : Ref (s25 true e v0 G) (s25 false (Ex.of E) v0 G) := by
  unfold s25
  exact Ref.gq
theorem f25 {orc : FuncId → Bool} {e : Ex} (h : ExLe Q e (E orc)) (v0 : Value) (G : GS) : Ref (s25 true e v0 G) ((E orc).cl 25 [v0] G) :=
  fun r hr => cl_sxE_some Q orc (vs := [v0]) G Tryz.func25 (by kernel_rfl) (by kernel_rfl) (by kernel_rfl) (by kernel_rfl) (by kernel_rfl) (by kernel_rfl) (m25 h v0 G r hr)
/-- (*coxswain/coxswainref02.Mem).Last -/
noncomputable def s26 (q : Bool) (e : Ex) (v0 : Value) (G : GS) : Option (Value × GS) :=
  bS (al Q q 59 z59 G) fun x0 G1 =>
  bP (pNil v0) fun x2 =>
  bP (fa Q q 114 1 1 x2) fun x3 =>
  bP (lda Q q 59 5 x3 G1) fun x4 =>
  bP (st Q q 59 5 x0 x4 G1) fun G5 =>
  bP (lda Q q 59 5 x0 G5) fun x6 =>
  some (x6, G5)
theorem m26 {e : Ex} {E : Ev} (h : ExLe Q e E) (v0 : Value) (G : GS) : Ref (s26 true e v0 G) (s26 false (Ex.of E) v0 G) := by
  unfold s26
  exact Ref.gq
theorem f26 {orc : FuncId → Bool} {e : Ex} (h : ExLe Q e (E orc)) (v0 : Value) (G : GS) : Ref (s26 true e v0 G) ((E orc).cl 26 [v0] G) :=
  fun r hr => cl_sxE_some Q orc (vs := [v0]) G Tryz.func26 (by kernel_rfl) (by kernel_rfl) (by kernel_rfl) (by kernel_rfl) (by kernel_rfl) (by kernel_rfl) (m26 h v0 G r hr)
/-- (*coxswain/cells.Mem).Count -/
noncomputable def s27 (q : Bool) (e : Ex) (v0 : Value) (G : GS) : Option (Value × GS) :=
  bP (ep Q q false 30 (.tmp 3) (.const (.pointer none)) v0 (.pointer none)) fun x0 =>
  ifV x0 (
  some ((.int .i64 0), G)) (
  bP (pNil v0) fun x1 =>
  bP (fa Q q 112 3 7 x1) fun x2 =>
  bP (ld Q q 3 x2 G) fun x3 =>
  some (x3, G))
theorem m27 {e : Ex} {E : Ev} (h : ExLe Q e E) (v0 : Value) (G : GS) : Ref (s27 true e v0 G) (s27 false (Ex.of E) v0 G) := by
  unfold s27
  exact Ref.gq
theorem f27 {orc : FuncId → Bool} {e : Ex} (h : ExLe Q e (E orc)) (v0 : Value) (G : GS) : Ref (s27 true e v0 G) ((E orc).cl 27 [v0] G) :=
  fun r hr => cl_sxE_some Q orc (vs := [v0]) G Tryz.func27 (by kernel_rfl) (by kernel_rfl) (by kernel_rfl) (by kernel_rfl) (by kernel_rfl) (by kernel_rfl) (m27 h v0 G r hr)
/-- (*coxswain/coxswainref02.Mem).Count -/
noncomputable def s28 (q : Bool) (e : Ex) (v0 : Value) (G : GS) : Option (Value × GS) :=
  bP (pNil v0) fun x0 =>
  bP (fa Q q 114 2 6 x0) fun x1 =>
  bP (ld Q q 3 x1 G) fun x2 =>
  some (x2, G)
theorem m28 {e : Ex} {E : Ev} (h : ExLe Q e E) (v0 : Value) (G : GS) : Ref (s28 true e v0 G) (s28 false (Ex.of E) v0 G) := by
  unfold s28
  exact Ref.gq
theorem f28 {orc : FuncId → Bool} {e : Ex} (h : ExLe Q e (E orc)) (v0 : Value) (G : GS) : Ref (s28 true e v0 G) ((E orc).cl 28 [v0] G) :=
  fun r hr => cl_sxE_some Q orc (vs := [v0]) G Tryz.func28 (by kernel_rfl) (by kernel_rfl) (by kernel_rfl) (by kernel_rfl) (by kernel_rfl) (by kernel_rfl) (m28 h v0 G r hr)
noncomputable def b29_0 (q : Bool) (e : Ex) (lp : Env → GS → Option (Exit × Env × GS)) (τ : Env) (G : GS) : Option (Exit × Env × GS) :=
  bV q (τ 0) fun a0_ =>
  bV q (τ 1) fun a1_ =>
  bV q (τ 5) fun a5_ =>
  bV q (τ 6) fun a6_ =>
  bS (gd a5_ true (some (a6_, G)) G) fun x0 G1 =>
  bS (gd a5_ true (some (a0_, G1)) G1) fun x2 G3 =>
  bS (gd a5_ true (bP (ln Q q 24 x2) fun y => some (y, G3)) G3) fun x4 G5 =>
  bS (gd a5_ true (bP (bn Q q .lss 3 (.tmp 14) (.tmp 16) x0 x4) fun y => some (y, G5)) G5) fun x6 G7 =>
  bP (pickV a5_ x6 (.bool false)) fun x8 =>
  ifV x8 (
  bP (ias Q q 24 1 a0_ a6_) fun x9 =>
  bP (ld Q q 39 x9 (G7.room 10)) fun x10 =>
  bP (ias Q q 24 1 a1_ a6_) fun x11 =>
  bP (ld Q q 39 x11 (G7.room 10)) fun x12 =>
  bP (bn Q q .eql 39 (.tmp 24) (.tmp 28) x10 x12) fun x13 =>
  bP (bn Q q .add 3 (.tmp 19) (.const (.int .i64 1)) a6_ (.int .i64 1)) fun x14 =>
  lp (xq q 31 τ [(6, x14), (20, x14), (19, a6_), (5, x13), (29, x13), (28, x12), (27, x11), (26, a6_), (25, a1_), (24, x10), (23, x9), (22, a6_), (21, a0_), (18, x8), (17, x6), (16, x4), (15, x2), (14, x0), (13, a5_), (12, a5_)] [(0, a0_), (1, a1_)]) (G7.room 10)) (
  some ((.exit 0), xq q 31 τ [(18, x8), (17, x6), (16, x4), (15, x2), (14, x0), (13, a5_), (12, a5_)] [(0, a0_), (1, a1_), (5, a5_), (6, a6_)], G7))
theorem mb29_0 {e : Ex} {E : Ev} (h : ExLe Q e E) {lp lp' : Env → GS → Option (Exit × Env × GS)} (hlp : LpLe lp lp') (τ : Env) (G : GS) : Ref (b29_0 true e lp τ G) (b29_0 false (Ex.of E) lp' τ G) := by
  unfold b29_0
  exact Ref.gq
theorem l29_0 {orc : FuncId → Bool} {e : Ex} (h : ExLe Q e (E orc)) (lp : Env → GS → Option (Exit × Env × GS)) (hlp : ∀ τ G, Ref (lp τ G) (mapE ((E orc).lp (subAt [1, 1, 0, 1, 0, 0] (bodyOf Tryz.f29)) (lst 31 τ) G))) (T : List Value) (G : GS) (hT : T.length = 31) : Ref (b29_0 true e lp (nth undef T) G) (mapE ((E orc).lp (subAt [1, 1, 0, 1, 0, 0] (bodyOf Tryz.f29)) T G)) :=
  fun r hr => lp_sxN Q orc G hT (by kernel_rfl) (mb29_0 h ⟨hlp⟩ _ _ r hr)
/-- coxswain/coxswainkit.SameWords -/
noncomputable def s29 (q : Bool) (e : Ex) (v0 v1 : Value) (G : GS) : Option (Value × GS) :=
  bP (ln Q q 24 v0) fun x0 =>
  bP (ln Q q 24 v1) fun x1 =>
  bP (bn Q q .eql 3 (.tmp 8) (.tmp 10) x0 x1) fun x2 =>
  bLq q e 29 0 (subAt [1, 1, 0, 1, 0, 0] (bodyOf Tryz.f29)) 31 (nth undef [v0, v1]) [(6, (.int .i64 0)), (5, x2), (11, x2), (10, x1), (9, v1), (8, x0), (7, v0), (4, (.bool false))] [] G fun e3 t4 G5 =>
  bV q (t4 5) fun t4x5_ =>
  ifE e3 (.exit 0) (
  some (t4x5_, G5)) (none)
theorem m29 {e : Ex} {E : Ev} (h : ExLe Q e E) (v0 v1 : Value) (G : GS) : Ref (s29 true e v0 v1 G) (s29 false (Ex.of E) v0 v1 G) := by
  unfold s29
  exact Ref.gq
theorem f29 {orc : FuncId → Bool} {e : Ex} (h : ExLe Q e (E orc)) (v0 v1 : Value) (G : GS) : Ref (s29 true e v0 v1 G) ((E orc).cl 29 [v0, v1] G) :=
  fun r hr => cl_sxE_some Q orc (vs := [v0, v1]) G Tryz.func29 (by kernel_rfl) (by kernel_rfl) (by kernel_rfl) (by kernel_rfl) (by kernel_rfl) (by kernel_rfl) (m29 h v0 v1 G r hr)
noncomputable def b30_0 (q : Bool) (e : Ex) (lp : Env → GS → Option (Exit × Env × GS)) (τ : Env) (G : GS) : Option (Exit × Env × GS) :=
  bV q (τ 3) fun a3_ =>
  bV q (τ 29) fun a29_ =>
  bV q (τ 30) fun a30_ =>
  bV q (τ 31) fun a31_ =>
  bP (bn Q q .lss 3 (.tmp 31) (.tmp 30) a31_ a30_) fun x0 =>
  ifV x0 (
  bP (ias Q q 143 1 a29_ a31_) fun x1 =>
  bP (ld Q q 108 x1 G) fun x2 =>
  bP (ias Q q 24 1 a3_ a31_) fun x3 =>
  bP (st Q q 39 1 x3 x2 G) fun G4 =>
  bP (bn Q q .add 3 (.tmp 31) (.const (.int .i64 1)) a31_ (.int .i64 1)) fun x5 =>
  lp (xq q 42 τ [(31, x5), (40, x5), (39, x3), (38, x2), (37, a31_), (36, a3_), (5, x2), (4, a31_), (35, x2), (34, x1), (33, a31_), (32, x0)] [(3, a3_), (29, a29_), (30, a30_)]) G4) (
  some ((.exit 0), xq q 42 τ [(32, x0)] [(3, a3_), (29, a29_), (30, a30_), (31, a31_)], G))
theorem mb30_0 {e : Ex} {E : Ev} (h : ExLe Q e E) {lp lp' : Env → GS → Option (Exit × Env × GS)} (hlp : LpLe lp lp') (τ : Env) (G : GS) : Ref (b30_0 true e lp τ G) (b30_0 false (Ex.of E) lp' τ G) := by
  unfold b30_0
  exact Ref.gq
theorem l30_0 {orc : FuncId → Bool} {e : Ex} (h : ExLe Q e (E orc)) (lp : Env → GS → Option (Exit × Env × GS)) (hlp : ∀ τ G, Ref (lp τ G) (mapE ((E orc).lp (subAt [1, 1, 1, 0, 1, 0, 0] (bodyOf Tryz.f30)) (lst 42 τ) G))) (T : List Value) (G : GS) (hT : T.length = 42) : Ref (b30_0 true e lp (nth undef T) G) (mapE ((E orc).lp (subAt [1, 1, 1, 0, 1, 0, 0] (bodyOf Tryz.f30)) T G)) :=
  fun r hr => lp_sxN Q orc G hT (by kernel_rfl) (mb30_0 h ⟨hlp⟩ _ _ r hr)
/-- (*coxswain/cells.Mem).Words -/
noncomputable def s30 (q : Bool) (e : Ex) (v0 : Value) (G : GS) : Option (Value × GS) :=
  bP (ep Q q false 30 (.tmp 6) (.const (.pointer none)) v0 (.pointer none)) fun x0 =>
  bS (gd x0 false (some (v0, G)) G) fun x1 G2 =>
  bS (gd x0 false (bP (pNil x1) fun y => some (y, G2)) G2) fun x3 G4 =>
  bS (gd x0 false (bP (fa Q q 112 0 0 x3) fun y => some (y, G4)) G4) fun x5 G6 =>
  bS (gd x0 false (bP (ld Q q 107 x5 G6) fun y => some (y, G6)) G6) fun x7 G8 =>
  bS (gd x0 false (bP (ep Q q false 107 (.tmp 12) (.const (.pointer none)) x7 (.pointer none)) fun y => some (y, G8)) G8) fun x9 G10 =>
  bP (pickV x0 (.bool true) x9) fun x11 =>
  ifV x11 (
  some ((.slice none 0 0), G10)) (
  bP (pNil v0) fun x12 =>
  bP (fa Q q 112 1 1 x12) fun x13 =>
  bP (ld Q q 3 x13 G10) fun x14 =>
  bS (mk Q q 24 1 8 z39 x14 x14 G10) fun x15 G16 =>
  bP (pNil v0) fun x17 =>
  bP (fa Q q 112 0 0 x17) fun x18 =>
  bP (ld Q q 107 x18 (G16.room 12)) fun x19 =>
  bP (pNil x19) fun x20 =>
  bP (pNil v0) fun x21 =>
  bP (fa Q q 112 1 1 x21) fun x22 =>
  bP (ld Q q 3 x22 (G16.room 12)) fun x23 =>
  bP (sla Q q 110 4096 1 x20 none (some x23) none (G16.room 12)) fun x24 =>
  bP (ln Q q 143 x24) fun x25 =>
  bLq q e 30 0 (subAt [1, 1, 1, 0, 1, 0, 0] (bodyOf Tryz.f30)) 42 (nth undef [v0]) [(31, (.int .i64 0)), (30, x25), (29, x24), (28, x23), (27, x22), (26, x21), (25, v0), (24, x20), (23, x19), (22, x18), (21, x17), (20, v0), (3, x15), (19, x15), (18, x14), (17, x13), (16, x12), (15, v0), (14, x11), (13, x9), (12, x7), (11, x5), (10, x3), (9, x1), (8, x0), (7, x0), (6, v0), (2, (.slice none 0 0))] [] (G16.room 12) fun e26 t27 G28 =>
  bV q (t27 3) fun t27x3_ =>
  ifE e26 (.exit 0) (
  some (t27x3_, G28)) (none))
theorem m30 {e : Ex} {E : Ev} (h : ExLe Q e E) (v0 : Value) (G : GS) : Ref (s30 true e v0 G) (s30 false (Ex.of E) v0 G) := by
  unfold s30
  exact Ref.gq
theorem f30 {orc : FuncId → Bool} {e : Ex} (h : ExLe Q e (E orc)) (v0 : Value) (G : GS) : Ref (s30 true e v0 G) ((E orc).cl 30 [v0] G) :=
  fun r hr => cl_sxE_some Q orc (vs := [v0]) G Tryz.func30 (by kernel_rfl) (by kernel_rfl) (by kernel_rfl) (by kernel_rfl) (by kernel_rfl) (by kernel_rfl) (m30 h v0 G r hr)
/-- (*coxswain/coxswainref02.Mem).Words -/
noncomputable def s31 (q : Bool) (e : Ex) (v0 : Value) (G : GS) : Option (Value × GS) :=
  bP (pNil v0) fun x0 =>
  bP (fa Q q 114 0 0 x0) fun x1 =>
  bP (ld Q q 24 x1 G) fun x2 =>
  bS (e.ev.cl 72 [x2] G) fun x3 G4 =>
  some (x3, G4)
theorem m31 {e : Ex} {E : Ev} (h : ExLe Q e E) (v0 : Value) (G : GS) : Ref (s31 true e v0 G) (s31 false (Ex.of E) v0 G) := by
  unfold s31
  exact Ref.gq
theorem f31 {orc : FuncId → Bool} {e : Ex} (h : ExLe Q e (E orc)) (v0 : Value) (G : GS) : Ref (s31 true e v0 G) ((E orc).cl 31 [v0] G) :=
  fun r hr => cl_sxE_some Q orc (vs := [v0]) G Tryz.func31 (by kernel_rfl) (by kernel_rfl) (by kernel_rfl) (by kernel_rfl) (by kernel_rfl) (by kernel_rfl) (m31 h v0 G r hr)
noncomputable def b32_0 (q : Bool) (e : Ex) (lp : Env → GS → Option (Exit × Env × GS)) (τ : Env) (G : GS) : Option (Exit × Env × GS) :=
  bV q (τ 0) fun a0_ =>
  bV q (τ 2) fun a2_ =>
  bP (ln Q q 52 a0_) fun x0 =>
  bP (bn Q q .lss 3 (.tmp 3) (.tmp 5) a2_ x0) fun x1 =>
  ifV x1 (
  bP (ias Q q 52 1 a0_ a2_) fun x2 =>
  bP (st Q q 3 1 x2 (.int .i64 (-77)) G) fun G3 =>
  bP (bn Q q .add 3 (.tmp 7) (.const (.int .i64 1)) a2_ (.int .i64 1)) fun x4 =>
  lp (xq q 12 τ [(2, x4), (8, x4), (7, a2_), (11, x2), (10, a2_), (9, a0_), (6, x1), (5, x0), (4, a0_), (3, a2_)] [(0, a0_)]) G3) (
  some ((.exit 0), xq q 12 τ [(6, x1), (5, x0), (4, a0_), (3, a2_)] [(0, a0_), (2, a2_)], G))
theorem mb32_0 {e : Ex} {E : Ev} (h : ExLe Q e E) {lp lp' : Env → GS → Option (Exit × Env × GS)} (hlp : LpLe lp lp') (τ : Env) (G : GS) : Ref (b32_0 true e lp τ G) (b32_0 false (Ex.of E) lp' τ G) := by
  unfold b32_0
  exact Ref.gq
theorem l32_0 {orc : FuncId → Bool} {e : Ex} (h : ExLe Q e (E orc)) (lp : Env → GS → Option (Exit × Env × GS)) (hlp : ∀ τ G, Ref (lp τ G) (mapE ((E orc).lp (subAt [1, 0, 0] (bodyOf Tryz.f32)) (lst 12 τ) G))) (T : List Value) (G : GS) (hT : T.length = 12) : Ref (b32_0 true e lp (nth undef T) G) (mapE ((E orc).lp (subAt [1, 0, 0] (bodyOf Tryz.f32)) T G)) :=
  fun r hr => lp_sxN Q orc G hT (by kernel_rfl) (mb32_0 h ⟨hlp⟩ _ _ r hr)
/-- coxswain/coxswainkit.OverInts -/
noncomputable def s32 (q : Bool) (e : Ex) (v0 : Value) (G : GS) : Option (Value × GS) :=
  bLq q e 32 0 (subAt [1, 0, 0] (bodyOf Tryz.f32)) 12 (nth undef [v0]) [(2, (.int .i64 0))] [] G fun e0 t1 G2 =>
  ifE e0 (.exit 0) (
  some (.tuple #[], G2)) (none)
theorem m32 {e : Ex} {E : Ev} (h : ExLe Q e E) (v0 : Value) (G : GS) : Ref (s32 true e v0 G) (s32 false (Ex.of E) v0 G) := by
  unfold s32
  exact Ref.gq
theorem f32 {orc : FuncId → Bool} {e : Ex} (h : ExLe Q e (E orc)) (v0 : Value) (G : GS) : Ref (s32 true e v0 G) ((E orc).cl 32 [v0] G) :=
  fun r hr => cl_sxE_some Q orc (vs := [v0]) G Tryz.func32 (by kernel_rfl) (by kernel_rfl) (by kernel_rfl) (by kernel_rfl) (by kernel_rfl) (by kernel_rfl) (m32 h v0 G r hr)
/-- coxswain/mail.placed -/
noncomputable def s42 (q : Bool) (e : Ex) (v0 : Value) (G : GS) : Option (Value × GS) :=
  bS (bx q v0 G) fun x0 G1 =>
  bP (lda Q q 23 3 x0 G1) fun x2 =>
  bS (e.ev.cl 44 [x2] G1) fun x3 G4 =>
  bS (gd x3 true (bP (fa Q q 23 0 0 x0) fun y => some (y, G4)) G4) fun x5 G6 =>
  bS (gd x3 true (bP (ld Q q 3 x5 G6) fun y => some (y, G6)) G6) fun x7 G8 =>
  bS (gd x3 true (bP (bn Q q .geq 3 (.tmp 7) (.const (.int .i64 0)) x7 (.int .i64 0)) fun y => some (y, G8)) G8) fun x9 G10 =>
  bP (pickV x3 x9 (.bool false)) fun x11 =>
  bS (gd x11 true (bP (fa Q q 23 0 0 x0) fun y => some (y, G10)) G10) fun x12 G13 =>
  bS (gd x11 true (bP (ld Q q 3 x12 G13) fun y => some (y, G13)) G13) fun x14 G15 =>
  bS (gd x11 true (bP (bn Q q .lss 3 (.tmp 12) (.const (.int .i64 4096)) x14 (.int .i64 4096)) fun y => some (y, G15)) G15) fun x16 G17 =>
  bP (pickV x11 x16 (.bool false)) fun x18 =>
  some (x18, G17)
theorem m42 {e : Ex} {E : Ev} (h : ExLe Q e E) (v0 : Value) (G : GS) : Ref (s42 true e v0 G) (s42 false (Ex.of E) v0 G) := by
  unfold s42
  exact Ref.gq
theorem f42 {orc : FuncId → Bool} {e : Ex} (h : ExLe Q e (E orc)) (v0 : Value) (G : GS) : Ref (s42 true e v0 G) ((E orc).cl 42 [v0] G) :=
  fun r hr => cl_sxE_some Q orc (vs := [v0]) G Tryz.func42 (by kernel_rfl) (by kernel_rfl) (by kernel_rfl) (by kernel_rfl) (by kernel_rfl) (by kernel_rfl) (m42 h v0 G r hr)
/-- coxswain/coxswainref25.right -/
noncomputable def s43 (q : Bool) (e : Ex) (v0 : Value) (G : GS) : Option (Value × GS) :=
  bS (bx q v0 G) fun x0 G1 =>
  bP (fa Q q 23 1 1 x0) fun x2 =>
  bP (ld Q q 3 x2 G1) fun x3 =>
  bP (bn Q q .geq 3 (.tmp 4) (.const (.int .i64 1)) x3 (.int .i64 1)) fun x4 =>
  bS (gd x4 true (bP (fa Q q 23 1 1 x0) fun y => some (y, G1)) G1) fun x5 G6 =>
  bS (gd x4 true (bP (ld Q q 3 x5 G6) fun y => some (y, G6)) G6) fun x7 G8 =>
  bS (gd x4 true (bP (bn Q q .leq 3 (.tmp 8) (.const (.int .i64 64)) x7 (.int .i64 64)) fun y => some (y, G8)) G8) fun x9 G10 =>
  bP (pickV x4 x9 (.bool false)) fun x11 =>
  bS (gd x11 true (bP (fa Q q 23 2 2 x0) fun y => some (y, G10)) G10) fun x12 G13 =>
  bS (gd x11 true (bP (ld Q q 3 x12 G13) fun y => some (y, G13)) G13) fun x14 G15 =>
  bS (gd x11 true (bP (bn Q q .geq 3 (.tmp 13) (.const (.int .i64 1)) x14 (.int .i64 1)) fun y => some (y, G15)) G15) fun x16 G17 =>
  bP (pickV x11 x16 (.bool false)) fun x18 =>
  bS (gd x18 true (bP (fa Q q 23 2 2 x0) fun y => some (y, G17)) G17) fun x19 G20 =>
  bS (gd x18 true (bP (ld Q q 3 x19 G20) fun y => some (y, G20)) G20) fun x21 G22 =>
  bS (gd x18 true (bP (bn Q q .leq 3 (.tmp 18) (.const (.int .i64 16)) x21 (.int .i64 16)) fun y => some (y, G22)) G22) fun x23 G24 =>
  bP (pickV x18 x23 (.bool false)) fun x25 =>
  some (x25, G24)
theorem m43 {e : Ex} {E : Ev} (h : ExLe Q e E) (v0 : Value) (G : GS) : Ref (s43 true e v0 G) (s43 false (Ex.of E) v0 G) := by
  unfold s43
  exact Ref.gq
theorem f43 {orc : FuncId → Bool} {e : Ex} (h : ExLe Q e (E orc)) (v0 : Value) (G : GS) : Ref (s43 true e v0 G) ((E orc).cl 43 [v0] G) :=
  fun r hr => cl_sxE_some Q orc (vs := [v0]) G Tryz.func43 (by kernel_rfl) (by kernel_rfl) (by kernel_rfl) (by kernel_rfl) (by kernel_rfl) (by kernel_rfl) (m43 h v0 G r hr)
/-- coxswain/mail.sized -/
noncomputable def s44 (q : Bool) (e : Ex) (v0 : Value) (G : GS) : Option (Value × GS) :=
  bS (bx q v0 G) fun x0 G1 =>
  bP (fa Q q 23 1 1 x0) fun x2 =>
  bP (ld Q q 3 x2 G1) fun x3 =>
  bP (bn Q q .geq 3 (.tmp 4) (.const (.int .i64 1)) x3 (.int .i64 1)) fun x4 =>
  bS (gd x4 true (bP (fa Q q 23 1 1 x0) fun y => some (y, G1)) G1) fun x5 G6 =>
  bS (gd x4 true (bP (ld Q q 3 x5 G6) fun y => some (y, G6)) G6) fun x7 G8 =>
  bS (gd x4 true (bP (bn Q q .leq 3 (.tmp 8) (.const (.int .i64 64)) x7 (.int .i64 64)) fun y => some (y, G8)) G8) fun x9 G10 =>
  bP (pickV x4 x9 (.bool false)) fun x11 =>
  bS (gd x11 true (bP (fa Q q 23 2 2 x0) fun y => some (y, G10)) G10) fun x12 G13 =>
  bS (gd x11 true (bP (ld Q q 3 x12 G13) fun y => some (y, G13)) G13) fun x14 G15 =>
  bS (gd x11 true (bP (bn Q q .geq 3 (.tmp 13) (.const (.int .i64 1)) x14 (.int .i64 1)) fun y => some (y, G15)) G15) fun x16 G17 =>
  bP (pickV x11 x16 (.bool false)) fun x18 =>
  bS (gd x18 true (bP (fa Q q 23 2 2 x0) fun y => some (y, G17)) G17) fun x19 G20 =>
  bS (gd x18 true (bP (ld Q q 3 x19 G20) fun y => some (y, G20)) G20) fun x21 G22 =>
  bS (gd x18 true (bP (bn Q q .leq 3 (.tmp 18) (.const (.int .i64 16)) x21 (.int .i64 16)) fun y => some (y, G22)) G22) fun x23 G24 =>
  bP (pickV x18 x23 (.bool false)) fun x25 =>
  some (x25, G24)
theorem m44 {e : Ex} {E : Ev} (h : ExLe Q e E) (v0 : Value) (G : GS) : Ref (s44 true e v0 G) (s44 false (Ex.of E) v0 G) := by
  unfold s44
  exact Ref.gq
theorem f44 {orc : FuncId → Bool} {e : Ex} (h : ExLe Q e (E orc)) (v0 : Value) (G : GS) : Ref (s44 true e v0 G) ((E orc).cl 44 [v0] G) :=
  fun r hr => cl_sxE_some Q orc (vs := [v0]) G Tryz.func44 (by kernel_rfl) (by kernel_rfl) (by kernel_rfl) (by kernel_rfl) (by kernel_rfl) (by kernel_rfl) (m44 h v0 G r hr)
/-- coxswain/mail.boxes -/
noncomputable def s48 (q : Bool) (e : Ex) (v0 : Value) (G : GS) : Option (Value × GS) :=
  bS (bx q v0 G) fun x0 G1 =>
  some ((.func (.func 101) #[] #[x0]), G1)
theorem m48 {e : Ex} {E : Ev} (h : ExLe Q e E) (v0 : Value) (G : GS) : Ref (s48 true e v0 G) (s48 false (Ex.of E) v0 G) := by
  unfold s48
  exact Ref.gq
theorem f48 {orc : FuncId → Bool} {e : Ex} (h : ExLe Q e (E orc)) (v0 : Value) (G : GS) : Ref (s48 true e v0 G) ((E orc).cl 48 [v0] G) :=
  fun r hr => cl_sxE_some Q orc (vs := [v0]) G Tryz.func48 (by kernel_rfl) (by kernel_rfl) (by kernel_rfl) (by kernel_rfl) (by kernel_rfl) (by kernel_rfl) (m48 h v0 G r hr)
noncomputable def b49_0 (q : Bool) (e : Ex) (lp : Env → GS → Option (Exit × Env × GS)) (τ : Env) (G : GS) : Option (Exit × Env × GS) :=
  bV q (τ 1) fun a1_ =>
  bV q (τ 2) fun a2_ =>
  bV q (τ 17) fun a17_ =>
  bV q (τ 18) fun a18_ =>
  bP (bn Q q .lss 3 (.tmp 18) (.tmp 17) a18_ a17_) fun x0 =>
  ifV x0 (
  bP (fa Q q 119 2 2 a2_) fun x1 =>
  bP (ld Q q 3 x1 G) fun x2 =>
  bP (bn Q q .add 3 (.tmp 23) (.tmp 24) x2 a18_) fun x3 =>
  bS (e.ev.cl 14 [a1_, x3, (.int .u64 0)] G) fun x4 G5 =>
  bP (bn Q q .add 3 (.tmp 18) (.const (.int .i64 1)) a18_ (.int .i64 1)) fun x6 =>
  lp (xq q 28 τ [(18, x6), (27, x6), (26, x4), (25, x3), (24, a18_), (23, x2), (22, x1), (21, a1_), (4, a18_), (20, a18_), (19, x0)] [(1, a1_), (2, a2_), (17, a17_)]) G5) (
  some ((.exit 0), xq q 28 τ [(19, x0)] [(1, a1_), (2, a2_), (17, a17_), (18, a18_)], G))
theorem mb49_0 {e : Ex} {E : Ev} (h : ExLe Q e E) {lp lp' : Env → GS → Option (Exit × Env × GS)} (hlp : LpLe lp lp') (τ : Env) (G : GS) : Ref (b49_0 true e lp τ G) (b49_0 false (Ex.of E) lp' τ G) := by
  unfold b49_0
  exact Ref.gq
theorem l49_0 {orc : FuncId → Bool} {e : Ex} (h : ExLe Q e (E orc)) (lp : Env → GS → Option (Exit × Env × GS)) (hlp : ∀ τ G, Ref (lp τ G) (mapE ((E orc).lp (subAt [1, 1, 1, 1, 1, 0, 0] (bodyOf Tryz.f49)) (lst 28 τ) G))) (T : List Value) (G : GS) (hT : T.length = 28) : Ref (b49_0 true e lp (nth undef T) G) (mapE ((E orc).lp (subAt [1, 1, 1, 1, 1, 0, 0] (bodyOf Tryz.f49)) T G)) :=
  fun r hr => lp_sxN Q orc G hT (by kernel_rfl) (mb49_0 h ⟨hlp⟩ _ _ r hr)
/-- coxswain/ring.Fill -/
noncomputable def s49 (q : Bool) (e : Ex) (v0 v1 : Value) (G : GS) : Option (Value × GS) :=
  bS (bx q v0 G) fun x0 G1 =>
  bP (lda Q q 119 4 x0 G1) fun x2 =>
  bS (e.ev.cl 102 [x2] G1) fun x3 G4 =>
  bP (un Q q .not x3) fun x5 =>
  ifV x5 (
  some (.tuple #[], G4)) (
  bP (fa Q q 119 0 0 x0) fun x6 =>
  bP (ld Q q 3 x6 G4) fun x7 =>
  bS (e.ev.cl 14 [v1, x7, (.int .u64 0)] G4) fun x8 G9 =>
  bP (fa Q q 119 1 1 x0) fun x10 =>
  bP (ld Q q 3 x10 G9) fun x11 =>
  bS (e.ev.cl 14 [v1, x11, (.int .u64 0)] G9) fun x12 G13 =>
  bP (fa Q q 119 3 3 x0) fun x14 =>
  bP (ld Q q 3 x14 G13) fun x15 =>
  bLq q e 49 0 (subAt [1, 1, 1, 1, 1, 0, 0] (bodyOf Tryz.f49)) 28 (nth undef [v0, v1]) [(18, (.int .i64 0)), (17, x15), (16, x14), (15, x12), (14, x11), (13, x10), (12, v1), (11, x8), (10, x7), (9, x6), (8, v1), (7, x5), (6, x3), (5, x2), (2, x0)] [] G13 fun e16 t17 G18 =>
  ifE e16 (.exit 0) (
  some (.tuple #[], G18)) (none))
theorem m49 {e : Ex} {E : Ev} (h : ExLe Q e E) (v0 v1 : Value) (G : GS) : Ref (s49 true e v0 v1 G) (s49 false (Ex.of E) v0 v1 G) := by
  unfold s49
  exact Ref.gq
theorem f49 {orc : FuncId → Bool} {e : Ex} (h : ExLe Q e (E orc)) (v0 v1 : Value) (G : GS) : Ref (s49 true e v0 v1 G) ((E orc).cl 49 [v0, v1] G) :=
  fun r hr => cl_sxE_some Q orc (vs := [v0, v1]) G Tryz.func49 (by kernel_rfl) (by kernel_rfl) (by kernel_rfl) (by kernel_rfl) (by kernel_rfl) (by kernel_rfl) (m49 h v0 v1 G r hr)
noncomputable def b50_0 (q : Bool) (e : Ex) (lp : Env → GS → Option (Exit × Env × GS)) (τ : Env) (G : GS) : Option (Exit × Env × GS) :=
  bV q (τ 1) fun a1_ =>
  bV q (τ 2) fun a2_ =>
  bV q (τ 4) fun a4_ =>
  bP (fa Q q 119 3 3 a2_) fun x0 =>
  bP (ld Q q 3 x0 G) fun x1 =>
  bP (bn Q q .lss 3 (.tmp 17) (.tmp 19) a4_ x1) fun x2 =>
  ifV x2 (
  bP (fa Q q 119 2 2 a2_) fun x3 =>
  bP (ld Q q 3 x3 G) fun x4 =>
  bP (bn Q q .add 3 (.tmp 25) (.tmp 26) x4 a4_) fun x5 =>
  bS (e.ev.cl 15 [a1_, x5, (.int .u64 0)] G) fun x6 G7 =>
  bP (bn Q q .add 3 (.tmp 21) (.const (.int .i64 1)) a4_ (.int .i64 1)) fun x8 =>
  lp (xq q 29 τ [(4, x8), (22, x8), (21, a4_), (28, x6), (27, x5), (26, a4_), (25, x4), (24, x3), (23, a1_), (20, x2), (19, x1), (18, x0), (17, a4_)] [(1, a1_), (2, a2_)]) G7) (
  some ((.exit 0), xq q 29 τ [(20, x2), (19, x1), (18, x0), (17, a4_)] [(1, a1_), (2, a2_), (4, a4_)], G))
theorem mb50_0 {e : Ex} {E : Ev} (h : ExLe Q e E) {lp lp' : Env → GS → Option (Exit × Env × GS)} (hlp : LpLe lp lp') (τ : Env) (G : GS) : Ref (b50_0 true e lp τ G) (b50_0 false (Ex.of E) lp' τ G) := by
  unfold b50_0
  exact Ref.gq
theorem l50_0 {orc : FuncId → Bool} {e : Ex} (h : ExLe Q e (E orc)) (lp : Env → GS → Option (Exit × Env × GS)) (hlp : ∀ τ G, Ref (lp τ G) (mapE ((E orc).lp (subAt [1, 1, 1, 1, 1, 0, 0] (bodyOf Tryz.f50)) (lst 29 τ) G))) (T : List Value) (G : GS) (hT : T.length = 29) : Ref (b50_0 true e lp (nth undef T) G) (mapE ((E orc).lp (subAt [1, 1, 1, 1, 1, 0, 0] (bodyOf Tryz.f50)) T G)) :=
  fun r hr => lp_sxN Q orc G hT (by kernel_rfl) (mb50_0 h ⟨hlp⟩ _ _ r hr)
/-- coxswain/coxswainref14.Fill -/
noncomputable def s50 (q : Bool) (e : Ex) (v0 v1 : Value) (G : GS) : Option (Value × GS) :=
  bS (bx q v0 G) fun x0 G1 =>
  bP (fa Q q 119 3 3 x0) fun x2 =>
  bP (ld Q q 3 x2 G1) fun x3 =>
  bS (e.ev.cl 103 [x3] G1) fun x4 G5 =>
  bP (un Q q .not x4) fun x6 =>
  ifV x6 (
  some (.tuple #[], G5)) (
  bP (fa Q q 119 0 0 x0) fun x7 =>
  bP (ld Q q 3 x7 G5) fun x8 =>
  bS (e.ev.cl 15 [v1, x8, (.int .u64 0)] G5) fun x9 G10 =>
  bP (fa Q q 119 1 1 x0) fun x11 =>
  bP (ld Q q 3 x11 G10) fun x12 =>
  bS (e.ev.cl 15 [v1, x12, (.int .u64 0)] G10) fun x13 G14 =>
  bLq q e 50 0 (subAt [1, 1, 1, 1, 1, 0, 0] (bodyOf Tryz.f50)) 29 (nth undef [v0, v1]) [(4, (.int .i64 0)), (16, x13), (15, x12), (14, x11), (13, v1), (12, x9), (11, x8), (10, x7), (9, v1), (8, x6), (7, x4), (6, x3), (5, x2), (2, x0)] [] G14 fun e15 t16 G17 =>
  ifE e15 (.exit 0) (
  some (.tuple #[], G17)) (none))
theorem m50 {e : Ex} {E : Ev} (h : ExLe Q e E) (v0 v1 : Value) (G : GS) : Ref (s50 true e v0 v1 G) (s50 false (Ex.of E) v0 v1 G) := by
  unfold s50
  exact Ref.gq
theorem f50 {orc : FuncId → Bool} {e : Ex} (h : ExLe Q e (E orc)) (v0 v1 : Value) (G : GS) : Ref (s50 true e v0 v1 G) ((E orc).cl 50 [v0, v1] G) :=
  fun r hr => cl_sxE_some Q orc (vs := [v0, v1]) G Tryz.func50 (by kernel_rfl) (by kernel_rfl) (by kernel_rfl) (by kernel_rfl) (by kernel_rfl) (by kernel_rfl) (m50 h v0 v1 G r hr)
/-- coxswain/coxswainref25.ring -/
noncomputable def s51 (q : Bool) (e : Ex) (v0 v1 : Value) (G : GS) : Option (Value × GS) :=
  bS (bx q v0 G) fun x0 G1 =>
  bS (al Q q 119 z119 G1) fun x2 G3 =>
  bP (fa Q q 23 0 0 x0) fun x4 =>
  bP (ld Q q 3 x4 G3) fun x5 =>
  bP (fa Q q 23 2 2 x0) fun x6 =>
  bP (ld Q q 3 x6 G3) fun x7 =>
  bP (bn Q q .add 3 (.tmp 10) (.const (.int .i64 2)) x7 (.int .i64 2)) fun x8 =>
  bP (bn Q q .mul 3 (.tmp 8) (.tmp 11) v1 x8) fun x9 =>
  bP (bn Q q .add 3 (.tmp 7) (.tmp 12) x5 x9) fun x10 =>
  bP (bn Q q .add 3 (.tmp 15) (.const (.int .i64 1)) x10 (.int .i64 1)) fun x11 =>
  bP (bn Q q .add 3 (.tmp 17) (.const (.int .i64 2)) x10 (.int .i64 2)) fun x12 =>
  bP (fa Q q 23 2 2 x0) fun x13 =>
  bP (ld Q q 3 x13 G3) fun x14 =>
  bP (bd Q q 119 z119 [(0, 0, 1), (1, 1, 1), (2, 2, 1), (3, 3, 1)] [x10, x11, x12, x14]) fun x15 =>
  bP (st Q q 119 4 x2 x15 G3) fun G16 =>
  bP (lda Q q 119 4 x2 G16) fun x17 =>
  some (x17, G16)
theorem m51 {e : Ex} {E : Ev} (h : ExLe Q e E) (v0 v1 : Value) (G : GS) : Ref (s51 true e v0 v1 G) (s51 false (Ex.of E) v0 v1 G) := by
  unfold s51
  exact Ref.gq
theorem f51 {orc : FuncId → Bool} {e : Ex} (h : ExLe Q e (E orc)) (v0 v1 : Value) (G : GS) : Ref (s51 true e v0 v1 G) ((E orc).cl 51 [v0, v1] G) :=
  fun r hr => cl_sxE_some Q orc (vs := [v0, v1]) G Tryz.func51 (by kernel_rfl) (by kernel_rfl) (by kernel_rfl) (by kernel_rfl) (by kernel_rfl) (by kernel_rfl) (m51 h v0 v1 G r hr)
/-- (*coxswain/cells.Mem).cell -/
noncomputable def s52 (q : Bool) (e : Ex) (v0 v1 : Value) (G : GS) : Option (Value × GS) :=
  bP (ep Q q false 30 (.tmp 5) (.const (.pointer none)) v0 (.pointer none)) fun x0 =>
  bS (gd x0 false (some (v0, G)) G) fun x1 G2 =>
  bS (gd x0 false (bP (pNil x1) fun y => some (y, G2)) G2) fun x3 G4 =>
  bS (gd x0 false (bP (fa Q q 112 0 0 x3) fun y => some (y, G4)) G4) fun x5 G6 =>
  bS (gd x0 false (bP (ld Q q 107 x5 G6) fun y => some (y, G6)) G6) fun x7 G8 =>
  bS (gd x0 false (bP (ep Q q false 107 (.tmp 11) (.const (.pointer none)) x7 (.pointer none)) fun y => some (y, G8)) G8) fun x9 G10 =>
  bP (pickV x0 (.bool true) x9) fun x11 =>
  bS (gd x11 false (some (v1, G10)) G10) fun x12 G13 =>
  bS (gd x11 false (bP (bn Q q .lss 3 (.tmp 15) (.const (.int .i64 0)) x12 (.int .i64 0)) fun y => some (y, G13)) G13) fun x14 G15 =>
  bP (pickV x11 (.bool true) x14) fun x16 =>
  bS (gd x16 false (some (v1, G15)) G15) fun x17 G18 =>
  bS (gd x16 false (some (v0, G18)) G18) fun x19 G20 =>
  bS (gd x16 false (bP (pNil x19) fun y => some (y, G20)) G20) fun x21 G22 =>
  bS (gd x16 false (bP (fa Q q 112 1 1 x21) fun y => some (y, G22)) G22) fun x23 G24 =>
  bS (gd x16 false (bP (ld Q q 3 x23 G24) fun y => some (y, G24)) G24) fun x25 G26 =>
  bS (gd x16 false (bP (bn Q q .geq 3 (.tmp 19) (.tmp 23) x17 x25) fun y => some (y, G26)) G26) fun x27 G28 =>
  bP (pickV x16 (.bool true) x27) fun x29 =>
  ifV x29 (
  some ((.pointer none), G28)) (
  bP (pNil v0) fun x30 =>
  bP (fa Q q 112 0 0 x30) fun x31 =>
  bP (ld Q q 107 x31 G28) fun x32 =>
  bP (pNil x32) fun x33 =>
  bP (iaa Q q 110 4096 1 x33 v1) fun x34 =>
  some (x34, G28))
theorem m52 {e : Ex} {E : Ev} (h : ExLe Q e E) (v0 v1 : Value) (G : GS) : Ref (s52 true e v0 v1 G) (s52 false (Ex.of E) v0 v1 G) := by
  unfold s52
  exact Ref.gq
theorem f52 {orc : FuncId → Bool} {e : Ex} (h : ExLe Q e (E orc)) (v0 v1 : Value) (G : GS) : Ref (s52 true e v0 v1 G) ((E orc).cl 52 [v0, v1] G) :=
  fun r hr => cl_sxE_some Q orc (vs := [v0, v1]) G Tryz.func52 (by kernel_rfl) (by kernel_rfl) (by kernel_rfl) (by kernel_rfl) (by kernel_rfl) (by kernel_rfl) (m52 h v0 v1 G r hr)
noncomputable def jb53_0 (q : Bool) (e : Ex) (τ : Env) (G : GS) : Option (Value × GS) :=
  bV q (τ 0) fun a0_ =>
  bV q (τ 10) fun a10_ =>
  bP (pNil a0_) fun x28 =>
  bP (fa Q q 112 2 2 x28) fun x29 =>
  bP (lda Q q 59 5 x29 G) fun x30 =>
  bP (st Q q 59 5 a10_ x30 G) fun G31 =>
  bP (lda Q q 59 5 a10_ G31) fun x32 =>
  some (x32, G31)
noncomputable def j53_0 (q : Bool) (e : Ex) (τ : Env) (G : GS) : Option (Value × GS) := jb53_0 q e τ G
theorem mj53_0 {e : Ex} {E : Ev} (h : ExLe Q e E) (τ : Env) (G : GS) : Ref (j53_0 true e τ G) (j53_0 false (Ex.of E) τ G) := by
  unfold j53_0 jb53_0
  exact Ref.gq
theorem mkj53_0 {e : Ex} {E : Ev} (h : ExLe Q e E) {τ : Env} {l U : List (Nat × Value)} {G : GS} (hU : UOk τ U) : Ref (j53_0 true e (xq true 67 τ l U) G) (j53_0 false (Ex.of E) (xq false 67 τ l U) G) := by
  rw [xq_eq hU]
  exact mj53_0 h _ _
noncomputable def sb53 (q : Bool) (e : Ex) (J0 : Env → GS → Option (Value × GS)) (v0 v1 v2 v3 v4 : Value) (G : GS) : Option (Value × GS) :=
  bS (al Q q 59 z59 G) fun x0 G1 =>
  bP (ep Q q false 30 (.tmp 13) (.const (.pointer none)) v0 (.pointer none)) fun x2 =>
  bS (gd x2 false (some (v0, G1)) G1) fun x3 G4 =>
  bS (gd x2 false (bP (pNil x3) fun y => some (y, G4)) G4) fun x5 G6 =>
  bS (gd x2 false (bP (fa Q q 112 0 0 x5) fun y => some (y, G6)) G6) fun x7 G8 =>
  bS (gd x2 false (bP (ld Q q 107 x7 G8) fun y => some (y, G8)) G8) fun x9 G10 =>
  bS (gd x2 false (bP (ep Q q false 107 (.tmp 19) (.const (.pointer none)) x9 (.pointer none)) fun y => some (y, G10)) G10) fun x11 G12 =>
  bP (pickV x2 (.bool true) x11) fun x13 =>
  ifV x13 (
  bP (bd Q q 59 z59 [] []) fun x14 =>
  bP (st Q q 59 5 x0 x14 G12) fun G15 =>
  bP (lda Q q 59 5 x0 G15) fun x16 =>
  some (x16, G15)) (
  bP (pNil v0) fun x17 =>
  bP (fa Q q 112 3 7 x17) fun x18 =>
  bP (ld Q q 3 x18 G12) fun x19 =>
  bP (bn Q q .add 3 (.tmp 26) (.const (.int .i64 1)) x19 (.int .i64 1)) fun x20 =>
  bP (pNil v0) fun x21 =>
  bP (fa Q q 112 3 7 x21) fun x22 =>
  bP (st Q q 3 1 x22 x20 G12) fun G23 =>
  bP (bd Q q 59 z59 [(0, 0, 1), (1, 1, 1)] [v1, v2]) fun x24 =>
  bP (pNil v0) fun x25 =>
  bP (fa Q q 112 2 2 x25) fun x26 =>
  bP (st Q q 59 5 x26 x24 G23) fun G27 =>
  bS (e.ev.cl 104 [v3] G27) fun x33 G34 =>
  ifV x33 (
  bS (cValue e.ev v4 [] G34) fun x35 G36 =>
  bP (pExtract x35 0) fun x37 =>
  bP (pExtract x35 1) fun x38 =>
  bP (pNil v3) fun x39 =>
  bP (ld Q q 108 x39 G36) fun x40 =>
  bP (pNil v0) fun x41 =>
  bP (fa Q q 112 2 2 x41) fun x42 =>
  bP (fa Q q 59 2 2 x42) fun x43 =>
  bP (st Q q 39 1 x43 x40 G36) fun G44 =>
  bP (pNil v0) fun x45 =>
  bP (fa Q q 112 2 2 x45) fun x46 =>
  bP (fa Q q 59 3 3 x46) fun x47 =>
  bP (st Q q 39 1 x47 x37 G44) fun G48 =>
  bP (pNil v0) fun x49 =>
  bP (fa Q q 112 2 2 x49) fun x50 =>
  bP (fa Q q 59 4 4 x50) fun x51 =>
  bP (st Q q 4 1 x51 x38 G48) fun G52 =>
  bP (pNil v3) fun x53 =>
  bP (st Q q 108 1 x53 x37 G52) fun G54 =>
  J0 (xq q 67 (nth undef [v0, v1, v2, v3, v4]) [(62, x53), (61, x37), (60, v3), (59, x51), (58, x50), (57, x49), (56, x47), (55, x46), (54, x45), (53, x43), (52, x42), (51, x41), (50, x38), (49, x37), (48, x40), (47, x39), (46, v3), (45, v0), (44, v0), (43, v0), (12, x38), (11, x37), (42, x38), (41, x37), (38, x35), (40, x35), (39, v4), (37, x33), (36, v3), (35, x26), (34, x25), (33, x24), (32, v2), (31, v1), (30, v0), (29, x22), (28, x21), (27, x20), (26, x19), (25, x18), (24, x17), (23, v0), (21, x13), (20, x11), (19, x9), (18, x7), (17, x5), (16, x3), (15, x2), (14, x2), (13, v0), (10, x0)] []) G54) (
  J0 (xq q 67 (nth undef [v0, v1, v2, v3, v4]) [(37, x33), (36, v3), (35, x26), (34, x25), (33, x24), (32, v2), (31, v1), (30, v0), (29, x22), (28, x21), (27, x20), (26, x19), (25, x18), (24, x17), (23, v0), (21, x13), (20, x11), (19, x9), (18, x7), (17, x5), (16, x3), (15, x2), (14, x2), (13, v0), (10, x0)] []) G34))
/-- (*coxswain/cells.Mem).do -/
noncomputable def s53 (q : Bool) (e : Ex) (v0 v1 v2 v3 v4 : Value) (G : GS) : Option (Value × GS) := sb53 q e (j53_0 q e) v0 v1 v2 v3 v4 G
theorem m53 {e : Ex} {E : Ev} (h : ExLe Q e E) (v0 v1 v2 v3 v4 : Value) (G : GS) : Ref (s53 true e v0 v1 v2 v3 v4 G) (s53 false (Ex.of E) v0 v1 v2 v3 v4 G) := by
  unfold s53 sb53
  repeat' (with_reducible first | exact Ref.rfl' _ | exact ROp.r | refine Ref.bP ?_ fun _ => ?_ | refine Ref.bS ?_ fun _ _ => ?_ | exact Ref.cl (by assumption) | refine Ref.ifV ?_ ?_ | refine LpLe.rx (by assumption) ?_ | refine Ref.xitq ?_ | exact UOk.z | refine UOk.c (by assumption) ?_ | exact Ref.nil _ | refine Ref.bVe fun _ _ => ?_ | refine Ref.bLq (by assumption) ?_ fun _ _ _ => ?_ | refine Ref.ifE ?_ ?_ | refine Ref.chk ?_ ?_ | refine Imp.and ?_ ?_ | refine Imp.or ?_ | exact Imp.rfl' _ | refine Imp.sameO ?_ | refine Ref.gd ?_ | exact Ref.cValue (by assumption) | refine Ref.bX ?_ fun _ _ _ => ?_ | exact Ref.scQ (by assumption) | exact Ref.xRangeQ (by assumption) | exact Ref.cInvoke (by assumption) | refine mkj53_0 (by assumption) ?_)
noncomputable def jt53 (J0 : Env → GS → Option (Value × GS)) : JT (Value × GS) :=
  (.n none .e (.n none .e (.n none .e (.n none .e (.n (some (fun T G => J0 (nth undef T) G)) .e .e)))))
theorem jr53_0 (orc : FuncId → Bool) (J0 : Env → GS → Option (Value × GS)) (T : List Value) (G : GS) : runC Q (evL Q orc) Tryz.f53.ntmps (jt53 J0) (bodyOf Tryz.f53) (retE Q Tryz.f53.results.toList) [true, true, true, true] (nth undef T) G = jb53_0 false (Ex.of (E orc))  (nth undef T) G := by kernel_rfl
theorem jo53 (orc : FuncId → Bool) : JOk Q orc Tryz.f53.ntmps (jt53 (j53_0 false (Ex.of (E orc))) ) (bodyOf Tryz.f53) (retE Q Tryz.f53.results.toList) :=
  jOk Q orc (l := [([true, true, true, true], (fun T G => j53_0 false (Ex.of (E orc)) (nth undef T) G))]) (by kernel_rfl) (AllE.c (fun T G => jr53_0 orc (j53_0 false (Ex.of (E orc))) T G) (AllE.z))
theorem je53 (orc : FuncId → Bool) (J0 : Env → GS → Option (Value × GS)) (v0 v1 v2 v3 v4 : Value) (G : GS) : sxC Q (evL Q orc) Tryz.f53.ntmps (jt53 J0) (bodyOf Tryz.f53) (nth undef [v0, v1, v2, v3, v4]) G (retE Q Tryz.f53.results.toList) = sb53 false (Ex.of (E orc)) J0 v0 v1 v2 v3 v4 G := by kernel_rfl
theorem f53 {orc : FuncId → Bool} {e : Ex} (h : ExLe Q e (E orc)) (v0 v1 v2 v3 v4 : Value) (G : GS) : Ref (s53 true e v0 v1 v2 v3 v4 G) ((E orc).cl 53 [v0, v1, v2, v3, v4] G) :=
  fun r hr => cl_sxC Q orc (vs := [v0, v1, v2, v3, v4]) G (jt53 (j53_0 false (Ex.of (E orc))) ) Tryz.func53 (by kernel_rfl) (by kernel_rfl) (by kernel_rfl) (by kernel_rfl) (by kernel_rfl) (jo53 orc) (je53 orc (j53_0 false (Ex.of (E orc))) v0 v1 v2 v3 v4 G) (m53 h v0 v1 v2 v3 v4 G r hr)
/-- (coxswain/cells.deed).store -/
noncomputable def s54 (q : Bool) (e : Ex) (v0 : Value) (G : GS) : Option (Value × GS) :=
  bS (bx q v0 G) fun x0 G1 =>
  bP (fa Q q 126 1 1 x0) fun x2 =>
  bP (ld Q q 39 x2 G1) fun x3 =>
  some (.tuple #[x3, (.bool true)], G1)
theorem m54 {e : Ex} {E : Ev} (h : ExLe Q e E) (v0 : Value) (G : GS) : Ref (s54 true e v0 G) (s54 false (Ex.of E) v0 G) := by
  unfold s54
  exact Ref.gq
theorem f54 {orc : FuncId → Bool} {e : Ex} (h : ExLe Q e (E orc)) (v0 : Value) (G : GS) : Ref (s54 true e v0 G) ((E orc).cl 54 [v0] G) :=
  fun r hr => cl_sxE_some Q orc (vs := [v0]) G Tryz.func54 (by kernel_rfl) (by kernel_rfl) (by kernel_rfl) (by kernel_rfl) (by kernel_rfl) (by kernel_rfl) (m54 h v0 G r hr)
noncomputable def jb55_0 (q : Bool) (e : Ex) (τ : Env) (G : GS) : Option (Value × GS) :=
  bV q (τ 0) fun a0_ =>
  bV q (τ 2) fun a2_ =>
  bV q (τ 3) fun a3_ =>
  bP (pNil a0_) fun x36 =>
  bP (fa Q q 114 0 0 x36) fun x37 =>
  bP (ld Q q 24 x37 G) fun x38 =>
  bP (ias Q q 24 1 x38 a2_) fun x39 =>
  bP (ld Q q 39 x39 G) fun x40 =>
  bP (pNil a0_) fun x41 =>
  bP (fa Q q 114 1 1 x41) fun x42 =>
  bP (fa Q q 59 3 3 x42) fun x43 =>
  bP (st Q q 39 1 x43 x40 G) fun G44 =>
  bP (pNil a0_) fun x45 =>
  bP (fa Q q 114 1 1 x45) fun x46 =>
  bP (fa Q q 59 4 4 x46) fun x47 =>
  bP (st Q q 4 1 x47 a3_ G44) fun G48 =>
  some (.tuple #[], G48)
noncomputable def j55_0 (q : Bool) (e : Ex) (τ : Env) (G : GS) : Option (Value × GS) := jb55_0 q e τ G
theorem mj55_0 {e : Ex} {E : Ev} (h : ExLe Q e E) (τ : Env) (G : GS) : Ref (j55_0 true e τ G) (j55_0 false (Ex.of E) τ G) := by
  unfold j55_0 jb55_0
  exact Ref.gq
theorem mkj55_0 {e : Ex} {E : Ev} (h : ExLe Q e E) {τ : Env} {l U : List (Nat × Value)} {G : GS} (hU : UOk τ U) : Ref (j55_0 true e (xq true 69 τ l U) G) (j55_0 false (Ex.of E) (xq false 69 τ l U) G) := by
  rw [xq_eq hU]
  exact mj55_0 h _ _
noncomputable def sb55 (q : Bool) (e : Ex) (J0 : Env → GS → Option (Value × GS)) (v0 v1 v2 v3 v4 : Value) (G : GS) : Option (Value × GS) :=
  bP (pNil v0) fun x0 =>
  bP (fa Q q 114 2 6 x0) fun x1 =>
  bP (ld Q q 3 x1 G) fun x2 =>
  bP (bn Q q .add 3 (.tmp 13) (.const (.int .i64 1)) x2 (.int .i64 1)) fun x3 =>
  bP (pNil v0) fun x4 =>
  bP (fa Q q 114 2 6 x4) fun x5 =>
  bP (st Q q 3 1 x5 x3 G) fun G6 =>
  bP (bd Q q 59 z59 [(0, 0, 1), (1, 1, 1)] [v1, v2]) fun x7 =>
  bP (pNil v0) fun x8 =>
  bP (fa Q q 114 1 1 x8) fun x9 =>
  bP (st Q q 59 5 x9 x7 G6) fun G10 =>
  bP (bn Q q .lss 3 (.tmp 23) (.const (.int .i64 0)) v2 (.int .i64 0)) fun x11 =>
  bS (gd x11 false (some (v2, G10)) G10) fun x12 G13 =>
  bS (gd x11 false (some (v0, G13)) G13) fun x14 G15 =>
  bS (gd x11 false (bP (pNil x14) fun y => some (y, G15)) G15) fun x16 G17 =>
  bS (gd x11 false (bP (fa Q q 114 0 0 x16) fun y => some (y, G17)) G17) fun x18 G19 =>
  bS (gd x11 false (bP (ld Q q 24 x18 G19) fun y => some (y, G19)) G19) fun x20 G21 =>
  bS (gd x11 false (bP (ln Q q 24 x20) fun y => some (y, G21)) G21) fun x22 G23 =>
  bS (gd x11 false (bP (bn Q q .geq 3 (.tmp 26) (.tmp 31) x12 x22) fun y => some (y, G23)) G23) fun x24 G25 =>
  bP (pickV x11 (.bool true) x24) fun x26 =>
  ifV x26 (
  some (.tuple #[], G25)) (
  bP (pNil v0) fun x27 =>
  bP (fa Q q 114 0 0 x27) fun x28 =>
  bP (ld Q q 24 x28 G25) fun x29 =>
  bP (ias Q q 24 1 x29 v2) fun x30 =>
  bP (ld Q q 39 x30 G25) fun x31 =>
  bP (pNil v0) fun x32 =>
  bP (fa Q q 114 1 1 x32) fun x33 =>
  bP (fa Q q 59 2 2 x33) fun x34 =>
  bP (st Q q 39 1 x34 x31 G25) fun G35 =>
  ifV v3 (
  bP (pNil v0) fun x49 =>
  bP (fa Q q 114 0 0 x49) fun x50 =>
  bP (ld Q q 24 x50 G35) fun x51 =>
  bP (ias Q q 24 1 x51 v2) fun x52 =>
  bP (st Q q 39 1 x52 v4 G35) fun G53 =>
  J0 (xq q 69 (nth undef [v0, v1, v2, v3, v4]) [(52, x52), (51, v4), (50, v2), (49, x51), (48, x50), (47, x49), (46, v0), (45, v3), (44, x34), (43, x33), (42, x32), (41, x31), (40, x30), (39, v2), (38, x29), (37, x28), (36, x27), (35, v0), (34, v0), (33, x26), (32, x24), (31, x22), (30, x20), (29, x18), (28, x16), (27, x14), (26, x12), (25, x11), (24, x11), (23, v2), (22, x9), (21, x8), (20, x7), (19, v2), (18, v1), (17, v0), (16, x5), (15, x4), (14, x3), (13, x2), (12, x1), (11, x0), (10, v0)] []) G53) (
  J0 (xq q 69 (nth undef [v0, v1, v2, v3, v4]) [(45, v3), (44, x34), (43, x33), (42, x32), (41, x31), (40, x30), (39, v2), (38, x29), (37, x28), (36, x27), (35, v0), (34, v0), (33, x26), (32, x24), (31, x22), (30, x20), (29, x18), (28, x16), (27, x14), (26, x12), (25, x11), (24, x11), (23, v2), (22, x9), (21, x8), (20, x7), (19, v2), (18, v1), (17, v0), (16, x5), (15, x4), (14, x3), (13, x2), (12, x1), (11, x0), (10, v0)] []) G35))
/-- (*coxswain/coxswainref02.Mem).access -/
noncomputable def s55 (q : Bool) (e : Ex) (v0 v1 v2 v3 v4 : Value) (G : GS) : Option (Value × GS) := sb55 q e (j55_0 q e) v0 v1 v2 v3 v4 G
theorem m55 {e : Ex} {E : Ev} (h : ExLe Q e E) (v0 v1 v2 v3 v4 : Value) (G : GS) : Ref (s55 true e v0 v1 v2 v3 v4 G) (s55 false (Ex.of E) v0 v1 v2 v3 v4 G) := by
  unfold s55 sb55
  repeat' (with_reducible first | exact Ref.rfl' _ | exact ROp.r | refine Ref.bP ?_ fun _ => ?_ | refine Ref.bS ?_ fun _ _ => ?_ | exact Ref.cl (by assumption) | refine Ref.ifV ?_ ?_ | refine LpLe.rx (by assumption) ?_ | refine Ref.xitq ?_ | exact UOk.z | refine UOk.c (by assumption) ?_ | exact Ref.nil _ | refine Ref.bVe fun _ _ => ?_ | refine Ref.bLq (by assumption) ?_ fun _ _ _ => ?_ | refine Ref.ifE ?_ ?_ | refine Ref.chk ?_ ?_ | refine Imp.and ?_ ?_ | refine Imp.or ?_ | exact Imp.rfl' _ | refine Imp.sameO ?_ | refine Ref.gd ?_ | exact Ref.cValue (by assumption) | refine Ref.bX ?_ fun _ _ _ => ?_ | exact Ref.scQ (by assumption) | exact Ref.xRangeQ (by assumption) | exact Ref.cInvoke (by assumption) | refine mkj55_0 (by assumption) ?_)
noncomputable def jt55 (J0 : Env → GS → Option (Value × GS)) : JT (Value × GS) :=
  (.n none .e (.n none .e (.n none .e (.n none .e (.n (some (fun T G => J0 (nth undef T) G)) .e .e)))))
theorem jr55_0 (orc : FuncId → Bool) (J0 : Env → GS → Option (Value × GS)) (T : List Value) (G : GS) : runC Q (evL Q orc) Tryz.f55.ntmps (jt55 J0) (bodyOf Tryz.f55) (retE Q Tryz.f55.results.toList) [true, true, true, true] (nth undef T) G = jb55_0 false (Ex.of (E orc))  (nth undef T) G := by kernel_rfl
theorem jo55 (orc : FuncId → Bool) : JOk Q orc Tryz.f55.ntmps (jt55 (j55_0 false (Ex.of (E orc))) ) (bodyOf Tryz.f55) (retE Q Tryz.f55.results.toList) :=
  jOk Q orc (l := [([true, true, true, true], (fun T G => j55_0 false (Ex.of (E orc)) (nth undef T) G))]) (by kernel_rfl) (AllE.c (fun T G => jr55_0 orc (j55_0 false (Ex.of (E orc))) T G) (AllE.z))
theorem je55 (orc : FuncId → Bool) (J0 : Env → GS → Option (Value × GS)) (v0 v1 v2 v3 v4 : Value) (G : GS) : sxC Q (evL Q orc) Tryz.f55.ntmps (jt55 J0) (bodyOf Tryz.f55) (nth undef [v0, v1, v2, v3, v4]) G (retE Q Tryz.f55.results.toList) = sb55 false (Ex.of (E orc)) J0 v0 v1 v2 v3 v4 G := by kernel_rfl
theorem f55 {orc : FuncId → Bool} {e : Ex} (h : ExLe Q e (E orc)) (v0 v1 v2 v3 v4 : Value) (G : GS) : Ref (s55 true e v0 v1 v2 v3 v4 G) ((E orc).cl 55 [v0, v1, v2, v3, v4] G) :=
  fun r hr => cl_sxC Q orc (vs := [v0, v1, v2, v3, v4]) G (jt55 (j55_0 false (Ex.of (E orc))) ) Tryz.func55 (by kernel_rfl) (by kernel_rfl) (by kernel_rfl) (by kernel_rfl) (by kernel_rfl) (jo55 orc) (je55 orc (j55_0 false (Ex.of (E orc))) v0 v1 v2 v3 v4 G) (m55 h v0 v1 v2 v3 v4 G r hr)
/-- (*coxswain/mail.Send).Step -/
noncomputable def s56 (q : Bool) (e : Ex) (v0 v1 : Value) (G : GS) : Option (Value × GS) :=
  bP (ep Q q false 44 (.tmp 6) (.const (.pointer none)) v0 (.pointer none)) fun x0 =>
  bS (gd x0 false (some (v0, G)) G) fun x1 G2 =>
  bS (gd x0 false (bP (pNil x1) fun y => some (y, G2)) G2) fun x3 G4 =>
  bS (gd x0 false (bP (fa Q q 184 1 1 x3) fun y => some (y, G4)) G4) fun x5 G6 =>
  bS (gd x0 false (bP (ld Q q 182 x5 G6) fun y => some (y, G6)) G6) fun x7 G8 =>
  bS (gd x0 false (bP (ep Q q false 182 (.tmp 12) (.const (.pointer none)) x7 (.pointer none)) fun y => some (y, G8)) G8) fun x9 G10 =>
  bP (pickV x0 (.bool true) x9) fun x11 =>
  ifV x11 (
  some ((.bool true), G10)) (
  bP (pNil v0) fun x12 =>
  bP (fa Q q 184 1 1 x12) fun x13 =>
  bP (ld Q q 182 x13 G10) fun x14 =>
  bS (e.ev.cl 105 [x14, v1] G10) fun x15 G16 =>
  ifV x15 (
  bP (pNil v0) fun x17 =>
  bP (fa Q q 184 1 1 x17) fun x18 =>
  bP (ld Q q 182 x18 G16) fun x19 =>
  bS (e.ev.cl 106 [x19] G16) fun x20 G21 =>
  bP (pNil v0) fun x22 =>
  bP (fa Q q 184 2 2 x22) fun x23 =>
  bP (st Q q 26 1 x23 x20 G21) fun G24 =>
  bP (pNil v0) fun x25 =>
  bP (fa Q q 184 1 1 x25) fun x26 =>
  bP (st Q q 182 1 x26 (.pointer none) G24) fun G27 =>
  some (x15, G27)) (
  some (x15, G16)))
theorem m56 {e : Ex} {E : Ev} (h : ExLe Q e E) (v0 v1 : Value) (G : GS) : Ref (s56 true e v0 v1 G) (s56 false (Ex.of E) v0 v1 G) := by
  unfold s56
  exact Ref.gq
theorem f56 {orc : FuncId → Bool} {e : Ex} (h : ExLe Q e (E orc)) (v0 v1 : Value) (G : GS) : Ref (s56 true e v0 v1 G) ((E orc).cl 56 [v0, v1] G) :=
  fun r hr => cl_sxE_some Q orc (vs := [v0, v1]) G Tryz.func56 (by kernel_rfl) (by kernel_rfl) (by kernel_rfl) (by kernel_rfl) (by kernel_rfl) (by kernel_rfl) (m56 h v0 v1 G r hr)
noncomputable def jb57_0 (q : Bool) (e : Ex) (τ : Env) (G : GS) : Option (Value × GS) :=
  bV q (τ 0) fun a0_ =>
  bP (pNil a0_) fun x0 =>
  bP (fa Q q 187 1 1 x0) fun x1 =>
  bP (ld Q q 4 x1 G) fun x2 =>
  some (x2, G)
noncomputable def j57_0 (q : Bool) (e : Ex) (τ : Env) (G : GS) : Option (Value × GS) := jb57_0 q e τ G
theorem mj57_0 {e : Ex} {E : Ev} (h : ExLe Q e E) (τ : Env) (G : GS) : Ref (j57_0 true e τ G) (j57_0 false (Ex.of E) τ G) := by
  unfold j57_0 jb57_0
  exact Ref.gq
theorem mkj57_0 {e : Ex} {E : Ev} (h : ExLe Q e E) {τ : Env} {l U : List (Nat × Value)} {G : GS} (hU : UOk τ U) : Ref (j57_0 true e (xq true 33 τ l U) G) (j57_0 false (Ex.of E) (xq false 33 τ l U) G) := by
  rw [xq_eq hU]
  exact mj57_0 h _ _
noncomputable def sb57 (q : Bool) (e : Ex) (J0 : Env → GS → Option (Value × GS)) (v0 v1 : Value) (G : GS) : Option (Value × GS) :=
  bP (pNil v0) fun x3 =>
  bP (fa Q q 187 1 1 x3) fun x4 =>
  bP (ld Q q 4 x4 G) fun x5 =>
  bP (un Q q .not x5) fun x6 =>
  bS (gd x6 true (some (v0, G)) G) fun x7 G8 =>
  bS (gd x6 true (bP (pNil x7) fun y => some (y, G8)) G8) fun x9 G10 =>
  bS (gd x6 true (bP (fa Q q 187 0 0 x9) fun y => some (y, G10)) G10) fun x11 G12 =>
  bS (gd x6 true (bP (ld Q q 185 x11 G12) fun y => some (y, G12)) G12) fun x13 G14 =>
  bS (gd x6 true (some (v1, G14)) G14) fun x15 G16 =>
  bS (gd x6 true (bS (e.ev.cl 107 [x13, x15] G16) fun y G => some (y, G)) G16) fun x17 G18 =>
  bP (pickV x6 x17 (.bool false)) fun x19 =>
  ifV x19 (
  bP (pNil v0) fun x20 =>
  bP (fa Q q 187 1 1 x20) fun x21 =>
  bP (st Q q 4 1 x21 (.bool true) G18) fun G22 =>
  bP (pNil v0) fun x23 =>
  bP (fa Q q 187 0 0 x23) fun x24 =>
  bP (ld Q q 185 x24 G22) fun x25 =>
  bS (e.ev.cl 108 [x25] G22) fun x26 G27 =>
  bP (pNil v0) fun x28 =>
  bP (fa Q q 187 2 2 x28) fun x29 =>
  bP (st Q q 26 1 x29 x26 G27) fun G30 =>
  J0 (xq q 33 (nth undef [v0, v1]) [(28, x29), (27, x28), (26, x26), (25, x25), (24, x24), (23, x23), (22, v0), (21, v0), (20, x21), (19, x20), (18, v0), (17, x19), (16, x17), (15, x15), (14, x13), (13, x11), (12, x9), (11, x7), (10, x6), (9, x6), (8, x5), (7, x4), (6, x3), (5, v0), (4, (.bool false))] []) G30) (
  J0 (xq q 33 (nth undef [v0, v1]) [(17, x19), (16, x17), (15, x15), (14, x13), (13, x11), (12, x9), (11, x7), (10, x6), (9, x6), (8, x5), (7, x4), (6, x3), (5, v0), (4, (.bool false))] []) G18)
/-- (*coxswain/coxswainref25.Send).Step -/
noncomputable def s57 (q : Bool) (e : Ex) (v0 v1 : Value) (G : GS) : Option (Value × GS) := sb57 q e (j57_0 q e) v0 v1 G
theorem m57 {e : Ex} {E : Ev} (h : ExLe Q e E) (v0 v1 : Value) (G : GS) : Ref (s57 true e v0 v1 G) (s57 false (Ex.of E) v0 v1 G) := by
  unfold s57 sb57
  repeat' (with_reducible first | exact Ref.rfl' _ | exact ROp.r | refine Ref.bP ?_ fun _ => ?_ | refine Ref.bS ?_ fun _ _ => ?_ | exact Ref.cl (by assumption) | refine Ref.ifV ?_ ?_ | refine LpLe.rx (by assumption) ?_ | refine Ref.xitq ?_ | exact UOk.z | refine UOk.c (by assumption) ?_ | exact Ref.nil _ | refine Ref.bVe fun _ _ => ?_ | refine Ref.bLq (by assumption) ?_ fun _ _ _ => ?_ | refine Ref.ifE ?_ ?_ | refine Ref.chk ?_ ?_ | refine Imp.and ?_ ?_ | refine Imp.or ?_ | exact Imp.rfl' _ | refine Imp.sameO ?_ | refine Ref.gd ?_ | exact Ref.cValue (by assumption) | refine Ref.bX ?_ fun _ _ _ => ?_ | exact Ref.scQ (by assumption) | exact Ref.xRangeQ (by assumption) | exact Ref.cInvoke (by assumption) | refine mkj57_0 (by assumption) ?_)
noncomputable def jt57 (J0 : Env → GS → Option (Value × GS)) : JT (Value × GS) :=
  (.n none .e (.n (some (fun T G => J0 (nth undef T) G)) .e .e))
theorem jr57_0 (orc : FuncId → Bool) (J0 : Env → GS → Option (Value × GS)) (T : List Value) (G : GS) : runC Q (evL Q orc) Tryz.f57.ntmps (jt57 J0) (bodyOf Tryz.f57) (retE Q Tryz.f57.results.toList) [true] (nth undef T) G = jb57_0 false (Ex.of (E orc))  (nth undef T) G := by kernel_rfl
theorem jo57 (orc : FuncId → Bool) : JOk Q orc Tryz.f57.ntmps (jt57 (j57_0 false (Ex.of (E orc))) ) (bodyOf Tryz.f57) (retE Q Tryz.f57.results.toList) :=
  jOk Q orc (l := [([true], (fun T G => j57_0 false (Ex.of (E orc)) (nth undef T) G))]) (by kernel_rfl) (AllE.c (fun T G => jr57_0 orc (j57_0 false (Ex.of (E orc))) T G) (AllE.z))
theorem je57 (orc : FuncId → Bool) (J0 : Env → GS → Option (Value × GS)) (v0 v1 : Value) (G : GS) : sxC Q (evL Q orc) Tryz.f57.ntmps (jt57 J0) (bodyOf Tryz.f57) (nth undef [v0, v1]) G (retE Q Tryz.f57.results.toList) = sb57 false (Ex.of (E orc)) J0 v0 v1 G := by kernel_rfl
theorem f57 {orc : FuncId → Bool} {e : Ex} (h : ExLe Q e (E orc)) (v0 v1 : Value) (G : GS) : Ref (s57 true e v0 v1 G) ((E orc).cl 57 [v0, v1] G) :=
  fun r hr => cl_sxC Q orc (vs := [v0, v1]) G (jt57 (j57_0 false (Ex.of (E orc))) ) Tryz.func57 (by kernel_rfl) (by kernel_rfl) (by kernel_rfl) (by kernel_rfl) (by kernel_rfl) (jo57 orc) (je57 orc (j57_0 false (Ex.of (E orc))) v0 v1 G) (m57 h v0 v1 G r hr)
noncomputable def jb58_0 (q : Bool) (e : Ex) (τ : Env) (G : GS) : Option (Value × GS) :=
  bV q (τ 0) fun a0_ =>
  bP (pNil a0_) fun x18 =>
  bP (fa Q q 191 3 6 x18) fun x19 =>
  bP (ld Q q 189 x19 G) fun x20 =>
  bP (bn Q q .eql 189 (.tmp 98) (.const .nilIface) x20 .nilIface) fun x21 =>
  some (x21, G)
noncomputable def j58_0 (q : Bool) (e : Ex) (τ : Env) (G : GS) : Option (Value × GS) := jb58_0 q e τ G
theorem mj58_0 {e : Ex} {E : Ev} (h : ExLe Q e E) (τ : Env) (G : GS) : Ref (j58_0 true e τ G) (j58_0 false (Ex.of E) τ G) := by
  unfold j58_0 jb58_0
  exact Ref.gq
theorem mkj58_0 {e : Ex} {E : Ev} (h : ExLe Q e E) {τ : Env} {l U : List (Nat × Value)} {G : GS} (hU : UOk τ U) : Ref (j58_0 true e (xq true 100 τ l U) G) (j58_0 false (Ex.of E) (xq false 100 τ l U) G) := by
  rw [xq_eq hU]
  exact mj58_0 h _ _
noncomputable def sb58 (q : Bool) (e : Ex) (J0 : Env → GS → Option (Value × GS)) (v0 v1 : Value) (G : GS) : Option (Value × GS) :=
  bP (ep Q q false 46 (.tmp 9) (.const (.pointer none)) v0 (.pointer none)) fun x0 =>
  bS (gd x0 false (some (v0, G)) G) fun x1 G2 =>
  bS (gd x0 false (bP (pNil x1) fun y => some (y, G2)) G2) fun x3 G4 =>
  bS (gd x0 false (bP (fa Q q 191 3 6 x3) fun y => some (y, G4)) G4) fun x5 G6 =>
  bS (gd x0 false (bP (ld Q q 189 x5 G6) fun y => some (y, G6)) G6) fun x7 G8 =>
  bS (gd x0 false (bP (bn Q q .eql 189 (.tmp 15) (.const .nilIface) x7 .nilIface) fun y => some (y, G8)) G8) fun x9 G10 =>
  bP (pickV x0 (.bool true) x9) fun x11 =>
  ifV x11 (
  some ((.bool true), G10)) (
  bP (pNil v0) fun x12 =>
  bP (fa Q q 191 3 6 x12) fun x13 =>
  bP (ld Q q 189 x13 G10) fun x14 =>
  bS (cInvoke Q e.ev x14 "Step" [v1] G10) fun x15 G16 =>
  bP (un Q q .not x15) fun x17 =>
  ifV x17 (
  some ((.bool false), G16)) (
  bP (pNil v0) fun x22 =>
  bP (fa Q q 191 3 6 x22) fun x23 =>
  bP (ld Q q 189 x23 G16) fun x24 =>
  bP (gAssert Q x24 192 true) fun x25 =>
  bP (pExtract x25 1) fun x26 =>
  bP (pExtract x25 0) fun x27 =>
  ifV x26 (
  bS (e.ev.cl 109 [x27] G16) fun x28 G29 =>
  bP (pExtract x28 0) fun x30 =>
  bP (pExtract x28 1) fun x31 =>
  bP (pNil v0) fun x32 =>
  bP (fa Q q 191 5 8 x32) fun x33 =>
  bP (st Q q 3 1 x33 x30 G29) fun G34 =>
  bP (pNil v0) fun x35 =>
  bP (fa Q q 191 3 6 x35) fun x36 =>
  bP (st Q q 189 1 x36 .nilIface G34) fun G37 =>
  bP (bn Q q .eql 26 (.tmp 44) (.const (.int .i64 0)) x31 (.int .i64 0)) fun x38 =>
  ifV x38 (
  bP (pNil v0) fun x39 =>
  bP (fa Q q 191 1 1 x39) fun x40 =>
  bP (lda Q q 119 4 x40 (G37.room 12)) fun x41 =>
  bS (e.ev.cl 111 [x27] (G37.room 12)) fun x43 G42 =>
  chk ((sameO (lda Q q 119 4 x40 G42) x41 && true)) <|
  bS (e.ev.cl 110 [x41, x43] G42) fun x45 G44 =>
  bP (ifc Q q 195 x45) fun x46 =>
  bP (pNil v0) fun x47 =>
  bP (fa Q q 191 3 6 x47) fun x48 =>
  bP (st Q q 189 1 x48 x46 G44) fun G49 =>
  J0 (xq q 100 (nth undef [v0, v1]) [(56, x48), (55, x47), (54, x46), (53, x45), (52, x43), (51, x27), (50, x41), (49, x40), (48, x39), (47, v0), (46, v0), (45, x38), (44, x31), (43, x36), (42, x35), (41, x33), (40, x32), (39, x30), (38, v0), (37, v0), (7, x31), (6, x30), (36, x31), (35, x30), (32, x28), (34, x28), (33, x27), (5, x27), (31, x27), (30, x26), (29, x25), (28, x24), (27, x23), (26, x22), (25, v0), (24, x17), (23, x15), (22, v1), (21, x14), (20, x13), (19, x12), (18, v0), (17, x11), (16, x9), (15, x7), (14, x5), (13, x3), (12, x1), (11, x0), (10, x0), (9, v0), (4, (.bool false))] []) G49) (
  J0 (xq q 100 (nth undef [v0, v1]) [(45, x38), (44, x31), (43, x36), (42, x35), (41, x33), (40, x32), (39, x30), (38, v0), (37, v0), (7, x31), (6, x30), (36, x31), (35, x30), (32, x28), (34, x28), (33, x27), (5, x27), (31, x27), (30, x26), (29, x25), (28, x24), (27, x23), (26, x22), (25, v0), (24, x17), (23, x15), (22, v1), (21, x14), (20, x13), (19, x12), (18, v0), (17, x11), (16, x9), (15, x7), (14, x5), (13, x3), (12, x1), (11, x0), (10, x0), (9, v0), (4, (.bool false))] []) G37)) (
  bP (gAssert Q x24 195 true) fun x50 =>
  bP (pExtract x50 1) fun x51 =>
  bP (pExtract x50 0) fun x52 =>
  ifV x51 (
  bP (pNil v0) fun x53 =>
  bP (fa Q q 191 4 7 x53) fun x54 =>
  bP (ld Q q 52 x54 (G16.room 18)) fun x55 =>
  bP (pNil v0) fun x56 =>
  bP (fa Q q 191 5 8 x56) fun x57 =>
  bP (ld Q q 3 x57 (G16.room 18)) fun x58 =>
  bS (bs Q q 52 1 (rep z3 1) 1 [(0, 0, 1)] [x58] ((G16.room 18).at' (G16.nx + 10))) fun x59 G60 =>
  bS (ap Q q 52 52 1 8 x55 x59 (G60.back (G16.room 18))) fun x62 G61 =>
  bP (pNil v0) fun x63 =>
  bP (fa Q q 191 4 7 x63) fun x64 =>
  bP (st Q q 52 1 x64 x62 G61) fun G65 =>
  bP (pNil v0) fun x66 =>
  bP (fa Q q 191 3 6 x66) fun x67 =>
  bP (st Q q 189 1 x67 .nilIface G65) fun G68 =>
  bP (pNil v0) fun x69 =>
  bP (fa Q q 191 4 7 x69) fun x70 =>
  bP (ld Q q 52 x70 (G68.room 10)) fun x71 =>
  bP (ln Q q 52 x71) fun x72 =>
  bP (pNil v0) fun x73 =>
  bP (fa Q q 191 2 5 x73) fun x74 =>
  bP (ld Q q 3 x74 (G68.room 10)) fun x75 =>
  bP (bn Q q .lss 3 (.tmp 80) (.tmp 84) x72 x75) fun x76 =>
  ifV x76 (
  bP (pNil v0) fun x77 =>
  bP (fa Q q 191 1 1 x77) fun x78 =>
  bP (lda Q q 119 4 x78 (G68.room 10)) fun x79 =>
  bS (e.ev.cl 112 [x79] (G68.room 10)) fun x80 G81 =>
  bP (ifc Q q 192 x80) fun x82 =>
  bP (pNil v0) fun x83 =>
  bP (fa Q q 191 3 6 x83) fun x84 =>
  bP (st Q q 189 1 x84 x82 G81) fun G85 =>
  J0 (xq q 100 (nth undef [v0, v1]) [(94, x84), (93, x83), (92, x82), (91, x80), (90, x79), (89, x78), (88, x77), (87, v0), (86, v0), (85, x76), (84, x75), (83, x74), (82, x73), (81, v0), (80, x72), (79, x71), (78, x70), (77, x69), (76, v0), (75, x67), (74, x66), (73, x64), (72, x63), (71, x62), (70, x59), (69, x58), (68, x57), (67, x56), (66, v0), (65, x55), (64, x54), (63, x53), (62, v0), (61, v0), (60, v0), (8, x52), (59, x52), (58, x51), (57, x50), (31, x27), (30, x26), (29, x25), (28, x24), (27, x23), (26, x22), (25, v0), (24, x17), (23, x15), (22, v1), (21, x14), (20, x13), (19, x12), (18, v0), (17, x11), (16, x9), (15, x7), (14, x5), (13, x3), (12, x1), (11, x0), (10, x0), (9, v0), (4, (.bool false))] []) G85) (
  J0 (xq q 100 (nth undef [v0, v1]) [(85, x76), (84, x75), (83, x74), (82, x73), (81, v0), (80, x72), (79, x71), (78, x70), (77, x69), (76, v0), (75, x67), (74, x66), (73, x64), (72, x63), (71, x62), (70, x59), (69, x58), (68, x57), (67, x56), (66, v0), (65, x55), (64, x54), (63, x53), (62, v0), (61, v0), (60, v0), (8, x52), (59, x52), (58, x51), (57, x50), (31, x27), (30, x26), (29, x25), (28, x24), (27, x23), (26, x22), (25, v0), (24, x17), (23, x15), (22, v1), (21, x14), (20, x13), (19, x12), (18, v0), (17, x11), (16, x9), (15, x7), (14, x5), (13, x3), (12, x1), (11, x0), (10, x0), (9, v0), (4, (.bool false))] []) (G68.room 10))) (
  J0 (xq q 100 (nth undef [v0, v1]) [(59, x52), (58, x51), (57, x50), (31, x27), (30, x26), (29, x25), (28, x24), (27, x23), (26, x22), (25, v0), (24, x17), (23, x15), (22, v1), (21, x14), (20, x13), (19, x12), (18, v0), (17, x11), (16, x9), (15, x7), (14, x5), (13, x3), (12, x1), (11, x0), (10, x0), (9, v0), (4, (.bool false))] []) G16))))
/-- (*coxswain/mail.Drain).Step -/
noncomputable def s58 (q : Bool) (e : Ex) (v0 v1 : Value) (G : GS) : Option (Value × GS) := sb58 q e (j58_0 q e) v0 v1 G
theorem m58 {e : Ex} {E : Ev} (h : ExLe Q e E) (v0 v1 : Value) (G : GS) : Ref (s58 true e v0 v1 G) (s58 false (Ex.of E) v0 v1 G) := by
  unfold s58 sb58
  repeat' (with_reducible first | exact Ref.rfl' _ | exact ROp.r | refine Ref.bP ?_ fun _ => ?_ | refine Ref.bS ?_ fun _ _ => ?_ | exact Ref.cl (by assumption) | refine Ref.ifV ?_ ?_ | refine LpLe.rx (by assumption) ?_ | refine Ref.xitq ?_ | exact UOk.z | refine UOk.c (by assumption) ?_ | exact Ref.nil _ | refine Ref.bVe fun _ _ => ?_ | refine Ref.bLq (by assumption) ?_ fun _ _ _ => ?_ | refine Ref.ifE ?_ ?_ | refine Ref.chk ?_ ?_ | refine Imp.and ?_ ?_ | refine Imp.or ?_ | exact Imp.rfl' _ | refine Imp.sameO ?_ | refine Ref.gd ?_ | exact Ref.cValue (by assumption) | refine Ref.bX ?_ fun _ _ _ => ?_ | exact Ref.scQ (by assumption) | exact Ref.xRangeQ (by assumption) | exact Ref.cInvoke (by assumption) | refine mkj58_0 (by assumption) ?_)
noncomputable def jt58 (J0 : Env → GS → Option (Value × GS)) : JT (Value × GS) :=
  (.n none .e (.n none .e (.n none .e (.n (some (fun T G => J0 (nth undef T) G)) .e .e))))
set_option maxHeartbeats 8000000 in
theorem jr58_0 (orc : FuncId → Bool) (J0 : Env → GS → Option (Value × GS)) (T : List Value) (G : GS) : runC Q (evL Q orc) Tryz.f58.ntmps (jt58 J0) (bodyOf Tryz.f58) (retE Q Tryz.f58.results.toList) [true, true, true] (nth undef T) G = jb58_0 false (Ex.of (E orc))  (nth undef T) G := by kernel_rfl
set_option maxHeartbeats 8000000 in
theorem jo58 (orc : FuncId → Bool) : JOk Q orc Tryz.f58.ntmps (jt58 (j58_0 false (Ex.of (E orc))) ) (bodyOf Tryz.f58) (retE Q Tryz.f58.results.toList) :=
  jOk Q orc (l := [([true, true, true], (fun T G => j58_0 false (Ex.of (E orc)) (nth undef T) G))]) (by kernel_rfl) (AllE.c (fun T G => jr58_0 orc (j58_0 false (Ex.of (E orc))) T G) (AllE.z))
set_option maxHeartbeats 8000000 in
theorem je58 (orc : FuncId → Bool) (J0 : Env → GS → Option (Value × GS)) (v0 v1 : Value) (G : GS) : sxC Q (evL Q orc) Tryz.f58.ntmps (jt58 J0) (bodyOf Tryz.f58) (nth undef [v0, v1]) G (retE Q Tryz.f58.results.toList) = sb58 false (Ex.of (E orc)) J0 v0 v1 G := by kernel_rfl
set_option maxHeartbeats 8000000 in
theorem f58 {orc : FuncId → Bool} {e : Ex} (h : ExLe Q e (E orc)) (v0 v1 : Value) (G : GS) : Ref (s58 true e v0 v1 G) ((E orc).cl 58 [v0, v1] G) :=
  fun r hr => cl_sxC Q orc (vs := [v0, v1]) G (jt58 (j58_0 false (Ex.of (E orc))) ) Tryz.func58 (by kernel_rfl) (by kernel_rfl) (by kernel_rfl) (by kernel_rfl) (by kernel_rfl) (jo58 orc) (je58 orc (j58_0 false (Ex.of (E orc))) v0 v1 G) (m58 h v0 v1 G r hr)
noncomputable def jb59_0 (q : Bool) (e : Ex) (τ : Env) (G : GS) : Option (Value × GS) :=
  bV q (τ 0) fun a0_ =>
  bP (pNil a0_) fun x0 =>
  bP (fa Q q 201 6 9 x0) fun x1 =>
  bP (ld Q q 4 x1 G) fun x2 =>
  some (x2, G)
noncomputable def j59_0 (q : Bool) (e : Ex) (τ : Env) (G : GS) : Option (Value × GS) := jb59_0 q e τ G
theorem mj59_0 {e : Ex} {E : Ev} (h : ExLe Q e E) (τ : Env) (G : GS) : Ref (j59_0 true e τ G) (j59_0 false (Ex.of E) τ G) := by
  unfold j59_0 jb59_0
  exact Ref.gq
theorem mkj59_0 {e : Ex} {E : Ev} (h : ExLe Q e E) {τ : Env} {l U : List (Nat × Value)} {G : GS} (hU : UOk τ U) : Ref (j59_0 true e (xq true 101 τ l U) G) (j59_0 false (Ex.of E) (xq false 101 τ l U) G) := by
  rw [xq_eq hU]
  exact mj59_0 h _ _
noncomputable def sb59 (q : Bool) (e : Ex) (J0 : Env → GS → Option (Value × GS)) (v0 v1 : Value) (G : GS) : Option (Value × GS) :=
  bP (pNil v0) fun x3 =>
  bP (fa Q q 201 6 9 x3) fun x4 =>
  bP (ld Q q 4 x4 G) fun x5 =>
  ifV x5 (
  J0 (xq q 101 (nth undef [v0, v1]) [(43, x5), (47, x5), (46, x4), (45, x3), (44, v0), (4, (.bool false))] []) G) (
  bP (pNil v0) fun x6 =>
  bP (fa Q q 201 4 7 x6) fun x7 =>
  bP (ld Q q 199 x7 G) fun x8 =>
  bP (ep Q q true 199 (.tmp 52) (.const (.pointer none)) x8 (.pointer none)) fun x9 =>
  ifV x9 (
  bP (pNil v0) fun x10 =>
  bP (fa Q q 201 4 7 x10) fun x11 =>
  bP (ld Q q 199 x11 G) fun x12 =>
  bS (e.ev.cl 113 [x12, v1] G) fun x13 G14 =>
  ifV x13 (
  bP (pNil v0) fun x15 =>
  bP (fa Q q 201 2 5 x15) fun x16 =>
  bP (ld Q q 52 x16 (G14.room 14)) fun x17 =>
  bP (pNil v0) fun x18 =>
  bP (fa Q q 201 5 8 x18) fun x19 =>
  bP (ld Q q 3 x19 (G14.room 14)) fun x20 =>
  bS (bs Q q 52 1 (rep z3 1) 1 [(0, 0, 1)] [x20] ((G14.room 14).at' (G14.nx + 9))) fun x21 G22 =>
  bS (ap Q q 52 52 1 8 x17 x21 (G22.back (G14.room 14))) fun x24 G23 =>
  bP (pNil v0) fun x25 =>
  bP (fa Q q 201 2 5 x25) fun x26 =>
  bP (st Q q 52 1 x26 x24 G23) fun G27 =>
  bP (pNil v0) fun x28 =>
  bP (fa Q q 201 4 7 x28) fun x29 =>
  bP (st Q q 199 1 x29 (.pointer none) G27) fun G30 =>
  bP (pNil v0) fun x31 =>
  bP (fa Q q 201 0 0 x31) fun x32 =>
  bP (lda Q q 119 4 x32 G30) fun x33 =>
  bS (e.ev.cl 114 [x33] G30) fun x34 G35 =>
  bP (pNil v0) fun x36 =>
  bP (fa Q q 201 3 6 x36) fun x37 =>
  bP (st Q q 198 1 x37 x34 G35) fun G38 =>
  bP (pNil v0) fun x39 =>
  bP (fa Q q 201 2 5 x39) fun x40 =>
  bP (ld Q q 52 x40 (G38.room 14)) fun x41 =>
  bP (ln Q q 52 x41) fun x42 =>
  bP (pNil v0) fun x43 =>
  bP (fa Q q 201 1 4 x43) fun x44 =>
  bP (ld Q q 3 x44 (G38.room 14)) fun x45 =>
  bP (bn Q q .geq 3 (.tmp 89) (.tmp 93) x42 x45) fun x46 =>
  bP (pNil v0) fun x47 =>
  bP (fa Q q 201 6 9 x47) fun x48 =>
  bP (st Q q 4 1 x48 x46 (G38.room 14)) fun G49 =>
  J0 (xq q 101 (nth undef [v0, v1]) [(96, x48), (95, x47), (94, x46), (93, x45), (92, x44), (91, x43), (90, v0), (89, x42), (88, x41), (87, x40), (86, x39), (85, v0), (84, v0), (83, x37), (82, x36), (81, x34), (80, x33), (79, x32), (78, x31), (77, v0), (76, v0), (75, x29), (74, x28), (73, v0), (72, x26), (71, x25), (70, x24), (69, x21), (68, x20), (67, x19), (66, x18), (65, v0), (64, x17), (63, x16), (62, x15), (61, v0), (60, v0), (59, x13), (58, v1), (57, x12), (56, x11), (55, x10), (54, v0), (48, x9), (53, x9), (52, x8), (51, x7), (50, x6), (49, v0), (43, x5), (47, x5), (46, x4), (45, x3), (44, v0), (4, (.bool false))] []) G49) (
  J0 (xq q 101 (nth undef [v0, v1]) [(59, x13), (58, v1), (57, x12), (56, x11), (55, x10), (54, v0), (48, x9), (53, x9), (52, x8), (51, x7), (50, x6), (49, v0), (43, x5), (47, x5), (46, x4), (45, x3), (44, v0), (4, (.bool false))] []) G14)) (
  bP (pNil v0) fun x50 =>
  bP (fa Q q 201 3 6 x50) fun x51 =>
  bP (ld Q q 198 x51 G) fun x52 =>
  bS (e.ev.cl 115 [x52, v1] G) fun x53 G54 =>
  ifV x53 (
  bP (pNil v0) fun x55 =>
  bP (fa Q q 201 3 6 x55) fun x56 =>
  bP (ld Q q 198 x56 G54) fun x57 =>
  bS (e.ev.cl 116 [x57] G54) fun x58 G59 =>
  bP (pExtract x58 0) fun x60 =>
  bP (pExtract x58 1) fun x61 =>
  bP (pNil v0) fun x62 =>
  bP (fa Q q 201 5 8 x62) fun x63 =>
  bP (st Q q 3 1 x63 x60 G59) fun G64 =>
  bP (bn Q q .eql 26 (.tmp 25) (.const (.int .i64 0)) x61 (.int .i64 0)) fun x65 =>
  ifV x65 (
  bP (pNil v0) fun x66 =>
  bP (fa Q q 201 0 0 x66) fun x67 =>
  bP (lda Q q 119 4 x67 (G64.room 14)) fun x68 =>
  bP (pNil v0) fun x69 =>
  bP (fa Q q 201 3 6 x69) fun x70 =>
  bP (ld Q q 198 x70 (G64.room 14)) fun x71 =>
  bS (e.ev.cl 118 [x71] (G64.room 14)) fun x73 G72 =>
  chk ((sameO (lda Q q 119 4 x67 G72) x68 && true)) <|
  bS (e.ev.cl 117 [x68, x73] G72) fun x75 G74 =>
  bP (pNil v0) fun x76 =>
  bP (fa Q q 201 4 7 x76) fun x77 =>
  bP (st Q q 199 1 x77 x75 G74) fun G78 =>
  J0 (xq q 101 (nth undef [v0, v1]) [(39, x77), (38, x76), (37, x75), (36, x73), (35, x71), (34, x70), (33, x69), (32, v0), (31, x68), (30, x67), (29, x66), (28, v0), (27, v0), (26, x65), (25, x61), (24, x63), (23, x62), (22, x60), (21, v0), (6, x61), (5, x60), (20, x61), (19, x60), (13, x58), (18, x58), (17, x57), (16, x56), (15, x55), (14, v0), (12, x53), (11, v1), (10, x52), (9, x51), (8, x50), (7, v0), (48, x9), (53, x9), (52, x8), (51, x7), (50, x6), (49, v0), (43, x5), (47, x5), (46, x4), (45, x3), (44, v0), (4, (.bool false))] []) G78) (
  bP (pNil v0) fun x79 =>
  bP (fa Q q 201 6 9 x79) fun x80 =>
  bP (st Q q 4 1 x80 (.bool true) G64) fun G81 =>
  J0 (xq q 101 (nth undef [v0, v1]) [(42, x80), (41, x79), (40, v0), (26, x65), (25, x61), (24, x63), (23, x62), (22, x60), (21, v0), (6, x61), (5, x60), (20, x61), (19, x60), (13, x58), (18, x58), (17, x57), (16, x56), (15, x55), (14, v0), (12, x53), (11, v1), (10, x52), (9, x51), (8, x50), (7, v0), (48, x9), (53, x9), (52, x8), (51, x7), (50, x6), (49, v0), (43, x5), (47, x5), (46, x4), (45, x3), (44, v0), (4, (.bool false))] []) G81)) (
  J0 (xq q 101 (nth undef [v0, v1]) [(12, x53), (11, v1), (10, x52), (9, x51), (8, x50), (7, v0), (48, x9), (53, x9), (52, x8), (51, x7), (50, x6), (49, v0), (43, x5), (47, x5), (46, x4), (45, x3), (44, v0), (4, (.bool false))] []) G54)))
/-- (*coxswain/coxswainref25.Drain).Step -/
noncomputable def s59 (q : Bool) (e : Ex) (v0 v1 : Value) (G : GS) : Option (Value × GS) := sb59 q e (j59_0 q e) v0 v1 G
theorem m59 {e : Ex} {E : Ev} (h : ExLe Q e E) (v0 v1 : Value) (G : GS) : Ref (s59 true e v0 v1 G) (s59 false (Ex.of E) v0 v1 G) := by
  unfold s59 sb59
  repeat' (with_reducible first | exact Ref.rfl' _ | exact ROp.r | refine Ref.bP ?_ fun _ => ?_ | refine Ref.bS ?_ fun _ _ => ?_ | exact Ref.cl (by assumption) | refine Ref.ifV ?_ ?_ | refine LpLe.rx (by assumption) ?_ | refine Ref.xitq ?_ | exact UOk.z | refine UOk.c (by assumption) ?_ | exact Ref.nil _ | refine Ref.bVe fun _ _ => ?_ | refine Ref.bLq (by assumption) ?_ fun _ _ _ => ?_ | refine Ref.ifE ?_ ?_ | refine Ref.chk ?_ ?_ | refine Imp.and ?_ ?_ | refine Imp.or ?_ | exact Imp.rfl' _ | refine Imp.sameO ?_ | refine Ref.gd ?_ | exact Ref.cValue (by assumption) | refine Ref.bX ?_ fun _ _ _ => ?_ | exact Ref.scQ (by assumption) | exact Ref.xRangeQ (by assumption) | exact Ref.cInvoke (by assumption) | refine mkj59_0 (by assumption) ?_)
noncomputable def jt59 (J0 : Env → GS → Option (Value × GS)) : JT (Value × GS) :=
  (.n none .e (.n (some (fun T G => J0 (nth undef T) G)) .e .e))
set_option maxHeartbeats 8000000 in
theorem jr59_0 (orc : FuncId → Bool) (J0 : Env → GS → Option (Value × GS)) (T : List Value) (G : GS) : runC Q (evL Q orc) Tryz.f59.ntmps (jt59 J0) (bodyOf Tryz.f59) (retE Q Tryz.f59.results.toList) [true] (nth undef T) G = jb59_0 false (Ex.of (E orc))  (nth undef T) G := by kernel_rfl
set_option maxHeartbeats 8000000 in
theorem jo59 (orc : FuncId → Bool) : JOk Q orc Tryz.f59.ntmps (jt59 (j59_0 false (Ex.of (E orc))) ) (bodyOf Tryz.f59) (retE Q Tryz.f59.results.toList) :=
  jOk Q orc (l := [([true], (fun T G => j59_0 false (Ex.of (E orc)) (nth undef T) G))]) (by kernel_rfl) (AllE.c (fun T G => jr59_0 orc (j59_0 false (Ex.of (E orc))) T G) (AllE.z))
set_option maxHeartbeats 8000000 in
theorem je59 (orc : FuncId → Bool) (J0 : Env → GS → Option (Value × GS)) (v0 v1 : Value) (G : GS) : sxC Q (evL Q orc) Tryz.f59.ntmps (jt59 J0) (bodyOf Tryz.f59) (nth undef [v0, v1]) G (retE Q Tryz.f59.results.toList) = sb59 false (Ex.of (E orc)) J0 v0 v1 G := by kernel_rfl
set_option maxHeartbeats 8000000 in
theorem f59 {orc : FuncId → Bool} {e : Ex} (h : ExLe Q e (E orc)) (v0 v1 : Value) (G : GS) : Ref (s59 true e v0 v1 G) ((E orc).cl 59 [v0, v1] G) :=
  fun r hr => cl_sxC Q orc (vs := [v0, v1]) G (jt59 (j59_0 false (Ex.of (E orc))) ) Tryz.func59 (by kernel_rfl) (by kernel_rfl) (by kernel_rfl) (by kernel_rfl) (by kernel_rfl) (jo59 orc) (je59 orc (j59_0 false (Ex.of (E orc))) v0 v1 G) (m59 h v0 v1 G r hr)
noncomputable def jb60_0 (q : Bool) (e : Ex) (τ : Env) (G : GS) : Option (Value × GS) :=
  bV q (τ 1) fun a1_ =>
  bV q (τ 2) fun a2_ =>
  bV q (τ 3) fun a3_ =>
  bV q (τ 7) fun a7_ =>
  bP (lda Q q 23 3 a3_ G) fun x8 =>
  bS (e.ev.cl 64 [x8, a1_] G) fun x9 G10 =>
  bP (pExtract x9 0) fun x11 =>
  bP (pExtract x9 1) fun x12 =>
  bS (al Q q 119 z119 G10) fun x13 G14 =>
  bP (st Q q 119 4 x13 x11 G14) fun G15 =>
  bS (gd x12 true (some (a7_, G15)) G15) fun x16 G17 =>
  bS (gd x12 true (bP (pNil x16) fun y => some (y, G17)) G17) fun x18 G19 =>
  bS (gd x12 true (bP (fa Q q 184 2 2 x18) fun y => some (y, G19)) G19) fun x20 G21 =>
  bS (gd x12 true (bP (ld Q q 26 x20 G21) fun y => some (y, G21)) G21) fun x22 G23 =>
  bS (gd x12 true (bP (bn Q q .eql 26 (.tmp 42) (.const (.int .i64 0)) x22 (.int .i64 0)) fun y => some (y, G23)) G23) fun x24 G25 =>
  bP (pickV x12 x24 (.bool false)) fun x26 =>
  ifV x26 (
  bP (lda Q q 119 4 x13 G25) fun x27 =>
  bS (e.ev.cl 120 [x27, a2_] G25) fun x28 G29 =>
  bP (pNil a7_) fun x30 =>
  bP (fa Q q 184 1 1 x30) fun x31 =>
  bP (st Q q 182 1 x31 x28 G29) fun G32 =>
  some (a7_, G32)) (
  some (a7_, G25))
noncomputable def j60_0 (q : Bool) (e : Ex) (τ : Env) (G : GS) : Option (Value × GS) := jb60_0 q e τ G
theorem mj60_0 {e : Ex} {E : Ev} (h : ExLe Q e E) (τ : Env) (G : GS) : Ref (j60_0 true e τ G) (j60_0 false (Ex.of E) τ G) := by
  unfold j60_0 jb60_0
  exact Ref.gq
theorem mkj60_0 {e : Ex} {E : Ev} (h : ExLe Q e E) {τ : Env} {l U : List (Nat × Value)} {G : GS} (hU : UOk τ U) : Ref (j60_0 true e (xq true 52 τ l U) G) (j60_0 false (Ex.of E) (xq false 52 τ l U) G) := by
  rw [xq_eq hU]
  exact mj60_0 h _ _
noncomputable def sb60 (q : Bool) (e : Ex) (J0 : Env → GS → Option (Value × GS)) (v0 v1 v2 : Value) (G : GS) : Option (Value × GS) :=
  bS (bx q v0 G) fun x0 G1 =>
  bP (lda Q q 23 3 x0 G1) fun x2 =>
  bS (e.ev.cl 119 [x2, v1] G1) fun x3 G4 =>
  bP (bd Q q 184 z184 [(0, 0, 1), (2, 2, 1)] [(.bool true), x3]) fun x5 =>
  bS (bx q x5 G4) fun x6 G7 =>
  bP (pNil x6) fun x33 =>
  bP (fa Q q 184 2 2 x33) fun x34 =>
  bP (ld Q q 26 x34 G7) fun x35 =>
  bP (bn Q q .eql 26 (.tmp 18) (.const (.int .i64 0)) x35 (.int .i64 0)) fun x36 =>
  bS (gd x36 true (some (v2, G7)) G7) fun x37 G38 =>
  bS (gd x36 true (bP (bn Q q .lss 3 (.tmp 21) (.const (.int .i64 0)) x37 (.int .i64 0)) fun y => some (y, G38)) G38) fun x39 G40 =>
  bS (gd x36 true (some (x39, G40)) G40) fun x41 G42 =>
  bS (gd x41 false (some (v2, G42)) G42) fun x43 G44 =>
  bS (gd x41 false (bP (bn Q q .gtr 3 (.tmp 24) (.const (.int .i64 65535)) x43 (.int .i64 65535)) fun y => some (y, G44)) G44) fun x45 G46 =>
  bS (gd x36 true (bP (pickV x41 (.bool true) x45) fun y => some (y, G46)) G46) fun x47 G48 =>
  bP (pickV x36 x47 (.bool false)) fun x49 =>
  ifV x49 (
  bP (pNil x6) fun x50 =>
  bP (fa Q q 184 2 2 x50) fun x51 =>
  bP (st Q q 26 1 x51 (.int .i64 3) G48) fun G52 =>
  J0 (xq q 52 (nth undef [v0, v1, v2]) [(30, x51), (29, x50), (28, x6), (27, x49), (26, x47), (25, x45), (24, x43), (23, x41), (22, x39), (21, x37), (20, x36), (19, x36), (18, x35), (17, x34), (16, x33), (15, x6), (7, x6), (14, x6), (13, x5), (12, x3), (11, v1), (10, x2), (6, (.pointer none)), (3, x0)] []) G52) (
  J0 (xq q 52 (nth undef [v0, v1, v2]) [(27, x49), (26, x47), (25, x45), (24, x43), (23, x41), (22, x39), (21, x37), (20, x36), (19, x36), (18, x35), (17, x34), (16, x33), (15, x6), (7, x6), (14, x6), (13, x5), (12, x3), (11, v1), (10, x2), (6, (.pointer none)), (3, x0)] []) G48)
/-- coxswain/mail.NewSend -/
noncomputable def s60 (q : Bool) (e : Ex) (v0 v1 v2 : Value) (G : GS) : Option (Value × GS) := sb60 q e (j60_0 q e) v0 v1 v2 G
theorem m60 {e : Ex} {E : Ev} (h : ExLe Q e E) (v0 v1 v2 : Value) (G : GS) : Ref (s60 true e v0 v1 v2 G) (s60 false (Ex.of E) v0 v1 v2 G) := by
  unfold s60 sb60
  repeat' (with_reducible first | exact Ref.rfl' _ | exact ROp.r | refine Ref.bP ?_ fun _ => ?_ | refine Ref.bS ?_ fun _ _ => ?_ | exact Ref.cl (by assumption) | refine Ref.ifV ?_ ?_ | refine LpLe.rx (by assumption) ?_ | refine Ref.xitq ?_ | exact UOk.z | refine UOk.c (by assumption) ?_ | exact Ref.nil _ | refine Ref.bVe fun _ _ => ?_ | refine Ref.bLq (by assumption) ?_ fun _ _ _ => ?_ | refine Ref.ifE ?_ ?_ | refine Ref.chk ?_ ?_ | refine Imp.and ?_ ?_ | refine Imp.or ?_ | exact Imp.rfl' _ | refine Imp.sameO ?_ | refine Ref.gd ?_ | exact Ref.cValue (by assumption) | refine Ref.bX ?_ fun _ _ _ => ?_ | exact Ref.scQ (by assumption) | exact Ref.xRangeQ (by assumption) | exact Ref.cInvoke (by assumption) | refine mkj60_0 (by assumption) ?_)
noncomputable def jt60 (J0 : Env → GS → Option (Value × GS)) : JT (Value × GS) :=
  (.n none .e (.n none .e (.n (some (fun T G => J0 (nth undef T) G)) .e .e)))
theorem jr60_0 (orc : FuncId → Bool) (J0 : Env → GS → Option (Value × GS)) (T : List Value) (G : GS) : runC Q (evL Q orc) Tryz.f60.ntmps (jt60 J0) (bodyOf Tryz.f60) (retE Q Tryz.f60.results.toList) [true, true] (nth undef T) G = jb60_0 false (Ex.of (E orc))  (nth undef T) G := by kernel_rfl
theorem jo60 (orc : FuncId → Bool) : JOk Q orc Tryz.f60.ntmps (jt60 (j60_0 false (Ex.of (E orc))) ) (bodyOf Tryz.f60) (retE Q Tryz.f60.results.toList) :=
  jOk Q orc (l := [([true, true], (fun T G => j60_0 false (Ex.of (E orc)) (nth undef T) G))]) (by kernel_rfl) (AllE.c (fun T G => jr60_0 orc (j60_0 false (Ex.of (E orc))) T G) (AllE.z))
theorem je60 (orc : FuncId → Bool) (J0 : Env → GS → Option (Value × GS)) (v0 v1 v2 : Value) (G : GS) : sxC Q (evL Q orc) Tryz.f60.ntmps (jt60 J0) (bodyOf Tryz.f60) (nth undef [v0, v1, v2]) G (retE Q Tryz.f60.results.toList) = sb60 false (Ex.of (E orc)) J0 v0 v1 v2 G := by kernel_rfl
theorem f60 {orc : FuncId → Bool} {e : Ex} (h : ExLe Q e (E orc)) (v0 v1 v2 : Value) (G : GS) : Ref (s60 true e v0 v1 v2 G) ((E orc).cl 60 [v0, v1, v2] G) :=
  fun r hr => cl_sxC Q orc (vs := [v0, v1, v2]) G (jt60 (j60_0 false (Ex.of (E orc))) ) Tryz.func60 (by kernel_rfl) (by kernel_rfl) (by kernel_rfl) (by kernel_rfl) (by kernel_rfl) (jo60 orc) (je60 orc (j60_0 false (Ex.of (E orc))) v0 v1 v2 G) (m60 h v0 v1 v2 G r hr)
noncomputable def jb61_0 (q : Bool) (e : Ex) (τ : Env) (G : GS) : Option (Value × GS) :=
  bV q (τ 1) fun a1_ =>
  bV q (τ 2) fun a2_ =>
  bV q (τ 3) fun a3_ =>
  bV q (τ 7) fun a7_ =>
  bP (bn Q q .neq 26 (.tmp 21) (.const (.int .i64 0)) a7_ (.int .i64 0)) fun x5 =>
  ifV x5 (
  bP (bd Q q 187 z187 [(1, 1, 1), (2, 2, 1)] [(.bool true), a7_]) fun x6 =>
  bS (bx q x6 G) fun x7 G8 =>
  some (x7, G8)) (
  bP (lda Q q 23 3 a3_ G) fun x9 =>
  bS (e.ev.cl 51 [x9, a1_] G) fun x10 G11 =>
  bS (e.ev.cl 122 [x10, a2_] G11) fun x12 G13 =>
  bP (bd Q q 187 z187 [(0, 0, 1)] [x12]) fun x14 =>
  bS (bx q x14 G13) fun x15 G16 =>
  some (x15, G16))
noncomputable def j61_0 (q : Bool) (e : Ex) (τ : Env) (G : GS) : Option (Value × GS) := jb61_0 q e τ G
theorem mj61_0 {e : Ex} {E : Ev} (h : ExLe Q e E) (τ : Env) (G : GS) : Ref (j61_0 true e τ G) (j61_0 false (Ex.of E) τ G) := by
  unfold j61_0 jb61_0
  exact Ref.gq
theorem mkj61_0 {e : Ex} {E : Ev} (h : ExLe Q e E) {τ : Env} {l U : List (Nat × Value)} {G : GS} (hU : UOk τ U) : Ref (j61_0 true e (xq true 33 τ l U) G) (j61_0 false (Ex.of E) (xq false 33 τ l U) G) := by
  rw [xq_eq hU]
  exact mj61_0 h _ _
noncomputable def sb61 (q : Bool) (e : Ex) (J0 : Env → GS → Option (Value × GS)) (v0 v1 v2 : Value) (G : GS) : Option (Value × GS) :=
  bS (bx q v0 G) fun x0 G1 =>
  bP (lda Q q 23 3 x0 G1) fun x2 =>
  bS (e.ev.cl 121 [x2, v1] G1) fun x3 G4 =>
  bP (bn Q q .eql 26 (.tmp 11) (.const (.int .i64 0)) x3 (.int .i64 0)) fun x17 =>
  bS (gd x17 true (some (v2, G4)) G4) fun x18 G19 =>
  bS (gd x17 true (bP (bn Q q .lss 3 (.tmp 14) (.const (.int .i64 0)) x18 (.int .i64 0)) fun y => some (y, G19)) G19) fun x20 G21 =>
  bS (gd x17 true (some (x20, G21)) G21) fun x22 G23 =>
  bS (gd x22 false (some (v2, G23)) G23) fun x24 G25 =>
  bS (gd x22 false (bP (bn Q q .gtr 3 (.tmp 17) (.const (.int .i64 65535)) x24 (.int .i64 65535)) fun y => some (y, G25)) G25) fun x26 G27 =>
  bS (gd x17 true (bP (pickV x22 (.bool true) x26) fun y => some (y, G27)) G27) fun x28 G29 =>
  bP (pickV x17 x28 (.bool false)) fun x30 =>
  ifV x30 (
  J0 (xq q 33 (nth undef [v0, v1, v2]) [(7, (.int .i64 3)), (20, x30), (19, x28), (18, x26), (17, x24), (16, x22), (15, x20), (14, x18), (13, x17), (12, x17), (11, x3), (7, x3), (10, x3), (9, v1), (8, x2), (6, (.pointer none)), (3, x0)] []) G29) (
  J0 (xq q 33 (nth undef [v0, v1, v2]) [(20, x30), (19, x28), (18, x26), (17, x24), (16, x22), (15, x20), (14, x18), (13, x17), (12, x17), (11, x3), (7, x3), (10, x3), (9, v1), (8, x2), (6, (.pointer none)), (3, x0)] []) G29)
/-- coxswain/coxswainref25.NewSend -/
noncomputable def s61 (q : Bool) (e : Ex) (v0 v1 v2 : Value) (G : GS) : Option (Value × GS) := sb61 q e (j61_0 q e) v0 v1 v2 G
theorem m61 {e : Ex} {E : Ev} (h : ExLe Q e E) (v0 v1 v2 : Value) (G : GS) : Ref (s61 true e v0 v1 v2 G) (s61 false (Ex.of E) v0 v1 v2 G) := by
  unfold s61 sb61
  repeat' (with_reducible first | exact Ref.rfl' _ | exact ROp.r | refine Ref.bP ?_ fun _ => ?_ | refine Ref.bS ?_ fun _ _ => ?_ | exact Ref.cl (by assumption) | refine Ref.ifV ?_ ?_ | refine LpLe.rx (by assumption) ?_ | refine Ref.xitq ?_ | exact UOk.z | refine UOk.c (by assumption) ?_ | exact Ref.nil _ | refine Ref.bVe fun _ _ => ?_ | refine Ref.bLq (by assumption) ?_ fun _ _ _ => ?_ | refine Ref.ifE ?_ ?_ | refine Ref.chk ?_ ?_ | refine Imp.and ?_ ?_ | refine Imp.or ?_ | exact Imp.rfl' _ | refine Imp.sameO ?_ | refine Ref.gd ?_ | exact Ref.cValue (by assumption) | refine Ref.bX ?_ fun _ _ _ => ?_ | exact Ref.scQ (by assumption) | exact Ref.xRangeQ (by assumption) | exact Ref.cInvoke (by assumption) | refine mkj61_0 (by assumption) ?_)
noncomputable def jt61 (J0 : Env → GS → Option (Value × GS)) : JT (Value × GS) :=
  (.n none .e (.n none .e (.n (some (fun T G => J0 (nth undef T) G)) .e .e)))
theorem jr61_0 (orc : FuncId → Bool) (J0 : Env → GS → Option (Value × GS)) (T : List Value) (G : GS) : runC Q (evL Q orc) Tryz.f61.ntmps (jt61 J0) (bodyOf Tryz.f61) (retE Q Tryz.f61.results.toList) [true, true] (nth undef T) G = jb61_0 false (Ex.of (E orc))  (nth undef T) G := by kernel_rfl
theorem jo61 (orc : FuncId → Bool) : JOk Q orc Tryz.f61.ntmps (jt61 (j61_0 false (Ex.of (E orc))) ) (bodyOf Tryz.f61) (retE Q Tryz.f61.results.toList) :=
  jOk Q orc (l := [([true, true], (fun T G => j61_0 false (Ex.of (E orc)) (nth undef T) G))]) (by kernel_rfl) (AllE.c (fun T G => jr61_0 orc (j61_0 false (Ex.of (E orc))) T G) (AllE.z))
theorem je61 (orc : FuncId → Bool) (J0 : Env → GS → Option (Value × GS)) (v0 v1 v2 : Value) (G : GS) : sxC Q (evL Q orc) Tryz.f61.ntmps (jt61 J0) (bodyOf Tryz.f61) (nth undef [v0, v1, v2]) G (retE Q Tryz.f61.results.toList) = sb61 false (Ex.of (E orc)) J0 v0 v1 v2 G := by kernel_rfl
theorem f61 {orc : FuncId → Bool} {e : Ex} (h : ExLe Q e (E orc)) (v0 v1 v2 : Value) (G : GS) : Ref (s61 true e v0 v1 v2 G) ((E orc).cl 61 [v0, v1, v2] G) :=
  fun r hr => cl_sxC Q orc (vs := [v0, v1, v2]) G (jt61 (j61_0 false (Ex.of (E orc))) ) Tryz.func61 (by kernel_rfl) (by kernel_rfl) (by kernel_rfl) (by kernel_rfl) (by kernel_rfl) (jo61 orc) (je61 orc (j61_0 false (Ex.of (E orc))) v0 v1 v2 G) (m61 h v0 v1 v2 G r hr)
noncomputable def jb62_0 (q : Bool) (e : Ex) (τ : Env) (G : GS) : Option (Value × GS) :=
  bV q (τ 1) fun a1_ =>
  bV q (τ 3) fun a3_ =>
  bV q (τ 7) fun a7_ =>
  bP (lda Q q 23 3 a3_ G) fun x8 =>
  bS (e.ev.cl 64 [x8, a1_] G) fun x9 G10 =>
  bP (pExtract x9 0) fun x11 =>
  bP (pExtract x9 1) fun x12 =>
  bS (al Q q 119 z119 G10) fun x13 G14 =>
  bP (st Q q 119 4 x13 x11 G14) fun G15 =>
  bS (gd x12 true (some (a7_, G15)) G15) fun x16 G17 =>
  bS (gd x12 true (bP (pNil x16) fun y => some (y, G17)) G17) fun x18 G19 =>
  bS (gd x12 true (bP (fa Q q 191 6 9 x18) fun y => some (y, G19)) G19) fun x20 G21 =>
  bS (gd x12 true (bP (ld Q q 26 x20 G21) fun y => some (y, G21)) G21) fun x22 G23 =>
  bS (gd x12 true (bP (bn Q q .eql 26 (.tmp 39) (.const (.int .i64 0)) x22 (.int .i64 0)) fun y => some (y, G23)) G23) fun x24 G25 =>
  bP (pickV x12 x24 (.bool false)) fun x26 =>
  ifV x26 (
  bP (lda Q q 119 4 x13 (G25.room 12)) fun x27 =>
  bP (lda Q q 119 4 x13 (G25.room 12)) fun x28 =>
  bS (e.ev.cl 112 [x28] (G25.room 12)) fun x30 G29 =>
  chk ((sameO (lda Q q 119 4 x13 G29) x27 && true)) <|
  bP (ifc Q q 192 x30) fun x31 =>
  bP (pNil a7_) fun x32 =>
  bP (fa Q q 191 1 1 x32) fun x33 =>
  bP (st Q q 119 4 x33 x27 G29) fun G34 =>
  bP (pNil a7_) fun x35 =>
  bP (fa Q q 191 3 6 x35) fun x36 =>
  bP (st Q q 189 1 x36 x31 G34) fun G37 =>
  some (a7_, G37)) (
  some (a7_, G25))
noncomputable def j62_0 (q : Bool) (e : Ex) (τ : Env) (G : GS) : Option (Value × GS) := jb62_0 q e τ G
theorem mj62_0 {e : Ex} {E : Ev} (h : ExLe Q e E) (τ : Env) (G : GS) : Ref (j62_0 true e τ G) (j62_0 false (Ex.of E) τ G) := by
  unfold j62_0 jb62_0
  exact Ref.gq
theorem mkj62_0 {e : Ex} {E : Ev} (h : ExLe Q e E) {τ : Env} {l U : List (Nat × Value)} {G : GS} (hU : UOk τ U) : Ref (j62_0 true e (xq true 53 τ l U) G) (j62_0 false (Ex.of E) (xq false 53 τ l U) G) := by
  rw [xq_eq hU]
  exact mj62_0 h _ _
noncomputable def sb62 (q : Bool) (e : Ex) (J0 : Env → GS → Option (Value × GS)) (v0 v1 v2 : Value) (G : GS) : Option (Value × GS) :=
  bS (bx q v0 G) fun x0 G1 =>
  bP (lda Q q 23 3 x0 G1) fun x2 =>
  bS (e.ev.cl 119 [x2, v1] G1) fun x3 G4 =>
  bP (bd Q q 191 z191 [(0, 0, 1), (2, 5, 1), (6, 9, 1)] [(.bool true), v2, x3]) fun x5 =>
  bS (bx q x5 G4) fun x6 G7 =>
  bP (pNil x6) fun x38 =>
  bP (fa Q q 191 6 9 x38) fun x39 =>
  bP (ld Q q 26 x39 G7) fun x40 =>
  bP (bn Q q .eql 26 (.tmp 19) (.const (.int .i64 0)) x40 (.int .i64 0)) fun x41 =>
  bS (gd x41 true (some (v2, G7)) G7) fun x42 G43 =>
  bS (gd x41 true (bP (bn Q q .lss 3 (.tmp 22) (.const (.int .i64 1)) x42 (.int .i64 1)) fun y => some (y, G43)) G43) fun x44 G45 =>
  bP (pickV x41 x44 (.bool false)) fun x46 =>
  ifV x46 (
  bP (pNil x6) fun x47 =>
  bP (fa Q q 191 6 9 x47) fun x48 =>
  bP (st Q q 26 1 x48 (.int .i64 3) G45) fun G49 =>
  J0 (xq q 53 (nth undef [v0, v1, v2]) [(27, x48), (26, x47), (25, x6), (24, x46), (23, x44), (22, x42), (21, x41), (20, x41), (19, x40), (18, x39), (17, x38), (16, x6), (7, x6), (15, x6), (14, x5), (13, x3), (12, v1), (11, x2), (10, v2), (6, (.pointer none)), (3, x0)] []) G49) (
  J0 (xq q 53 (nth undef [v0, v1, v2]) [(24, x46), (23, x44), (22, x42), (21, x41), (20, x41), (19, x40), (18, x39), (17, x38), (16, x6), (7, x6), (15, x6), (14, x5), (13, x3), (12, v1), (11, x2), (10, v2), (6, (.pointer none)), (3, x0)] []) G45)
/-- coxswain/mail.NewDrain -/
noncomputable def s62 (q : Bool) (e : Ex) (v0 v1 v2 : Value) (G : GS) : Option (Value × GS) := sb62 q e (j62_0 q e) v0 v1 v2 G
theorem m62 {e : Ex} {E : Ev} (h : ExLe Q e E) (v0 v1 v2 : Value) (G : GS) : Ref (s62 true e v0 v1 v2 G) (s62 false (Ex.of E) v0 v1 v2 G) := by
  unfold s62 sb62
  repeat' (with_reducible first | exact Ref.rfl' _ | exact ROp.r | refine Ref.bP ?_ fun _ => ?_ | refine Ref.bS ?_ fun _ _ => ?_ | exact Ref.cl (by assumption) | refine Ref.ifV ?_ ?_ | refine LpLe.rx (by assumption) ?_ | refine Ref.xitq ?_ | exact UOk.z | refine UOk.c (by assumption) ?_ | exact Ref.nil _ | refine Ref.bVe fun _ _ => ?_ | refine Ref.bLq (by assumption) ?_ fun _ _ _ => ?_ | refine Ref.ifE ?_ ?_ | refine Ref.chk ?_ ?_ | refine Imp.and ?_ ?_ | refine Imp.or ?_ | exact Imp.rfl' _ | refine Imp.sameO ?_ | refine Ref.gd ?_ | exact Ref.cValue (by assumption) | refine Ref.bX ?_ fun _ _ _ => ?_ | exact Ref.scQ (by assumption) | exact Ref.xRangeQ (by assumption) | exact Ref.cInvoke (by assumption) | refine mkj62_0 (by assumption) ?_)
noncomputable def jt62 (J0 : Env → GS → Option (Value × GS)) : JT (Value × GS) :=
  (.n none .e (.n none .e (.n (some (fun T G => J0 (nth undef T) G)) .e .e)))
theorem jr62_0 (orc : FuncId → Bool) (J0 : Env → GS → Option (Value × GS)) (T : List Value) (G : GS) : runC Q (evL Q orc) Tryz.f62.ntmps (jt62 J0) (bodyOf Tryz.f62) (retE Q Tryz.f62.results.toList) [true, true] (nth undef T) G = jb62_0 false (Ex.of (E orc))  (nth undef T) G := by kernel_rfl
theorem jo62 (orc : FuncId → Bool) : JOk Q orc Tryz.f62.ntmps (jt62 (j62_0 false (Ex.of (E orc))) ) (bodyOf Tryz.f62) (retE Q Tryz.f62.results.toList) :=
  jOk Q orc (l := [([true, true], (fun T G => j62_0 false (Ex.of (E orc)) (nth undef T) G))]) (by kernel_rfl) (AllE.c (fun T G => jr62_0 orc (j62_0 false (Ex.of (E orc))) T G) (AllE.z))
theorem je62 (orc : FuncId → Bool) (J0 : Env → GS → Option (Value × GS)) (v0 v1 v2 : Value) (G : GS) : sxC Q (evL Q orc) Tryz.f62.ntmps (jt62 J0) (bodyOf Tryz.f62) (nth undef [v0, v1, v2]) G (retE Q Tryz.f62.results.toList) = sb62 false (Ex.of (E orc)) J0 v0 v1 v2 G := by kernel_rfl
theorem f62 {orc : FuncId → Bool} {e : Ex} (h : ExLe Q e (E orc)) (v0 v1 v2 : Value) (G : GS) : Ref (s62 true e v0 v1 v2 G) ((E orc).cl 62 [v0, v1, v2] G) :=
  fun r hr => cl_sxC Q orc (vs := [v0, v1, v2]) G (jt62 (j62_0 false (Ex.of (E orc))) ) Tryz.func62 (by kernel_rfl) (by kernel_rfl) (by kernel_rfl) (by kernel_rfl) (by kernel_rfl) (jo62 orc) (je62 orc (j62_0 false (Ex.of (E orc))) v0 v1 v2 G) (m62 h v0 v1 v2 G r hr)
noncomputable def jb63_0 (q : Bool) (e : Ex) (τ : Env) (G : GS) : Option (Value × GS) :=
  bV q (τ 1) fun a1_ =>
  bV q (τ 2) fun a2_ =>
  bV q (τ 3) fun a3_ =>
  bV q (τ 7) fun a7_ =>
  bP (bn Q q .neq 26 (.tmp 17) (.const (.int .i64 0)) a7_ (.int .i64 0)) fun x5 =>
  ifV x5 (
  bP (bd Q q 201 z201 [(6, 9, 1), (7, 10, 1)] [(.bool true), a7_]) fun x6 =>
  bS (bx q x6 G) fun x7 G8 =>
  some (x7, G8)) (
  bP (lda Q q 23 3 a3_ (G.room 11)) fun x9 =>
  bS (e.ev.cl 51 [x9, a1_] (G.room 11)) fun x11 G10 =>
  bP (lda Q q 23 3 a3_ G10) fun x12 =>
  chk ((sameO (lda Q q 23 3 a3_ (G.room 11)) x12 && true)) <|
  bS (e.ev.cl 51 [x12, a1_] G10) fun x14 G13 =>
  bS (e.ev.cl 114 [x14] G13) fun x16 G15 =>
  bP (bd Q q 201 z201 [(0, 0, 4), (1, 4, 1), (3, 6, 1)] [x11, a2_, x16]) fun x17 =>
  bS (bx q x17 (G15.at' (G.nx + 9))) fun x18 G19 =>
  some (x18, (G19.back G15)))
noncomputable def j63_0 (q : Bool) (e : Ex) (τ : Env) (G : GS) : Option (Value × GS) := jb63_0 q e τ G
theorem mj63_0 {e : Ex} {E : Ev} (h : ExLe Q e E) (τ : Env) (G : GS) : Ref (j63_0 true e τ G) (j63_0 false (Ex.of E) τ G) := by
  unfold j63_0 jb63_0
  exact Ref.gq
theorem mkj63_0 {e : Ex} {E : Ev} (h : ExLe Q e E) {τ : Env} {l U : List (Nat × Value)} {G : GS} (hU : UOk τ U) : Ref (j63_0 true e (xq true 32 τ l U) G) (j63_0 false (Ex.of E) (xq false 32 τ l U) G) := by
  rw [xq_eq hU]
  exact mj63_0 h _ _
noncomputable def sb63 (q : Bool) (e : Ex) (J0 : Env → GS → Option (Value × GS)) (v0 v1 v2 : Value) (G : GS) : Option (Value × GS) :=
  bS (bx q v0 G) fun x0 G1 =>
  bP (lda Q q 23 3 x0 G1) fun x2 =>
  bS (e.ev.cl 121 [x2, v1] G1) fun x3 G4 =>
  bP (bn Q q .eql 26 (.tmp 11) (.const (.int .i64 0)) x3 (.int .i64 0)) fun x20 =>
  bS (gd x20 true (some (v2, G4)) G4) fun x21 G22 =>
  bS (gd x20 true (bP (bn Q q .lss 3 (.tmp 14) (.const (.int .i64 1)) x21 (.int .i64 1)) fun y => some (y, G22)) G22) fun x23 G24 =>
  bP (pickV x20 x23 (.bool false)) fun x25 =>
  ifV x25 (
  J0 (xq q 32 (nth undef [v0, v1, v2]) [(7, (.int .i64 3)), (16, x25), (15, x23), (14, x21), (13, x20), (12, x20), (11, x3), (7, x3), (10, x3), (9, v1), (8, x2), (6, (.pointer none)), (3, x0)] []) G24) (
  J0 (xq q 32 (nth undef [v0, v1, v2]) [(16, x25), (15, x23), (14, x21), (13, x20), (12, x20), (11, x3), (7, x3), (10, x3), (9, v1), (8, x2), (6, (.pointer none)), (3, x0)] []) G24)
/-- coxswain/coxswainref25.NewDrain -/
noncomputable def s63 (q : Bool) (e : Ex) (v0 v1 v2 : Value) (G : GS) : Option (Value × GS) := sb63 q e (j63_0 q e) v0 v1 v2 G
theorem m63 {e : Ex} {E : Ev} (h : ExLe Q e E) (v0 v1 v2 : Value) (G : GS) : Ref (s63 true e v0 v1 v2 G) (s63 false (Ex.of E) v0 v1 v2 G) := by
  unfold s63 sb63
  repeat' (with_reducible first | exact Ref.rfl' _ | exact ROp.r | refine Ref.bP ?_ fun _ => ?_ | refine Ref.bS ?_ fun _ _ => ?_ | exact Ref.cl (by assumption) | refine Ref.ifV ?_ ?_ | refine LpLe.rx (by assumption) ?_ | refine Ref.xitq ?_ | exact UOk.z | refine UOk.c (by assumption) ?_ | exact Ref.nil _ | refine Ref.bVe fun _ _ => ?_ | refine Ref.bLq (by assumption) ?_ fun _ _ _ => ?_ | refine Ref.ifE ?_ ?_ | refine Ref.chk ?_ ?_ | refine Imp.and ?_ ?_ | refine Imp.or ?_ | exact Imp.rfl' _ | refine Imp.sameO ?_ | refine Ref.gd ?_ | exact Ref.cValue (by assumption) | refine Ref.bX ?_ fun _ _ _ => ?_ | exact Ref.scQ (by assumption) | exact Ref.xRangeQ (by assumption) | exact Ref.cInvoke (by assumption) | refine mkj63_0 (by assumption) ?_)
noncomputable def jt63 (J0 : Env → GS → Option (Value × GS)) : JT (Value × GS) :=
  (.n none .e (.n none .e (.n (some (fun T G => J0 (nth undef T) G)) .e .e)))
theorem jr63_0 (orc : FuncId → Bool) (J0 : Env → GS → Option (Value × GS)) (T : List Value) (G : GS) : runC Q (evL Q orc) Tryz.f63.ntmps (jt63 J0) (bodyOf Tryz.f63) (retE Q Tryz.f63.results.toList) [true, true] (nth undef T) G = jb63_0 false (Ex.of (E orc))  (nth undef T) G := by kernel_rfl
theorem jo63 (orc : FuncId → Bool) : JOk Q orc Tryz.f63.ntmps (jt63 (j63_0 false (Ex.of (E orc))) ) (bodyOf Tryz.f63) (retE Q Tryz.f63.results.toList) :=
  jOk Q orc (l := [([true, true], (fun T G => j63_0 false (Ex.of (E orc)) (nth undef T) G))]) (by kernel_rfl) (AllE.c (fun T G => jr63_0 orc (j63_0 false (Ex.of (E orc))) T G) (AllE.z))
theorem je63 (orc : FuncId → Bool) (J0 : Env → GS → Option (Value × GS)) (v0 v1 v2 : Value) (G : GS) : sxC Q (evL Q orc) Tryz.f63.ntmps (jt63 J0) (bodyOf Tryz.f63) (nth undef [v0, v1, v2]) G (retE Q Tryz.f63.results.toList) = sb63 false (Ex.of (E orc)) J0 v0 v1 v2 G := by kernel_rfl
theorem f63 {orc : FuncId → Bool} {e : Ex} (h : ExLe Q e (E orc)) (v0 v1 v2 : Value) (G : GS) : Ref (s63 true e v0 v1 v2 G) ((E orc).cl 63 [v0, v1, v2] G) :=
  fun r hr => cl_sxC Q orc (vs := [v0, v1, v2]) G (jt63 (j63_0 false (Ex.of (E orc))) ) Tryz.func63 (by kernel_rfl) (by kernel_rfl) (by kernel_rfl) (by kernel_rfl) (by kernel_rfl) (jo63 orc) (je63 orc (j63_0 false (Ex.of (E orc))) v0 v1 v2 G) (m63 h v0 v1 v2 G r hr)
/-- coxswain/mail.Box -/
noncomputable def s64 (q : Bool) (e : Ex) (v0 v1 : Value) (G : GS) : Option (Value × GS) :=
  bS (bx q v0 G) fun x0 G1 =>
  bS (bx q v1 G1) fun x2 G3 =>
  bS (al Q q 119 z119 G3) fun x4 G5 =>
  bS (al Q q 4 z4 G5) fun x6 G7 =>
  bP (lda Q q 23 3 x0 G7) fun x8 =>
  bS (e.ev.cl 42 [x8] G7) fun x9 G10 =>
  bP (un Q q .not x9) fun x11 =>
  ifV x11 (
  bP (bd Q q 119 z119 [] []) fun x12 =>
  bP (st Q q 119 4 x4 x12 G10) fun G13 =>
  bP (st Q q 4 1 x6 (.bool false) G13) fun G14 =>
  bP (lda Q q 119 4 x4 G14) fun x15 =>
  bP (ld Q q 4 x6 G14) fun x16 =>
  some (.tuple #[x15, x16], G14)) (
  bP (lda Q q 23 3 x0 G10) fun x17 =>
  bS (e.ev.cl 48 [x17] G10) fun x18 G19 =>
  bX (xRange e.ev x18 #[14, 15] (subAt [1, 1, 0, 1, 0, 0] (bodyOf Tryz.f64)) (subAt [1, 1, 0, 1, 0, 1] (bodyOf Tryz.f64)) (lsq q 21 (nth undef [v0, v1]) [(13, x18), (12, x17), (10, x11), (9, x9), (8, x8), (5, x6), (4, x4), (3, x2), (2, x0)]) G19) fun e20 T21 G22 =>
  bV q (nth undef T21 4) fun T21x4_ =>
  bV q (nth undef T21 5) fun T21x5_ =>
  ifE e20 .normal (
  bP (bd Q q 119 z119 [] []) fun x23 =>
  bP (st Q q 119 4 T21x4_ x23 G22) fun G24 =>
  bP (st Q q 4 1 T21x5_ (.bool false) G24) fun G25 =>
  bP (lda Q q 119 4 T21x4_ G25) fun x26 =>
  bP (ld Q q 4 T21x5_ G25) fun x27 =>
  some (.tuple #[x26, x27], G25)) (ifE e20 .ret (
  bP (lda Q q 119 4 T21x4_ G22) fun x28 =>
  bP (ld Q q 4 T21x5_ G22) fun x29 =>
  some (.tuple #[x28, x29], G22)) (none)))
theorem m64 {e : Ex} {E : Ev} (h : ExLe Q e E) (v0 v1 : Value) (G : GS) : Ref (s64 true e v0 v1 G) (s64 false (Ex.of E) v0 v1 G) := by
  unfold s64
  exact Ref.gq
theorem f64 {orc : FuncId → Bool} {e : Ex} (h : ExLe Q e (E orc)) (v0 v1 : Value) (G : GS) : Ref (s64 true e v0 v1 G) ((E orc).cl 64 [v0, v1] G) :=
  fun r hr => cl_sxE_some Q orc (vs := [v0, v1]) G Tryz.func64 (by kernel_rfl) (by kernel_rfl) (by kernel_rfl) (by kernel_rfl) (by kernel_rfl) (by kernel_rfl) (m64 h v0 v1 G r hr)
noncomputable def r64_0 (q : Bool) (e : Ex) (l : Nat) (τ : Env) (u0 u1 : Value) (G : GS) : Option (Value × GS) :=
  bV q (τ 3) fun a3_ =>
  bV q (τ 4) fun a4_ =>
  bV q (τ 5) fun a5_ =>
  bS (al Q q 119 z119 G) fun x0 G1 =>
  bP (st Q q 119 4 x0 u1 G1) fun G2 =>
  bP (G2.loop l) fun r3 => if r3.st = .ready then
  bP (ld Q q 3 a3_ (G2.putLoop l (Lp.setSt r3 .busy))) fun x4 =>
  bP (bn Q q .eql 3 (.tmp 16) (.tmp 17) u0 x4) fun x5 =>
  ifV x5 (
  bP (lda Q q 119 4 x0 (G2.putLoop l (Lp.setSt r3 .busy))) fun x6 =>
  bP (st Q q 119 4 a4_ x6 (G2.putLoop l (Lp.setSt r3 .busy))) fun G7 =>
  bP (st Q q 4 1 a5_ (.bool true) G7) fun G8 =>
  roundEnd l .ret G8) (
  roundEnd l .normal (G2.putLoop l (Lp.setSt r3 .busy)))
  else none
theorem mr64_0 {e : Ex} {E : Ev} (h : ExLe Q e E) (l : Nat) (τ : Env) (u0 u1 : Value) (G : GS) : Ref (r64_0 true e l τ u0 u1 G) (r64_0 false (Ex.of E) l τ u0 u1 G) := by
  unfold r64_0
  repeat' (with_reducible first | exact Ref.rfl' _ | exact ROp.r | refine Ref.bP ?_ fun _ => ?_ | refine Ref.bS ?_ fun _ _ => ?_ | exact Ref.cl (by assumption) | refine Ref.ifV ?_ ?_ | refine LpLe.rx (by assumption) ?_ | refine Ref.xitq ?_ | exact UOk.z | refine UOk.c (by assumption) ?_ | exact Ref.nil _ | refine Ref.bVe fun _ _ => ?_ | refine Ref.bLq (by assumption) ?_ fun _ _ _ => ?_ | refine Ref.ifE ?_ ?_ | refine Ref.chk ?_ ?_ | refine Imp.and ?_ ?_ | refine Imp.or ?_ | exact Imp.rfl' _ | refine Imp.sameO ?_ | refine Ref.gd ?_ | exact Ref.cValue (by assumption) | refine Ref.bX ?_ fun _ _ _ => ?_ | exact Ref.scQ (by assumption) | exact Ref.xRangeQ (by assumption) | exact Ref.cInvoke (by assumption) | refine Ref.rdy ?_)
theorem d64_0 {orc : FuncId → Bool} {e : Ex} (h : ExLe Q e (E orc)) (l : Nat) (T : List Value) (u0 u1 : Value) (G : GS) {st : LoopState} {pend : Option Code} (hl : G.loop l = some ⟨st, pend, T, [14, 15], (subAt [1, 1, 0, 1, 0, 0] (bodyOf Tryz.f64)), (subAt [1, 1, 0, 1, 0, 1] (bodyOf Tryz.f64))⟩) (hT : T.length = 21) : Ref (r64_0 true e l (nth undef T) u0 u1 G) ((E orc).rd l [u0, u1] G) :=
  fun r hr => rd_sxE Q orc hl (by kernel_rfl) hT (by kernel_rfl) (mr64_0 h l _ u0 u1 G r hr)
/-- coxswain/ring.All -/
noncomputable def s65 (q : Bool) (e : Ex) (v0 v1 : Value) (G : GS) : Option (Value × GS) :=
  bS (bx q v0 G) fun x0 G1 =>
  bP (lda Q q 119 4 x0 G1) fun x2 =>
  bS (e.ev.cl 102 [x2] G1) fun x3 G4 =>
  bP (un Q q .not x3) fun x5 =>
  ifV x5 (
  some ((.slice none 0 0), G4)) (
  bS (e.ev.cl 30 [v1] G4) fun x6 G7 =>
  bS (al Q q 24 z24 G7) fun x8 G9 =>
  bP (st Q q 24 1 x8 x6 G9) fun G10 =>
  bS (al Q q 206 z206 G10) fun x11 G12 =>
  bP (st Q q 206 1 x11 (.func (.func 123) #[] #[x8]) G12) fun G13 =>
  bS (al Q q 52 z52 G13) fun x14 G15 =>
  bP (lda Q q 119 4 x0 G15) fun x16 =>
  bP (ld Q q 206 x11 G15) fun x17 =>
  bS (e.ev.cl 124 [x16, x17] G15) fun x18 G19 =>
  bX (xRange e.ev x18 #[18] (subAt [1, 1, 1, 1, 1, 0, 1, 0, 0] (bodyOf Tryz.f65)) (subAt [1, 1, 1, 1, 1, 0, 1, 0, 1] (bodyOf Tryz.f65)) (lsq q 29 (nth undef [v0, v1]) [(17, x18), (16, x17), (15, x16), (7, x14), (6, x11), (14, (.func (.func 123) #[] #[x8])), (5, x8), (13, x6), (12, v1), (11, x5), (10, x3), (9, x2), (4, (.slice none 0 0)), (2, x0)]) G19) fun e20 T21 G22 =>
  bV q (nth undef T21 7) fun T21x7_ =>
  ifE e20 .normal (
  bP (ld Q q 52 T21x7_ G22) fun x23 =>
  some (x23, G22)) (none))
theorem m65 {e : Ex} {E : Ev} (h : ExLe Q e E) (v0 v1 : Value) (G : GS) : Ref (s65 true e v0 v1 G) (s65 false (Ex.of E) v0 v1 G) := by
  unfold s65
  exact Ref.gq
theorem f65 {orc : FuncId → Bool} {e : Ex} (h : ExLe Q e (E orc)) (v0 v1 : Value) (G : GS) : Ref (s65 true e v0 v1 G) ((E orc).cl 65 [v0, v1] G) :=
  fun r hr => cl_sxE_some Q orc (vs := [v0, v1]) G Tryz.func65 (by kernel_rfl) (by kernel_rfl) (by kernel_rfl) (by kernel_rfl) (by kernel_rfl) (by kernel_rfl) (m65 h v0 v1 G r hr)
noncomputable def r65_0 (q : Bool) (e : Ex) (l : Nat) (τ : Env) (u0 : Value) (G : GS) : Option (Value × GS) :=
  bV q (τ 2) fun a2_ =>
  bV q (τ 6) fun a6_ =>
  bV q (τ 7) fun a7_ =>
  bP (G.loop l) fun r0 => if r0.st = .ready then
  bP (ld Q q 52 a7_ ((G.putLoop l (Lp.setSt r0 .busy)).room 10)) fun x1 =>
  bP (ld Q q 206 a6_ ((G.putLoop l (Lp.setSt r0 .busy)).room 10)) fun x2 =>
  bP (lda Q q 119 4 a2_ ((G.putLoop l (Lp.setSt r0 .busy)).room 10)) fun x3 =>
  bS (e.ev.cl 125 [x3, u0] ((G.putLoop l (Lp.setSt r0 .busy)).room 10)) fun x5 G4 =>
  chk ((sameO (ld Q q 206 a6_ G4) x2 && (sameO (ld Q q 52 a7_ G4) x1 && true))) <|
  bS (cValue e.ev x2 [x5] G4) fun x7 G6 =>
  chk ((sameO (ld Q q 52 a7_ G6) x1 && true)) <|
  bS (e.ev.cl 126 [x7] G6) fun x9 G8 =>
  chk ((sameO (ld Q q 52 a7_ G8) x1 && true)) <|
  bS (bs Q q 52 1 (rep z3 1) 1 [(0, 0, 1)] [x9] (G8.at' ((G.putLoop l (Lp.setSt r0 .busy)).nx + 7))) fun x10 G11 =>
  bS (ap Q q 52 52 1 8 x1 x10 (G11.back G8)) fun x13 G12 =>
  bP (st Q q 52 1 a7_ x13 G12) fun G14 =>
  roundEnd l .normal G14
  else none
theorem mr65_0 {e : Ex} {E : Ev} (h : ExLe Q e E) (l : Nat) (τ : Env) (u0 : Value) (G : GS) : Ref (r65_0 true e l τ u0 G) (r65_0 false (Ex.of E) l τ u0 G) := by
  unfold r65_0
  repeat' (with_reducible first | exact Ref.rfl' _ | exact ROp.r | refine Ref.bP ?_ fun _ => ?_ | refine Ref.bS ?_ fun _ _ => ?_ | exact Ref.cl (by assumption) | refine Ref.ifV ?_ ?_ | refine LpLe.rx (by assumption) ?_ | refine Ref.xitq ?_ | exact UOk.z | refine UOk.c (by assumption) ?_ | exact Ref.nil _ | refine Ref.bVe fun _ _ => ?_ | refine Ref.bLq (by assumption) ?_ fun _ _ _ => ?_ | refine Ref.ifE ?_ ?_ | refine Ref.chk ?_ ?_ | refine Imp.and ?_ ?_ | refine Imp.or ?_ | exact Imp.rfl' _ | refine Imp.sameO ?_ | refine Ref.gd ?_ | exact Ref.cValue (by assumption) | refine Ref.bX ?_ fun _ _ _ => ?_ | exact Ref.scQ (by assumption) | exact Ref.xRangeQ (by assumption) | exact Ref.cInvoke (by assumption) | refine Ref.rdy ?_)
theorem d65_0 {orc : FuncId → Bool} {e : Ex} (h : ExLe Q e (E orc)) (l : Nat) (T : List Value) (u0 : Value) (G : GS) {st : LoopState} {pend : Option Code} (hl : G.loop l = some ⟨st, pend, T, [18], (subAt [1, 1, 1, 1, 1, 0, 1, 0, 0] (bodyOf Tryz.f65)), (subAt [1, 1, 1, 1, 1, 0, 1, 0, 1] (bodyOf Tryz.f65))⟩) (hT : T.length = 29) : Ref (r65_0 true e l (nth undef T) u0 G) ((E orc).rd l [u0] G) :=
  fun r hr => rd_sxE Q orc hl (by kernel_rfl) hT (by kernel_rfl) (mr65_0 h l _ u0 G r hr)
/-- (*coxswain/mail.Send).Err -/
noncomputable def s66 (q : Bool) (e : Ex) (v0 : Value) (G : GS) : Option (Value × GS) :=
  bP (ep Q q false 44 (.tmp 4) (.const (.pointer none)) v0 (.pointer none)) fun x0 =>
  bS (gd x0 false (some (v0, G)) G) fun x1 G2 =>
  bS (gd x0 false (bP (pNil x1) fun y => some (y, G2)) G2) fun x3 G4 =>
  bS (gd x0 false (bP (fa Q q 184 0 0 x3) fun y => some (y, G4)) G4) fun x5 G6 =>
  bS (gd x0 false (bP (ld Q q 4 x5 G6) fun y => some (y, G6)) G6) fun x7 G8 =>
  bS (gd x0 false (bP (un Q q .not x7) fun y => some (y, G8)) G8) fun x9 G10 =>
  bP (pickV x0 (.bool true) x9) fun x11 =>
  ifV x11 (
  some ((.int .i64 1), G10)) (
  bP (pNil v0) fun x12 =>
  bP (fa Q q 184 1 1 x12) fun x13 =>
  bP (ld Q q 182 x13 G10) fun x14 =>
  bP (ep Q q true 182 (.tmp 17) (.const (.pointer none)) x14 (.pointer none)) fun x15 =>
  ifV x15 (
  some ((.int .i64 14), G10)) (
  bP (pNil v0) fun x16 =>
  bP (fa Q q 184 2 2 x16) fun x17 =>
  bP (ld Q q 26 x17 G10) fun x18 =>
  some (x18, G10)))
theorem m66 {e : Ex} {E : Ev} (h : ExLe Q e E) (v0 : Value) (G : GS) : Ref (s66 true e v0 G) (s66 false (Ex.of E) v0 G) := by
  unfold s66
  exact Ref.gq
theorem f66 {orc : FuncId → Bool} {e : Ex} (h : ExLe Q e (E orc)) (v0 : Value) (G : GS) : Ref (s66 true e v0 G) ((E orc).cl 66 [v0] G) :=
  fun r hr => cl_sxE_some Q orc (vs := [v0]) G Tryz.func66 (by kernel_rfl) (by kernel_rfl) (by kernel_rfl) (by kernel_rfl) (by kernel_rfl) (by kernel_rfl) (m66 h v0 G r hr)
/-- (*coxswain/coxswainref25.Send).Err -/
noncomputable def s67 (q : Bool) (e : Ex) (v0 : Value) (G : GS) : Option (Value × GS) :=
  bP (pNil v0) fun x0 =>
  bP (fa Q q 187 1 1 x0) fun x1 =>
  bP (ld Q q 4 x1 G) fun x2 =>
  bP (un Q q .not x2) fun x3 =>
  ifV x3 (
  some ((.int .i64 14), G)) (
  bP (pNil v0) fun x4 =>
  bP (fa Q q 187 2 2 x4) fun x5 =>
  bP (ld Q q 26 x5 G) fun x6 =>
  some (x6, G))
theorem m67 {e : Ex} {E : Ev} (h : ExLe Q e E) (v0 : Value) (G : GS) : Ref (s67 true e v0 G) (s67 false (Ex.of E) v0 G) := by
  unfold s67
  exact Ref.gq
theorem f67 {orc : FuncId → Bool} {e : Ex} (h : ExLe Q e (E orc)) (v0 : Value) (G : GS) : Ref (s67 true e v0 G) ((E orc).cl 67 [v0] G) :=
  fun r hr => cl_sxE_some Q orc (vs := [v0]) G Tryz.func67 (by kernel_rfl) (by kernel_rfl) (by kernel_rfl) (by kernel_rfl) (by kernel_rfl) (by kernel_rfl) (m67 h v0 G r hr)
/-- (*coxswain/mail.Drain).Values -/
noncomputable def s68 (q : Bool) (e : Ex) (v0 : Value) (G : GS) : Option (Value × GS) :=
  bP (ep Q q false 46 (.tmp 5) (.const (.pointer none)) v0 (.pointer none)) fun x0 =>
  bS (gd x0 false (some (v0, G)) G) fun x1 G2 =>
  bS (gd x0 false (bP (pNil x1) fun y => some (y, G2)) G2) fun x3 G4 =>
  bS (gd x0 false (bP (fa Q q 191 0 0 x3) fun y => some (y, G4)) G4) fun x5 G6 =>
  bS (gd x0 false (bP (ld Q q 4 x5 G6) fun y => some (y, G6)) G6) fun x7 G8 =>
  bS (gd x0 false (bP (un Q q .not x7) fun y => some (y, G8)) G8) fun x9 G10 =>
  bP (pickV x0 (.bool true) x9) fun x11 =>
  ifV x11 (
  some (.tuple #[(.slice none 0 0), (.int .i64 1)], G10)) (
  bP (pNil v0) fun x12 =>
  bP (fa Q q 191 3 6 x12) fun x13 =>
  bP (ld Q q 189 x13 G10) fun x14 =>
  bP (bn Q q .neq 189 (.tmp 18) (.const .nilIface) x14 .nilIface) fun x15 =>
  ifV x15 (
  some (.tuple #[(.slice none 0 0), (.int .i64 14)], G10)) (
  bP (pNil v0) fun x16 =>
  bP (fa Q q 191 6 9 x16) fun x17 =>
  bP (ld Q q 26 x17 G10) fun x18 =>
  bP (bn Q q .neq 26 (.tmp 24) (.const (.int .i64 0)) x18 (.int .i64 0)) fun x19 =>
  ifV x19 (
  bP (pNil v0) fun x20 =>
  bP (fa Q q 191 6 9 x20) fun x21 =>
  bP (ld Q q 26 x21 (G10.room 6)) fun x22 =>
  some (.tuple #[(.slice none 0 0), x22], (G10.room 6))) (
  bP (pNil v0) fun x23 =>
  bP (fa Q q 191 4 7 x23) fun x24 =>
  bP (ld Q q 52 x24 G10) fun x25 =>
  bS (e.ev.cl 127 [x25] G10) fun x26 G27 =>
  some (.tuple #[x26, (.int .i64 0)], G27))))
theorem m68 {e : Ex} {E : Ev} (h : ExLe Q e E) (v0 : Value) (G : GS) : Ref (s68 true e v0 G) (s68 false (Ex.of E) v0 G) := by
  unfold s68
  exact Ref.gq
theorem f68 {orc : FuncId → Bool} {e : Ex} (h : ExLe Q e (E orc)) (v0 : Value) (G : GS) : Ref (s68 true e v0 G) ((E orc).cl 68 [v0] G) :=
  fun r hr => cl_sxE_some Q orc (vs := [v0]) G Tryz.func68 (by kernel_rfl) (by kernel_rfl) (by kernel_rfl) (by kernel_rfl) (by kernel_rfl) (by kernel_rfl) (m68 h v0 G r hr)
/-- (*coxswain/coxswainref25.Drain).Values -/
noncomputable def s69 (q : Bool) (e : Ex) (v0 : Value) (G : GS) : Option (Value × GS) :=
  bP (pNil v0) fun x0 =>
  bP (fa Q q 201 6 9 x0) fun x1 =>
  bP (ld Q q 4 x1 G) fun x2 =>
  bP (un Q q .not x2) fun x3 =>
  ifV x3 (
  some (.tuple #[(.slice none 0 0), (.int .i64 14)], G)) (
  bP (pNil v0) fun x4 =>
  bP (fa Q q 201 7 10 x4) fun x5 =>
  bP (ld Q q 26 x5 G) fun x6 =>
  bP (bn Q q .neq 26 (.tmp 14) (.const (.int .i64 0)) x6 (.int .i64 0)) fun x7 =>
  ifV x7 (
  bP (pNil v0) fun x8 =>
  bP (fa Q q 201 7 10 x8) fun x9 =>
  bP (ld Q q 26 x9 (G.room 6)) fun x10 =>
  some (.tuple #[(.slice none 0 0), x10], (G.room 6))) (
  bS (bs Q q 52 0 (rep z3 0) 1 [] [] G) fun x11 G12 =>
  bP (pNil v0) fun x13 =>
  bP (fa Q q 201 2 5 x13) fun x14 =>
  bP (ld Q q 52 x14 G12) fun x15 =>
  bS (ap Q q 52 52 1 8 x11 x15 G12) fun x16 G17 =>
  some (.tuple #[x16, (.int .i64 0)], G17)))
theorem m69 {e : Ex} {E : Ev} (h : ExLe Q e E) (v0 : Value) (G : GS) : Ref (s69 true e v0 G) (s69 false (Ex.of E) v0 G) := by
  unfold s69
  exact Ref.gq
theorem f69 {orc : FuncId → Bool} {e : Ex} (h : ExLe Q e (E orc)) (v0 : Value) (G : GS) : Ref (s69 true e v0 G) ((E orc).cl 69 [v0] G) :=
  fun r hr => cl_sxE_some Q orc (vs := [v0]) G Tryz.func69 (by kernel_rfl) (by kernel_rfl) (by kernel_rfl) (by kernel_rfl) (by kernel_rfl) (by kernel_rfl) (m69 h v0 G r hr)
/-- coxswain/coxswainref25.Box -/
noncomputable def s70 (q : Bool) (e : Ex) (v0 v1 : Value) (G : GS) : Option (Value × GS) :=
  bS (bx q v0 G) fun x0 G1 =>
  bS (al Q q 119 z119 G1) fun x2 G3 =>
  bP (lda Q q 23 3 x0 G3) fun x4 =>
  bS (e.ev.cl 128 [x4] G3) fun x5 G6 =>
  bP (un Q q .not x5) fun x7 =>
  bS (gd x7 false (some (v1, G6)) G6) fun x8 G9 =>
  bS (gd x7 false (bP (bn Q q .lss 3 (.tmp 10) (.const (.int .i64 0)) x8 (.int .i64 0)) fun y => some (y, G9)) G9) fun x10 G11 =>
  bP (pickV x7 (.bool true) x10) fun x12 =>
  bS (gd x12 false (some (v1, G11)) G11) fun x13 G14 =>
  bS (gd x12 false (bP (fa Q q 23 1 1 x0) fun y => some (y, G14)) G14) fun x15 G16 =>
  bS (gd x12 false (bP (ld Q q 3 x15 G16) fun y => some (y, G16)) G16) fun x17 G18 =>
  bS (gd x12 false (bP (bn Q q .geq 3 (.tmp 14) (.tmp 16) x13 x17) fun y => some (y, G18)) G18) fun x19 G20 =>
  bP (pickV x12 (.bool true) x19) fun x21 =>
  ifV x21 (
  bP (bd Q q 119 z119 [] []) fun x22 =>
  bP (st Q q 119 4 x2 x22 G20) fun G23 =>
  bP (lda Q q 119 4 x2 G23) fun x24 =>
  some (.tuple #[x24, (.bool false)], G23)) (
  bP (lda Q q 23 3 x0 G20) fun x25 =>
  bS (e.ev.cl 51 [x25, v1] G20) fun x26 G27 =>
  bP (st Q q 119 4 x2 x26 G27) fun G28 =>
  bP (lda Q q 119 4 x2 G28) fun x29 =>
  some (.tuple #[x29, (.bool true)], G28))
theorem m70 {e : Ex} {E : Ev} (h : ExLe Q e E) (v0 v1 : Value) (G : GS) : Ref (s70 true e v0 v1 G) (s70 false (Ex.of E) v0 v1 G) := by
  unfold s70
  exact Ref.gq
theorem f70 {orc : FuncId → Bool} {e : Ex} (h : ExLe Q e (E orc)) (v0 v1 : Value) (G : GS) : Ref (s70 true e v0 v1 G) ((E orc).cl 70 [v0, v1] G) :=
  fun r hr => cl_sxE_some Q orc (vs := [v0, v1]) G Tryz.func70 (by kernel_rfl) (by kernel_rfl) (by kernel_rfl) (by kernel_rfl) (by kernel_rfl) (by kernel_rfl) (m70 h v0 v1 G r hr)
noncomputable def b71_0 (q : Bool) (e : Ex) (lp : Env → GS → Option (Exit × Env × GS)) (τ : Env) (G : GS) : Option (Exit × Env × GS) :=
  bV q (τ 1) fun a1_ =>
  bV q (τ 2) fun a2_ =>
  bV q (τ 5) fun a5_ =>
  bV q (τ 6) fun a6_ =>
  bP (ln Q q 52 a5_) fun x0 =>
  bP (fa Q q 119 3 3 a2_) fun x1 =>
  bP (ld Q q 3 x1 (G.room 16)) fun x2 =>
  bP (bn Q q .lss 3 (.tmp 16) (.tmp 18) x0 x2) fun x3 =>
  bS (gd x3 true (some (a1_, (G.room 16))) (G.room 16)) fun x4 _ =>
  bS (gd x3 true (bP (lda Q q 119 4 a2_ (G.room 16)) fun y => some (y, (G.room 16))) (G.room 16)) fun x5 _ =>
  bS (gd x3 true (some (a6_, (G.room 16))) (G.room 16)) fun x6 _ =>
  bS (gd x3 true (bS (e.ev.cl 131 [x5, x6] (G.room 16)) fun y G => some (y, G)) (G.room 16)) fun x8 G7 =>
  bS (gd x3 true (bS (e.ev.cl 129 [x4, x8] G7) fun y G => some (y, G)) G7) fun x10 G9 =>
  bS (gd x3 true (bP (lda Q q 119 4 a2_ G9) fun y => some (y, G9)) G9) fun x11 _ =>
  chk (((!(gB x3 true) || (!(gB x3 true) || sameO (lda Q q 119 4 a2_ G7) x11)) && ((!(gB x3 true) || (!(gB x3 true) || sameO (lda Q q 119 4 a2_ (G.room 16)) x11)) && true))) <|
  bS (gd x3 true (some (a6_, G9)) G9) fun x12 _ =>
  bS (gd x3 true (bS (e.ev.cl 132 [x11, x12] G9) fun y G => some (y, G)) G9) fun x14 G13 =>
  bS (gd x3 true (bS (e.ev.cl 130 [x10, x14] G13) fun y G => some (y, G)) G13) fun x16 G15 =>
  bP (pickV x3 x16 (.bool false)) fun x17 =>
  ifV x17 (
  bP (lda Q q 119 4 a2_ G15) fun x18 =>
  bS (e.ev.cl 131 [x18, a6_] G15) fun x19 G20 =>
  bS (e.ev.cl 129 [a1_, x19] G20) fun x21 G22 =>
  bP (bn Q q .rem 39 (.tmp 36) (.const (.int .u64 65536)) x21 (.int .u64 65536)) fun x23 =>
  bP (cv Q q 39 3 .u64 .i64 x23) fun x24 =>
  bS (bs Q q 52 1 (rep z3 1) 1 [(0, 0, 1)] [x24] G22) fun x25 G26 =>
  bS (ap Q q 52 52 1 8 a5_ x25 G26) fun x27 G28 =>
  bP (bn Q q .add 39 (.tmp 41) (.const (.int .u64 1)) a6_ (.int .u64 1)) fun x29 =>
  lp (xq q 44 τ [(6, x29), (42, x29), (41, a6_), (5, x27), (40, x27), (39, x25), (38, x24), (37, x23), (36, x21), (35, x19), (34, a6_), (33, x18), (32, a1_), (31, a5_), (30, x17), (29, x16), (28, x14), (27, x12), (26, x11), (25, x10), (24, x8), (23, x6), (22, x5), (21, x4), (20, x3), (19, x3), (18, x2), (17, x1), (16, x0), (15, a5_)] [(1, a1_), (2, a2_)]) G28) (
  some ((.exit 0), xq q 44 τ [(30, x17), (29, x16), (28, x14), (27, x12), (26, x11), (25, x10), (24, x8), (23, x6), (22, x5), (21, x4), (20, x3), (19, x3), (18, x2), (17, x1), (16, x0), (15, a5_)] [(1, a1_), (2, a2_), (5, a5_), (6, a6_)], G15))
theorem mb71_0 {e : Ex} {E : Ev} (h : ExLe Q e E) {lp lp' : Env → GS → Option (Exit × Env × GS)} (hlp : LpLe lp lp') (τ : Env) (G : GS) : Ref (b71_0 true e lp τ G) (b71_0 false (Ex.of E) lp' τ G) := by
  unfold b71_0
  exact Ref.gq
theorem l71_0 {orc : FuncId → Bool} {e : Ex} (h : ExLe Q e (E orc)) (lp : Env → GS → Option (Exit × Env × GS)) (hlp : ∀ τ G, Ref (lp τ G) (mapE ((E orc).lp (subAt [1, 1, 1, 1, 0, 0, 0] (bodyOf Tryz.f71)) (lst 44 τ) G))) (T : List Value) (G : GS) (hT : T.length = 44) : Ref (b71_0 true e lp (nth undef T) G) (mapE ((E orc).lp (subAt [1, 1, 1, 1, 0, 0, 0] (bodyOf Tryz.f71)) T G)) :=
  fun r hr => lp_sxN Q orc G hT (by kernel_rfl) (mb71_0 h ⟨hlp⟩ _ _ r hr)
/-- coxswain/coxswainref14.All -/
noncomputable def s71 (q : Bool) (e : Ex) (v0 v1 : Value) (G : GS) : Option (Value × GS) :=
  bS (bx q v0 G) fun x0 G1 =>
  bP (fa Q q 119 3 3 x0) fun x2 =>
  bP (ld Q q 3 x2 G1) fun x3 =>
  bS (e.ev.cl 103 [x3] G1) fun x4 G5 =>
  bP (un Q q .not x4) fun x6 =>
  ifV x6 (
  some ((.slice none 0 0), G5)) (
  bP (fa Q q 119 0 0 x0) fun x7 =>
  bP (ld Q q 3 x7 G5) fun x8 =>
  bS (e.ev.cl 129 [v1, x8] G5) fun x9 G10 =>
  bLq q e 71 0 (subAt [1, 1, 1, 1, 0, 0, 0] (bodyOf Tryz.f71)) 44 (nth undef [v0, v1]) [(6, x9), (14, x9), (13, x8), (12, x7), (11, v1), (10, x6), (9, x4), (8, x3), (7, x2), (5, (.slice none 0 0)), (4, (.slice none 0 0)), (2, x0)] [] G10 fun e11 t12 G13 =>
  bV q (t12 5) fun t12x5_ =>
  ifE e11 (.exit 0) (
  some (t12x5_, G13)) (none))
theorem m71 {e : Ex} {E : Ev} (h : ExLe Q e E) (v0 v1 : Value) (G : GS) : Ref (s71 true e v0 v1 G) (s71 false (Ex.of E) v0 v1 G) := by
  unfold s71
  exact Ref.gq
theorem f71 {orc : FuncId → Bool} {e : Ex} (h : ExLe Q e (E orc)) (v0 v1 : Value) (G : GS) : Ref (s71 true e v0 v1 G) ((E orc).cl 71 [v0, v1] G) :=
  fun r hr => cl_sxE_some Q orc (vs := [v0, v1]) G Tryz.func71 (by kernel_rfl) (by kernel_rfl) (by kernel_rfl) (by kernel_rfl) (by kernel_rfl) (by kernel_rfl) (m71 h v0 v1 G r hr)
/-- coxswain/coxswainkit.CopyWords -/
noncomputable def s72 (q : Bool) (e : Ex) (v0 : Value) (G : GS) : Option (Value × GS) :=
  bS (bs Q q 24 0 (rep z39 0) 1 [] [] G) fun x0 G1 =>
  bS (ap Q q 24 24 1 8 x0 v0 G1) fun x2 G3 =>
  some (x2, G3)
theorem m72 {e : Ex} {E : Ev} (h : ExLe Q e E) (v0 : Value) (G : GS) : Ref (s72 true e v0 G) (s72 false (Ex.of E) v0 G) := by
  unfold s72
  exact Ref.gq
theorem f72 {orc : FuncId → Bool} {e : Ex} (h : ExLe Q e (E orc)) (v0 : Value) (G : GS) : Ref (s72 true e v0 G) ((E orc).cl 72 [v0] G) :=
  fun r hr => cl_sxE_some Q orc (vs := [v0]) G Tryz.func72 (by kernel_rfl) (by kernel_rfl) (by kernel_rfl) (by kernel_rfl) (by kernel_rfl) (by kernel_rfl) (m72 h v0 G r hr)
noncomputable def b101_0 (q : Bool) (e : Ex) (lp : Env → GS → Option (Exit × Env × GS)) (τ : Env) (G : GS) : Option (Exit × Env × GS) :=
  bV q (τ 0) fun a0_ =>
  bV q (τ 1) fun a1_ =>
  bV q (τ 6) fun a6_ =>
  bV q (τ 7) fun a7_ =>
  bP (bn Q q .lss 3 (.tmp 7) (.tmp 6) a7_ a6_) fun x0 =>
  ifV x0 (
  bP (fa Q q 23 0 0 a1_) fun x1 =>
  bP (ld Q q 3 x1 G) fun x2 =>
  bP (fa Q q 23 2 2 a1_) fun x3 =>
  bP (ld Q q 3 x3 G) fun x4 =>
  bP (bn Q q .add 3 (.tmp 14) (.const (.int .i64 2)) x4 (.int .i64 2)) fun x5 =>
  bP (bn Q q .mul 3 (.tmp 12) (.tmp 15) a7_ x5) fun x6 =>
  bP (bn Q q .add 3 (.tmp 11) (.tmp 16) x2 x6) fun x7 =>
  bP (bn Q q .add 3 (.tmp 21) (.const (.int .i64 1)) x7 (.int .i64 1)) fun x8 =>
  bP (bn Q q .add 3 (.tmp 23) (.const (.int .i64 2)) x7 (.int .i64 2)) fun x9 =>
  bP (fa Q q 23 2 2 a1_) fun x10 =>
  bP (ld Q q 3 x10 G) fun x11 =>
  bP (bd Q q 119 z119 [(0, 0, 1), (1, 1, 1), (2, 2, 1), (3, 3, 1)] [x7, x8, x9, x11]) fun x12 =>
  bS (cValue e.ev a0_ [a7_, x12] G) fun x13 G14 =>
  bP (un Q q .not x13) fun x15 =>
  ifV x15 (
  some (.ret, xq q 31 τ [(29, x15), (28, x13), (27, x12), (26, x11), (25, x10), (24, x9), (23, x7), (22, x8), (21, x7), (20, x7), (19, a7_), (18, a0_), (4, x7), (17, x7), (16, x6), (15, x5), (14, x4), (13, x3), (12, a7_), (11, x2), (10, x1), (3, a7_), (9, a7_), (8, x0)] [(0, a0_), (1, a1_), (6, a6_), (7, a7_)], G14)) (
  bP (bn Q q .add 3 (.tmp 7) (.const (.int .i64 1)) a7_ (.int .i64 1)) fun x16 =>
  lp (xq q 31 τ [(7, x16), (30, x16), (29, x15), (28, x13), (27, x12), (26, x11), (25, x10), (24, x9), (23, x7), (22, x8), (21, x7), (20, x7), (19, a7_), (18, a0_), (4, x7), (17, x7), (16, x6), (15, x5), (14, x4), (13, x3), (12, a7_), (11, x2), (10, x1), (3, a7_), (9, a7_), (8, x0)] [(0, a0_), (1, a1_), (6, a6_)]) G14)) (
  some ((.exit 0), xq q 31 τ [(8, x0)] [(0, a0_), (1, a1_), (6, a6_), (7, a7_)], G))
theorem mb101_0 {e : Ex} {E : Ev} (h : ExLe Q e E) {lp lp' : Env → GS → Option (Exit × Env × GS)} (hlp : LpLe lp lp') (τ : Env) (G : GS) : Ref (b101_0 true e lp τ G) (b101_0 false (Ex.of E) lp' τ G) := by
  unfold b101_0
  exact Ref.gq
theorem l101_0 {orc : FuncId → Bool} {e : Ex} (h : ExLe Q e (E orc)) (lp : Env → GS → Option (Exit × Env × GS)) (hlp : ∀ τ G, Ref (lp τ G) (mapE ((E orc).lp (subAt [1, 0, 0] (bodyOf Tryz.f101)) (lst 31 τ) G))) (T : List Value) (G : GS) (hT : T.length = 31) : Ref (b101_0 true e lp (nth undef T) G) (mapE ((E orc).lp (subAt [1, 0, 0] (bodyOf Tryz.f101)) T G)) :=
  fun r hr => lp_sxN Q orc G hT (by kernel_rfl) (mb101_0 h ⟨hlp⟩ _ _ r hr)
/-- coxswain/mail.boxes$1 -/
noncomputable def s101 (q : Bool) (e : Ex) (v0 v1 : Value) (G : GS) : Option (Value × GS) :=
  bP (fa Q q 23 1 1 v1) fun x0 =>
  bP (ld Q q 3 x0 G) fun x1 =>
  bLq q e 101 0 (subAt [1, 0, 0] (bodyOf Tryz.f101)) 31 (nth undef [v0, v1]) [(7, (.int .i64 0)), (6, x1), (5, x0)] [] G fun e2 t3 G4 =>
  ifE e2 (.exit 0) (
  some (.tuple #[], G4)) (ifE e2 .ret (
  some (.tuple #[], G4)) (none))
theorem m101 {e : Ex} {E : Ev} (h : ExLe Q e E) (v0 v1 : Value) (G : GS) : Ref (s101 true e v0 v1 G) (s101 false (Ex.of E) v0 v1 G) := by
  unfold s101
  exact Ref.gq
theorem f101 {orc : FuncId → Bool} {e : Ex} (h : ExLe Q e (E orc)) (v0 v1 : Value) (G : GS) : Ref (s101 true e v0 v1 G) ((E orc).cl 101 [v0, v1] G) :=
  fun r hr => cl_sxE_some Q orc (vs := [v0, v1]) G Tryz.func101 (by kernel_rfl) (by kernel_rfl) (by kernel_rfl) (by kernel_rfl) (by kernel_rfl) (by kernel_rfl) (m101 h v0 v1 G r hr)
/-- coxswain/ring.sized -/
noncomputable def s102 (q : Bool) (e : Ex) (v0 : Value) (G : GS) : Option (Value × GS) :=
  bS (bx q v0 G) fun x0 G1 =>
  bP (fa Q q 119 3 3 x0) fun x2 =>
  bP (ld Q q 3 x2 G1) fun x3 =>
  bP (bn Q q .geq 3 (.tmp 4) (.const (.int .i64 1)) x3 (.int .i64 1)) fun x4 =>
  bS (gd x4 true (bP (fa Q q 119 3 3 x0) fun y => some (y, G1)) G1) fun x5 G6 =>
  bS (gd x4 true (bP (ld Q q 3 x5 G6) fun y => some (y, G6)) G6) fun x7 G8 =>
  bS (gd x4 true (bP (bn Q q .leq 3 (.tmp 8) (.const (.int .i64 4096)) x7 (.int .i64 4096)) fun y => some (y, G8)) G8) fun x9 G10 =>
  bP (pickV x4 x9 (.bool false)) fun x11 =>
  some (x11, G10)
theorem m102 {e : Ex} {E : Ev} (h : ExLe Q e E) (v0 : Value) (G : GS) : Ref (s102 true e v0 G) (s102 false (Ex.of E) v0 G) := by
  unfold s102
  exact Ref.gq
theorem f102 {orc : FuncId → Bool} {e : Ex} (h : ExLe Q e (E orc)) (v0 : Value) (G : GS) : Ref (s102 true e v0 G) ((E orc).cl 102 [v0] G) :=
  fun r hr => cl_sxE_some Q orc (vs := [v0]) G Tryz.func102 (by kernel_rfl) (by kernel_rfl) (by kernel_rfl) (by kernel_rfl) (by kernel_rfl) (by kernel_rfl) (m102 h v0 G r hr)
/-- coxswain/coxswainref14.size -/
noncomputable def s103 (q : Bool) (e : Ex) (v0 : Value) (G : GS) : Option (Value × GS) :=
  bP (bn Q q .geq 3 (.tmp 3) (.const (.int .i64 1)) v0 (.int .i64 1)) fun x0 =>
  bS (gd x0 true (some (v0, G)) G) fun x1 G2 =>
  bS (gd x0 true (bP (bn Q q .leq 3 (.tmp 6) (.const (.int .i64 4096)) x1 (.int .i64 4096)) fun y => some (y, G2)) G2) fun x3 G4 =>
  bP (pickV x0 x3 (.bool false)) fun x5 =>
  some (x5, G4)
theorem m103 {e : Ex} {E : Ev} (h : ExLe Q e E) (v0 : Value) (G : GS) : Ref (s103 true e v0 G) (s103 false (Ex.of E) v0 G) := by
  unfold s103
  exact Ref.gq
theorem f103 {orc : FuncId → Bool} {e : Ex} (h : ExLe Q e (E orc)) (v0 : Value) (G : GS) : Ref (s103 true e v0 G) ((E orc).cl 103 [v0] G) :=
  fun r hr => cl_sxE_some Q orc (vs := [v0]) G Tryz.func103 (by kernel_rfl) (by kernel_rfl) (by kernel_rfl) (by kernel_rfl) (by kernel_rfl) (by kernel_rfl) (m103 h v0 G r hr)
/-- (*coxswain/cells.place).is -/
noncomputable def s104 (q : Bool) (e : Ex) (v0 : Value) (G : GS) : Option (Value × GS) :=
  bP (ep Q q true 123 (.tmp 3) (.const (.pointer none)) v0 (.pointer none)) fun x0 =>
  some (x0, G)
theorem m104 {e : Ex} {E : Ev} (h : ExLe Q e E) (v0 : Value) (G : GS) : Ref (s104 true e v0 G) (s104 false (Ex.of E) v0 G) := by
  unfold s104
  exact Ref.gq
theorem f104 {orc : FuncId → Bool} {e : Ex} (h : ExLe Q e (E orc)) (v0 : Value) (G : GS) : Ref (s104 true e v0 G) ((E orc).cl 104 [v0] G) :=
  fun r hr => cl_sxE_some Q orc (vs := [v0]) G Tryz.func104 (by kernel_rfl) (by kernel_rfl) (by kernel_rfl) (by kernel_rfl) (by kernel_rfl) (by kernel_rfl) (m104 h v0 G r hr)
/-- (*coxswain/ring.Push).Step -/
noncomputable def s105 (q : Bool) (e : Ex) (v0 v1 : Value) (G : GS) : Option (Value × GS) :=
  bP (ep Q q false 182 (.tmp 5) (.const (.pointer none)) v0 (.pointer none)) fun x0 =>
  bS (gd x0 false (some (v0, G)) G) fun x1 G2 =>
  bS (gd x0 false (bP (pNil x1) fun y => some (y, G2)) G2) fun x3 G4 =>
  bS (gd x0 false (bP (fa Q q 232 0 0 x3) fun y => some (y, G4)) G4) fun x5 G6 =>
  bS (gd x0 false (some (v1, G6)) G6) fun x7 G8 =>
  bS (gd x0 false (bS (e.ev.cl 164 [x5, x7] G8) fun y G => some (y, G)) G8) fun x9 G10 =>
  bP (pickV x0 (.bool true) x9) fun x11 =>
  some (x11, G10)
theorem m105 {e : Ex} {E : Ev} (h : ExLe Q e E) (v0 v1 : Value) (G : GS) : Ref (s105 true e v0 v1 G) (s105 false (Ex.of E) v0 v1 G) := by
  unfold s105
  exact Ref.gq
theorem f105 {orc : FuncId → Bool} {e : Ex} (h : ExLe Q e (E orc)) (v0 v1 : Value) (G : GS) : Ref (s105 true e v0 v1 G) ((E orc).cl 105 [v0, v1] G) :=
  fun r hr => cl_sxE_some Q orc (vs := [v0, v1]) G Tryz.func105 (by kernel_rfl) (by kernel_rfl) (by kernel_rfl) (by kernel_rfl) (by kernel_rfl) (by kernel_rfl) (m105 h v0 v1 G r hr)
/-- (*coxswain/ring.Push).Err -/
noncomputable def s106 (q : Bool) (e : Ex) (v0 : Value) (G : GS) : Option (Value × GS) :=
  bP (ep Q q false 182 (.tmp 3) (.const (.pointer none)) v0 (.pointer none)) fun x0 =>
  ifV x0 (
  some ((.int .i64 1), G)) (
  bP (pNil v0) fun x1 =>
  bP (fa Q q 232 0 0 x1) fun x2 =>
  bS (e.ev.cl 165 [x2] G) fun x3 G4 =>
  some (x3, G4))
theorem m106 {e : Ex} {E : Ev} (h : ExLe Q e E) (v0 : Value) (G : GS) : Ref (s106 true e v0 G) (s106 false (Ex.of E) v0 G) := by
  unfold s106
  exact Ref.gq
theorem f106 {orc : FuncId → Bool} {e : Ex} (h : ExLe Q e (E orc)) (v0 : Value) (G : GS) : Ref (s106 true e v0 G) ((E orc).cl 106 [v0] G) :=
  fun r hr => cl_sxE_some Q orc (vs := [v0]) G Tryz.func106 (by kernel_rfl) (by kernel_rfl) (by kernel_rfl) (by kernel_rfl) (by kernel_rfl) (by kernel_rfl) (m106 h v0 G r hr)
noncomputable def jb107_0 (q : Bool) (e : Ex) (τ : Env) (G : GS) : Option (Value × GS) :=
  bV q (τ 0) fun a0_ =>
  bP (pNil a0_) fun x0 =>
  bP (fa Q q 234 2 5 x0) fun x1 =>
  bP (ld Q q 3 x1 G) fun x2 =>
  bP (bn Q q .eql 3 (.tmp 114) (.const (.int .i64 9)) x2 (.int .i64 9)) fun x3 =>
  some (x3, G)
noncomputable def j107_0 (q : Bool) (e : Ex) (τ : Env) (G : GS) : Option (Value × GS) := jb107_0 q e τ G
theorem mj107_0 {e : Ex} {E : Ev} (h : ExLe Q e E) (τ : Env) (G : GS) : Ref (j107_0 true e τ G) (j107_0 false (Ex.of E) τ G) := by
  unfold j107_0 jb107_0
  exact Ref.gq
theorem mkj107_0 {e : Ex} {E : Ev} (h : ExLe Q e E) {τ : Env} {l U : List (Nat × Value)} {G : GS} (hU : UOk τ U) : Ref (j107_0 true e (xq true 116 τ l U) G) (j107_0 false (Ex.of E) (xq false 116 τ l U) G) := by
  rw [xq_eq hU]
  exact mj107_0 h _ _
noncomputable def sb107 (q : Bool) (e : Ex) (J0 : Env → GS → Option (Value × GS)) (v0 v1 : Value) (G : GS) : Option (Value × GS) :=
  bP (pNil v0) fun x4 =>
  bP (fa Q q 234 2 5 x4) fun x5 =>
  bP (ld Q q 3 x5 G) fun x6 =>
  bP (bn Q q .eql 3 (.tmp 8) (.const (.int .i64 1)) x6 (.int .i64 1)) fun x7 =>
  ifV x7 (
  bP (pNil v0) fun x8 =>
  bP (fa Q q 234 0 0 x8) fun x9 =>
  bP (fa Q q 119 1 1 x9) fun x10 =>
  bP (ld Q q 3 x10 G) fun x11 =>
  bS (e.ev.cl 166 [v1, x11] G) fun x12 G13 =>
  bP (pNil v0) fun x14 =>
  bP (fa Q q 234 3 6 x14) fun x15 =>
  bP (st Q q 39 1 x15 x12 G13) fun G16 =>
  bP (pNil v0) fun x17 =>
  bP (fa Q q 234 2 5 x17) fun x18 =>
  bP (st Q q 3 1 x18 (.int .i64 2) G16) fun G19 =>
  J0 (xq q 116 (nth undef [v0, v1]) [(23, x18), (22, x17), (21, v0), (20, x15), (19, x14), (18, x12), (17, x11), (16, x10), (15, x9), (14, x8), (13, v0), (12, v1), (11, v0), (9, x7), (10, x7), (8, x6), (7, x5), (6, x4), (5, v0), (4, (.bool false))] []) G19) (
  bP (bn Q q .eql 3 (.tmp 8) (.const (.int .i64 2)) x6 (.int .i64 2)) fun x20 =>
  ifV x20 (
  bS (e.ev.cl 167 [v0, v1] G) fun x21 G22 =>
  J0 (xq q 116 (nth undef [v0, v1]) [(28, x21), (27, v1), (26, v0), (24, x20), (25, x20), (9, x7), (10, x7), (8, x6), (7, x5), (6, x4), (5, v0), (4, (.bool false))] []) G22) (
  bP (bn Q q .eql 3 (.tmp 8) (.const (.int .i64 3)) x6 (.int .i64 3)) fun x23 =>
  ifV x23 (
  bP (pNil v0) fun x24 =>
  bP (fa Q q 234 2 5 x24) fun x25 =>
  bP (st Q q 3 1 x25 (.int .i64 5) G) fun G26 =>
  bP (pNil v0) fun x27 =>
  bP (fa Q q 234 0 0 x27) fun x28 =>
  bP (lda Q q 119 4 x28 (G26.room 32)) fun x29 =>
  bP (pNil v0) fun x30 =>
  bP (fa Q q 234 3 6 x30) fun x31 =>
  bP (ld Q q 39 x31 (G26.room 32)) fun x32 =>
  bS (e.ev.cl 131 [x29, x32] (G26.room 32)) fun x34 G33 =>
  bP (pNil v0) fun x35 =>
  bP (fa Q q 234 4 7 x35) fun x36 =>
  bP (ld Q q 39 x36 G33) fun x37 =>
  chk ((sameO (ld Q q 39 x36 (G26.room 32)) x37 && true)) <|
  bP (pNil v0) fun x38 =>
  bP (fa Q q 234 0 0 x38) fun x39 =>
  bP (lda Q q 119 4 x39 G33) fun x40 =>
  chk ((sameO (lda Q q 119 4 x39 (G26.room 32)) x40 && true)) <|
  bP (pNil v0) fun x41 =>
  bP (fa Q q 234 3 6 x41) fun x42 =>
  bP (ld Q q 39 x42 G33) fun x43 =>
  chk ((sameO (ld Q q 39 x42 (G26.room 32)) x43 && true)) <|
  bS (e.ev.cl 132 [x40, x43] G33) fun x45 G44 =>
  chk ((sameO (ld Q q 39 x36 G44) x37 && true)) <|
  bP (bn Q q .shl 39 (.tmp 56) (.const (.int .u64 32)) x45 (.int .u64 32)) fun x46 =>
  bP (bn Q q .or 39 (.tmp 57) (.const (.int .u64 65536)) x46 (.int .u64 65536)) fun x47 =>
  bP (pNil v0) fun x48 =>
  bP (fa Q q 234 1 4 x48) fun x49 =>
  bP (ld Q q 3 x49 G44) fun x50 =>
  chk ((sameO (ld Q q 3 x49 G33) x50 && (sameO (ld Q q 3 x49 (G26.room 32)) x50 && true))) <|
  bP (cv Q q 3 39 .i64 .u64 x50) fun x51 =>
  bP (bn Q q .or 39 (.tmp 58) (.tmp 63) x47 x51) fun x52 =>
  bS (e.ev.cl 168 [v1, x34, x37, x52] G44) fun x54 G53 =>
  ifV x54 (
  bP (pNil v0) fun x55 =>
  bP (fa Q q 234 2 5 x55) fun x56 =>
  bP (st Q q 3 1 x56 (.int .i64 4) G53) fun G57 =>
  J0 (xq q 116 (nth undef [v0, v1]) [(68, x56), (67, x55), (66, v0), (65, x54), (64, x52), (63, x51), (62, x50), (61, x49), (60, x48), (59, v0), (58, x47), (57, x46), (56, x45), (55, x43), (54, x42), (53, x41), (52, v0), (51, x40), (50, x39), (49, x38), (48, v0), (47, x37), (46, x36), (45, x35), (44, v0), (43, x34), (42, x32), (41, x31), (40, x30), (39, v0), (38, x29), (37, x28), (36, x27), (35, v0), (34, v1), (33, x25), (32, x24), (31, v0), (29, x23), (30, x23), (24, x20), (25, x20), (9, x7), (10, x7), (8, x6), (7, x5), (6, x4), (5, v0), (4, (.bool false))] []) G57) (
  J0 (xq q 116 (nth undef [v0, v1]) [(65, x54), (64, x52), (63, x51), (62, x50), (61, x49), (60, x48), (59, v0), (58, x47), (57, x46), (56, x45), (55, x43), (54, x42), (53, x41), (52, v0), (51, x40), (50, x39), (49, x38), (48, v0), (47, x37), (46, x36), (45, x35), (44, v0), (43, x34), (42, x32), (41, x31), (40, x30), (39, v0), (38, x29), (37, x28), (36, x27), (35, v0), (34, v1), (33, x25), (32, x24), (31, v0), (29, x23), (30, x23), (24, x20), (25, x20), (9, x7), (10, x7), (8, x6), (7, x5), (6, x4), (5, v0), (4, (.bool false))] []) G53)) (
  bP (bn Q q .eql 3 (.tmp 8) (.const (.int .i64 4)) x6 (.int .i64 4)) fun x58 =>
  ifV x58 (
  bP (pNil v0) fun x59 =>
  bP (fa Q q 234 0 0 x59) fun x60 =>
  bP (fa Q q 119 1 1 x60) fun x61 =>
  bP (ld Q q 3 x61 (G.room 16)) fun x62 =>
  bP (pNil v0) fun x63 =>
  bP (fa Q q 234 3 6 x63) fun x64 =>
  bP (ld Q q 39 x64 (G.room 16)) fun x65 =>
  bP (pNil v0) fun x66 =>
  bP (fa Q q 234 3 6 x66) fun x67 =>
  bP (ld Q q 39 x67 (G.room 16)) fun x68 =>
  bP (bn Q q .add 39 (.tmp 84) (.const (.int .u64 1)) x68 (.int .u64 1)) fun x69 =>
  bS (e.ev.cl 168 [v1, x62, x65, x69] (G.room 16)) fun x71 G70 =>
  bP (pNil v0) fun x72 =>
  bP (fa Q q 234 2 5 x72) fun x73 =>
  bP (st Q q 3 1 x73 (.int .i64 9) G70) fun G74 =>
  J0 (xq q 116 (nth undef [v0, v1]) [(89, x73), (88, x72), (87, v0), (86, x71), (85, x69), (84, x68), (83, x67), (82, x66), (81, v0), (80, x65), (79, x64), (78, x63), (77, v0), (76, x62), (75, x61), (74, x60), (73, x59), (72, v0), (71, v1), (69, x58), (70, x58), (29, x23), (30, x23), (24, x20), (25, x20), (9, x7), (10, x7), (8, x6), (7, x5), (6, x4), (5, v0), (4, (.bool false))] []) G74) (
  bP (bn Q q .eql 3 (.tmp 8) (.const (.int .i64 5)) x6 (.int .i64 5)) fun x75 =>
  ifV x75 (
  bP (pNil v0) fun x76 =>
  bP (fa Q q 234 0 0 x76) fun x77 =>
  bP (fa Q q 119 1 1 x77) fun x78 =>
  bP (ld Q q 3 x78 (G.room 16)) fun x79 =>
  bP (pNil v0) fun x80 =>
  bP (fa Q q 234 3 6 x80) fun x81 =>
  bP (ld Q q 39 x81 (G.room 16)) fun x82 =>
  bP (pNil v0) fun x83 =>
  bP (fa Q q 234 3 6 x83) fun x84 =>
  bP (ld Q q 39 x84 (G.room 16)) fun x85 =>
  bP (bn Q q .add 39 (.tmp 105) (.const (.int .u64 1)) x85 (.int .u64 1)) fun x86 =>
  bS (e.ev.cl 168 [v1, x79, x82, x86] (G.room 16)) fun x88 G87 =>
  bP (pNil v0) fun x89 =>
  bP (fa Q q 234 2 5 x89) fun x90 =>
  bP (st Q q 3 1 x90 (.int .i64 1) G87) fun G91 =>
  J0 (xq q 116 (nth undef [v0, v1]) [(110, x90), (109, x89), (108, v0), (107, x88), (106, x86), (105, x85), (104, x84), (103, x83), (102, v0), (101, x82), (100, x81), (99, x80), (98, v0), (97, x79), (96, x78), (95, x77), (94, x76), (93, v0), (92, v1), (90, x75), (91, x75), (69, x58), (70, x58), (29, x23), (30, x23), (24, x20), (25, x20), (9, x7), (10, x7), (8, x6), (7, x5), (6, x4), (5, v0), (4, (.bool false))] []) G91) (
  J0 (xq q 116 (nth undef [v0, v1]) [(90, x75), (91, x75), (69, x58), (70, x58), (29, x23), (30, x23), (24, x20), (25, x20), (9, x7), (10, x7), (8, x6), (7, x5), (6, x4), (5, v0), (4, (.bool false))] []) G)))))
/-- (*coxswain/coxswainref14.Push).Step -/
noncomputable def s107 (q : Bool) (e : Ex) (v0 v1 : Value) (G : GS) : Option (Value × GS) := sb107 q e (j107_0 q e) v0 v1 G
theorem m107 {e : Ex} {E : Ev} (h : ExLe Q e E) (v0 v1 : Value) (G : GS) : Ref (s107 true e v0 v1 G) (s107 false (Ex.of E) v0 v1 G) := by
  unfold s107 sb107
  repeat' (with_reducible first | exact Ref.rfl' _ | exact ROp.r | refine Ref.bP ?_ fun _ => ?_ | refine Ref.bS ?_ fun _ _ => ?_ | exact Ref.cl (by assumption) | refine Ref.ifV ?_ ?_ | refine LpLe.rx (by assumption) ?_ | refine Ref.xitq ?_ | exact UOk.z | refine UOk.c (by assumption) ?_ | exact Ref.nil _ | refine Ref.bVe fun _ _ => ?_ | refine Ref.bLq (by assumption) ?_ fun _ _ _ => ?_ | refine Ref.ifE ?_ ?_ | refine Ref.chk ?_ ?_ | refine Imp.and ?_ ?_ | refine Imp.or ?_ | exact Imp.rfl' _ | refine Imp.sameO ?_ | refine Ref.gd ?_ | exact Ref.cValue (by assumption) | refine Ref.bX ?_ fun _ _ _ => ?_ | exact Ref.scQ (by assumption) | exact Ref.xRangeQ (by assumption) | exact Ref.cInvoke (by assumption) | refine mkj107_0 (by assumption) ?_)
noncomputable def jt107 (J0 : Env → GS → Option (Value × GS)) : JT (Value × GS) :=
  (.n none .e (.n (some (fun T G => J0 (nth undef T) G)) .e .e))
set_option maxHeartbeats 8000000 in
theorem jr107_0 (orc : FuncId → Bool) (J0 : Env → GS → Option (Value × GS)) (T : List Value) (G : GS) : runC Q (evL Q orc) Tryz.f107.ntmps (jt107 J0) (bodyOf Tryz.f107) (retE Q Tryz.f107.results.toList) [true] (nth undef T) G = jb107_0 false (Ex.of (E orc))  (nth undef T) G := by kernel_rfl
set_option maxHeartbeats 8000000 in
theorem jo107 (orc : FuncId → Bool) : JOk Q orc Tryz.f107.ntmps (jt107 (j107_0 false (Ex.of (E orc))) ) (bodyOf Tryz.f107) (retE Q Tryz.f107.results.toList) :=
  jOk Q orc (l := [([true], (fun T G => j107_0 false (Ex.of (E orc)) (nth undef T) G))]) (by kernel_rfl) (AllE.c (fun T G => jr107_0 orc (j107_0 false (Ex.of (E orc))) T G) (AllE.z))
set_option maxHeartbeats 8000000 in
theorem je107 (orc : FuncId → Bool) (J0 : Env → GS → Option (Value × GS)) (v0 v1 : Value) (G : GS) : sxC Q (evL Q orc) Tryz.f107.ntmps (jt107 J0) (bodyOf Tryz.f107) (nth undef [v0, v1]) G (retE Q Tryz.f107.results.toList) = sb107 false (Ex.of (E orc)) J0 v0 v1 G := by kernel_rfl
set_option maxHeartbeats 8000000 in
theorem f107 {orc : FuncId → Bool} {e : Ex} (h : ExLe Q e (E orc)) (v0 v1 : Value) (G : GS) : Ref (s107 true e v0 v1 G) ((E orc).cl 107 [v0, v1] G) :=
  fun r hr => cl_sxC Q orc (vs := [v0, v1]) G (jt107 (j107_0 false (Ex.of (E orc))) ) Tryz.func107 (by kernel_rfl) (by kernel_rfl) (by kernel_rfl) (by kernel_rfl) (by kernel_rfl) (jo107 orc) (je107 orc (j107_0 false (Ex.of (E orc))) v0 v1 G) (m107 h v0 v1 G r hr)
/-- (*coxswain/coxswainref14.Push).Err -/
noncomputable def s108 (q : Bool) (e : Ex) (v0 : Value) (G : GS) : Option (Value × GS) :=
  bP (pNil v0) fun x0 =>
  bP (fa Q q 234 2 5 x0) fun x1 =>
  bP (ld Q q 3 x1 (G.room 10)) fun x2 =>
  bP (pNil v0) fun x3 =>
  bP (fa Q q 234 5 8 x3) fun x4 =>
  bP (ld Q q 26 x4 (G.room 10)) fun x5 =>
  bS (e.ev.cl 169 [x2, x5] (G.room 10)) fun x7 G6 =>
  some (x7, G6)
theorem m108 {e : Ex} {E : Ev} (h : ExLe Q e E) (v0 : Value) (G : GS) : Ref (s108 true e v0 G) (s108 false (Ex.of E) v0 G) := by
  unfold s108
  exact Ref.gq
theorem f108 {orc : FuncId → Bool} {e : Ex} (h : ExLe Q e (E orc)) (v0 : Value) (G : GS) : Ref (s108 true e v0 G) ((E orc).cl 108 [v0] G) :=
  fun r hr => cl_sxE_some Q orc (vs := [v0]) G Tryz.func108 (by kernel_rfl) (by kernel_rfl) (by kernel_rfl) (by kernel_rfl) (by kernel_rfl) (by kernel_rfl) (m108 h v0 G r hr)
/-- (*coxswain/ring.Front).Value -/
noncomputable def s109 (q : Bool) (e : Ex) (v0 : Value) (G : GS) : Option (Value × GS) :=
  bP (ep Q q false 192 (.tmp 4) (.const (.pointer none)) v0 (.pointer none)) fun x0 =>
  ifV x0 (
  some (.tuple #[(.int .i64 0), (.int .i64 1)], G)) (
  bP (pNil v0) fun x1 =>
  bP (fa Q q 238 2 8 x1) fun x2 =>
  bP (ld Q q 3 x2 (G.room 10)) fun x3 =>
  bP (pNil v0) fun x4 =>
  bP (fa Q q 238 0 0 x4) fun x5 =>
  bS (e.ev.cl 165 [x5] (G.room 10)) fun x7 G6 =>
  chk ((sameO (ld Q q 3 x2 G6) x3 && true)) <|
  some (.tuple #[x3, x7], G6))
theorem m109 {e : Ex} {E : Ev} (h : ExLe Q e E) (v0 : Value) (G : GS) : Ref (s109 true e v0 G) (s109 false (Ex.of E) v0 G) := by
  unfold s109
  exact Ref.gq
theorem f109 {orc : FuncId → Bool} {e : Ex} (h : ExLe Q e (E orc)) (v0 : Value) (G : GS) : Ref (s109 true e v0 G) ((E orc).cl 109 [v0] G) :=
  fun r hr => cl_sxE_some Q orc (vs := [v0]) G Tryz.func109 (by kernel_rfl) (by kernel_rfl) (by kernel_rfl) (by kernel_rfl) (by kernel_rfl) (by kernel_rfl) (m109 h v0 G r hr)
/-- coxswain/ring.NewDrop -/
noncomputable def s110 (q : Bool) (e : Ex) (v0 v1 : Value) (G : GS) : Option (Value × GS) :=
  bS (bx q v0 G) fun x0 G1 =>
  bP (lda Q q 119 4 x0 G1) fun x2 =>
  bS (e.ev.cl 170 [x2] G1) fun x3 G4 =>
  bP (bd Q q 241 z241 [(0, 0, 7), (1, 7, 1)] [x3, v1]) fun x5 =>
  bS (bx q x5 G4) fun x6 G7 =>
  bP (pNil x6) fun x8 =>
  bP (fa Q q 241 0 0 x8) fun x9 =>
  bP (fa Q q 230 3 6 x9) fun x10 =>
  bP (ld Q q 26 x10 G7) fun x11 =>
  bP (bn Q q .eql 26 (.tmp 15) (.const (.int .i64 0)) x11 (.int .i64 0)) fun x12 =>
  ifV x12 (
  bP (pNil x6) fun x13 =>
  bP (fa Q q 241 0 0 x13) fun x14 =>
  bP (fa Q q 230 1 4 x14) fun x15 =>
  bP (st Q q 224 1 x15 (.func (.func 171) #[x6] #[]) G7) fun G16 =>
  some (x6, G16)) (
  some (x6, G7))
theorem m110 {e : Ex} {E : Ev} (h : ExLe Q e E) (v0 v1 : Value) (G : GS) : Ref (s110 true e v0 v1 G) (s110 false (Ex.of E) v0 v1 G) := by
  unfold s110
  exact Ref.gq
theorem f110 {orc : FuncId → Bool} {e : Ex} (h : ExLe Q e (E orc)) (v0 v1 : Value) (G : GS) : Ref (s110 true e v0 v1 G) ((E orc).cl 110 [v0, v1] G) :=
  fun r hr => cl_sxE_some Q orc (vs := [v0, v1]) G Tryz.func110 (by kernel_rfl) (by kernel_rfl) (by kernel_rfl) (by kernel_rfl) (by kernel_rfl) (by kernel_rfl) (m110 h v0 v1 G r hr)
/-- (*coxswain/ring.Front).At -/
noncomputable def s111 (q : Bool) (e : Ex) (v0 : Value) (G : GS) : Option (Value × GS) :=
  bP (ep Q q false 192 (.tmp 3) (.const (.pointer none)) v0 (.pointer none)) fun x0 =>
  ifV x0 (
  some ((.int .u64 0), G)) (
  bP (pNil v0) fun x1 =>
  bP (fa Q q 238 1 7 x1) fun x2 =>
  bP (ld Q q 39 x2 G) fun x3 =>
  some (x3, G))
theorem m111 {e : Ex} {E : Ev} (h : ExLe Q e E) (v0 : Value) (G : GS) : Ref (s111 true e v0 G) (s111 false (Ex.of E) v0 G) := by
  unfold s111
  exact Ref.gq
theorem f111 {orc : FuncId → Bool} {e : Ex} (h : ExLe Q e (E orc)) (v0 : Value) (G : GS) : Ref (s111 true e v0 G) ((E orc).cl 111 [v0] G) :=
  fun r hr => cl_sxE_some Q orc (vs := [v0]) G Tryz.func111 (by kernel_rfl) (by kernel_rfl) (by kernel_rfl) (by kernel_rfl) (by kernel_rfl) (by kernel_rfl) (m111 h v0 G r hr)
/-- coxswain/ring.NewFront -/
noncomputable def s112 (q : Bool) (e : Ex) (v0 : Value) (G : GS) : Option (Value × GS) :=
  bS (bx q v0 G) fun x0 G1 =>
  bP (lda Q q 119 4 x0 G1) fun x2 =>
  bS (e.ev.cl 170 [x2] G1) fun x3 G4 =>
  bP (bd Q q 238 z238 [(0, 0, 7)] [x3]) fun x5 =>
  bS (bx q x5 G4) fun x6 G7 =>
  bP (pNil x6) fun x8 =>
  bP (fa Q q 238 0 0 x8) fun x9 =>
  bP (fa Q q 230 3 6 x9) fun x10 =>
  bP (ld Q q 26 x10 G7) fun x11 =>
  bP (bn Q q .eql 26 (.tmp 12) (.const (.int .i64 0)) x11 (.int .i64 0)) fun x12 =>
  ifV x12 (
  bP (pNil x6) fun x13 =>
  bP (fa Q q 238 0 0 x13) fun x14 =>
  bP (fa Q q 230 1 4 x14) fun x15 =>
  bP (st Q q 224 1 x15 (.func (.func 172) #[x6] #[]) G7) fun G16 =>
  some (x6, G16)) (
  some (x6, G7))
theorem m112 {e : Ex} {E : Ev} (h : ExLe Q e E) (v0 : Value) (G : GS) : Ref (s112 true e v0 G) (s112 false (Ex.of E) v0 G) := by
  unfold s112
  exact Ref.gq
theorem f112 {orc : FuncId → Bool} {e : Ex} (h : ExLe Q e (E orc)) (v0 : Value) (G : GS) : Ref (s112 true e v0 G) ((E orc).cl 112 [v0] G) :=
  fun r hr => cl_sxE_some Q orc (vs := [v0]) G Tryz.func112 (by kernel_rfl) (by kernel_rfl) (by kernel_rfl) (by kernel_rfl) (by kernel_rfl) (by kernel_rfl) (m112 h v0 G r hr)
noncomputable def jb113_0 (q : Bool) (e : Ex) (τ : Env) (G : GS) : Option (Value × GS) :=
  bV q (τ 0) fun a0_ =>
  bP (pNil a0_) fun x0 =>
  bP (fa Q q 243 1 4 x0) fun x1 =>
  bP (ld Q q 3 x1 G) fun x2 =>
  bP (bn Q q .eql 3 (.tmp 57) (.const (.int .i64 9)) x2 (.int .i64 9)) fun x3 =>
  some (x3, G)
noncomputable def j113_0 (q : Bool) (e : Ex) (τ : Env) (G : GS) : Option (Value × GS) := jb113_0 q e τ G
theorem mj113_0 {e : Ex} {E : Ev} (h : ExLe Q e E) (τ : Env) (G : GS) : Ref (j113_0 true e τ G) (j113_0 false (Ex.of E) τ G) := by
  unfold j113_0 jb113_0
  exact Ref.gq
theorem mkj113_0 {e : Ex} {E : Ev} (h : ExLe Q e E) {τ : Env} {l U : List (Nat × Value)} {G : GS} (hU : UOk τ U) : Ref (j113_0 true e (xq true 59 τ l U) G) (j113_0 false (Ex.of E) (xq false 59 τ l U) G) := by
  rw [xq_eq hU]
  exact mj113_0 h _ _
noncomputable def sb113 (q : Bool) (e : Ex) (J0 : Env → GS → Option (Value × GS)) (v0 v1 : Value) (G : GS) : Option (Value × GS) :=
  bP (pNil v0) fun x4 =>
  bP (fa Q q 243 1 4 x4) fun x5 =>
  bP (ld Q q 3 x5 G) fun x6 =>
  bP (bn Q q .eql 3 (.tmp 8) (.const (.int .i64 1)) x6 (.int .i64 1)) fun x7 =>
  ifV x7 (
  bP (pNil v0) fun x8 =>
  bP (fa Q q 243 0 0 x8) fun x9 =>
  bP (lda Q q 119 4 x9 (G.room 23)) fun x10 =>
  bP (pNil v0) fun x11 =>
  bP (fa Q q 243 2 5 x11) fun x12 =>
  bP (ld Q q 39 x12 (G.room 23)) fun x13 =>
  bS (e.ev.cl 131 [x10, x13] (G.room 23)) fun x15 G14 =>
  bP (pNil v0) fun x16 =>
  bP (fa Q q 243 0 0 x16) fun x17 =>
  bP (lda Q q 119 4 x17 G14) fun x18 =>
  chk ((sameO (lda Q q 119 4 x17 (G.room 23)) x18 && true)) <|
  bP (pNil v0) fun x19 =>
  bP (fa Q q 243 2 5 x19) fun x20 =>
  bP (ld Q q 39 x20 G14) fun x21 =>
  chk ((sameO (ld Q q 39 x20 (G.room 23)) x21 && true)) <|
  bS (e.ev.cl 132 [x18, x21] G14) fun x23 G22 =>
  bP (bn Q q .add 39 (.tmp 29) (.const (.int .u64 1)) x23 (.int .u64 1)) fun x24 =>
  bP (bn Q q .rem 39 (.tmp 30) (.const (.int .u64 4294967296)) x24 (.int .u64 4294967296)) fun x25 =>
  bP (bn Q q .shl 39 (.tmp 31) (.const (.int .u64 32)) x25 (.int .u64 32)) fun x26 =>
  bS (e.ev.cl 15 [v1, x15, x26] G22) fun x28 G27 =>
  bP (pNil v0) fun x29 =>
  bP (fa Q q 243 1 4 x29) fun x30 =>
  bP (st Q q 3 1 x30 (.int .i64 2) G27) fun G31 =>
  J0 (xq q 59 (nth undef [v0, v1]) [(36, x30), (35, x29), (34, v0), (33, x28), (32, x26), (31, x25), (30, x24), (29, x23), (28, x21), (27, x20), (26, x19), (25, v0), (24, x18), (23, x17), (22, x16), (21, v0), (20, x15), (19, x13), (18, x12), (17, x11), (16, v0), (15, x10), (14, x9), (13, x8), (12, v0), (11, v1), (9, x7), (10, x7), (8, x6), (7, x5), (6, x4), (5, v0), (4, (.bool false))] []) G31) (
  bP (bn Q q .eql 3 (.tmp 8) (.const (.int .i64 2)) x6 (.int .i64 2)) fun x32 =>
  ifV x32 (
  bP (pNil v0) fun x33 =>
  bP (fa Q q 243 0 0 x33) fun x34 =>
  bP (fa Q q 119 0 0 x34) fun x35 =>
  bP (ld Q q 3 x35 (G.room 12)) fun x36 =>
  bP (pNil v0) fun x37 =>
  bP (fa Q q 243 2 5 x37) fun x38 =>
  bP (ld Q q 39 x38 (G.room 12)) fun x39 =>
  bP (bn Q q .add 39 (.tmp 48) (.const (.int .u64 1)) x39 (.int .u64 1)) fun x40 =>
  bS (e.ev.cl 15 [v1, x36, x40] (G.room 12)) fun x42 G41 =>
  bP (pNil v0) fun x43 =>
  bP (fa Q q 243 1 4 x43) fun x44 =>
  bP (st Q q 3 1 x44 (.int .i64 9) G41) fun G45 =>
  J0 (xq q 59 (nth undef [v0, v1]) [(53, x44), (52, x43), (51, v0), (50, x42), (49, x40), (48, x39), (47, x38), (46, x37), (45, v0), (44, x36), (43, x35), (42, x34), (41, x33), (40, v0), (39, v1), (37, x32), (38, x32), (9, x7), (10, x7), (8, x6), (7, x5), (6, x4), (5, v0), (4, (.bool false))] []) G45) (
  J0 (xq q 59 (nth undef [v0, v1]) [(37, x32), (38, x32), (9, x7), (10, x7), (8, x6), (7, x5), (6, x4), (5, v0), (4, (.bool false))] []) G))
/-- (*coxswain/coxswainref14.Drop).Step -/
noncomputable def s113 (q : Bool) (e : Ex) (v0 v1 : Value) (G : GS) : Option (Value × GS) := sb113 q e (j113_0 q e) v0 v1 G
theorem m113 {e : Ex} {E : Ev} (h : ExLe Q e E) (v0 v1 : Value) (G : GS) : Ref (s113 true e v0 v1 G) (s113 false (Ex.of E) v0 v1 G) := by
  unfold s113 sb113
  repeat' (with_reducible first | exact Ref.rfl' _ | exact ROp.r | refine Ref.bP ?_ fun _ => ?_ | refine Ref.bS ?_ fun _ _ => ?_ | exact Ref.cl (by assumption) | refine Ref.ifV ?_ ?_ | refine LpLe.rx (by assumption) ?_ | refine Ref.xitq ?_ | exact UOk.z | refine UOk.c (by assumption) ?_ | exact Ref.nil _ | refine Ref.bVe fun _ _ => ?_ | refine Ref.bLq (by assumption) ?_ fun _ _ _ => ?_ | refine Ref.ifE ?_ ?_ | refine Ref.chk ?_ ?_ | refine Imp.and ?_ ?_ | refine Imp.or ?_ | exact Imp.rfl' _ | refine Imp.sameO ?_ | refine Ref.gd ?_ | exact Ref.cValue (by assumption) | refine Ref.bX ?_ fun _ _ _ => ?_ | exact Ref.scQ (by assumption) | exact Ref.xRangeQ (by assumption) | exact Ref.cInvoke (by assumption) | refine mkj113_0 (by assumption) ?_)
noncomputable def jt113 (J0 : Env → GS → Option (Value × GS)) : JT (Value × GS) :=
  (.n none .e (.n (some (fun T G => J0 (nth undef T) G)) .e .e))
theorem jr113_0 (orc : FuncId → Bool) (J0 : Env → GS → Option (Value × GS)) (T : List Value) (G : GS) : runC Q (evL Q orc) Tryz.f113.ntmps (jt113 J0) (bodyOf Tryz.f113) (retE Q Tryz.f113.results.toList) [true] (nth undef T) G = jb113_0 false (Ex.of (E orc))  (nth undef T) G := by kernel_rfl
theorem jo113 (orc : FuncId → Bool) : JOk Q orc Tryz.f113.ntmps (jt113 (j113_0 false (Ex.of (E orc))) ) (bodyOf Tryz.f113) (retE Q Tryz.f113.results.toList) :=
  jOk Q orc (l := [([true], (fun T G => j113_0 false (Ex.of (E orc)) (nth undef T) G))]) (by kernel_rfl) (AllE.c (fun T G => jr113_0 orc (j113_0 false (Ex.of (E orc))) T G) (AllE.z))
theorem je113 (orc : FuncId → Bool) (J0 : Env → GS → Option (Value × GS)) (v0 v1 : Value) (G : GS) : sxC Q (evL Q orc) Tryz.f113.ntmps (jt113 J0) (bodyOf Tryz.f113) (nth undef [v0, v1]) G (retE Q Tryz.f113.results.toList) = sb113 false (Ex.of (E orc)) J0 v0 v1 G := by kernel_rfl
theorem f113 {orc : FuncId → Bool} {e : Ex} (h : ExLe Q e (E orc)) (v0 v1 : Value) (G : GS) : Ref (s113 true e v0 v1 G) ((E orc).cl 113 [v0, v1] G) :=
  fun r hr => cl_sxC Q orc (vs := [v0, v1]) G (jt113 (j113_0 false (Ex.of (E orc))) ) Tryz.func113 (by kernel_rfl) (by kernel_rfl) (by kernel_rfl) (by kernel_rfl) (by kernel_rfl) (jo113 orc) (je113 orc (j113_0 false (Ex.of (E orc))) v0 v1 G) (m113 h v0 v1 G r hr)
/-- coxswain/coxswainref14.NewFront -/
noncomputable def s114 (q : Bool) (e : Ex) (v0 : Value) (G : GS) : Option (Value × GS) :=
  bS (bx q v0 G) fun x0 G1 =>
  bP (fa Q q 119 3 3 x0) fun x2 =>
  bP (ld Q q 3 x2 G1) fun x3 =>
  bS (e.ev.cl 103 [x3] G1) fun x4 G5 =>
  bP (un Q q .not x4) fun x6 =>
  ifV x6 (
  bP (bd Q q 245 z245 [(1, 4, 1), (4, 7, 1)] [(.int .i64 9), (.int .i64 2)]) fun x7 =>
  bS (bx q x7 G5) fun x8 G9 =>
  some (x8, G9)) (
  bP (lda Q q 119 4 x0 G5) fun x10 =>
  bP (bd Q q 245 z245 [(0, 0, 4), (1, 4, 1)] [x10, (.int .i64 1)]) fun x11 =>
  bS (bx q x11 G5) fun x12 G13 =>
  some (x12, G13))
theorem m114 {e : Ex} {E : Ev} (h : ExLe Q e E) (v0 : Value) (G : GS) : Ref (s114 true e v0 G) (s114 false (Ex.of E) v0 G) := by
  unfold s114
  exact Ref.gq
theorem f114 {orc : FuncId → Bool} {e : Ex} (h : ExLe Q e (E orc)) (v0 : Value) (G : GS) : Ref (s114 true e v0 G) ((E orc).cl 114 [v0] G) :=
  fun r hr => cl_sxE_some Q orc (vs := [v0]) G Tryz.func114 (by kernel_rfl) (by kernel_rfl) (by kernel_rfl) (by kernel_rfl) (by kernel_rfl) (by kernel_rfl) (m114 h v0 G r hr)
noncomputable def jb115_0 (q : Bool) (e : Ex) (τ : Env) (G : GS) : Option (Value × GS) :=
  bV q (τ 0) fun a0_ =>
  bP (pNil a0_) fun x0 =>
  bP (fa Q q 245 1 4 x0) fun x1 =>
  bP (ld Q q 3 x1 G) fun x2 =>
  bP (bn Q q .eql 3 (.tmp 67) (.const (.int .i64 9)) x2 (.int .i64 9)) fun x3 =>
  some (x3, G)
noncomputable def j115_0 (q : Bool) (e : Ex) (τ : Env) (G : GS) : Option (Value × GS) := jb115_0 q e τ G
theorem mj115_0 {e : Ex} {E : Ev} (h : ExLe Q e E) (τ : Env) (G : GS) : Ref (j115_0 true e τ G) (j115_0 false (Ex.of E) τ G) := by
  unfold j115_0 jb115_0
  exact Ref.gq
theorem mkj115_0 {e : Ex} {E : Ev} (h : ExLe Q e E) {τ : Env} {l U : List (Nat × Value)} {G : GS} (hU : UOk τ U) : Ref (j115_0 true e (xq true 69 τ l U) G) (j115_0 false (Ex.of E) (xq false 69 τ l U) G) := by
  rw [xq_eq hU]
  exact mj115_0 h _ _
noncomputable def sb115 (q : Bool) (e : Ex) (J0 : Env → GS → Option (Value × GS)) (v0 v1 : Value) (G : GS) : Option (Value × GS) :=
  bP (pNil v0) fun x4 =>
  bP (fa Q q 245 1 4 x4) fun x5 =>
  bP (ld Q q 3 x5 G) fun x6 =>
  bP (bn Q q .eql 3 (.tmp 9) (.const (.int .i64 1)) x6 (.int .i64 1)) fun x7 =>
  ifV x7 (
  bP (pNil v0) fun x8 =>
  bP (fa Q q 245 0 0 x8) fun x9 =>
  bP (fa Q q 119 0 0 x9) fun x10 =>
  bP (ld Q q 3 x10 G) fun x11 =>
  bS (e.ev.cl 166 [v1, x11] G) fun x12 G13 =>
  bP (pNil v0) fun x14 =>
  bP (fa Q q 245 2 5 x14) fun x15 =>
  bP (st Q q 39 1 x15 x12 G13) fun G16 =>
  bP (pNil v0) fun x17 =>
  bP (fa Q q 245 1 4 x17) fun x18 =>
  bP (st Q q 3 1 x18 (.int .i64 2) G16) fun G19 =>
  J0 (xq q 69 (nth undef [v0, v1]) [(24, x18), (23, x17), (22, v0), (21, x15), (20, x14), (19, x12), (18, x11), (17, x10), (16, x9), (15, x8), (14, v0), (13, v1), (12, v0), (10, x7), (11, x7), (9, x6), (8, x5), (7, x4), (6, v0), (4, (.bool false))] []) G19) (
  bP (bn Q q .eql 3 (.tmp 9) (.const (.int .i64 2)) x6 (.int .i64 2)) fun x20 =>
  ifV x20 (
  bP (pNil v0) fun x21 =>
  bP (fa Q q 245 0 0 x21) fun x22 =>
  bP (lda Q q 119 4 x22 (G.room 12)) fun x23 =>
  bP (pNil v0) fun x24 =>
  bP (fa Q q 245 2 5 x24) fun x25 =>
  bP (ld Q q 39 x25 (G.room 12)) fun x26 =>
  bS (e.ev.cl 131 [x23, x26] (G.room 12)) fun x28 G27 =>
  bS (e.ev.cl 166 [v1, x28] G27) fun x30 G29 =>
  bP (pNil v0) fun x31 =>
  bP (fa Q q 245 1 4 x31) fun x32 =>
  bP (st Q q 3 1 x32 (.int .i64 9) G29) fun G33 =>
  bP (pNil v0) fun x34 =>
  bP (fa Q q 245 4 7 x34) fun x35 =>
  bP (st Q q 26 1 x35 (.int .i64 15) G33) fun G36 =>
  bP (pNil v0) fun x37 =>
  bP (fa Q q 245 0 0 x37) fun x38 =>
  bP (lda Q q 119 4 x38 (G36.room 11)) fun x39 =>
  bP (pNil v0) fun x40 =>
  bP (fa Q q 245 2 5 x40) fun x41 =>
  bP (ld Q q 39 x41 (G36.room 11)) fun x42 =>
  bS (e.ev.cl 132 [x39, x42] (G36.room 11)) fun x44 G43 =>
  bS (e.ev.cl 130 [x30, x44] G43) fun x46 G45 =>
  ifV x46 (
  bP (bn Q q .rem 39 (.tmp 56) (.const (.int .u64 65536)) x30 (.int .u64 65536)) fun x47 =>
  bP (cv Q q 39 3 .u64 .i64 x47) fun x48 =>
  bP (pNil v0) fun x49 =>
  bP (fa Q q 245 3 6 x49) fun x50 =>
  bP (st Q q 3 1 x50 x48 G45) fun G51 =>
  bP (pNil v0) fun x52 =>
  bP (fa Q q 245 4 7 x52) fun x53 =>
  bP (st Q q 26 1 x53 (.int .i64 0) G51) fun G54 =>
  J0 (xq q 69 (nth undef [v0, v1]) [(63, x53), (62, x52), (61, v0), (60, x50), (59, x49), (58, x48), (57, x47), (56, x30), (55, v0), (54, x46), (53, x44), (52, x42), (51, x41), (50, x40), (49, v0), (48, x39), (47, x38), (46, x37), (45, v0), (44, x30), (43, x35), (42, x34), (41, v0), (40, x32), (39, x31), (38, v0), (5, x30), (37, x30), (36, x28), (35, x26), (34, x25), (33, x24), (32, v0), (31, x23), (30, x22), (29, x21), (28, v0), (27, v1), (25, x20), (26, x20), (10, x7), (11, x7), (9, x6), (8, x5), (7, x4), (6, v0), (4, (.bool false))] []) G54) (
  J0 (xq q 69 (nth undef [v0, v1]) [(54, x46), (53, x44), (52, x42), (51, x41), (50, x40), (49, v0), (48, x39), (47, x38), (46, x37), (45, v0), (44, x30), (43, x35), (42, x34), (41, v0), (40, x32), (39, x31), (38, v0), (5, x30), (37, x30), (36, x28), (35, x26), (34, x25), (33, x24), (32, v0), (31, x23), (30, x22), (29, x21), (28, v0), (27, v1), (25, x20), (26, x20), (10, x7), (11, x7), (9, x6), (8, x5), (7, x4), (6, v0), (4, (.bool false))] []) G45)) (
  J0 (xq q 69 (nth undef [v0, v1]) [(25, x20), (26, x20), (10, x7), (11, x7), (9, x6), (8, x5), (7, x4), (6, v0), (4, (.bool false))] []) G))
/-- (*coxswain/coxswainref14.Front).Step -/
noncomputable def s115 (q : Bool) (e : Ex) (v0 v1 : Value) (G : GS) : Option (Value × GS) := sb115 q e (j115_0 q e) v0 v1 G
theorem m115 {e : Ex} {E : Ev} (h : ExLe Q e E) (v0 v1 : Value) (G : GS) : Ref (s115 true e v0 v1 G) (s115 false (Ex.of E) v0 v1 G) := by
  unfold s115 sb115
  repeat' (with_reducible first | exact Ref.rfl' _ | exact ROp.r | refine Ref.bP ?_ fun _ => ?_ | refine Ref.bS ?_ fun _ _ => ?_ | exact Ref.cl (by assumption) | refine Ref.ifV ?_ ?_ | refine LpLe.rx (by assumption) ?_ | refine Ref.xitq ?_ | exact UOk.z | refine UOk.c (by assumption) ?_ | exact Ref.nil _ | refine Ref.bVe fun _ _ => ?_ | refine Ref.bLq (by assumption) ?_ fun _ _ _ => ?_ | refine Ref.ifE ?_ ?_ | refine Ref.chk ?_ ?_ | refine Imp.and ?_ ?_ | refine Imp.or ?_ | exact Imp.rfl' _ | refine Imp.sameO ?_ | refine Ref.gd ?_ | exact Ref.cValue (by assumption) | refine Ref.bX ?_ fun _ _ _ => ?_ | exact Ref.scQ (by assumption) | exact Ref.xRangeQ (by assumption) | exact Ref.cInvoke (by assumption) | refine mkj115_0 (by assumption) ?_)
noncomputable def jt115 (J0 : Env → GS → Option (Value × GS)) : JT (Value × GS) :=
  (.n none .e (.n (some (fun T G => J0 (nth undef T) G)) .e .e))
theorem jr115_0 (orc : FuncId → Bool) (J0 : Env → GS → Option (Value × GS)) (T : List Value) (G : GS) : runC Q (evL Q orc) Tryz.f115.ntmps (jt115 J0) (bodyOf Tryz.f115) (retE Q Tryz.f115.results.toList) [true] (nth undef T) G = jb115_0 false (Ex.of (E orc))  (nth undef T) G := by kernel_rfl
theorem jo115 (orc : FuncId → Bool) : JOk Q orc Tryz.f115.ntmps (jt115 (j115_0 false (Ex.of (E orc))) ) (bodyOf Tryz.f115) (retE Q Tryz.f115.results.toList) :=
  jOk Q orc (l := [([true], (fun T G => j115_0 false (Ex.of (E orc)) (nth undef T) G))]) (by kernel_rfl) (AllE.c (fun T G => jr115_0 orc (j115_0 false (Ex.of (E orc))) T G) (AllE.z))
theorem je115 (orc : FuncId → Bool) (J0 : Env → GS → Option (Value × GS)) (v0 v1 : Value) (G : GS) : sxC Q (evL Q orc) Tryz.f115.ntmps (jt115 J0) (bodyOf Tryz.f115) (nth undef [v0, v1]) G (retE Q Tryz.f115.results.toList) = sb115 false (Ex.of (E orc)) J0 v0 v1 G := by kernel_rfl
theorem f115 {orc : FuncId → Bool} {e : Ex} (h : ExLe Q e (E orc)) (v0 v1 : Value) (G : GS) : Ref (s115 true e v0 v1 G) ((E orc).cl 115 [v0, v1] G) :=
  fun r hr => cl_sxC Q orc (vs := [v0, v1]) G (jt115 (j115_0 false (Ex.of (E orc))) ) Tryz.func115 (by kernel_rfl) (by kernel_rfl) (by kernel_rfl) (by kernel_rfl) (by kernel_rfl) (jo115 orc) (je115 orc (j115_0 false (Ex.of (E orc))) v0 v1 G) (m115 h v0 v1 G r hr)
/-- (*coxswain/coxswainref14.Front).Value -/
noncomputable def s116 (q : Bool) (e : Ex) (v0 : Value) (G : GS) : Option (Value × GS) :=
  bP (pNil v0) fun x0 =>
  bP (fa Q q 245 3 6 x0) fun x1 =>
  bP (ld Q q 3 x1 (G.room 15)) fun x2 =>
  bP (pNil v0) fun x3 =>
  bP (fa Q q 245 1 4 x3) fun x4 =>
  bP (ld Q q 3 x4 (G.room 15)) fun x5 =>
  bP (pNil v0) fun x6 =>
  bP (fa Q q 245 4 7 x6) fun x7 =>
  bP (ld Q q 26 x7 (G.room 15)) fun x8 =>
  bS (e.ev.cl 169 [x5, x8] (G.room 15)) fun x10 G9 =>
  chk ((sameO (ld Q q 3 x1 G9) x2 && true)) <|
  some (.tuple #[x2, x10], G9)
theorem m116 {e : Ex} {E : Ev} (h : ExLe Q e E) (v0 : Value) (G : GS) : Ref (s116 true e v0 G) (s116 false (Ex.of E) v0 G) := by
  unfold s116
  exact Ref.gq
theorem f116 {orc : FuncId → Bool} {e : Ex} (h : ExLe Q e (E orc)) (v0 : Value) (G : GS) : Ref (s116 true e v0 G) ((E orc).cl 116 [v0] G) :=
  fun r hr => cl_sxE_some Q orc (vs := [v0]) G Tryz.func116 (by kernel_rfl) (by kernel_rfl) (by kernel_rfl) (by kernel_rfl) (by kernel_rfl) (by kernel_rfl) (m116 h v0 G r hr)
/-- coxswain/coxswainref14.NewDrop -/
noncomputable def s117 (q : Bool) (e : Ex) (v0 v1 : Value) (G : GS) : Option (Value × GS) :=
  bS (bx q v0 G) fun x0 G1 =>
  bP (fa Q q 119 3 3 x0) fun x2 =>
  bP (ld Q q 3 x2 G1) fun x3 =>
  bS (e.ev.cl 103 [x3] G1) fun x4 G5 =>
  bP (un Q q .not x4) fun x6 =>
  ifV x6 (
  bP (bd Q q 243 z243 [(1, 4, 1), (3, 6, 1)] [(.int .i64 9), (.int .i64 2)]) fun x7 =>
  bS (bx q x7 G5) fun x8 G9 =>
  some (x8, G9)) (
  bP (lda Q q 119 4 x0 G5) fun x10 =>
  bP (bd Q q 243 z243 [(0, 0, 4), (1, 4, 1), (2, 5, 1)] [x10, (.int .i64 1), v1]) fun x11 =>
  bS (bx q x11 G5) fun x12 G13 =>
  some (x12, G13))
theorem m117 {e : Ex} {E : Ev} (h : ExLe Q e E) (v0 v1 : Value) (G : GS) : Ref (s117 true e v0 v1 G) (s117 false (Ex.of E) v0 v1 G) := by
  unfold s117
  exact Ref.gq
theorem f117 {orc : FuncId → Bool} {e : Ex} (h : ExLe Q e (E orc)) (v0 v1 : Value) (G : GS) : Ref (s117 true e v0 v1 G) ((E orc).cl 117 [v0, v1] G) :=
  fun r hr => cl_sxE_some Q orc (vs := [v0, v1]) G Tryz.func117 (by kernel_rfl) (by kernel_rfl) (by kernel_rfl) (by kernel_rfl) (by kernel_rfl) (by kernel_rfl) (m117 h v0 v1 G r hr)
/-- (*coxswain/coxswainref14.Front).At -/
noncomputable def s118 (q : Bool) (e : Ex) (v0 : Value) (G : GS) : Option (Value × GS) :=
  bP (pNil v0) fun x0 =>
  bP (fa Q q 245 2 5 x0) fun x1 =>
  bP (ld Q q 39 x1 G) fun x2 =>
  some (x2, G)
theorem m118 {e : Ex} {E : Ev} (h : ExLe Q e E) (v0 : Value) (G : GS) : Ref (s118 true e v0 G) (s118 false (Ex.of E) v0 G) := by
  unfold s118
  exact Ref.gq
theorem f118 {orc : FuncId → Bool} {e : Ex} (h : ExLe Q e (E orc)) (v0 : Value) (G : GS) : Ref (s118 true e v0 G) ((E orc).cl 118 [v0] G) :=
  fun r hr => cl_sxE_some Q orc (vs := [v0]) G Tryz.func118 (by kernel_rfl) (by kernel_rfl) (by kernel_rfl) (by kernel_rfl) (by kernel_rfl) (by kernel_rfl) (m118 h v0 G r hr)
/-- coxswain/mail.refused -/
noncomputable def s119 (q : Bool) (e : Ex) (v0 v1 : Value) (G : GS) : Option (Value × GS) :=
  bS (bx q v0 G) fun x0 G1 =>
  bP (lda Q q 23 3 x0 G1) fun x2 =>
  bS (e.ev.cl 42 [x2] G1) fun x3 G4 =>
  bP (un Q q .not x3) fun x5 =>
  ifV x5 (
  some ((.int .i64 2), G4)) (
  bP (bn Q q .lss 3 (.tmp 10) (.const (.int .i64 0)) v1 (.int .i64 0)) fun x6 =>
  bS (gd x6 false (some (v1, G4)) G4) fun x7 G8 =>
  bS (gd x6 false (bP (fa Q q 23 1 1 x0) fun y => some (y, G8)) G8) fun x9 G10 =>
  bS (gd x6 false (bP (ld Q q 3 x9 G10) fun y => some (y, G10)) G10) fun x11 G12 =>
  bS (gd x6 false (bP (bn Q q .geq 3 (.tmp 13) (.tmp 15) x7 x11) fun y => some (y, G12)) G12) fun x13 G14 =>
  bP (pickV x6 (.bool true) x13) fun x15 =>
  ifV x15 (
  some ((.int .i64 3), G14)) (
  some ((.int .i64 0), G14)))
theorem m119 {e : Ex} {E : Ev} (h : ExLe Q e E) (v0 v1 : Value) (G : GS) : Ref (s119 true e v0 v1 G) (s119 false (Ex.of E) v0 v1 G) := by
  unfold s119
  exact Ref.gq
theorem f119 {orc : FuncId → Bool} {e : Ex} (h : ExLe Q e (E orc)) (v0 v1 : Value) (G : GS) : Ref (s119 true e v0 v1 G) ((E orc).cl 119 [v0, v1] G) :=
  fun r hr => cl_sxE_some Q orc (vs := [v0, v1]) G Tryz.func119 (by kernel_rfl) (by kernel_rfl) (by kernel_rfl) (by kernel_rfl) (by kernel_rfl) (by kernel_rfl) (m119 h v0 v1 G r hr)
/-- coxswain/ring.NewPush -/
noncomputable def s120 (q : Bool) (e : Ex) (v0 v1 : Value) (G : GS) : Option (Value × GS) :=
  bS (bx q v0 G) fun x0 G1 =>
  bP (lda Q q 119 4 x0 G1) fun x2 =>
  bS (e.ev.cl 170 [x2] G1) fun x3 G4 =>
  bP (bd Q q 232 z232 [(0, 0, 7), (1, 7, 1)] [x3, v1]) fun x5 =>
  bS (bx q x5 G4) fun x6 G7 =>
  bP (pNil x6) fun x8 =>
  bP (fa Q q 232 0 0 x8) fun x9 =>
  bP (fa Q q 230 3 6 x9) fun x10 =>
  bP (ld Q q 26 x10 G7) fun x11 =>
  bP (bn Q q .neq 26 (.tmp 22) (.const (.int .i64 0)) x11 (.int .i64 0)) fun x12 =>
  ifV x12 (
  some (x6, G7)) (
  bP (bn Q q .lss 3 (.tmp 25) (.const (.int .i64 0)) v1 (.int .i64 0)) fun x13 =>
  bS (gd x13 false (some (v1, G7)) G7) fun x14 G15 =>
  bS (gd x13 false (bP (bn Q q .gtr 3 (.tmp 28) (.const (.int .i64 65535)) x14 (.int .i64 65535)) fun y => some (y, G15)) G15) fun x16 G17 =>
  bP (pickV x13 (.bool true) x16) fun x18 =>
  ifV x18 (
  bP (pNil x6) fun x19 =>
  bP (fa Q q 232 0 0 x19) fun x20 =>
  bS (e.ev.cl 173 [x20, (.int .i64 3)] G17) fun x21 G22 =>
  some (x6, G22)) (
  bP (pNil x6) fun x23 =>
  bP (fa Q q 232 0 0 x23) fun x24 =>
  bP (fa Q q 230 1 4 x24) fun x25 =>
  bP (st Q q 224 1 x25 (.func (.func 174) #[x6] #[]) G17) fun G26 =>
  some (x6, G26)))
theorem m120 {e : Ex} {E : Ev} (h : ExLe Q e E) (v0 v1 : Value) (G : GS) : Ref (s120 true e v0 v1 G) (s120 false (Ex.of E) v0 v1 G) := by
  unfold s120
  exact Ref.gq
theorem f120 {orc : FuncId → Bool} {e : Ex} (h : ExLe Q e (E orc)) (v0 v1 : Value) (G : GS) : Ref (s120 true e v0 v1 G) ((E orc).cl 120 [v0, v1] G) :=
  fun r hr => cl_sxE_some Q orc (vs := [v0, v1]) G Tryz.func120 (by kernel_rfl) (by kernel_rfl) (by kernel_rfl) (by kernel_rfl) (by kernel_rfl) (by kernel_rfl) (m120 h v0 v1 G r hr)
/-- coxswain/coxswainref25.Refused -/
noncomputable def s121 (q : Bool) (e : Ex) (v0 v1 : Value) (G : GS) : Option (Value × GS) :=
  bS (bx q v0 G) fun x0 G1 =>
  bP (lda Q q 23 3 x0 G1) fun x2 =>
  bS (e.ev.cl 128 [x2] G1) fun x3 G4 =>
  bP (un Q q .not x3) fun x5 =>
  ifV x5 (
  some ((.int .i64 2), G4)) (
  bP (bn Q q .lss 3 (.tmp 10) (.const (.int .i64 0)) v1 (.int .i64 0)) fun x6 =>
  bS (gd x6 false (some (v1, G4)) G4) fun x7 G8 =>
  bS (gd x6 false (bP (fa Q q 23 1 1 x0) fun y => some (y, G8)) G8) fun x9 G10 =>
  bS (gd x6 false (bP (ld Q q 3 x9 G10) fun y => some (y, G10)) G10) fun x11 G12 =>
  bS (gd x6 false (bP (bn Q q .geq 3 (.tmp 13) (.tmp 15) x7 x11) fun y => some (y, G12)) G12) fun x13 G14 =>
  bP (pickV x6 (.bool true) x13) fun x15 =>
  ifV x15 (
  some ((.int .i64 3), G14)) (
  some ((.int .i64 0), G14)))
theorem m121 {e : Ex} {E : Ev} (h : ExLe Q e E) (v0 v1 : Value) (G : GS) : Ref (s121 true e v0 v1 G) (s121 false (Ex.of E) v0 v1 G) := by
  unfold s121
  exact Ref.gq
theorem f121 {orc : FuncId → Bool} {e : Ex} (h : ExLe Q e (E orc)) (v0 v1 : Value) (G : GS) : Ref (s121 true e v0 v1 G) ((E orc).cl 121 [v0, v1] G) :=
  fun r hr => cl_sxE_some Q orc (vs := [v0, v1]) G Tryz.func121 (by kernel_rfl) (by kernel_rfl) (by kernel_rfl) (by kernel_rfl) (by kernel_rfl) (by kernel_rfl) (m121 h v0 v1 G r hr)
/-- coxswain/coxswainref14.NewPush -/
noncomputable def s122 (q : Bool) (e : Ex) (v0 v1 : Value) (G : GS) : Option (Value × GS) :=
  bS (bx q v0 G) fun x0 G1 =>
  bP (fa Q q 119 3 3 x0) fun x2 =>
  bP (ld Q q 3 x2 G1) fun x3 =>
  bS (e.ev.cl 103 [x3] G1) fun x4 G5 =>
  bP (un Q q .not x4) fun x6 =>
  ifV x6 (
  bP (bd Q q 234 z234 [(2, 5, 1), (5, 8, 1)] [(.int .i64 9), (.int .i64 2)]) fun x7 =>
  bS (bx q x7 G5) fun x8 G9 =>
  some (x8, G9)) (
  bP (bn Q q .lss 3 (.tmp 13) (.const (.int .i64 0)) v1 (.int .i64 0)) fun x10 =>
  bS (gd x10 false (some (v1, G5)) G5) fun x11 G12 =>
  bS (gd x10 false (bP (bn Q q .gtr 3 (.tmp 16) (.const (.int .i64 65535)) x11 (.int .i64 65535)) fun y => some (y, G12)) G12) fun x13 G14 =>
  bP (pickV x10 (.bool true) x13) fun x15 =>
  ifV x15 (
  bP (bd Q q 234 z234 [(2, 5, 1), (5, 8, 1)] [(.int .i64 9), (.int .i64 3)]) fun x16 =>
  bS (bx q x16 G14) fun x17 G18 =>
  some (x17, G18)) (
  bP (lda Q q 119 4 x0 G14) fun x19 =>
  bP (bd Q q 234 z234 [(0, 0, 4), (1, 4, 1), (2, 5, 1)] [x19, v1, (.int .i64 1)]) fun x20 =>
  bS (bx q x20 G14) fun x21 G22 =>
  some (x21, G22)))
theorem m122 {e : Ex} {E : Ev} (h : ExLe Q e E) (v0 v1 : Value) (G : GS) : Ref (s122 true e v0 v1 G) (s122 false (Ex.of E) v0 v1 G) := by
  unfold s122
  exact Ref.gq
theorem f122 {orc : FuncId → Bool} {e : Ex} (h : ExLe Q e (E orc)) (v0 v1 : Value) (G : GS) : Ref (s122 true e v0 v1 G) ((E orc).cl 122 [v0, v1] G) :=
  fun r hr => cl_sxE_some Q orc (vs := [v0, v1]) G Tryz.func122 (by kernel_rfl) (by kernel_rfl) (by kernel_rfl) (by kernel_rfl) (by kernel_rfl) (by kernel_rfl) (m122 h v0 v1 G r hr)
/-- coxswain/ring.All$1 -/
noncomputable def s123 (q : Bool) (e : Ex) (v0 v1 : Value) (G : GS) : Option (Value × GS) :=
  bP (bn Q q .lss 3 (.tmp 4) (.const (.int .i64 0)) v0 (.int .i64 0)) fun x0 =>
  bS (gd x0 false (some (v0, G)) G) fun x1 G2 =>
  bS (gd x0 false (bP (ld Q q 24 v1 G2) fun y => some (y, G2)) G2) fun x3 G4 =>
  bS (gd x0 false (bP (ln Q q 24 x3) fun y => some (y, G4)) G4) fun x5 G6 =>
  bS (gd x0 false (bP (bn Q q .geq 3 (.tmp 7) (.tmp 9) x1 x5) fun y => some (y, G6)) G6) fun x7 G8 =>
  bP (pickV x0 (.bool true) x7) fun x9 =>
  ifV x9 (
  some ((.int .u64 0), G8)) (
  bP (ld Q q 24 v1 G8) fun x10 =>
  bP (ias Q q 24 1 x10 v0) fun x11 =>
  bP (ld Q q 39 x11 G8) fun x12 =>
  some (x12, G8))
theorem m123 {e : Ex} {E : Ev} (h : ExLe Q e E) (v0 v1 : Value) (G : GS) : Ref (s123 true e v0 v1 G) (s123 false (Ex.of E) v0 v1 G) := by
  unfold s123
  exact Ref.gq
theorem f123 {orc : FuncId → Bool} {e : Ex} (h : ExLe Q e (E orc)) (v0 v1 : Value) (G : GS) : Ref (s123 true e v0 v1 G) ((E orc).cl 123 [v0, v1] G) :=
  fun r hr => cl_sxE_some Q orc (vs := [v0, v1]) G Tryz.func123 (by kernel_rfl) (by kernel_rfl) (by kernel_rfl) (by kernel_rfl) (by kernel_rfl) (by kernel_rfl) (m123 h v0 v1 G r hr)
/-- coxswain/ring.numbers -/
noncomputable def s124 (q : Bool) (e : Ex) (v0 v1 : Value) (G : GS) : Option (Value × GS) :=
  bS (bx q v0 G) fun x0 G1 =>
  bS (bx q v1 G1) fun x2 G3 =>
  some ((.func (.func 175) #[] #[x2, x0]), G3)
theorem m124 {e : Ex} {E : Ev} (h : ExLe Q e E) (v0 v1 : Value) (G : GS) : Ref (s124 true e v0 v1 G) (s124 false (Ex.of E) v0 v1 G) := by
  unfold s124
  exact Ref.gq
theorem f124 {orc : FuncId → Bool} {e : Ex} (h : ExLe Q e (E orc)) (v0 v1 : Value) (G : GS) : Ref (s124 true e v0 v1 G) ((E orc).cl 124 [v0, v1] G) :=
  fun r hr => cl_sxE_some Q orc (vs := [v0, v1]) G Tryz.func124 (by kernel_rfl) (by kernel_rfl) (by kernel_rfl) (by kernel_rfl) (by kernel_rfl) (by kernel_rfl) (m124 h v0 v1 G r hr)
/-- coxswain/ring.place -/
noncomputable def s125 (q : Bool) (e : Ex) (v0 v1 : Value) (G : GS) : Option (Value × GS) :=
  bS (bx q v0 G) fun x0 G1 =>
  bP (fa Q q 119 2 2 x0) fun x2 =>
  bP (ld Q q 3 x2 (G1.room 10)) fun x3 =>
  bP (fa Q q 119 3 3 x0) fun x4 =>
  bP (ld Q q 3 x4 (G1.room 10)) fun x5 =>
  bP (cv Q q 3 39 .i64 .u64 x5) fun x6 =>
  bP (bn Q q .rem 39 (.tmp 7) (.tmp 10) v1 x6) fun x7 =>
  bP (cv Q q 39 3 .u64 .i64 x7) fun x8 =>
  bP (bn Q q .add 3 (.tmp 6) (.tmp 12) x3 x8) fun x9 =>
  some (x9, (G1.room 10))
theorem m125 {e : Ex} {E : Ev} (h : ExLe Q e E) (v0 v1 : Value) (G : GS) : Ref (s125 true e v0 v1 G) (s125 false (Ex.of E) v0 v1 G) := by
  unfold s125
  exact Ref.gq
theorem f125 {orc : FuncId → Bool} {e : Ex} (h : ExLe Q e (E orc)) (v0 v1 : Value) (G : GS) : Ref (s125 true e v0 v1 G) ((E orc).cl 125 [v0, v1] G) :=
  fun r hr => cl_sxE_some Q orc (vs := [v0, v1]) G Tryz.func125 (by kernel_rfl) (by kernel_rfl) (by kernel_rfl) (by kernel_rfl) (by kernel_rfl) (by kernel_rfl) (m125 h v0 v1 G r hr)
/-- (coxswain/ring.slot).value -/
noncomputable def s126 (q : Bool) (e : Ex) (v0 : Value) (G : GS) : Option (Value × GS) :=
  bP (bn Q q .and 210 (.tmp 3) (.const (.int .u64 65535)) v0 (.int .u64 65535)) fun x0 =>
  bP (cv Q q 210 3 .u64 .i64 x0) fun x1 =>
  some (x1, G)
theorem m126 {e : Ex} {E : Ev} (h : ExLe Q e E) (v0 : Value) (G : GS) : Ref (s126 true e v0 G) (s126 false (Ex.of E) v0 G) := by
  unfold s126
  exact Ref.gq
theorem f126 {orc : FuncId → Bool} {e : Ex} (h : ExLe Q e (E orc)) (v0 : Value) (G : GS) : Ref (s126 true e v0 G) ((E orc).cl 126 [v0] G) :=
  fun r hr => cl_sxE_some Q orc (vs := [v0]) G Tryz.func126 (by kernel_rfl) (by kernel_rfl) (by kernel_rfl) (by kernel_rfl) (by kernel_rfl) (by kernel_rfl) (m126 h v0 G r hr)
/-- slices.Clone[[]int,int] -/
noncomputable def s127 (q : Bool) (e : Ex) (v0 : Value) (G : GS) : Option (Value × GS) :=
  bP (es Q q false 52 (.tmp 3) (.const (.slice none 0 0)) v0 (.slice none 0 0)) fun x0 =>
  ifV x0 (
  some ((.slice none 0 0), G)) (
  bS (bs Q q 52 0 (rep z3 0) 1 [] [] G) fun x1 G2 =>
  bS (ap Q q 52 52 1 8 x1 v0 G2) fun x3 G4 =>
  some (x3, G4))
theorem m127 {e : Ex} {E : Ev} (h : ExLe Q e E) (v0 : Value) (G : GS) : Ref (s127 true e v0 G) (s127 false (Ex.of E) v0 G) := by
  unfold s127
  exact Ref.gq
theorem f127 {orc : FuncId → Bool} {e : Ex} (h : ExLe Q e (E orc)) (v0 : Value) (G : GS) : Ref (s127 true e v0 G) ((E orc).cl 127 [v0] G) :=
  fun r hr => cl_sxE_some Q orc (vs := [v0]) G Tryz.func127 (by kernel_rfl) (by kernel_rfl) (by kernel_rfl) (by kernel_rfl) (by kernel_rfl) (by kernel_rfl) (m127 h v0 G r hr)
/-- coxswain/coxswainref25.sound -/
noncomputable def s128 (q : Bool) (e : Ex) (v0 : Value) (G : GS) : Option (Value × GS) :=
  bS (bx q v0 G) fun x0 G1 =>
  bP (lda Q q 23 3 x0 G1) fun x2 =>
  bS (e.ev.cl 43 [x2] G1) fun x3 G4 =>
  bS (gd x3 true (bP (fa Q q 23 0 0 x0) fun y => some (y, G4)) G4) fun x5 G6 =>
  bS (gd x3 true (bP (ld Q q 3 x5 G6) fun y => some (y, G6)) G6) fun x7 G8 =>
  bS (gd x3 true (bP (bn Q q .geq 3 (.tmp 7) (.const (.int .i64 0)) x7 (.int .i64 0)) fun y => some (y, G8)) G8) fun x9 G10 =>
  bP (pickV x3 x9 (.bool false)) fun x11 =>
  bS (gd x11 true (bP (fa Q q 23 0 0 x0) fun y => some (y, G10)) G10) fun x12 G13 =>
  bS (gd x11 true (bP (ld Q q 3 x12 G13) fun y => some (y, G13)) G13) fun x14 G15 =>
  bS (gd x11 true (bP (bn Q q .lss 3 (.tmp 12) (.const (.int .i64 4096)) x14 (.int .i64 4096)) fun y => some (y, G15)) G15) fun x16 G17 =>
  bP (pickV x11 x16 (.bool false)) fun x18 =>
  some (x18, G17)
theorem m128 {e : Ex} {E : Ev} (h : ExLe Q e E) (v0 : Value) (G : GS) : Ref (s128 true e v0 G) (s128 false (Ex.of E) v0 G) := by
  unfold s128
  exact Ref.gq
theorem f128 {orc : FuncId → Bool} {e : Ex} (h : ExLe Q e (E orc)) (v0 : Value) (G : GS) : Ref (s128 true e v0 G) ((E orc).cl 128 [v0] G) :=
  fun r hr => cl_sxE_some Q orc (vs := [v0]) G Tryz.func128 (by kernel_rfl) (by kernel_rfl) (by kernel_rfl) (by kernel_rfl) (by kernel_rfl) (by kernel_rfl) (m128 h v0 G r hr)
/-- (*coxswain/coxswainref02.Mem).At -/
noncomputable def s129 (q : Bool) (e : Ex) (v0 v1 : Value) (G : GS) : Option (Value × GS) :=
  bP (bn Q q .lss 3 (.tmp 5) (.const (.int .i64 0)) v1 (.int .i64 0)) fun x0 =>
  bS (gd x0 false (some (v1, G)) G) fun x1 G2 =>
  bS (gd x0 false (some (v0, G2)) G2) fun x3 G4 =>
  bS (gd x0 false (bP (pNil x3) fun y => some (y, G4)) G4) fun x5 G6 =>
  bS (gd x0 false (bP (fa Q q 114 0 0 x5) fun y => some (y, G6)) G6) fun x7 G8 =>
  bS (gd x0 false (bP (ld Q q 24 x7 G8) fun y => some (y, G8)) G8) fun x9 G10 =>
  bS (gd x0 false (bP (ln Q q 24 x9) fun y => some (y, G10)) G10) fun x11 G12 =>
  bS (gd x0 false (bP (bn Q q .geq 3 (.tmp 8) (.tmp 13) x1 x11) fun y => some (y, G12)) G12) fun x13 G14 =>
  bP (pickV x0 (.bool true) x13) fun x15 =>
  ifV x15 (
  some ((.int .u64 0), G14)) (
  bP (pNil v0) fun x16 =>
  bP (fa Q q 114 0 0 x16) fun x17 =>
  bP (ld Q q 24 x17 G14) fun x18 =>
  bP (ias Q q 24 1 x18 v1) fun x19 =>
  bP (ld Q q 39 x19 G14) fun x20 =>
  some (x20, G14))
theorem m129 {e : Ex} {E : Ev} (h : ExLe Q e E) (v0 v1 : Value) (G : GS) : Ref (s129 true e v0 v1 G) (s129 false (Ex.of E) v0 v1 G) := by
  unfold s129
  exact Ref.gq
theorem f129 {orc : FuncId → Bool} {e : Ex} (h : ExLe Q e (E orc)) (v0 v1 : Value) (G : GS) : Ref (s129 true e v0 v1 G) ((E orc).cl 129 [v0, v1] G) :=
  fun r hr => cl_sxE_some Q orc (vs := [v0, v1]) G Tryz.func129 (by kernel_rfl) (by kernel_rfl) (by kernel_rfl) (by kernel_rfl) (by kernel_rfl) (by kernel_rfl) (m129 h v0 v1 G r hr)
/-- coxswain/coxswainref14.full -/
noncomputable def s130 (q : Bool) (e : Ex) (v0 v1 : Value) (G : GS) : Option (Value × GS) :=
  bP (bn Q q .shr 39 (.tmp 5) (.const (.int .u64 32)) v0 (.int .u64 32)) fun x0 =>
  bP (bn Q q .eql 39 (.tmp 6) (.tmp 7) x0 v1) fun x1 =>
  bS (gd x1 true (some (v0, G)) G) fun x2 G3 =>
  bS (gd x1 true (bP (bn Q q .shr 39 (.tmp 10) (.const (.int .u64 16)) x2 (.int .u64 16)) fun y => some (y, G3)) G3) fun x4 G5 =>
  bS (gd x1 true (bP (bn Q q .rem 39 (.tmp 11) (.const (.int .u64 2)) x4 (.int .u64 2)) fun y => some (y, G5)) G5) fun x6 G7 =>
  bS (gd x1 true (bP (bn Q q .eql 39 (.tmp 12) (.const (.int .u64 1)) x6 (.int .u64 1)) fun y => some (y, G7)) G7) fun x8 G9 =>
  bP (pickV x1 x8 (.bool false)) fun x10 =>
  some (x10, G9)
theorem m130 {e : Ex} {E : Ev} (h : ExLe Q e E) (v0 v1 : Value) (G : GS) : Ref (s130 true e v0 v1 G) (s130 false (Ex.of E) v0 v1 G) := by
  unfold s130
  exact Ref.gq
theorem f130 {orc : FuncId → Bool} {e : Ex} (h : ExLe Q e (E orc)) (v0 v1 : Value) (G : GS) : Ref (s130 true e v0 v1 G) ((E orc).cl 130 [v0, v1] G) :=
  fun r hr => cl_sxE_some Q orc (vs := [v0, v1]) G Tryz.func130 (by kernel_rfl) (by kernel_rfl) (by kernel_rfl) (by kernel_rfl) (by kernel_rfl) (by kernel_rfl) (m130 h v0 v1 G r hr)
/-- coxswain/coxswainref14.place -/
noncomputable def s131 (q : Bool) (e : Ex) (v0 v1 : Value) (G : GS) : Option (Value × GS) :=
  bS (bx q v0 G) fun x0 G1 =>
  bP (fa Q q 119 2 2 x0) fun x2 =>
  bP (ld Q q 3 x2 (G1.room 10)) fun x3 =>
  bP (fa Q q 119 3 3 x0) fun x4 =>
  bP (ld Q q 3 x4 (G1.room 10)) fun x5 =>
  bP (cv Q q 3 39 .i64 .u64 x5) fun x6 =>
  bP (bn Q q .rem 39 (.tmp 7) (.tmp 10) v1 x6) fun x7 =>
  bP (cv Q q 39 3 .u64 .i64 x7) fun x8 =>
  bP (bn Q q .add 3 (.tmp 6) (.tmp 12) x3 x8) fun x9 =>
  some (x9, (G1.room 10))
theorem m131 {e : Ex} {E : Ev} (h : ExLe Q e E) (v0 v1 : Value) (G : GS) : Ref (s131 true e v0 v1 G) (s131 false (Ex.of E) v0 v1 G) := by
  unfold s131
  exact Ref.gq
theorem f131 {orc : FuncId → Bool} {e : Ex} (h : ExLe Q e (E orc)) (v0 v1 : Value) (G : GS) : Ref (s131 true e v0 v1 G) ((E orc).cl 131 [v0, v1] G) :=
  fun r hr => cl_sxE_some Q orc (vs := [v0, v1]) G Tryz.func131 (by kernel_rfl) (by kernel_rfl) (by kernel_rfl) (by kernel_rfl) (by kernel_rfl) (by kernel_rfl) (m131 h v0 v1 G r hr)
/-- coxswain/coxswainref14.lap -/
noncomputable def s132 (q : Bool) (e : Ex) (v0 v1 : Value) (G : GS) : Option (Value × GS) :=
  bS (bx q v0 G) fun x0 G1 =>
  bP (fa Q q 119 3 3 x0) fun x2 =>
  bP (ld Q q 3 x2 G1) fun x3 =>
  bP (cv Q q 3 39 .i64 .u64 x3) fun x4 =>
  bP (bn Q q .quo 39 (.tmp 5) (.tmp 8) v1 x4) fun x5 =>
  bP (bn Q q .rem 39 (.tmp 9) (.const (.int .u64 4294967296)) x5 (.int .u64 4294967296)) fun x6 =>
  some (x6, G1)
theorem m132 {e : Ex} {E : Ev} (h : ExLe Q e E) (v0 v1 : Value) (G : GS) : Ref (s132 true e v0 v1 G) (s132 false (Ex.of E) v0 v1 G) := by
  unfold s132
  exact Ref.gq
theorem f132 {orc : FuncId → Bool} {e : Ex} (h : ExLe Q e (E orc)) (v0 v1 : Value) (G : GS) : Ref (s132 true e v0 v1 G) ((E orc).cl 132 [v0, v1] G) :=
  fun r hr => cl_sxE_some Q orc (vs := [v0, v1]) G Tryz.func132 (by kernel_rfl) (by kernel_rfl) (by kernel_rfl) (by kernel_rfl) (by kernel_rfl) (by kernel_rfl) (m132 h v0 v1 G r hr)
/-- (*coxswain/cells.Mem).CAS -/
noncomputable def s157 (q : Bool) (e : Ex) (v0 v1 v2 v3 : Value) (G : GS) : Option (Value × GS) :=
  bS (e.ev.cl 52 [v0, v1] G) fun x0 G1 =>
  bP (bd Q q 126 z126 [(0, 0, 1), (1, 1, 1), (2, 2, 1)] [x0, v2, v3]) fun x2 =>
  bS (al Q q 126 z126 G1) fun x3 G4 =>
  bP (st Q q 126 3 x3 x2 G4) fun G5 =>
  bP (fa Q q 126 0 0 x3) fun x6 =>
  bP (ld Q q 123 x6 G5) fun x7 =>
  bP (lda Q q 126 3 x3 G5) fun x8 =>
  bS (e.ev.cl 53 [v0, (.int .i64 3), v1, x7, (.func (.func 203) #[x8] #[])] G5) fun x9 G10 =>
  bP (fd Q q 59 4 4 x9) fun x11 =>
  some (x11, G10)
theorem m157 {e : Ex} {E : Ev} (h : ExLe Q e E) (v0 v1 v2 v3 : Value) (G : GS) : Ref (s157 true e v0 v1 v2 v3 G) (s157 false (Ex.of E) v0 v1 v2 v3 G) := by
  unfold s157
  exact Ref.gq
theorem f157 {orc : FuncId → Bool} {e : Ex} (h : ExLe Q e (E orc)) (v0 v1 v2 v3 : Value) (G : GS) : Ref (s157 true e v0 v1 v2 v3 G) ((E orc).cl 157 [v0, v1, v2, v3] G) :=
  fun r hr => cl_sxE_some Q orc (vs := [v0, v1, v2, v3]) G Tryz.func157 (by kernel_rfl) (by kernel_rfl) (by kernel_rfl) (by kernel_rfl) (by kernel_rfl) (by kernel_rfl) (m157 h v0 v1 v2 v3 G r hr)
noncomputable def jb164_0 (q : Bool) (e : Ex) (τ : Env) (G : GS) : Option (Value × GS) :=
  bV q (τ 0) fun a0_ =>
  bP (pNil a0_) fun x0 =>
  bP (fa Q q 230 1 4 x0) fun x1 =>
  bP (ld Q q 224 x1 G) fun x2 =>
  bP (ef Q q false 224 (.tmp 19) (.const .nilFunc) x2 .nilFunc) fun x3 =>
  some (x3, G)
noncomputable def j164_0 (q : Bool) (e : Ex) (τ : Env) (G : GS) : Option (Value × GS) := jb164_0 q e τ G
theorem mj164_0 {e : Ex} {E : Ev} (h : ExLe Q e E) (τ : Env) (G : GS) : Ref (j164_0 true e τ G) (j164_0 false (Ex.of E) τ G) := by
  unfold j164_0 jb164_0
  exact Ref.gq
theorem mkj164_0 {e : Ex} {E : Ev} (h : ExLe Q e E) {τ : Env} {l U : List (Nat × Value)} {G : GS} (hU : UOk τ U) : Ref (j164_0 true e (xq true 21 τ l U) G) (j164_0 false (Ex.of E) (xq false 21 τ l U) G) := by
  rw [xq_eq hU]
  exact mj164_0 h _ _
noncomputable def sb164 (q : Bool) (e : Ex) (J0 : Env → GS → Option (Value × GS)) (v0 v1 : Value) (G : GS) : Option (Value × GS) :=
  bP (pNil v0) fun x4 =>
  bP (fa Q q 230 1 4 x4) fun x5 =>
  bP (ld Q q 224 x5 G) fun x6 =>
  bP (ef Q q true 224 (.tmp 8) (.const .nilFunc) x6 .nilFunc) fun x7 =>
  ifV x7 (
  bP (pNil v0) fun x8 =>
  bP (fa Q q 230 1 4 x8) fun x9 =>
  bP (ld Q q 224 x9 G) fun x10 =>
  bS (cValue e.ev x10 [v1] G) fun x11 G12 =>
  J0 (xq q 21 (nth undef [v0, v1]) [(15, x11), (14, v1), (13, x10), (12, x9), (11, x8), (10, v0), (9, x7), (8, x6), (7, x5), (6, x4), (5, v0), (4, (.bool false))] []) G12) (
  J0 (xq q 21 (nth undef [v0, v1]) [(9, x7), (8, x6), (7, x5), (6, x4), (5, v0), (4, (.bool false))] []) G)
/-- (*coxswain/ring.work).step -/
noncomputable def s164 (q : Bool) (e : Ex) (v0 v1 : Value) (G : GS) : Option (Value × GS) := sb164 q e (j164_0 q e) v0 v1 G
theorem m164 {e : Ex} {E : Ev} (h : ExLe Q e E) (v0 v1 : Value) (G : GS) : Ref (s164 true e v0 v1 G) (s164 false (Ex.of E) v0 v1 G) := by
  unfold s164 sb164
  repeat' (with_reducible first | exact Ref.rfl' _ | exact ROp.r | refine Ref.bP ?_ fun _ => ?_ | refine Ref.bS ?_ fun _ _ => ?_ | exact Ref.cl (by assumption) | refine Ref.ifV ?_ ?_ | refine LpLe.rx (by assumption) ?_ | refine Ref.xitq ?_ | exact UOk.z | refine UOk.c (by assumption) ?_ | exact Ref.nil _ | refine Ref.bVe fun _ _ => ?_ | refine Ref.bLq (by assumption) ?_ fun _ _ _ => ?_ | refine Ref.ifE ?_ ?_ | refine Ref.chk ?_ ?_ | refine Imp.and ?_ ?_ | refine Imp.or ?_ | exact Imp.rfl' _ | refine Imp.sameO ?_ | refine Ref.gd ?_ | exact Ref.cValue (by assumption) | refine Ref.bX ?_ fun _ _ _ => ?_ | exact Ref.scQ (by assumption) | exact Ref.xRangeQ (by assumption) | exact Ref.cInvoke (by assumption) | refine mkj164_0 (by assumption) ?_)
noncomputable def jt164 (J0 : Env → GS → Option (Value × GS)) : JT (Value × GS) :=
  (.n none .e (.n (some (fun T G => J0 (nth undef T) G)) .e .e))
theorem jr164_0 (orc : FuncId → Bool) (J0 : Env → GS → Option (Value × GS)) (T : List Value) (G : GS) : runC Q (evL Q orc) Tryz.f164.ntmps (jt164 J0) (bodyOf Tryz.f164) (retE Q Tryz.f164.results.toList) [true] (nth undef T) G = jb164_0 false (Ex.of (E orc))  (nth undef T) G := by kernel_rfl
theorem jo164 (orc : FuncId → Bool) : JOk Q orc Tryz.f164.ntmps (jt164 (j164_0 false (Ex.of (E orc))) ) (bodyOf Tryz.f164) (retE Q Tryz.f164.results.toList) :=
  jOk Q orc (l := [([true], (fun T G => j164_0 false (Ex.of (E orc)) (nth undef T) G))]) (by kernel_rfl) (AllE.c (fun T G => jr164_0 orc (j164_0 false (Ex.of (E orc))) T G) (AllE.z))
theorem je164 (orc : FuncId → Bool) (J0 : Env → GS → Option (Value × GS)) (v0 v1 : Value) (G : GS) : sxC Q (evL Q orc) Tryz.f164.ntmps (jt164 J0) (bodyOf Tryz.f164) (nth undef [v0, v1]) G (retE Q Tryz.f164.results.toList) = sb164 false (Ex.of (E orc)) J0 v0 v1 G := by kernel_rfl
theorem f164 {orc : FuncId → Bool} {e : Ex} (h : ExLe Q e (E orc)) (v0 v1 : Value) (G : GS) : Ref (s164 true e v0 v1 G) ((E orc).cl 164 [v0, v1] G) :=
  fun r hr => cl_sxC Q orc (vs := [v0, v1]) G (jt164 (j164_0 false (Ex.of (E orc))) ) Tryz.func164 (by kernel_rfl) (by kernel_rfl) (by kernel_rfl) (by kernel_rfl) (by kernel_rfl) (jo164 orc) (je164 orc (j164_0 false (Ex.of (E orc))) v0 v1 G) (m164 h v0 v1 G r hr)
/-- (*coxswain/ring.work).told -/
noncomputable def s165 (q : Bool) (e : Ex) (v0 : Value) (G : GS) : Option (Value × GS) :=
  bP (pNil v0) fun x0 =>
  bP (fa Q q 230 2 5 x0) fun x1 =>
  bP (ld Q q 4 x1 G) fun x2 =>
  bP (un Q q .not x2) fun x3 =>
  ifV x3 (
  some ((.int .i64 1), G)) (
  bP (pNil v0) fun x4 =>
  bP (fa Q q 230 1 4 x4) fun x5 =>
  bP (ld Q q 224 x5 G) fun x6 =>
  bP (ef Q q true 224 (.tmp 13) (.const .nilFunc) x6 .nilFunc) fun x7 =>
  ifV x7 (
  some ((.int .i64 14), G)) (
  bP (pNil v0) fun x8 =>
  bP (fa Q q 230 3 6 x8) fun x9 =>
  bP (ld Q q 26 x9 G) fun x10 =>
  some (x10, G)))
theorem m165 {e : Ex} {E : Ev} (h : ExLe Q e E) (v0 : Value) (G : GS) : Ref (s165 true e v0 G) (s165 false (Ex.of E) v0 G) := by
  unfold s165
  exact Ref.gq
theorem f165 {orc : FuncId → Bool} {e : Ex} (h : ExLe Q e (E orc)) (v0 : Value) (G : GS) : Ref (s165 true e v0 G) ((E orc).cl 165 [v0] G) :=
  fun r hr => cl_sxE_some Q orc (vs := [v0]) G Tryz.func165 (by kernel_rfl) (by kernel_rfl) (by kernel_rfl) (by kernel_rfl) (by kernel_rfl) (by kernel_rfl) (m165 h v0 G r hr)
/-- (*coxswain/coxswainref02.Mem).Load -/
noncomputable def s166 (q : Bool) (e : Ex) (v0 v1 : Value) (G : GS) : Option (Value × GS) :=
  bS (e.ev.cl 55 [v0, (.int .i64 1), v1, (.bool false), (.int .u64 0)] G) fun x0 G1 =>
  bP (pNil v0) fun x2 =>
  bP (fa Q q 114 1 1 x2) fun x3 =>
  bP (fa Q q 59 3 3 x3) fun x4 =>
  bP (ld Q q 39 x4 G1) fun x5 =>
  some (x5, G1)
theorem m166 {e : Ex} {E : Ev} (h : ExLe Q e E) (v0 v1 : Value) (G : GS) : Ref (s166 true e v0 v1 G) (s166 false (Ex.of E) v0 v1 G) := by
  unfold s166
  exact Ref.gq
theorem f166 {orc : FuncId → Bool} {e : Ex} (h : ExLe Q e (E orc)) (v0 v1 : Value) (G : GS) : Ref (s166 true e v0 v1 G) ((E orc).cl 166 [v0, v1] G) :=
  fun r hr => cl_sxE_some Q orc (vs := [v0, v1]) G Tryz.func166 (by kernel_rfl) (by kernel_rfl) (by kernel_rfl) (by kernel_rfl) (by kernel_rfl) (by kernel_rfl) (m166 h v0 v1 G r hr)
/-- (*coxswain/coxswainref14.Push).reads -/
noncomputable def s167 (q : Bool) (e : Ex) (v0 v1 : Value) (G : GS) : Option (Value × GS) :=
  bP (pNil v0) fun x0 =>
  bP (fa Q q 234 0 0 x0) fun x1 =>
  bP (lda Q q 119 4 x1 (G.room 15)) fun x2 =>
  bP (pNil v0) fun x3 =>
  bP (fa Q q 234 3 6 x3) fun x4 =>
  bP (ld Q q 39 x4 (G.room 15)) fun x5 =>
  bS (e.ev.cl 131 [x2, x5] (G.room 15)) fun x7 G6 =>
  bS (e.ev.cl 166 [v1, x7] G6) fun x9 G8 =>
  bP (pNil v0) fun x10 =>
  bP (fa Q q 234 4 7 x10) fun x11 =>
  bP (st Q q 39 1 x11 x9 G8) fun G12 =>
  bP (pNil v0) fun x13 =>
  bP (fa Q q 234 0 0 x13) fun x14 =>
  bP (lda Q q 119 4 x14 (G12.room 10)) fun x15 =>
  bP (pNil v0) fun x16 =>
  bP (fa Q q 234 3 6 x16) fun x17 =>
  bP (ld Q q 39 x17 (G12.room 10)) fun x18 =>
  bS (e.ev.cl 132 [x15, x18] (G12.room 10)) fun x20 G19 =>
  bP (pNil v0) fun x21 =>
  bP (fa Q q 234 4 7 x21) fun x22 =>
  bP (ld Q q 39 x22 G19) fun x23 =>
  bS (e.ev.cl 211 [x23, x20] G19) fun x24 G25 =>
  ifV x24 (
  bP (pNil v0) fun x26 =>
  bP (fa Q q 234 2 5 x26) fun x27 =>
  bP (st Q q 3 1 x27 (.int .i64 3) G25) fun G28 =>
  some (.tuple #[], G28)) (
  bP (pNil v0) fun x29 =>
  bP (fa Q q 234 4 7 x29) fun x30 =>
  bP (ld Q q 39 x30 G25) fun x31 =>
  bP (bn Q q .add 39 (.tmp 46) (.const (.int .u64 4294967296)) x20 (.int .u64 4294967296)) fun x32 =>
  bP (bn Q q .sub 39 (.tmp 47) (.const (.int .u64 1)) x32 (.int .u64 1)) fun x33 =>
  bP (bn Q q .rem 39 (.tmp 48) (.const (.int .u64 4294967296)) x33 (.int .u64 4294967296)) fun x34 =>
  bS (e.ev.cl 130 [x31, x34] G25) fun x35 G36 =>
  ifV x35 (
  bP (pNil v0) fun x37 =>
  bP (fa Q q 234 2 5 x37) fun x38 =>
  bP (st Q q 3 1 x38 (.int .i64 9) G36) fun G39 =>
  bP (pNil v0) fun x40 =>
  bP (fa Q q 234 5 8 x40) fun x41 =>
  bP (st Q q 26 1 x41 (.int .i64 7) G39) fun G42 =>
  some (.tuple #[], G42)) (
  bP (pNil v0) fun x43 =>
  bP (fa Q q 234 2 5 x43) fun x44 =>
  bP (st Q q 3 1 x44 (.int .i64 5) G36) fun G45 =>
  some (.tuple #[], G45)))
theorem m167 {e : Ex} {E : Ev} (h : ExLe Q e E) (v0 v1 : Value) (G : GS) : Ref (s167 true e v0 v1 G) (s167 false (Ex.of E) v0 v1 G) := by
  unfold s167
  exact Ref.gq
theorem f167 {orc : FuncId → Bool} {e : Ex} (h : ExLe Q e (E orc)) (v0 v1 : Value) (G : GS) : Ref (s167 true e v0 v1 G) ((E orc).cl 167 [v0, v1] G) :=
  fun r hr => cl_sxE_some Q orc (vs := [v0, v1]) G Tryz.func167 (by kernel_rfl) (by kernel_rfl) (by kernel_rfl) (by kernel_rfl) (by kernel_rfl) (by kernel_rfl) (m167 h v0 v1 G r hr)
/-- (*coxswain/coxswainref02.Mem).CAS -/
noncomputable def s168 (q : Bool) (e : Ex) (v0 v1 v2 v3 : Value) (G : GS) : Option (Value × GS) :=
  bS (e.ev.cl 129 [v0, v1] G) fun x0 G1 =>
  bP (bn Q q .eql 39 (.tmp 13) (.tmp 14) x0 v2) fun x2 =>
  bS (e.ev.cl 55 [v0, (.int .i64 3), v1, x2, v3] G1) fun x3 G4 =>
  bP (pNil v0) fun x5 =>
  bP (fa Q q 114 1 1 x5) fun x6 =>
  bP (fa Q q 59 4 4 x6) fun x7 =>
  bP (ld Q q 4 x7 G4) fun x8 =>
  some (x8, G4)
theorem m168 {e : Ex} {E : Ev} (h : ExLe Q e E) (v0 v1 v2 v3 : Value) (G : GS) : Ref (s168 true e v0 v1 v2 v3 G) (s168 false (Ex.of E) v0 v1 v2 v3 G) := by
  unfold s168
  exact Ref.gq
theorem f168 {orc : FuncId → Bool} {e : Ex} (h : ExLe Q e (E orc)) (v0 v1 v2 v3 : Value) (G : GS) : Ref (s168 true e v0 v1 v2 v3 G) ((E orc).cl 168 [v0, v1, v2, v3] G) :=
  fun r hr => cl_sxE_some Q orc (vs := [v0, v1, v2, v3]) G Tryz.func168 (by kernel_rfl) (by kernel_rfl) (by kernel_rfl) (by kernel_rfl) (by kernel_rfl) (by kernel_rfl) (m168 h v0 v1 v2 v3 G r hr)
end Go.Proofs.YtaanpcoglijohaaGreat.Lift
