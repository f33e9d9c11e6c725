/- the program's code, spelled out by a program of ours (lift3.lean) -/
import Derived.Test.YtdohlgkmaeipjaaGreatProg
import Derived.Test.YtdohlgkmaeipjaaGreatGhPJ
import Derived.Test.YtdohlgkmaeipjaaGreatGhPG
import Derived.KernelRfl
namespace Go.Proofs.YtdohlgkmaeipjaaGreat.Lift
open Go Go.Proofs.YtdohlgkmaeipjaaGreat.Gh Go.Proofs
set_option linter.unusedVariables false
set_option maxRecDepth 100000
@[reducible] noncomputable def Q : Program := Tryz.prog
@[reducible] noncomputable def E (orc : FuncId → Bool) : Ev := evL Tryz.prog orc
instance ilp5_0 : LpIs Q 5 0 (subAt [1, 0, 1, 0, 0] (bodyOf Tryz.f5)) 27 := ⟨by kernel_rfl, by kernel_rfl⟩
instance ilda31 : LdAOk Q 31 13 := ⟨fun b o s G => by kernel_rfl⟩
noncomputable abbrev z92 : List Value := [(.int .i64 0), (.int .i64 0), (.int .u64 0), (.int .i64 0), (.int .i64 0)]
instance ibd92_1_2_3_4 : BdOk Q 92 z92 [(1, 1, 1), (2, 2, 1), (3, 3, 1), (4, 4, 1)] := bd_ok Q (by kernel_rfl) (by kernel_rfl) (by kernel_rfl)
instance ifa31_3 : FaOk Q 31 3 3 := ⟨fun b o s => by kernel_rfl⟩
instance ifa29_0 : FaOk Q 29 0 0 := ⟨fun b o s => by kernel_rfl⟩
instance ifa25_0 : FaOk Q 25 0 0 := ⟨fun b o s => by kernel_rfl⟩
instance ifa23_2 : FaOk Q 23 2 2 := ⟨fun b o s => by kernel_rfl⟩
instance ild3 : LdOk Q 3 := ⟨fun b o s G => (show _ = loadOne b o G by kernel_rfl).trans (loadOne_eq b o G)⟩
instance ifa31_2 : FaOk Q 31 2 2 := ⟨fun b o s => by kernel_rfl⟩
instance ifa31_0 : FaOk Q 31 0 0 := ⟨fun b o s => by kernel_rfl⟩
instance ifa31_1 : FaOk Q 31 1 1 := ⟨fun b o s => by kernel_rfl⟩
noncomputable abbrev z89 : List Value := [(.pointer none), (.pointer none), (.pointer none), (.pointer none), (.pointer none), (.pointer none), (.pointer none), (.pointer none)]
instance ial89 : AlOk Q 89 z89 := ⟨fun G => by kernel_rfl⟩
instance ifa92_1 : FaOk Q 92 1 1 := ⟨fun b o s => by kernel_rfl⟩
instance ifa92_2 : FaOk Q 92 2 2 := ⟨fun b o s => by kernel_rfl⟩
instance ild41 : LdOk Q 41 := ⟨fun b o s G => (show _ = loadOne b o G by kernel_rfl).trans (loadOne_eq b o G)⟩
instance ifa92_3 : FaOk Q 92 3 3 := ⟨fun b o s => by kernel_rfl⟩
instance ifa92_4 : FaOk Q 92 4 4 := ⟨fun b o s => by kernel_rfl⟩
instance ibd89_0_1 : BdOk Q 89 z89 [(0, 0, 1), (1, 1, 1)] := bd_ok Q (by kernel_rfl) (by kernel_rfl) (by kernel_rfl)
instance ist89 : StOk Q 89 8 := ⟨fun b o s v G => by kernel_rfl⟩
instance ibd89_2_3 : BdOk Q 89 z89 [(2, 2, 1), (3, 3, 1)] := bd_ok Q (by kernel_rfl) (by kernel_rfl) (by kernel_rfl)
instance ibd89_4_5 : BdOk Q 89 z89 [(4, 4, 1), (5, 5, 1)] := bd_ok Q (by kernel_rfl) (by kernel_rfl) (by kernel_rfl)
instance ibd89_6_7 : BdOk Q 89 z89 [(6, 6, 1), (7, 7, 1)] := bd_ok Q (by kernel_rfl) (by kernel_rfl) (by kernel_rfl)
instance ilda89 : LdAOk Q 89 8 := ⟨fun b o s G => by kernel_rfl⟩
instance ifa89_1 : FaOk Q 89 1 1 := ⟨fun b o s => by kernel_rfl⟩
instance ild81 : LdOk Q 81 := ⟨fun b o s G => (show _ = loadOne b o G by kernel_rfl).trans (loadOne_eq b o G)⟩
instance iep81 : EpOk Q 81 := ⟨fun neg x y => by cases neg <;> kernel_rfl, fun neg x y a => by cases neg <;> kernel_rfl, fun neg x y a => by cases neg <;> kernel_rfl⟩
instance ifa89_0 : FaOk Q 89 0 0 := ⟨fun b o s => by kernel_rfl⟩
instance ild80 : LdOk Q 80 := ⟨fun b o s G => (show _ = loadOne b o G by kernel_rfl).trans (loadOne_eq b o G)⟩
instance ifa210_0 : FaOk Q 210 0 0 := ⟨fun b o s => by kernel_rfl⟩
instance ifa89_3 : FaOk Q 89 3 3 := ⟨fun b o s => by kernel_rfl⟩
instance ild83 : LdOk Q 83 := ⟨fun b o s G => (show _ = loadOne b o G by kernel_rfl).trans (loadOne_eq b o G)⟩
instance iep83 : EpOk Q 83 := ⟨fun neg x y => by cases neg <;> kernel_rfl, fun neg x y a => by cases neg <;> kernel_rfl, fun neg x y a => by cases neg <;> kernel_rfl⟩
instance ifa89_2 : FaOk Q 89 2 2 := ⟨fun b o s => by kernel_rfl⟩
instance ild82 : LdOk Q 82 := ⟨fun b o s G => (show _ = loadOne b o G by kernel_rfl).trans (loadOne_eq b o G)⟩
noncomputable abbrev z44 : List Value := [(.int .u64 0), (.int .i64 0)]
instance ial44 : AlOk Q 44 z44 := ⟨fun G => by kernel_rfl⟩
instance ist44 : StOk Q 44 2 := ⟨fun b o s v G => by kernel_rfl⟩
instance ilda44 : LdAOk Q 44 2 := ⟨fun b o s G => by kernel_rfl⟩
instance ifa212_0 : FaOk Q 212 0 0 := ⟨fun b o s => by kernel_rfl⟩
instance ifa89_5 : FaOk Q 89 5 5 := ⟨fun b o s => by kernel_rfl⟩
instance ild85 : LdOk Q 85 := ⟨fun b o s G => (show _ = loadOne b o G by kernel_rfl).trans (loadOne_eq b o G)⟩
instance iep85 : EpOk Q 85 := ⟨fun neg x y => by cases neg <;> kernel_rfl, fun neg x y a => by cases neg <;> kernel_rfl, fun neg x y a => by cases neg <;> kernel_rfl⟩
instance ifa89_4 : FaOk Q 89 4 4 := ⟨fun b o s => by kernel_rfl⟩
instance ild84 : LdOk Q 84 := ⟨fun b o s G => (show _ = loadOne b o G by kernel_rfl).trans (loadOne_eq b o G)⟩
instance ifa214_0 : FaOk Q 214 0 0 := ⟨fun b o s => by kernel_rfl⟩
instance ifa89_7 : FaOk Q 89 7 7 := ⟨fun b o s => by kernel_rfl⟩
instance ild87 : LdOk Q 87 := ⟨fun b o s G => (show _ = loadOne b o G by kernel_rfl).trans (loadOne_eq b o G)⟩
instance iep87 : EpOk Q 87 := ⟨fun neg x y => by cases neg <;> kernel_rfl, fun neg x y a => by cases neg <;> kernel_rfl, fun neg x y a => by cases neg <;> kernel_rfl⟩
instance ifa89_6 : FaOk Q 89 6 6 := ⟨fun b o s => by kernel_rfl⟩
instance ild86 : LdOk Q 86 := ⟨fun b o s G => (show _ = loadOne b o G by kernel_rfl).trans (loadOne_eq b o G)⟩
noncomputable abbrev z128 : List Value := [(.int .i64 0), (.int .i64 0), (.int .i64 0), (.int .i64 0), (.int .i64 0), (.int .i64 0), (.int .i64 0), (.int .i64 0), (.int .i64 0), (.int .i64 0), (.int .i64 0), (.int .i64 0), (.int .i64 0), (.bool false), (.int .i64 0), (.int .u64 0), (.int .u64 0), (.int .i64 0), (.int .i64 0), (.int .u64 0), (.int .i64 0), (.pointer none), (.pointer none), (.bool false), (.int .u64 0), (.int .i64 0)]
instance ibd128_2_12 : BdOk Q 128 z128 [(2, 14, 1), (12, 25, 1)] := bd_ok Q (by kernel_rfl) (by kernel_rfl) (by kernel_rfl)
instance ibd128_0_2 : BdOk Q 128 z128 [(0, 0, 13), (2, 14, 1)] := bd_ok Q (by kernel_rfl) (by kernel_rfl) (by kernel_rfl)
instance ilda128 : LdAOk Q 128 26 := ⟨fun b o s G => by kernel_rfl⟩
noncomputable abbrev z130 : List Value := [(.int .i64 0), (.int .i64 0), (.int .i64 0), (.int .i64 0), (.int .i64 0), (.int .i64 0), (.int .i64 0), (.int .i64 0), (.int .i64 0), (.int .i64 0), (.int .i64 0), (.int .i64 0), (.int .i64 0), (.bool false), (.int .i64 0), (.int .u64 0), (.int .u64 0), (.int .i64 0), (.int .i64 0), (.int .u64 0), (.int .i64 0), (.pointer none), (.pointer none), (.bool false), (.int .u64 0), (.int .i64 0)]
instance ibd130_0 : BdOk Q 130 z130 [(0, 0, 26)] := bd_ok Q (by kernel_rfl) (by kernel_rfl) (by kernel_rfl)
instance ifa130_0 : FaOk Q 130 0 0 := ⟨fun b o s => by kernel_rfl⟩
instance ifa128_1 : FaOk Q 128 1 13 := ⟨fun b o s => by kernel_rfl⟩
instance ist4 : StOk Q 4 1 := ⟨fun b o s v G => by kernel_rfl⟩
noncomputable abbrev z187 : List Value := [(.int .i64 0), (.int .i64 0), (.int .i64 0)]
instance ial187 : AlOk Q 187 z187 := ⟨fun G => by kernel_rfl⟩
instance ibd187_0_1_2 : BdOk Q 187 z187 [(0, 0, 1), (1, 1, 1), (2, 2, 1)] := bd_ok Q (by kernel_rfl) (by kernel_rfl) (by kernel_rfl)
instance ist187 : StOk Q 187 3 := ⟨fun b o s v G => by kernel_rfl⟩
instance ilda187 : LdAOk Q 187 3 := ⟨fun b o s G => by kernel_rfl⟩
noncomputable abbrev z192 : List Value := [(.int .i64 0), (.int .i64 0), (.int .i64 0)]
instance ial192 : AlOk Q 192 z192 := ⟨fun G => by kernel_rfl⟩
instance ibd192_0_1_2 : BdOk Q 192 z192 [(0, 0, 1), (1, 1, 1), (2, 2, 1)] := bd_ok Q (by kernel_rfl) (by kernel_rfl) (by kernel_rfl)
instance ist192 : StOk Q 192 3 := ⟨fun b o s v G => by kernel_rfl⟩
instance ilda192 : LdAOk Q 192 3 := ⟨fun b o s G => by kernel_rfl⟩
noncomputable abbrev z303 : List Value := [(.int .i64 0), (.int .i64 0), (.int .i64 0), (.int .i64 0), (.int .i64 0), (.int .i64 0), (.int .i64 0), (.int .i64 0), (.int .i64 0), (.int .i64 0), (.int .i64 0), (.int .i64 0), (.int .i64 0), (.int .i64 0), (.bool false), (.int .i64 0), (.slice none 0 0), (.int .u64 0), (.int .i64 0), (.int .u64 0), (.int .i64 0), (.int .i64 0), (.int .i64 0), (.int .u64 0)]
instance ibd303_0_1_2_3 : BdOk Q 303 z303 [(0, 0, 19), (1, 19, 1), (2, 20, 1), (3, 21, 1)] := bd_ok Q (by kernel_rfl) (by kernel_rfl) (by kernel_rfl)
instance ifa303_0 : FaOk Q 303 0 0 := ⟨fun b o s => by kernel_rfl⟩
instance ifa300_6 : FaOk Q 300 6 18 := ⟨fun b o s => by kernel_rfl⟩
instance ild33 : LdOk Q 33 := ⟨fun b o s G => (show _ = loadOne b o G by kernel_rfl).trans (loadOne_eq b o G)⟩
instance ist33 : StOk Q 33 1 := ⟨fun b o s v G => by kernel_rfl⟩
noncomputable abbrev z305 : List Value := [.nilIface]
instance ibs298_2_0_1 : BsOk Q 298 2 (rep z305 2) 1 [(0, 0, 1), (1, 1, 1)] := bs_ok Q (z0 := z305) (by kernel_rfl) rfl (by decide) (by kernel_rfl)
instance ifa300_4 : FaOk Q 300 4 16 := ⟨fun b o s => by kernel_rfl⟩
instance ist298 : StOk Q 298 1 := ⟨fun b o s v G => by kernel_rfl⟩
noncomputable abbrev z210 : List Value := [(.int .i64 0), (.int .i64 0), (.int .i64 0), (.int .i64 0), (.int .i64 0), (.int .i64 0), (.int .i64 0), (.int .i64 0), (.int .i64 0), (.int .i64 0), (.int .i64 0), (.int .i64 0), (.int .i64 0), (.int .i64 0), (.int .i64 0), (.pointer none), (.int .i64 0), (.pointer none), (.int .u64 0), (.int .i64 0), (.int .u64 0), (.int .i64 0), (.int .i64 0), (.int .i64 0), (.pointer none), (.pointer none), (.int .u64 0), (.pointer none), (.pointer none)]
instance ibd210_0_1_2_3 : BdOk Q 210 z210 [(0, 0, 20), (1, 20, 1), (2, 21, 1), (3, 22, 1)] := bd_ok Q (by kernel_rfl) (by kernel_rfl) (by kernel_rfl)
noncomputable abbrev z311 : List Value := [(.int .i64 0), (.int .i64 0), (.int .i64 0), (.int .i64 0), (.int .i64 0), (.int .i64 0), (.int .i64 0), (.int .i64 0), (.int .i64 0), (.int .i64 0), (.int .i64 0), (.int .i64 0), (.int .i64 0), (.int .i64 0), (.bool false), (.int .i64 0), (.slice none 0 0), (.int .u64 0), (.int .i64 0), (.int .u64 0), (.int .i64 0), (.int .i64 0)]
instance ibd311_0 : BdOk Q 311 z311 [(0, 0, 19)] := bd_ok Q (by kernel_rfl) (by kernel_rfl) (by kernel_rfl)
noncomputable abbrev z82 : List Value := [(.pointer none)]
instance ial82 : AlOk Q 82 z82 := ⟨fun G => by kernel_rfl⟩
instance ist82 : StOk Q 82 1 := ⟨fun b o s v G => by kernel_rfl⟩
instance ifa311_0 : FaOk Q 311 0 0 := ⟨fun b o s => by kernel_rfl⟩
noncomputable abbrev z317 : List Value := [.nilFunc, .nilFunc, .nilFunc, (.pointer none), (.bool false)]
instance ibd317_0_1_2 : BdOk Q 317 z317 [(0, 0, 1), (1, 1, 1), (2, 2, 1)] := bd_ok Q (by kernel_rfl) (by kernel_rfl) (by kernel_rfl)
instance iifc312 : IfcOk Q 312 := ⟨fun v => by kernel_rfl⟩
instance ibs298_3_0_1_2 : BsOk Q 298 3 (rep z305 3) 1 [(0, 0, 1), (1, 1, 1), (2, 2, 1)] := bs_ok Q (z0 := z305) (by kernel_rfl) rfl (by decide) (by kernel_rfl)
noncomputable abbrev z212 : List Value := [(.int .i64 0), (.int .i64 0), (.int .i64 0), (.int .i64 0), (.int .i64 0), (.int .i64 0), (.int .i64 0), (.int .i64 0), (.int .i64 0), (.int .i64 0), (.int .i64 0), (.int .i64 0), (.int .i64 0), (.int .i64 0), (.int .i64 0), (.pointer none), (.int .i64 0), (.pointer none), (.int .u64 0), (.int .i64 0), (.pointer none)]
instance ibd212_0_1 : BdOk Q 212 z212 [(0, 0, 20), (1, 20, 1)] := bd_ok Q (by kernel_rfl) (by kernel_rfl) (by kernel_rfl)
noncomputable abbrev z318 : List Value := [(.int .i64 0), (.int .i64 0), (.int .i64 0), (.int .i64 0), (.int .i64 0), (.int .i64 0), (.int .i64 0), (.int .i64 0), (.int .i64 0), (.int .i64 0), (.int .i64 0), (.int .i64 0), (.int .i64 0), (.int .i64 0), (.bool false), (.int .i64 0), (.slice none 0 0), (.int .u64 0), (.int .i64 0), (.int .u64 0), (.int .i64 0), (.int .i64 0)]
instance ibd318_0 : BdOk Q 318 z318 [(0, 0, 19)] := bd_ok Q (by kernel_rfl) (by kernel_rfl) (by kernel_rfl)
noncomputable abbrev z84 : List Value := [(.pointer none)]
instance ial84 : AlOk Q 84 z84 := ⟨fun G => by kernel_rfl⟩
instance ist84 : StOk Q 84 1 := ⟨fun b o s v G => by kernel_rfl⟩
instance ifa318_0 : FaOk Q 318 0 0 := ⟨fun b o s => by kernel_rfl⟩
noncomputable abbrev z324 : List Value := [.nilFunc, .nilFunc, .nilFunc, (.pointer none), (.bool false)]
instance ibd324_0_1_2 : BdOk Q 324 z324 [(0, 0, 1), (1, 1, 1), (2, 2, 1)] := bd_ok Q (by kernel_rfl) (by kernel_rfl) (by kernel_rfl)
instance iifc319 : IfcOk Q 319 := ⟨fun v => by kernel_rfl⟩
noncomputable abbrev z214 : List Value := [(.int .i64 0), (.int .i64 0), (.int .i64 0), (.int .i64 0), (.int .i64 0), (.int .i64 0), (.int .i64 0), (.int .i64 0), (.int .i64 0), (.int .i64 0), (.int .i64 0), (.int .i64 0), (.int .i64 0), (.int .i64 0), (.int .i64 0), (.pointer none), (.int .i64 0), (.pointer none), (.int .u64 0), (.int .i64 0), (.pointer none)]
instance ibd214_0_1 : BdOk Q 214 z214 [(0, 0, 20), (1, 20, 1)] := bd_ok Q (by kernel_rfl) (by kernel_rfl) (by kernel_rfl)
noncomputable abbrev z326 : List Value := [(.int .i64 0), (.int .i64 0), (.int .i64 0), (.int .i64 0), (.int .i64 0), (.int .i64 0), (.int .i64 0), (.int .i64 0), (.int .i64 0), (.int .i64 0), (.int .i64 0), (.int .i64 0), (.int .i64 0), (.int .i64 0), (.bool false), (.int .i64 0), (.slice none 0 0), (.int .u64 0), (.int .i64 0), (.int .i64 0), (.int .i64 0)]
instance ibd326_0 : BdOk Q 326 z326 [(0, 0, 19)] := bd_ok Q (by kernel_rfl) (by kernel_rfl) (by kernel_rfl)
noncomputable abbrev z86 : List Value := [(.pointer none)]
instance ial86 : AlOk Q 86 z86 := ⟨fun G => by kernel_rfl⟩
instance ist86 : StOk Q 86 1 := ⟨fun b o s v G => by kernel_rfl⟩
instance ifa326_0 : FaOk Q 326 0 0 := ⟨fun b o s => by kernel_rfl⟩
noncomputable abbrev z331 : List Value := [(.int .i64 0), (.int .i64 0), (.int .i64 0), (.int .i64 0), (.int .i64 0), (.int .i64 0), (.int .i64 0), (.int .i64 0), (.int .i64 0), (.int .i64 0), (.int .i64 0), (.int .i64 0), (.int .i64 0), (.int .i64 0), (.int .i64 0), (.pointer none), (.int .i64 0), (.pointer none), (.int .u64 0), (.int .i64 0), (.pointer none)]
instance ibd331_0 : BdOk Q 331 z331 [(0, 0, 20)] := bd_ok Q (by kernel_rfl) (by kernel_rfl) (by kernel_rfl)
instance iep80 : EpOk Q 80 := ⟨fun neg x y => by cases neg <;> kernel_rfl, fun neg x y a => by cases neg <;> kernel_rfl, fun neg x y a => by cases neg <;> kernel_rfl⟩
instance ifa205_2 : FaOk Q 205 2 14 := ⟨fun b o s => by kernel_rfl⟩
instance ifa205_7 : FaOk Q 205 7 19 := ⟨fun b o s => by kernel_rfl⟩
instance ifa300_5 : FaOk Q 300 5 17 := ⟨fun b o s => by kernel_rfl⟩
instance ifa205_6 : FaOk Q 205 6 18 := ⟨fun b o s => by kernel_rfl⟩
instance iep82 : EpOk Q 82 := ⟨fun neg x y => by cases neg <;> kernel_rfl, fun neg x y a => by cases neg <;> kernel_rfl, fun neg x y a => by cases neg <;> kernel_rfl⟩
instance ibd44_ : BdOk Q 44 z44 [] := bd_ok Q (by kernel_rfl) (by kernel_rfl) (by kernel_rfl)
instance ifa311_1 : FaOk Q 311 1 19 := ⟨fun b o s => by kernel_rfl⟩
instance ilda309 : LdAOk Q 309 3 := ⟨fun b o s G => by kernel_rfl⟩
instance ifa212_1 : FaOk Q 212 1 20 := ⟨fun b o s => by kernel_rfl⟩
instance ild121 : LdOk Q 121 := ⟨fun b o s G => (show _ = loadOne b o G by kernel_rfl).trans (loadOne_eq b o G)⟩
instance iep84 : EpOk Q 84 := ⟨fun neg x y => by cases neg <;> kernel_rfl, fun neg x y a => by cases neg <;> kernel_rfl, fun neg x y a => by cases neg <;> kernel_rfl⟩
instance ifa318_1 : FaOk Q 318 1 19 := ⟨fun b o s => by kernel_rfl⟩
instance ifa214_1 : FaOk Q 214 1 20 := ⟨fun b o s => by kernel_rfl⟩
instance ild131 : LdOk Q 131 := ⟨fun b o s G => (show _ = loadOne b o G by kernel_rfl).trans (loadOne_eq b o G)⟩
instance iep86 : EpOk Q 86 := ⟨fun neg x y => by cases neg <;> kernel_rfl, fun neg x y a => by cases neg <;> kernel_rfl, fun neg x y a => by cases neg <;> kernel_rfl⟩
instance ifa326_1 : FaOk Q 326 1 19 := ⟨fun b o s => by kernel_rfl⟩
instance ifa326_2 : FaOk Q 326 2 20 := ⟨fun b o s => by kernel_rfl⟩
instance ifa331_0 : FaOk Q 331 0 0 := ⟨fun b o s => by kernel_rfl⟩
instance ifa331_1 : FaOk Q 331 1 20 := ⟨fun b o s => by kernel_rfl⟩
instance ild206 : LdOk Q 206 := ⟨fun b o s G => (show _ = loadOne b o G by kernel_rfl).trans (loadOne_eq b o G)⟩
noncomputable abbrev z300 : List Value := [(.int .i64 0), (.int .i64 0), (.int .i64 0), (.int .i64 0), (.int .i64 0), (.int .i64 0), (.int .i64 0), (.int .i64 0), (.int .i64 0), (.int .i64 0), (.int .i64 0), (.int .i64 0), (.int .i64 0), (.int .i64 0), (.bool false), (.int .i64 0), (.slice none 0 0), (.int .u64 0), (.int .i64 0)]
instance ial300 : AlOk Q 300 z300 := ⟨fun G => by kernel_rfl⟩
instance ibd300_0_1_2 : BdOk Q 300 z300 [(0, 0, 13), (1, 13, 1), (2, 14, 1)] := bd_ok Q (by kernel_rfl) (by kernel_rfl) (by kernel_rfl)
instance ist300 : StOk Q 300 19 := ⟨fun b o s v G => by kernel_rfl⟩
instance ifa29_1 : FaOk Q 29 1 6 := ⟨fun b o s => by kernel_rfl⟩
instance ifa27_2 : FaOk Q 27 2 2 := ⟨fun b o s => by kernel_rfl⟩
instance ilda300 : LdAOk Q 300 19 := ⟨fun b o s G => by kernel_rfl⟩
noncomputable abbrev z423 : List Value := [.nilFunc, .nilFunc, .nilFunc, (.pointer none), (.bool false)]
instance ibd423_0_2 : BdOk Q 423 z423 [(0, 0, 1), (2, 2, 1)] := bd_ok Q (by kernel_rfl) (by kernel_rfl) (by kernel_rfl)
instance iifc416 : IfcOk Q 416 := ⟨fun v => by kernel_rfl⟩
noncomputable abbrev z429 : List Value := [.nilFunc, .nilFunc, .nilFunc, (.pointer none), (.bool false)]
instance ibd429_0_2 : BdOk Q 429 z429 [(0, 0, 1), (2, 2, 1)] := bd_ok Q (by kernel_rfl) (by kernel_rfl) (by kernel_rfl)
instance iifc424 : IfcOk Q 424 := ⟨fun v => by kernel_rfl⟩
noncomputable abbrev z205 : List Value := [(.int .i64 0), (.int .i64 0), (.int .i64 0), (.int .i64 0), (.int .i64 0), (.int .i64 0), (.int .i64 0), (.int .i64 0), (.int .i64 0), (.int .i64 0), (.int .i64 0), (.int .i64 0), (.int .i64 0), (.int .i64 0), (.int .i64 0), (.pointer none), (.int .i64 0), (.pointer none), (.int .u64 0), (.int .i64 0)]
instance ial205 : AlOk Q 205 z205 := ⟨fun G => by kernel_rfl⟩
instance ibd205_2_7 : BdOk Q 205 z205 [(2, 14, 1), (7, 19, 1)] := bd_ok Q (by kernel_rfl) (by kernel_rfl) (by kernel_rfl)
instance ist205 : StOk Q 205 20 := ⟨fun b o s v G => by kernel_rfl⟩
instance ilda27 : LdAOk Q 27 3 := ⟨fun b o s G => by kernel_rfl⟩
instance ibd205_0_1_2_3 : BdOk Q 205 z205 [(0, 0, 13), (1, 13, 1), (2, 14, 1), (3, 15, 1)] := bd_ok Q (by kernel_rfl) (by kernel_rfl) (by kernel_rfl)
instance ilda205 : LdAOk Q 205 20 := ⟨fun b o s G => by kernel_rfl⟩
noncomputable abbrev z438 : List Value := [.nilFunc, .nilFunc, .nilFunc, (.pointer none), (.bool false)]
instance ibd438_0 : BdOk Q 438 z438 [(0, 0, 1)] := bd_ok Q (by kernel_rfl) (by kernel_rfl) (by kernel_rfl)
instance iifc431 : IfcOk Q 431 := ⟨fun v => by kernel_rfl⟩
noncomputable abbrev z444 : List Value := [.nilFunc, .nilFunc, .nilFunc, (.pointer none), (.bool false)]
instance ibd444_0_2 : BdOk Q 444 z444 [(0, 0, 1), (2, 2, 1)] := bd_ok Q (by kernel_rfl) (by kernel_rfl) (by kernel_rfl)
instance iifc439 : IfcOk Q 439 := ⟨fun v => by kernel_rfl⟩
instance ifa300_2 : FaOk Q 300 2 14 := ⟨fun b o s => by kernel_rfl⟩
instance ild4 : LdOk Q 4 := ⟨fun b o s G => (show _ = loadOne b o G by kernel_rfl).trans (loadOne_eq b o G)⟩
instance ild298 : LdOk Q 298 := ⟨fun b o s G => (show _ = loadOne b o G by kernel_rfl).trans (loadOne_eq b o G)⟩
instance iln298 : LnOk Q 298 := ⟨fun a n c => by kernel_rfl⟩
instance ifa309_0 : FaOk Q 309 0 0 := ⟨fun b o s => by kernel_rfl⟩
instance ifa309_1 : FaOk Q 309 1 2 := ⟨fun b o s => by kernel_rfl⟩
instance ifa187_1 : FaOk Q 187 1 1 := ⟨fun b o s => by kernel_rfl⟩
instance ifa187_2 : FaOk Q 187 2 2 := ⟨fun b o s => by kernel_rfl⟩
instance ild185 : LdOk Q 185 := ⟨fun b o s G => (show _ = loadOne b o G by kernel_rfl).trans (loadOne_eq b o G)⟩
instance iifc185 : IfcOk Q 185 := ⟨fun v => by kernel_rfl⟩
instance ifa187_0 : FaOk Q 187 0 0 := ⟨fun b o s => by kernel_rfl⟩
instance ifa192_1 : FaOk Q 192 1 1 := ⟨fun b o s => by kernel_rfl⟩
instance ifa192_2 : FaOk Q 192 2 2 := ⟨fun b o s => by kernel_rfl⟩
instance ild190 : LdOk Q 190 := ⟨fun b o s G => (show _ = loadOne b o G by kernel_rfl).trans (loadOne_eq b o G)⟩
instance iifc190 : IfcOk Q 190 := ⟨fun v => by kernel_rfl⟩
instance ifa192_0 : FaOk Q 192 0 0 := ⟨fun b o s => by kernel_rfl⟩
noncomputable abbrev z516 : List Value := [(.int .i64 0), (.int .i64 0), (.int .i64 0), (.int .i64 0), (.int .i64 0), (.int .i64 0), (.int .i64 0)]
instance ibd516_2_4 : BdOk Q 516 z516 [(2, 4, 1), (4, 6, 1)] := bd_ok Q (by kernel_rfl) (by kernel_rfl) (by kernel_rfl)
instance ibd516_0_1_2 : BdOk Q 516 z516 [(0, 0, 3), (1, 3, 1), (2, 4, 1)] := bd_ok Q (by kernel_rfl) (by kernel_rfl) (by kernel_rfl)
noncomputable def b5_0 (q : Bool) (e : Ex) (lp : Env → GS → Option (Exit × Env × GS)) (τ : Env) (G : GS) : Option (Exit × Env × GS) :=
  bV q (τ 1) fun a1_ =>
  bV q (τ 2) fun a2_ =>
  bV q (τ 3) fun a3_ =>
  bV q (τ 4) fun a4_ =>
  bV q (τ 5) fun a5_ =>
  bV q (τ 11) fun a11_ =>
  bP (bn Q q .leq 3 (.tmp 12) (.const (.int .i64 4)) a11_ (.int .i64 4)) fun x0 =>
  ifV x0 (
  bP (lda Q q 31 13 a5_ G) fun x1 =>
  bP (bd Q q 92 z92 [(1, 1, 1), (2, 2, 1), (3, 3, 1), (4, 4, 1)] [a11_, a2_, a3_, a4_]) fun x2 =>
  bS (e.ev.cl 30 [x1, a1_, x2] G) fun x3 G4 =>
  bS (e.ev.cl 31 [x3] G4) fun x5 G6 =>
  bP (un Q q .not x5) fun x7 =>
  ifV x7 (
  some (.ret, xq q 27 τ [(10, (.bool false)), (25, x7), (24, x5), (23, x3), (22, x2), (21, a4_), (20, a3_), (19, a2_), (18, a11_), (17, a1_), (16, x1), (13, x0), (12, a11_)] [(1, a1_), (2, a2_), (3, a3_), (4, a4_), (5, a5_), (11, a11_)], G6)) (
  bP (bn Q q .add 3 (.tmp 14) (.const (.int .i64 1)) a11_ (.int .i64 1)) fun x8 =>
  lp (xq q 27 τ [(11, x8), (15, x8), (14, a11_), (25, x7), (24, x5), (23, x3), (22, x2), (21, a4_), (20, a3_), (19, a2_), (18, a11_), (17, a1_), (16, x1), (13, x0), (12, a11_)] [(1, a1_), (2, a2_), (3, a3_), (4, a4_), (5, a5_)]) G6)) (
  some ((.exit 0), xq q 27 τ [(13, x0), (12, a11_)] [(1, a1_), (2, a2_), (3, a3_), (4, a4_), (5, a5_), (11, a11_)], G))
theorem mb5_0 {e : Ex} {E : Ev} (h : ExLe Q e E) {lp lp' : Env → GS → Option (Exit × Env × GS)} (hlp : LpLe lp lp') (τ : Env) (G : GS) : Ref (b5_0 true e lp τ G) (b5_0 false (Ex.of E) lp' τ G) := by
  unfold b5_0
  exact Ref.gq
theorem l5_0 {orc : FuncId → Bool} {e : Ex} (h : ExLe Q e (E orc)) (lp : Env → GS → Option (Exit × Env × GS)) (hlp : ∀ τ G, Ref (lp τ G) (mapE ((E orc).lp (subAt [1, 0, 1, 0, 0] (bodyOf Tryz.f5)) (lst 27 τ) G))) (T : List Value) (G : GS) (hT : T.length = 27) : Ref (b5_0 true e lp (nth undef T) G) (mapE ((E orc).lp (subAt [1, 0, 1, 0, 0] (bodyOf Tryz.f5)) T G)) :=
  fun r hr => lp_sxN Q orc G hT (by kernel_rfl) (mb5_0 h ⟨hlp⟩ _ _ r hr)
/-- coxswain/coxswainlaw19.ReadyNew -/
noncomputable def s5 (q : Bool) (e : Ex) (v0 v1 v2 v3 v4 : Value) (G : GS) : Option (Value × GS) :=
  bS (bx q v0 G) fun x0 G1 =>
  bLq q e 5 0 (subAt [1, 0, 1, 0, 0] (bodyOf Tryz.f5)) 27 (nth undef [v0, v1, v2, v3, v4]) [(11, (.int .i64 1)), (10, (.bool false)), (5, x0)] [] G1 fun e2 t3 G4 =>
  bV q (t3 10) fun t3x10_ =>
  ifE e2 (.exit 0) (
  bS (e.ev.cl 32 [] G4) fun x5 G6 =>
  some (x5, G6)) (ifE e2 .ret (
  some (t3x10_, G4)) (none))
theorem m5 {e : Ex} {E : Ev} (h : ExLe Q e E) (v0 v1 v2 v3 v4 : Value) (G : GS) : Ref (s5 true e v0 v1 v2 v3 v4 G) (s5 false (Ex.of E) v0 v1 v2 v3 v4 G) := by
  unfold s5
  exact Ref.gq
theorem f5 {orc : FuncId → Bool} {e : Ex} (h : ExLe Q e (E orc)) (v0 v1 v2 v3 v4 : Value) (G : GS) : Ref (s5 true e v0 v1 v2 v3 v4 G) ((E orc).cl 5 [v0, v1, v2, v3, v4] G) :=
  fun r hr => cl_sxE_some Q orc (vs := [v0, v1, v2, v3, v4]) G Tryz.func5 (by kernel_rfl) (by kernel_rfl) (by kernel_rfl) (by kernel_rfl) (by kernel_rfl) (by kernel_rfl) (m5 h v0 v1 v2 v3 v4 G r hr)
/-- coxswain/coxswainref15.Sound -/
noncomputable def s18 (q : Bool) (e : Ex) (v0 : Value) (G : GS) : Option (Value × GS) :=
  bS (bx q v0 G) fun x0 G1 =>
  bP (fa Q q 31 3 3 x0) fun x2 =>
  bP (fa Q q 29 0 0 x2) fun x3 =>
  bP (fa Q q 25 0 0 x3) fun x4 =>
  bP (fa Q q 23 2 2 x4) fun x5 =>
  bP (ld Q q 3 x5 G1) fun x6 =>
  bP (fa Q q 31 2 2 x0) fun x7 =>
  bP (ld Q q 3 x7 G1) fun x8 =>
  bP (bn Q q .geq 3 (.tmp 10) (.const (.int .i64 1)) x8 (.int .i64 1)) fun x9 =>
  bS (gd x9 true (bP (fa Q q 31 2 2 x0) fun y => some (y, G1)) G1) fun x10 G11 =>
  bS (gd x9 true (bP (ld Q q 3 x10 G11) fun y => some (y, G11)) G11) fun x12 G13 =>
  bS (gd x9 true (bP (bn Q q .leq 3 (.tmp 14) (.const (.int .i64 4)) x12 (.int .i64 4)) fun y => some (y, G13)) G13) fun x14 G15 =>
  bP (pickV x9 x14 (.bool false)) fun x16 =>
  bS (gd x16 true (some (x6, G15)) G15) fun x17 G18 =>
  bS (gd x16 true (bP (bn Q q .geq 3 (.tmp 18) (.const (.int .i64 1)) x17 (.int .i64 1)) fun y => some (y, G18)) G18) fun x19 G20 =>
  bP (pickV x16 x19 (.bool false)) fun x21 =>
  bS (gd x21 true (some (x6, G20)) G20) fun x22 G23 =>
  bS (gd x21 true (bP (bn Q q .leq 3 (.tmp 22) (.const (.int .i64 128)) x22 (.int .i64 128)) fun y => some (y, G23)) G23) fun x24 G25 =>
  bP (pickV x21 x24 (.bool false)) fun x26 =>
  bS (gd x26 true (bP (fa Q q 31 0 0 x0) fun y => some (y, G25)) G25) fun x27 G28 =>
  bS (gd x26 true (bP (ld Q q 3 x27 G28) fun y => some (y, G28)) G28) fun x29 G30 =>
  bS (gd x26 true (bP (bn Q q .geq 3 (.tmp 27) (.const (.int .i64 0)) x29 (.int .i64 0)) fun y => some (y, G30)) G30) fun x31 G32 =>
  bP (pickV x26 x31 (.bool false)) fun x33 =>
  bS (gd x33 true (bP (fa Q q 31 0 0 x0) fun y => some (y, G32)) G32) fun x34 G35 =>
  bS (gd x33 true (bP (ld Q q 3 x34 G35) fun y => some (y, G35)) G35) fun x36 G37 =>
  bS (gd x33 true (bP (bn Q q .lss 3 (.tmp 32) (.const (.int .i64 4096)) x36 (.int .i64 4096)) fun y => some (y, G37)) G37) fun x38 G39 =>
  bP (pickV x33 x38 (.bool false)) fun x40 =>
  bS (gd x40 true (bP (fa Q q 31 1 1 x0) fun y => some (y, G39)) G39) fun x41 G42 =>
  bS (gd x40 true (bP (ld Q q 3 x41 G42) fun y => some (y, G42)) G42) fun x43 G44 =>
  bS (gd x40 true (bP (bn Q q .geq 3 (.tmp 37) (.const (.int .i64 0)) x43 (.int .i64 0)) fun y => some (y, G44)) G44) fun x45 G46 =>
  bP (pickV x40 x45 (.bool false)) fun x47 =>
  bS (gd x47 true (bP (fa Q q 31 1 1 x0) fun y => some (y, G46)) G46) fun x48 G49 =>
  bS (gd x47 true (bP (ld Q q 3 x48 G49) fun y => some (y, G49)) G49) fun x50 G51 =>
  bS (gd x47 true (bP (bn Q q .lss 3 (.tmp 42) (.const (.int .i64 4096)) x50 (.int .i64 4096)) fun y => some (y, G51)) G51) fun x52 G53 =>
  bP (pickV x47 x52 (.bool false)) fun x54 =>
  some (x54, G53)
theorem m18 {e : Ex} {E : Ev} (h : ExLe Q e E) (v0 : Value) (G : GS) : Ref (s18 true e v0 G) (s18 false (Ex.of E) v0 G) := by
  unfold s18
  exact Ref.gq
theorem f18 {orc : FuncId → Bool} {e : Ex} (h : ExLe Q e (E orc)) (v0 : Value) (G : GS) : Ref (s18 true e v0 G) ((E orc).cl 18 [v0] G) :=
  fun r hr => cl_sxE_some Q orc (vs := [v0]) G Tryz.func18 (by kernel_rfl) (by kernel_rfl) (by kernel_rfl) (by kernel_rfl) (by kernel_rfl) (by kernel_rfl) (m18 h v0 G r hr)
/-- coxswain/coxswainlaw19.begin -/
noncomputable def s30 (q : Bool) (e : Ex) (v0 v1 v2 : Value) (G : GS) : Option (Value × GS) :=
  bS (bx q v0 G) fun x0 G1 =>
  bS (bx q v2 G1) fun x2 G3 =>
  bS (al Q q 89 z89 G3) fun x4 G5 =>
  bP (fa Q q 92 1 1 x2) fun x6 =>
  bP (ld Q q 3 x6 G5) fun x7 =>
  bP (bn Q q .eql 3 (.tmp 8) (.const (.int .i64 1)) x7 (.int .i64 1)) fun x8 =>
  ifV x8 (
  bP (lda Q q 31 13 x0 (G5.room 20)) fun x9 =>
  bP (fa Q q 92 2 2 x2) fun x10 =>
  bP (ld Q q 41 x10 (G5.room 20)) fun x11 =>
  bP (fa Q q 92 3 3 x2) fun x12 =>
  bP (ld Q q 3 x12 (G5.room 20)) fun x13 =>
  bP (fa Q q 92 4 4 x2) fun x14 =>
  bP (ld Q q 3 x14 (G5.room 20)) fun x15 =>
  bS (e.ev.cl 107 [x9, v1, x11, x13, x15] (G5.room 20)) fun x17 G16 =>
  bP (lda Q q 31 13 x0 G16) fun x18 =>
  chk ((sameO (lda Q q 31 13 x0 (G5.room 20)) x18 && true)) <|
  bP (fa Q q 92 2 2 x2) fun x19 =>
  bP (ld Q q 41 x19 G16) fun x20 =>
  chk ((sameO (ld Q q 41 x19 (G5.room 20)) x20 && true)) <|
  bP (fa Q q 92 3 3 x2) fun x21 =>
  bP (ld Q q 3 x21 G16) fun x22 =>
  chk ((sameO (ld Q q 3 x21 (G5.room 20)) x22 && true)) <|
  bP (fa Q q 92 4 4 x2) fun x23 =>
  bP (ld Q q 3 x23 G16) fun x24 =>
  chk ((sameO (ld Q q 3 x23 (G5.room 20)) x24 && true)) <|
  bS (e.ev.cl 108 [x18, v1, x20, x22, x24] G16) fun x26 G25 =>
  bP (bd Q q 89 z89 [(0, 0, 1), (1, 1, 1)] [x17, x26]) fun x27 =>
  bP (st Q q 89 8 x4 x27 G25) fun G28 =>
  bP (lda Q q 89 8 x4 G28) fun x29 =>
  some (x29, G28)) (
  bP (bn Q q .eql 3 (.tmp 8) (.const (.int .i64 2)) x7 (.int .i64 2)) fun x30 =>
  ifV x30 (
  bP (lda Q q 31 13 x0 (G5.room 8)) fun x31 =>
  bS (e.ev.cl 109 [x31, v1] (G5.room 8)) fun x33 G32 =>
  bP (lda Q q 31 13 x0 G32) fun x34 =>
  chk ((sameO (lda Q q 31 13 x0 (G5.room 8)) x34 && true)) <|
  bS (e.ev.cl 110 [x34, v1] G32) fun x36 G35 =>
  bP (bd Q q 89 z89 [(2, 2, 1), (3, 3, 1)] [x33, x36]) fun x37 =>
  bP (st Q q 89 8 x4 x37 G35) fun G38 =>
  bP (lda Q q 89 8 x4 G38) fun x39 =>
  some (x39, G38)) (
  bP (bn Q q .eql 3 (.tmp 8) (.const (.int .i64 3)) x7 (.int .i64 3)) fun x40 =>
  ifV x40 (
  bP (lda Q q 31 13 x0 (G5.room 8)) fun x41 =>
  bS (e.ev.cl 111 [x41, v1] (G5.room 8)) fun x43 G42 =>
  bP (lda Q q 31 13 x0 G42) fun x44 =>
  chk ((sameO (lda Q q 31 13 x0 (G5.room 8)) x44 && true)) <|
  bS (e.ev.cl 112 [x44, v1] G42) fun x46 G45 =>
  bP (bd Q q 89 z89 [(4, 4, 1), (5, 5, 1)] [x43, x46]) fun x47 =>
  bP (st Q q 89 8 x4 x47 G45) fun G48 =>
  bP (lda Q q 89 8 x4 G48) fun x49 =>
  some (x49, G48)) (
  bP (lda Q q 31 13 x0 (G5.room 8)) fun x50 =>
  bS (e.ev.cl 113 [x50, v1] (G5.room 8)) fun x52 G51 =>
  bP (lda Q q 31 13 x0 G51) fun x53 =>
  chk ((sameO (lda Q q 31 13 x0 (G5.room 8)) x53 && true)) <|
  bS (e.ev.cl 114 [x53, v1] G51) fun x55 G54 =>
  bP (bd Q q 89 z89 [(6, 6, 1), (7, 7, 1)] [x52, x55]) fun x56 =>
  bP (st Q q 89 8 x4 x56 G54) fun G57 =>
  bP (lda Q q 89 8 x4 G57) fun x58 =>
  some (x58, G57))))
theorem m30 {e : Ex} {E : Ev} (h : ExLe Q e E) (v0 v1 v2 : Value) (G : GS) : Ref (s30 true e v0 v1 v2 G) (s30 false (Ex.of E) v0 v1 v2 G) := by
  unfold s30
  exact Ref.gq
theorem f30 {orc : FuncId → Bool} {e : Ex} (h : ExLe Q e (E orc)) (v0 v1 v2 : Value) (G : GS) : Ref (s30 true e v0 v1 v2 G) ((E orc).cl 30 [v0, v1, v2] G) :=
  fun r hr => cl_sxE_some Q orc (vs := [v0, v1, v2]) G Tryz.func30 (by kernel_rfl) (by kernel_rfl) (by kernel_rfl) (by kernel_rfl) (by kernel_rfl) (by kernel_rfl) (m30 h v0 v1 v2 G r hr)
/-- (coxswain/coxswainlaw19.both).told -/
noncomputable def s31 (q : Bool) (e : Ex) (v0 : Value) (G : GS) : Option (Value × GS) :=
  bS (bx q v0 G) fun x0 G1 =>
  bP (fa Q q 89 1 1 x0) fun x2 =>
  bP (ld Q q 81 x2 G1) fun x3 =>
  bP (ep Q q true 81 (.tmp 17) (.const (.pointer none)) x3 (.pointer none)) fun x4 =>
  ifV x4 (
  bP (fa Q q 89 0 0 x0) fun x5 =>
  bP (ld Q q 80 x5 (G1.room 19)) fun x6 =>
  bS (e.ev.cl 115 [x6] (G1.room 19)) fun x8 G7 =>
  bP (fa Q q 89 1 1 x0) fun x9 =>
  bP (ld Q q 81 x9 G7) fun x10 =>
  chk ((sameO (ld Q q 81 x9 (G1.room 19)) x10 && true)) <|
  bS (e.ev.cl 116 [x10] G7) fun x12 G11 =>
  bP (bn Q q .eql 33 (.tmp 21) (.tmp 24) x8 x12) fun x13 =>
  bS (gd x13 true (bP (fa Q q 89 0 0 x0) fun y => some (y, G11)) G11) fun x14 _ =>
  bS (gd x13 true (bP (ld Q q 80 x14 G11) fun y => some (y, G11)) G11) fun x15 _ =>
  bS (gd x13 true (bS (e.ev.cl 117 [x15] G11) fun y G => some (y, G)) G11) fun x17 G16 =>
  bS (gd x13 true (bP (fa Q q 89 1 1 x0) fun y => some (y, G16)) G16) fun x18 _ =>
  bS (gd x13 true (bP (ld Q q 81 x18 G16) fun y => some (y, G16)) G16) fun x19 _ =>
  chk (((!(gB x13 true) || (!(gB x13 true) || sameO (ld Q q 81 x18 G11) x19)) && true)) <|
  bS (gd x13 true (bP (pNil x19) fun y => some (y, G16)) G16) fun x20 _ =>
  bS (gd x13 true (bP (fa Q q 210 0 0 x20) fun y => some (y, G16)) G16) fun x21 _ =>
  bS (gd x13 true (bS (e.ev.cl 118 [x21] G16) fun y G => some (y, G)) G16) fun x23 G22 =>
  bS (gd x13 true (bP (bn Q q .eql 41 (.tmp 29) (.tmp 34) x17 x23) fun y => some (y, G22)) G22) fun x24 _ =>
  bP (pickV x13 x24 (.bool false)) fun x25 =>
  some (x25, G22)) (
  bP (fa Q q 89 3 3 x0) fun x26 =>
  bP (ld Q q 83 x26 G1) fun x27 =>
  bP (ep Q q true 83 (.tmp 39) (.const (.pointer none)) x27 (.pointer none)) fun x28 =>
  ifV x28 (
  bP (fa Q q 89 2 2 x0) fun x29 =>
  bP (ld Q q 82 x29 G1) fun x30 =>
  bS (e.ev.cl 119 [x30] G1) fun x31 G32 =>
  bP (pExtract x31 0) fun x33 =>
  bP (pExtract x31 1) fun x34 =>
  bS (al Q q 44 z44 G32) fun x35 G36 =>
  bP (st Q q 44 2 x35 x33 G36) fun G37 =>
  bP (fa Q q 89 3 3 x0) fun x38 =>
  bP (ld Q q 83 x38 G37) fun x39 =>
  bS (e.ev.cl 120 [x39] G37) fun x40 G41 =>
  bP (pExtract x40 0) fun x42 =>
  bP (pExtract x40 1) fun x43 =>
  bS (al Q q 44 z44 G41) fun x44 G45 =>
  bP (st Q q 44 2 x44 x42 G45) fun G46 =>
  bP (lda Q q 44 2 x35 (G46.room 20)) fun x47 =>
  bP (lda Q q 44 2 x44 (G46.room 20)) fun x48 =>
  bP (bn Q q .eql 44 (.tmp 53) (.tmp 54) x47 x48) fun x49 =>
  bS (gd x49 true (some (x34, (G46.room 20))) (G46.room 20)) fun x50 _ =>
  bS (gd x49 true (some (x43, (G46.room 20))) (G46.room 20)) fun x51 _ =>
  bS (gd x49 true (bP (bn Q q .eql 33 (.tmp 57) (.tmp 58) x50 x51) fun y => some (y, (G46.room 20))) (G46.room 20)) fun x52 _ =>
  bP (pickV x49 x52 (.bool false)) fun x53 =>
  bS (gd x53 true (bP (fa Q q 89 2 2 x0) fun y => some (y, (G46.room 20))) (G46.room 20)) fun x54 _ =>
  bS (gd x53 true (bP (ld Q q 82 x54 (G46.room 20)) fun y => some (y, (G46.room 20))) (G46.room 20)) fun x55 _ =>
  bS (gd x53 true (bS (e.ev.cl 121 [x55] (G46.room 20)) fun y G => some (y, G)) (G46.room 20)) fun x57 G56 =>
  bS (gd x53 true (bP (fa Q q 89 3 3 x0) fun y => some (y, G56)) G56) fun x58 _ =>
  bS (gd x53 true (bP (ld Q q 83 x58 G56) fun y => some (y, G56)) G56) fun x59 _ =>
  chk (((!(gB x53 true) || (!(gB x53 true) || sameO (ld Q q 83 x58 (G46.room 20)) x59)) && true)) <|
  bS (gd x53 true (bP (pNil x59) fun y => some (y, G56)) G56) fun x60 _ =>
  bS (gd x53 true (bP (fa Q q 212 0 0 x60) fun y => some (y, G56)) G56) fun x61 _ =>
  bS (gd x53 true (bS (e.ev.cl 118 [x61] G56) fun y G => some (y, G)) G56) fun x63 G62 =>
  bS (gd x53 true (bP (bn Q q .eql 41 (.tmp 64) (.tmp 69) x57 x63) fun y => some (y, G62)) G62) fun x64 _ =>
  bP (pickV x53 x64 (.bool false)) fun x65 =>
  some (x65, G62)) (
  bP (fa Q q 89 5 5 x0) fun x66 =>
  bP (ld Q q 85 x66 G1) fun x67 =>
  bP (ep Q q true 85 (.tmp 74) (.const (.pointer none)) x67 (.pointer none)) fun x68 =>
  ifV x68 (
  bP (fa Q q 89 4 4 x0) fun x69 =>
  bP (ld Q q 84 x69 G1) fun x70 =>
  bS (e.ev.cl 122 [x70] G1) fun x71 G72 =>
  bP (pExtract x71 0) fun x73 =>
  bP (pExtract x71 1) fun x74 =>
  bS (al Q q 44 z44 G72) fun x75 G76 =>
  bP (st Q q 44 2 x75 x73 G76) fun G77 =>
  bP (fa Q q 89 5 5 x0) fun x78 =>
  bP (ld Q q 85 x78 G77) fun x79 =>
  bS (e.ev.cl 123 [x79] G77) fun x80 G81 =>
  bP (pExtract x80 0) fun x82 =>
  bP (pExtract x80 1) fun x83 =>
  bS (al Q q 44 z44 G81) fun x84 G85 =>
  bP (st Q q 44 2 x84 x82 G85) fun G86 =>
  bP (lda Q q 44 2 x75 (G86.room 20)) fun x87 =>
  bP (lda Q q 44 2 x84 (G86.room 20)) fun x88 =>
  bP (bn Q q .eql 44 (.tmp 88) (.tmp 89) x87 x88) fun x89 =>
  bS (gd x89 true (some (x74, (G86.room 20))) (G86.room 20)) fun x90 _ =>
  bS (gd x89 true (some (x83, (G86.room 20))) (G86.room 20)) fun x91 _ =>
  bS (gd x89 true (bP (bn Q q .eql 33 (.tmp 92) (.tmp 93) x90 x91) fun y => some (y, (G86.room 20))) (G86.room 20)) fun x92 _ =>
  bP (pickV x89 x92 (.bool false)) fun x93 =>
  bS (gd x93 true (bP (fa Q q 89 4 4 x0) fun y => some (y, (G86.room 20))) (G86.room 20)) fun x94 _ =>
  bS (gd x93 true (bP (ld Q q 84 x94 (G86.room 20)) fun y => some (y, (G86.room 20))) (G86.room 20)) fun x95 _ =>
  bS (gd x93 true (bS (e.ev.cl 124 [x95] (G86.room 20)) fun y G => some (y, G)) (G86.room 20)) fun x97 G96 =>
  bS (gd x93 true (bP (fa Q q 89 5 5 x0) fun y => some (y, G96)) G96) fun x98 _ =>
  bS (gd x93 true (bP (ld Q q 85 x98 G96) fun y => some (y, G96)) G96) fun x99 _ =>
  chk (((!(gB x93 true) || (!(gB x93 true) || sameO (ld Q q 85 x98 (G86.room 20)) x99)) && true)) <|
  bS (gd x93 true (bP (pNil x99) fun y => some (y, G96)) G96) fun x100 _ =>
  bS (gd x93 true (bP (fa Q q 214 0 0 x100) fun y => some (y, G96)) G96) fun x101 _ =>
  bS (gd x93 true (bS (e.ev.cl 118 [x101] G96) fun y G => some (y, G)) G96) fun x103 G102 =>
  bS (gd x93 true (bP (bn Q q .eql 41 (.tmp 99) (.tmp 104) x97 x103) fun y => some (y, G102)) G102) fun x104 _ =>
  bP (pickV x93 x104 (.bool false)) fun x105 =>
  some (x105, G102)) (
  bP (fa Q q 89 7 7 x0) fun x106 =>
  bP (ld Q q 87 x106 G1) fun x107 =>
  bP (ep Q q true 87 (.tmp 109) (.const (.pointer none)) x107 (.pointer none)) fun x108 =>
  ifV x108 (
  bP (fa Q q 89 6 6 x0) fun x109 =>
  bP (ld Q q 86 x109 G1) fun x110 =>
  bS (e.ev.cl 125 [x110] G1) fun x111 G112 =>
  bP (pExtract x111 0) fun x113 =>
  bP (pExtract x111 1) fun x114 =>
  bP (fa Q q 89 7 7 x0) fun x115 =>
  bP (ld Q q 87 x115 G112) fun x116 =>
  bS (e.ev.cl 126 [x116] G112) fun x117 G118 =>
  bP (pExtract x117 0) fun x119 =>
  bP (pExtract x117 1) fun x120 =>
  bP (bn Q q .eql 3 (.tmp 123) (.tmp 124) x113 x119) fun x121 =>
  bS (gd x121 true (some (x114, G118)) G118) fun x122 G123 =>
  bS (gd x121 true (some (x120, G123)) G123) fun x124 G125 =>
  bS (gd x121 true (bP (bn Q q .eql 33 (.tmp 127) (.tmp 128) x122 x124) fun y => some (y, G125)) G125) fun x126 G127 =>
  bP (pickV x121 x126 (.bool false)) fun x128 =>
  some (x128, G127)) (
  some ((.bool true), G1)))))
theorem m31 {e : Ex} {E : Ev} (h : ExLe Q e E) (v0 : Value) (G : GS) : Ref (s31 true e v0 G) (s31 false (Ex.of E) v0 G) := by
  unfold s31
  exact Ref.gq
set_option maxHeartbeats 8000000 in
theorem f31 {orc : FuncId → Bool} {e : Ex} (h : ExLe Q e (E orc)) (v0 : Value) (G : GS) : Ref (s31 true e v0 G) ((E orc).cl 31 [v0] G) :=
  fun r hr => cl_sxE_some Q orc (vs := [v0]) G Tryz.func31 (by kernel_rfl) (by kernel_rfl) (by kernel_rfl) (by kernel_rfl) (by kernel_rfl) (by kernel_rfl) (m31 h v0 G r hr)
/-- coxswain/coxswainref18.NewClaim -/
noncomputable def s43 (q : Bool) (e : Ex) (v0 : Value) (G : GS) : Option (Value × GS) :=
  bS (bx q v0 G) fun x0 G1 =>
  bP (lda Q q 31 13 x0 G1) fun x2 =>
  bS (e.ev.cl 18 [x2] G1) fun x3 G4 =>
  bP (un Q q .not x3) fun x5 =>
  ifV x5 (
  bP (bd Q q 128 z128 [(2, 14, 1), (12, 25, 1)] [(.int .i64 99), (.int .i64 2)]) fun x6 =>
  bS (bx q x6 G4) fun x7 G8 =>
  some (x7, G8)) (
  bP (lda Q q 31 13 x0 G4) fun x9 =>
  bP (bd Q q 128 z128 [(0, 0, 13), (2, 14, 1)] [x9, (.int .i64 1)]) fun x10 =>
  bS (bx q x10 G4) fun x11 G12 =>
  some (x11, G12))
theorem m43 {e : Ex} {E : Ev} (h : ExLe Q e E) (v0 : Value) (G : GS) : Ref (s43 true e v0 G) (s43 false (Ex.of E) v0 G) := by
  unfold s43
  exact Ref.gq
theorem f43 {orc : FuncId → Bool} {e : Ex} (h : ExLe Q e (E orc)) (v0 : Value) (G : GS) : Ref (s43 true e v0 G) ((E orc).cl 43 [v0] G) :=
  fun r hr => cl_sxE_some Q orc (vs := [v0]) G Tryz.func43 (by kernel_rfl) (by kernel_rfl) (by kernel_rfl) (by kernel_rfl) (by kernel_rfl) (by kernel_rfl) (m43 h v0 G r hr)
/-- coxswain/coxswainref18.NewPeek -/
noncomputable def s44 (q : Bool) (e : Ex) (v0 : Value) (G : GS) : Option (Value × GS) :=
  bS (bx q v0 G) fun x0 G1 =>
  bP (lda Q q 31 13 x0 G1) fun x2 =>
  bS (e.ev.cl 43 [x2] G1) fun x3 G4 =>
  bP (pNil x3) fun x5 =>
  bP (lda Q q 128 26 x5 G4) fun x6 =>
  bP (bd Q q 130 z130 [(0, 0, 26)] [x6]) fun x7 =>
  bS (bx q x7 G4) fun x8 G9 =>
  bP (pNil x8) fun x10 =>
  bP (fa Q q 130 0 0 x10) fun x11 =>
  bP (fa Q q 128 1 13 x11) fun x12 =>
  bP (st Q q 4 1 x12 (.bool true) G9) fun G13 =>
  some (x8, G13)
theorem m44 {e : Ex} {E : Ev} (h : ExLe Q e E) (v0 : Value) (G : GS) : Ref (s44 true e v0 G) (s44 false (Ex.of E) v0 G) := by
  unfold s44
  exact Ref.gq
theorem f44 {orc : FuncId → Bool} {e : Ex} (h : ExLe Q e (E orc)) (v0 : Value) (G : GS) : Ref (s44 true e v0 G) ((E orc).cl 44 [v0] G) :=
  fun r hr => cl_sxE_some Q orc (vs := [v0]) G Tryz.func44 (by kernel_rfl) (by kernel_rfl) (by kernel_rfl) (by kernel_rfl) (by kernel_rfl) (by kernel_rfl) (m44 h v0 G r hr)
/-- coxswain/tower.Next -/
noncomputable def s69 (q : Bool) (e : Ex) (v0 v1 v2 : Value) (G : GS) : Option (Value × GS) :=
  bS (bx q v0 G) fun x0 G1 =>
  bP (bn Q q .lss 3 (.tmp 7) (.const (.int .i64 0)) v2 (.int .i64 0)) fun x2 =>
  bS (gd x2 false (some (v2, G1)) G1) fun x3 G4 =>
  bS (gd x2 false (bP (bn Q q .geq 3 (.tmp 10) (.const (.int .i64 4)) x3 (.int .i64 4)) fun y => some (y, G4)) G4) fun x5 G6 =>
  bP (pickV x2 (.bool true) x5) fun x7 =>
  ifV x7 (
  some ((.int .i64 (-1)), G6)) (
  bP (lda Q q 31 13 x0 G6) fun x8 =>
  bP (bn Q q .add 3 (.const (.int .i64 4)) (.tmp 15) (.int .i64 4) v2) fun x9 =>
  bS (e.ev.cl 191 [x8, v1, x9] G6) fun x10 G11 =>
  some (x10, G11))
theorem m69 {e : Ex} {E : Ev} (h : ExLe Q e E) (v0 v1 v2 : Value) (G : GS) : Ref (s69 true e v0 v1 v2 G) (s69 false (Ex.of E) v0 v1 v2 G) := by
  unfold s69
  exact Ref.gq
theorem f69 {orc : FuncId → Bool} {e : Ex} (h : ExLe Q e (E orc)) (v0 v1 v2 : Value) (G : GS) : Ref (s69 true e v0 v1 v2 G) ((E orc).cl 69 [v0, v1, v2] G) :=
  fun r hr => cl_sxE_some Q orc (vs := [v0, v1, v2]) G Tryz.func69 (by kernel_rfl) (by kernel_rfl) (by kernel_rfl) (by kernel_rfl) (by kernel_rfl) (by kernel_rfl) (m69 h v0 v1 v2 G r hr)
/-- coxswain/tower.sound -/
noncomputable def s102 (q : Bool) (e : Ex) (v0 : Value) (G : GS) : Option (Value × GS) :=
  bS (bx q v0 G) fun x0 G1 =>
  bP (fa Q q 31 3 3 x0) fun x2 =>
  bP (fa Q q 29 0 0 x2) fun x3 =>
  bP (fa Q q 25 0 0 x3) fun x4 =>
  bP (fa Q q 23 2 2 x4) fun x5 =>
  bP (ld Q q 3 x5 G1) fun x6 =>
  bP (fa Q q 31 2 2 x0) fun x7 =>
  bP (ld Q q 3 x7 G1) fun x8 =>
  bP (bn Q q .geq 3 (.tmp 10) (.const (.int .i64 1)) x8 (.int .i64 1)) fun x9 =>
  bS (gd x9 true (bP (fa Q q 31 2 2 x0) fun y => some (y, G1)) G1) fun x10 G11 =>
  bS (gd x9 true (bP (ld Q q 3 x10 G11) fun y => some (y, G11)) G11) fun x12 G13 =>
  bS (gd x9 true (bP (bn Q q .leq 3 (.tmp 14) (.const (.int .i64 4)) x12 (.int .i64 4)) fun y => some (y, G13)) G13) fun x14 G15 =>
  bP (pickV x9 x14 (.bool false)) fun x16 =>
  bS (gd x16 true (some (x6, G15)) G15) fun x17 G18 =>
  bS (gd x16 true (bP (bn Q q .geq 3 (.tmp 18) (.const (.int .i64 1)) x17 (.int .i64 1)) fun y => some (y, G18)) G18) fun x19 G20 =>
  bP (pickV x16 x19 (.bool false)) fun x21 =>
  bS (gd x21 true (some (x6, G20)) G20) fun x22 G23 =>
  bS (gd x21 true (bP (bn Q q .leq 3 (.tmp 22) (.const (.int .i64 128)) x22 (.int .i64 128)) fun y => some (y, G23)) G23) fun x24 G25 =>
  bP (pickV x21 x24 (.bool false)) fun x26 =>
  bS (gd x26 true (bP (fa Q q 31 0 0 x0) fun y => some (y, G25)) G25) fun x27 G28 =>
  bS (gd x26 true (bP (ld Q q 3 x27 G28) fun y => some (y, G28)) G28) fun x29 G30 =>
  bS (gd x26 true (bP (bn Q q .geq 3 (.tmp 27) (.const (.int .i64 0)) x29 (.int .i64 0)) fun y => some (y, G30)) G30) fun x31 G32 =>
  bP (pickV x26 x31 (.bool false)) fun x33 =>
  bS (gd x33 true (bP (fa Q q 31 0 0 x0) fun y => some (y, G32)) G32) fun x34 G35 =>
  bS (gd x33 true (bP (ld Q q 3 x34 G35) fun y => some (y, G35)) G35) fun x36 G37 =>
  bS (gd x33 true (bP (bn Q q .lss 3 (.tmp 32) (.const (.int .i64 4096)) x36 (.int .i64 4096)) fun y => some (y, G37)) G37) fun x38 G39 =>
  bP (pickV x33 x38 (.bool false)) fun x40 =>
  bS (gd x40 true (bP (fa Q q 31 1 1 x0) fun y => some (y, G39)) G39) fun x41 G42 =>
  bS (gd x40 true (bP (ld Q q 3 x41 G42) fun y => some (y, G42)) G42) fun x43 G44 =>
  bS (gd x40 true (bP (bn Q q .geq 3 (.tmp 37) (.const (.int .i64 0)) x43 (.int .i64 0)) fun y => some (y, G44)) G44) fun x45 G46 =>
  bP (pickV x40 x45 (.bool false)) fun x47 =>
  bS (gd x47 true (bP (fa Q q 31 1 1 x0) fun y => some (y, G46)) G46) fun x48 G49 =>
  bS (gd x47 true (bP (ld Q q 3 x48 G49) fun y => some (y, G49)) G49) fun x50 G51 =>
  bS (gd x47 true (bP (bn Q q .lss 3 (.tmp 42) (.const (.int .i64 4096)) x50 (.int .i64 4096)) fun y => some (y, G51)) G51) fun x52 G53 =>
  bP (pickV x47 x52 (.bool false)) fun x54 =>
  some (x54, G53)
theorem m102 {e : Ex} {E : Ev} (h : ExLe Q e E) (v0 : Value) (G : GS) : Ref (s102 true e v0 G) (s102 false (Ex.of E) v0 G) := by
  unfold s102
  exact Ref.gq
theorem f102 {orc : FuncId → Bool} {e : Ex} (h : ExLe Q e (E orc)) (v0 : Value) (G : GS) : Ref (s102 true e v0 G) ((E orc).cl 102 [v0] G) :=
  fun r hr => cl_sxE_some Q orc (vs := [v0]) G Tryz.func102 (by kernel_rfl) (by kernel_rfl) (by kernel_rfl) (by kernel_rfl) (by kernel_rfl) (by kernel_rfl) (m102 h v0 G r hr)
/-- coxswain/tower.nodes -/
noncomputable def s103 (q : Bool) (e : Ex) (v0 : Value) (G : GS) : Option (Value × GS) :=
  bS (bx q v0 G) fun x0 G1 =>
  bS (al Q q 187 z187 G1) fun x2 G3 =>
  bP (fa Q q 31 0 0 x0) fun x4 =>
  bP (ld Q q 3 x4 G3) fun x5 =>
  bP (fa Q q 31 3 3 x0) fun x6 =>
  bP (fa Q q 29 0 0 x6) fun x7 =>
  bP (fa Q q 25 0 0 x7) fun x8 =>
  bP (fa Q q 23 2 2 x8) fun x9 =>
  bP (ld Q q 3 x9 G3) fun x10 =>
  bP (fa Q q 31 2 2 x0) fun x11 =>
  bP (ld Q q 3 x11 G3) fun x12 =>
  bP (bd Q q 187 z187 [(0, 0, 1), (1, 1, 1), (2, 2, 1)] [x5, x10, x12]) fun x13 =>
  bP (st Q q 187 3 x2 x13 G3) fun G14 =>
  bP (lda Q q 187 3 x2 G14) fun x15 =>
  some (x15, G14)
theorem m103 {e : Ex} {E : Ev} (h : ExLe Q e E) (v0 : Value) (G : GS) : Ref (s103 true e v0 G) (s103 false (Ex.of E) v0 G) := by
  unfold s103
  exact Ref.gq
theorem f103 {orc : FuncId → Bool} {e : Ex} (h : ExLe Q e (E orc)) (v0 : Value) (G : GS) : Ref (s103 true e v0 G) ((E orc).cl 103 [v0] G) :=
  fun r hr => cl_sxE_some Q orc (vs := [v0]) G Tryz.func103 (by kernel_rfl) (by kernel_rfl) (by kernel_rfl) (by kernel_rfl) (by kernel_rfl) (by kernel_rfl) (m103 h v0 G r hr)
/-- coxswain/tower.heads -/
noncomputable def s105 (q : Bool) (e : Ex) (v0 : Value) (G : GS) : Option (Value × GS) :=
  bS (bx q v0 G) fun x0 G1 =>
  bS (al Q q 192 z192 G1) fun x2 G3 =>
  bP (fa Q q 31 1 1 x0) fun x4 =>
  bP (ld Q q 3 x4 G3) fun x5 =>
  bP (fa Q q 31 2 2 x0) fun x6 =>
  bP (ld Q q 3 x6 G3) fun x7 =>
  bP (bd Q q 192 z192 [(0, 0, 1), (1, 1, 1), (2, 2, 1)] [x5, (.int .i64 1), x7]) fun x8 =>
  bP (st Q q 192 3 x2 x8 G3) fun G9 =>
  bP (lda Q q 192 3 x2 G9) fun x10 =>
  some (x10, G9)
theorem m105 {e : Ex} {E : Ev} (h : ExLe Q e E) (v0 : Value) (G : GS) : Ref (s105 true e v0 G) (s105 false (Ex.of E) v0 G) := by
  unfold s105
  exact Ref.gq
theorem f105 {orc : FuncId → Bool} {e : Ex} (h : ExLe Q e (E orc)) (v0 : Value) (G : GS) : Ref (s105 true e v0 G) ((E orc).cl 105 [v0] G) :=
  fun r hr => cl_sxE_some Q orc (vs := [v0]) G Tryz.func105 (by kernel_rfl) (by kernel_rfl) (by kernel_rfl) (by kernel_rfl) (by kernel_rfl) (by kernel_rfl) (m105 h v0 G r hr)
noncomputable def jb107_0 (q : Bool) (e : Ex) (τ : Env) (G : GS) : Option (Value × GS) :=
  bV q (τ 11) fun a11_ =>
  bP (pNil a11_) fun x8 =>
  bP (fa Q q 303 0 0 x8) fun x9 =>
  bP (fa Q q 300 6 18 x9) fun x10 =>
  bP (ld Q q 33 x10 G) fun x11 =>
  bP (bn Q q .eql 33 (.tmp 56) (.const (.int .i64 0)) x11 (.int .i64 0)) fun x12 =>
  ifV x12 (
  bP (pNil a11_) fun x13 =>
  bP (fa Q q 303 0 0 x13) fun x14 =>
  bS (e.ev.cl 214 [x14] G) fun x15 G16 =>
  bS (e.ev.cl 215 [a11_] G16) fun x17 G18 =>
  bS (bs Q q 298 2 (rep z305 2) 1 [(0, 0, 1), (1, 1, 1)] [x15, x17] G18) fun x19 G20 =>
  bP (pNil a11_) fun x21 =>
  bP (fa Q q 303 0 0 x21) fun x22 =>
  bP (fa Q q 300 4 16 x22) fun x23 =>
  bP (st Q q 298 1 x23 x19 G20) fun G24 =>
  some (a11_, G24)) (
  some (a11_, G))
noncomputable def j107_0 (q : Bool) (e : Ex) (τ : Env) (G : GS) : Option (Value × GS) := jb107_0 q e τ G
theorem mj107_0 {e : Ex} {E : Ev} (h : ExLe Q e E) (τ : Env) (G : GS) : Ref (j107_0 true e τ G) (j107_0 false (Ex.of E) τ G) := by
  unfold j107_0 jb107_0
  exact Ref.gq
theorem mkj107_0 {e : Ex} {E : Ev} (h : ExLe Q e E) {τ : Env} {l U : List (Nat × Value)} {G : GS} (hU : UOk τ U) : Ref (j107_0 true e (xq true 70 τ l U) G) (j107_0 false (Ex.of E) (xq false 70 τ l U) G) := by
  rw [xq_eq hU]
  exact mj107_0 h _ _
noncomputable def sb107 (q : Bool) (e : Ex) (J0 : Env → GS → Option (Value × GS)) (v0 v1 v2 v3 v4 : Value) (G : GS) : Option (Value × GS) :=
  bS (bx q v0 G) fun x0 G1 =>
  bP (lda Q q 31 13 x0 G1) fun x2 =>
  bS (e.ev.cl 213 [x2, v1] G1) fun x3 G4 =>
  bP (bd Q q 303 z303 [(0, 0, 19), (1, 19, 1), (2, 20, 1), (3, 21, 1)] [x3, v2, v3, v4]) fun x5 =>
  bS (bx q x5 G4) fun x6 G7 =>
  bP (pNil x6) fun x25 =>
  bP (fa Q q 303 0 0 x25) fun x26 =>
  bP (fa Q q 300 6 18 x26) fun x27 =>
  bP (ld Q q 33 x27 G7) fun x28 =>
  bP (bn Q q .eql 33 (.tmp 24) (.const (.int .i64 0)) x28 (.int .i64 0)) fun x29 =>
  bS (gd x29 true (some (v2, G7)) G7) fun x30 G31 =>
  bS (gd x29 true (bP (bn Q q .eql 41 (.tmp 27) (.const (.int .u64 18446744073709551615)) x30 (.int .u64 18446744073709551615)) fun y => some (y, G31)) G31) fun x32 G33 =>
  bS (gd x29 true (some (x32, G33)) G33) fun x34 G35 =>
  bS (gd x34 false (some (v3, G35)) G35) fun x36 G37 =>
  bS (gd x34 false (bP (bn Q q .lss 3 (.tmp 30) (.const (.int .i64 0)) x36 (.int .i64 0)) fun y => some (y, G37)) G37) fun x38 G39 =>
  bS (gd x29 true (bP (pickV x34 (.bool true) x38) fun y => some (y, G39)) G39) fun x40 G41 =>
  bS (gd x29 true (some (x40, G41)) G41) fun x42 G43 =>
  bS (gd x42 false (some (v3, G43)) G43) fun x44 G45 =>
  bS (gd x42 false (bP (bn Q q .gtr 3 (.tmp 34) (.const (.int .i64 65534)) x44 (.int .i64 65534)) fun y => some (y, G45)) G45) fun x46 G47 =>
  bS (gd x29 true (bP (pickV x42 (.bool true) x46) fun y => some (y, G47)) G47) fun x48 G49 =>
  bS (gd x29 true (some (x48, G49)) G49) fun x50 G51 =>
  bS (gd x50 false (some (v4, G51)) G51) fun x52 G53 =>
  bS (gd x50 false (bP (bn Q q .lss 3 (.tmp 38) (.const (.int .i64 1)) x52 (.int .i64 1)) fun y => some (y, G53)) G53) fun x54 G55 =>
  bS (gd x29 true (bP (pickV x50 (.bool true) x54) fun y => some (y, G55)) G55) fun x56 G57 =>
  bS (gd x29 true (some (x56, G57)) G57) fun x58 G59 =>
  bS (gd x58 false (some (v4, G59)) G59) fun x60 G61 =>
  bS (gd x58 false (bP (fa Q q 31 2 2 x0) fun y => some (y, G61)) G61) fun x62 G63 =>
  bS (gd x58 false (bP (ld Q q 3 x62 G63) fun y => some (y, G63)) G63) fun x64 G65 =>
  bS (gd x58 false (bP (bn Q q .gtr 3 (.tmp 42) (.tmp 44) x60 x64) fun y => some (y, G65)) G65) fun x66 G67 =>
  bS (gd x29 true (bP (pickV x58 (.bool true) x66) fun y => some (y, G67)) G67) fun x68 G69 =>
  bP (pickV x29 x68 (.bool false)) fun x70 =>
  ifV x70 (
  bP (pNil x6) fun x71 =>
  bP (fa Q q 303 0 0 x71) fun x72 =>
  bP (fa Q q 300 6 18 x72) fun x73 =>
  bP (st Q q 33 1 x73 (.int .i64 3) G69) fun G74 =>
  J0 (xq q 70 (nth undef [v0, v1, v2, v3, v4]) [(51, x73), (50, x72), (49, x71), (48, x6), (47, x70), (46, x68), (45, x66), (44, x64), (43, x62), (42, x60), (41, x58), (40, x56), (39, x54), (38, x52), (37, x50), (36, x48), (35, x46), (34, x44), (33, x42), (32, x40), (31, x38), (30, x36), (29, x34), (28, x32), (27, x30), (26, x29), (25, x29), (24, x28), (23, x27), (22, x26), (21, x25), (20, x6), (11, x6), (19, x6), (18, x5), (17, v4), (16, v3), (15, v2), (14, x3), (13, v1), (12, x2), (10, (.pointer none)), (5, x0)] []) G74) (
  J0 (xq q 70 (nth undef [v0, v1, v2, v3, v4]) [(47, x70), (46, x68), (45, x66), (44, x64), (43, x62), (42, x60), (41, x58), (40, x56), (39, x54), (38, x52), (37, x50), (36, x48), (35, x46), (34, x44), (33, x42), (32, x40), (31, x38), (30, x36), (29, x34), (28, x32), (27, x30), (26, x29), (25, x29), (24, x28), (23, x27), (22, x26), (21, x25), (20, x6), (11, x6), (19, x6), (18, x5), (17, v4), (16, v3), (15, v2), (14, x3), (13, v1), (12, x2), (10, (.pointer none)), (5, x0)] []) G69)
/-- coxswain/ready.NewPut -/
noncomputable def s107 (q : Bool) (e : Ex) (v0 v1 v2 v3 v4 : Value) (G : GS) : Option (Value × GS) := sb107 q e (j107_0 q e) v0 v1 v2 v3 v4 G
theorem m107 {e : Ex} {E : Ev} (h : ExLe Q e E) (v0 v1 v2 v3 v4 : Value) (G : GS) : Ref (s107 true e v0 v1 v2 v3 v4 G) (s107 false (Ex.of E) v0 v1 v2 v3 v4 G) := by
  unfold s107 sb107
  repeat' (with_reducible first | exact Ref.rfl' _ | exact ROp.r | refine Ref.bP ?_ fun _ => ?_ | refine Ref.bS ?_ fun _ _ => ?_ | exact Ref.cl (by assumption) | refine Ref.ifV ?_ ?_ | refine LpLe.rx (by assumption) ?_ | refine Ref.xitq ?_ | exact UOk.z | refine UOk.c (by assumption) ?_ | exact Ref.nil _ | refine Ref.bVe fun _ _ => ?_ | refine Ref.bLq (by assumption) ?_ fun _ _ _ => ?_ | refine Ref.ifE ?_ ?_ | refine Ref.chk ?_ ?_ | refine Imp.and ?_ ?_ | refine Imp.or ?_ | exact Imp.rfl' _ | refine Imp.sameO ?_ | refine Ref.gd ?_ | exact Ref.cValue (by assumption) | refine Ref.bX ?_ fun _ _ _ => ?_ | exact Ref.scQ (by assumption) | exact Ref.xRangeQ (by assumption) | exact Ref.cInvoke (by assumption) | refine mkj107_0 (by assumption) ?_)
noncomputable def jt107 (J0 : Env → GS → Option (Value × GS)) : JT (Value × GS) :=
  (.n none .e (.n none .e (.n (some (fun T G => J0 (nth undef T) G)) .e .e)))
theorem jr107_0 (orc : FuncId → Bool) (J0 : Env → GS → Option (Value × GS)) (T : List Value) (G : GS) : runC Q (evL Q orc) Tryz.f107.ntmps (jt107 J0) (bodyOf Tryz.f107) (retE Q Tryz.f107.results.toList) [true, true] (nth undef T) G = jb107_0 false (Ex.of (E orc))  (nth undef T) G := by kernel_rfl
theorem jo107 (orc : FuncId → Bool) : JOk Q orc Tryz.f107.ntmps (jt107 (j107_0 false (Ex.of (E orc))) ) (bodyOf Tryz.f107) (retE Q Tryz.f107.results.toList) :=
  jOk Q orc (l := [([true, true], (fun T G => j107_0 false (Ex.of (E orc)) (nth undef T) G))]) (by kernel_rfl) (AllE.c (fun T G => jr107_0 orc (j107_0 false (Ex.of (E orc))) T G) (AllE.z))
theorem je107 (orc : FuncId → Bool) (J0 : Env → GS → Option (Value × GS)) (v0 v1 v2 v3 v4 : Value) (G : GS) : sxC Q (evL Q orc) Tryz.f107.ntmps (jt107 J0) (bodyOf Tryz.f107) (nth undef [v0, v1, v2, v3, v4]) G (retE Q Tryz.f107.results.toList) = sb107 false (Ex.of (E orc)) J0 v0 v1 v2 v3 v4 G := by kernel_rfl
theorem f107 {orc : FuncId → Bool} {e : Ex} (h : ExLe Q e (E orc)) (v0 v1 v2 v3 v4 : Value) (G : GS) : Ref (s107 true e v0 v1 v2 v3 v4 G) ((E orc).cl 107 [v0, v1, v2, v3, v4] G) :=
  fun r hr => cl_sxC Q orc (vs := [v0, v1, v2, v3, v4]) G (jt107 (j107_0 false (Ex.of (E orc))) ) Tryz.func107 (by kernel_rfl) (by kernel_rfl) (by kernel_rfl) (by kernel_rfl) (by kernel_rfl) (jo107 orc) (je107 orc (j107_0 false (Ex.of (E orc))) v0 v1 v2 v3 v4 G) (m107 h v0 v1 v2 v3 v4 G r hr)
noncomputable def jb108_0 (q : Bool) (e : Ex) (τ : Env) (G : GS) : Option (Value × GS) :=
  bV q (τ 1) fun a1_ =>
  bV q (τ 2) fun a2_ =>
  bV q (τ 3) fun a3_ =>
  bV q (τ 4) fun a4_ =>
  bV q (τ 5) fun a5_ =>
  bV q (τ 11) fun a11_ =>
  bP (lda Q q 31 13 a5_ G) fun x5 =>
  bS (e.ev.cl 217 [x5, a1_, a11_] G) fun x6 G7 =>
  bP (bd Q q 210 z210 [(0, 0, 20), (1, 20, 1), (2, 21, 1), (3, 22, 1)] [x6, a2_, a3_, a4_]) fun x8 =>
  bS (bx q x8 G7) fun x9 G10 =>
  some (x9, G10)
noncomputable def j108_0 (q : Bool) (e : Ex) (τ : Env) (G : GS) : Option (Value × GS) := jb108_0 q e τ G
theorem mj108_0 {e : Ex} {E : Ev} (h : ExLe Q e E) (τ : Env) (G : GS) : Ref (j108_0 true e τ G) (j108_0 false (Ex.of E) τ G) := by
  unfold j108_0 jb108_0
  exact Ref.gq
theorem mkj108_0 {e : Ex} {E : Ev} (h : ExLe Q e E) {τ : Env} {l U : List (Nat × Value)} {G : GS} (hU : UOk τ U) : Ref (j108_0 true e (xq true 48 τ l U) G) (j108_0 false (Ex.of E) (xq false 48 τ l U) G) := by
  rw [xq_eq hU]
  exact mj108_0 h _ _
noncomputable def sb108 (q : Bool) (e : Ex) (J0 : Env → GS → Option (Value × GS)) (v0 v1 v2 v3 v4 : Value) (G : GS) : Option (Value × GS) :=
  bS (bx q v0 G) fun x0 G1 =>
  bP (lda Q q 31 13 x0 G1) fun x2 =>
  bS (e.ev.cl 216 [x2, v1] G1) fun x3 G4 =>
  bP (bn Q q .eql 33 (.tmp 15) (.const (.int .i64 0)) x3 (.int .i64 0)) fun x11 =>
  bS (gd x11 true (some (v2, G4)) G4) fun x12 G13 =>
  bS (gd x11 true (bP (bn Q q .eql 41 (.tmp 18) (.const (.int .u64 18446744073709551615)) x12 (.int .u64 18446744073709551615)) fun y => some (y, G13)) G13) fun x14 G15 =>
  bS (gd x11 true (some (x14, G15)) G15) fun x16 G17 =>
  bS (gd x16 false (some (v3, G17)) G17) fun x18 G19 =>
  bS (gd x16 false (bP (bn Q q .lss 3 (.tmp 21) (.const (.int .i64 0)) x18 (.int .i64 0)) fun y => some (y, G19)) G19) fun x20 G21 =>
  bS (gd x11 true (bP (pickV x16 (.bool true) x20) fun y => some (y, G21)) G21) fun x22 G23 =>
  bS (gd x11 true (some (x22, G23)) G23) fun x24 G25 =>
  bS (gd x24 false (some (v3, G25)) G25) fun x26 G27 =>
  bS (gd x24 false (bP (bn Q q .gtr 3 (.tmp 25) (.const (.int .i64 65534)) x26 (.int .i64 65534)) fun y => some (y, G27)) G27) fun x28 G29 =>
  bS (gd x11 true (bP (pickV x24 (.bool true) x28) fun y => some (y, G29)) G29) fun x30 G31 =>
  bS (gd x11 true (some (x30, G31)) G31) fun x32 G33 =>
  bS (gd x32 false (some (v4, G33)) G33) fun x34 G35 =>
  bS (gd x32 false (bP (bn Q q .lss 3 (.tmp 29) (.const (.int .i64 1)) x34 (.int .i64 1)) fun y => some (y, G35)) G35) fun x36 G37 =>
  bS (gd x11 true (bP (pickV x32 (.bool true) x36) fun y => some (y, G37)) G37) fun x38 G39 =>
  bS (gd x11 true (some (x38, G39)) G39) fun x40 G41 =>
  bS (gd x40 false (some (v4, G41)) G41) fun x42 G43 =>
  bS (gd x40 false (bP (fa Q q 31 2 2 x0) fun y => some (y, G43)) G43) fun x44 G45 =>
  bS (gd x40 false (bP (ld Q q 3 x44 G45) fun y => some (y, G45)) G45) fun x46 G47 =>
  bS (gd x40 false (bP (bn Q q .gtr 3 (.tmp 33) (.tmp 35) x42 x46) fun y => some (y, G47)) G47) fun x48 G49 =>
  bS (gd x11 true (bP (pickV x40 (.bool true) x48) fun y => some (y, G49)) G49) fun x50 G51 =>
  bP (pickV x11 x50 (.bool false)) fun x52 =>
  ifV x52 (
  J0 (xq q 48 (nth undef [v0, v1, v2, v3, v4]) [(11, (.int .i64 3)), (38, x52), (37, x50), (36, x48), (35, x46), (34, x44), (33, x42), (32, x40), (31, x38), (30, x36), (29, x34), (28, x32), (27, x30), (26, x28), (25, x26), (24, x24), (23, x22), (22, x20), (21, x18), (20, x16), (19, x14), (18, x12), (17, x11), (16, x11), (15, x3), (11, x3), (14, x3), (13, v1), (12, x2), (10, (.pointer none)), (5, x0)] []) G51) (
  J0 (xq q 48 (nth undef [v0, v1, v2, v3, v4]) [(38, x52), (37, x50), (36, x48), (35, x46), (34, x44), (33, x42), (32, x40), (31, x38), (30, x36), (29, x34), (28, x32), (27, x30), (26, x28), (25, x26), (24, x24), (23, x22), (22, x20), (21, x18), (20, x16), (19, x14), (18, x12), (17, x11), (16, x11), (15, x3), (11, x3), (14, x3), (13, v1), (12, x2), (10, (.pointer none)), (5, x0)] []) G51)
/-- coxswain/coxswainref19.NewPut -/
noncomputable def s108 (q : Bool) (e : Ex) (v0 v1 v2 v3 v4 : Value) (G : GS) : Option (Value × GS) := sb108 q e (j108_0 q e) v0 v1 v2 v3 v4 G
theorem m108 {e : Ex} {E : Ev} (h : ExLe Q e E) (v0 v1 v2 v3 v4 : Value) (G : GS) : Ref (s108 true e v0 v1 v2 v3 v4 G) (s108 false (Ex.of E) v0 v1 v2 v3 v4 G) := by
  unfold s108 sb108
  repeat' (with_reducible first | exact Ref.rfl' _ | exact ROp.r | refine Ref.bP ?_ fun _ => ?_ | refine Ref.bS ?_ fun _ _ => ?_ | exact Ref.cl (by assumption) | refine Ref.ifV ?_ ?_ | refine LpLe.rx (by assumption) ?_ | refine Ref.xitq ?_ | exact UOk.z | refine UOk.c (by assumption) ?_ | exact Ref.nil _ | refine Ref.bVe fun _ _ => ?_ | refine Ref.bLq (by assumption) ?_ fun _ _ _ => ?_ | refine Ref.ifE ?_ ?_ | refine Ref.chk ?_ ?_ | refine Imp.and ?_ ?_ | refine Imp.or ?_ | exact Imp.rfl' _ | refine Imp.sameO ?_ | refine Ref.gd ?_ | exact Ref.cValue (by assumption) | refine Ref.bX ?_ fun _ _ _ => ?_ | exact Ref.scQ (by assumption) | exact Ref.xRangeQ (by assumption) | exact Ref.cInvoke (by assumption) | refine mkj108_0 (by assumption) ?_)
noncomputable def jt108 (J0 : Env → GS → Option (Value × GS)) : JT (Value × GS) :=
  (.n none .e (.n none .e (.n (some (fun T G => J0 (nth undef T) G)) .e .e)))
theorem jr108_0 (orc : FuncId → Bool) (J0 : Env → GS → Option (Value × GS)) (T : List Value) (G : GS) : runC Q (evL Q orc) Tryz.f108.ntmps (jt108 J0) (bodyOf Tryz.f108) (retE Q Tryz.f108.results.toList) [true, true] (nth undef T) G = jb108_0 false (Ex.of (E orc))  (nth undef T) G := by kernel_rfl
theorem jo108 (orc : FuncId → Bool) : JOk Q orc Tryz.f108.ntmps (jt108 (j108_0 false (Ex.of (E orc))) ) (bodyOf Tryz.f108) (retE Q Tryz.f108.results.toList) :=
  jOk Q orc (l := [([true, true], (fun T G => j108_0 false (Ex.of (E orc)) (nth undef T) G))]) (by kernel_rfl) (AllE.c (fun T G => jr108_0 orc (j108_0 false (Ex.of (E orc))) T G) (AllE.z))
theorem je108 (orc : FuncId → Bool) (J0 : Env → GS → Option (Value × GS)) (v0 v1 v2 v3 v4 : Value) (G : GS) : sxC Q (evL Q orc) Tryz.f108.ntmps (jt108 J0) (bodyOf Tryz.f108) (nth undef [v0, v1, v2, v3, v4]) G (retE Q Tryz.f108.results.toList) = sb108 false (Ex.of (E orc)) J0 v0 v1 v2 v3 v4 G := by kernel_rfl
theorem f108 {orc : FuncId → Bool} {e : Ex} (h : ExLe Q e (E orc)) (v0 v1 v2 v3 v4 : Value) (G : GS) : Ref (s108 true e v0 v1 v2 v3 v4 G) ((E orc).cl 108 [v0, v1, v2, v3, v4] G) :=
  fun r hr => cl_sxC Q orc (vs := [v0, v1, v2, v3, v4]) G (jt108 (j108_0 false (Ex.of (E orc))) ) Tryz.func108 (by kernel_rfl) (by kernel_rfl) (by kernel_rfl) (by kernel_rfl) (by kernel_rfl) (jo108 orc) (je108 orc (j108_0 false (Ex.of (E orc))) v0 v1 v2 v3 v4 G) (m108 h v0 v1 v2 v3 v4 G r hr)
/-- coxswain/ready.NewPick -/
noncomputable def s109 (q : Bool) (e : Ex) (v0 v1 : Value) (G : GS) : Option (Value × GS) :=
  bS (bx q v0 G) fun x0 G1 =>
  bP (lda Q q 31 13 x0 G1) fun x2 =>
  bS (e.ev.cl 213 [x2, v1] G1) fun x3 G4 =>
  bP (bd Q q 311 z311 [(0, 0, 19)] [x3]) fun x5 =>
  bS (bx q x5 G4) fun x6 G7 =>
  bS (al Q q 82 z82 G7) fun x8 G9 =>
  bP (st Q q 82 1 x8 x6 G9) fun G10 =>
  bP (ld Q q 82 x8 G10) fun x11 =>
  bP (pNil x11) fun x12 =>
  bP (fa Q q 311 0 0 x12) fun x13 =>
  bP (fa Q q 300 6 18 x13) fun x14 =>
  bP (ld Q q 33 x14 G10) fun x15 =>
  bP (bn Q q .eql 33 (.tmp 15) (.const (.int .i64 0)) x15 (.int .i64 0)) fun x16 =>
  ifV x16 (
  bP (ld Q q 82 x8 (G10.room 19)) fun x17 =>
  bP (ld Q q 82 x8 (G10.room 19)) fun x18 =>
  bP (pNil x18) fun x19 =>
  bP (fa Q q 311 0 0 x19) fun x20 =>
  bS (e.ev.cl 214 [x20] (G10.room 19)) fun x22 G21 =>
  chk ((sameO (ld Q q 82 x8 G21) x17 && true)) <|
  bP (bd Q q 317 z317 [(0, 0, 1), (1, 1, 1), (2, 2, 1)] [(.func (.func 218) #[] #[x0]), (.func (.func 16) #[] #[]), (.func (.func 219) #[] #[x8])]) fun x23 =>
  bS (bx q x23 (G21.at' (G10.nx + 8))) fun x24 G25 =>
  bP (ifc Q q 312 x24) fun x26 =>
  bP (ld Q q 82 x8 (G25.back G21)) fun x27 =>
  chk ((sameO (ld Q q 82 x8 (G10.room 19)) x27 && true)) <|
  bP (pNil x27) fun x28 =>
  bP (fa Q q 311 0 0 x28) fun x29 =>
  bS (e.ev.cl 220 [x29] (G25.back G21)) fun x31 G30 =>
  chk ((sameO (ld Q q 82 x8 G30) x17 && true)) <|
  bS (bs Q q 298 3 (rep z305 3) 1 [(0, 0, 1), (1, 1, 1), (2, 2, 1)] [x22, x26, x31] (G30.at' (G10.nx + 14))) fun x32 G33 =>
  bP (pNil x17) fun x34 =>
  bP (fa Q q 311 0 0 x34) fun x35 =>
  bP (fa Q q 300 4 16 x35) fun x36 =>
  bP (st Q q 298 1 x36 x32 (G33.back G30)) fun G37 =>
  bP (ld Q q 82 x8 G37) fun x38 =>
  some (x38, G37)) (
  bP (ld Q q 82 x8 G10) fun x39 =>
  some (x39, G10))
theorem m109 {e : Ex} {E : Ev} (h : ExLe Q e E) (v0 v1 : Value) (G : GS) : Ref (s109 true e v0 v1 G) (s109 false (Ex.of E) v0 v1 G) := by
  unfold s109
  exact Ref.gq
theorem f109 {orc : FuncId → Bool} {e : Ex} (h : ExLe Q e (E orc)) (v0 v1 : Value) (G : GS) : Ref (s109 true e v0 v1 G) ((E orc).cl 109 [v0, v1] G) :=
  fun r hr => cl_sxE_some Q orc (vs := [v0, v1]) G Tryz.func109 (by kernel_rfl) (by kernel_rfl) (by kernel_rfl) (by kernel_rfl) (by kernel_rfl) (by kernel_rfl) (m109 h v0 v1 G r hr)
/-- coxswain/coxswainref19.NewPick -/
noncomputable def s110 (q : Bool) (e : Ex) (v0 v1 : Value) (G : GS) : Option (Value × GS) :=
  bS (bx q v0 G) fun x0 G1 =>
  bP (lda Q q 31 13 x0 (G1.room 11)) fun x2 =>
  bP (lda Q q 31 13 x0 (G1.room 11)) fun x3 =>
  bS (e.ev.cl 216 [x3, v1] (G1.room 11)) fun x5 G4 =>
  chk ((sameO (lda Q q 31 13 x0 G4) x2 && true)) <|
  bS (e.ev.cl 217 [x2, v1, x5] G4) fun x7 G6 =>
  bP (lda Q q 31 13 x0 G6) fun x8 =>
  chk ((sameO (lda Q q 31 13 x0 G4) x8 && (sameO (lda Q q 31 13 x0 (G1.room 11)) x8 && true))) <|
  bS (e.ev.cl 43 [x8] G6) fun x10 G9 =>
  bP (bd Q q 212 z212 [(0, 0, 20), (1, 20, 1)] [x7, x10]) fun x11 =>
  bS (bx q x11 (G9.at' (G1.nx + 9))) fun x12 G13 =>
  some (x12, (G13.back G9))
theorem m110 {e : Ex} {E : Ev} (h : ExLe Q e E) (v0 v1 : Value) (G : GS) : Ref (s110 true e v0 v1 G) (s110 false (Ex.of E) v0 v1 G) := by
  unfold s110
  exact Ref.gq
theorem f110 {orc : FuncId → Bool} {e : Ex} (h : ExLe Q e (E orc)) (v0 v1 : Value) (G : GS) : Ref (s110 true e v0 v1 G) ((E orc).cl 110 [v0, v1] G) :=
  fun r hr => cl_sxE_some Q orc (vs := [v0, v1]) G Tryz.func110 (by kernel_rfl) (by kernel_rfl) (by kernel_rfl) (by kernel_rfl) (by kernel_rfl) (by kernel_rfl) (m110 h v0 v1 G r hr)
/-- coxswain/ready.NewLook -/
noncomputable def s111 (q : Bool) (e : Ex) (v0 v1 : Value) (G : GS) : Option (Value × GS) :=
  bS (bx q v0 G) fun x0 G1 =>
  bP (lda Q q 31 13 x0 G1) fun x2 =>
  bS (e.ev.cl 213 [x2, v1] G1) fun x3 G4 =>
  bP (bd Q q 318 z318 [(0, 0, 19)] [x3]) fun x5 =>
  bS (bx q x5 G4) fun x6 G7 =>
  bS (al Q q 84 z84 G7) fun x8 G9 =>
  bP (st Q q 84 1 x8 x6 G9) fun G10 =>
  bP (ld Q q 84 x8 G10) fun x11 =>
  bP (pNil x11) fun x12 =>
  bP (fa Q q 318 0 0 x12) fun x13 =>
  bP (fa Q q 300 6 18 x13) fun x14 =>
  bP (ld Q q 33 x14 G10) fun x15 =>
  bP (bn Q q .eql 33 (.tmp 15) (.const (.int .i64 0)) x15 (.int .i64 0)) fun x16 =>
  ifV x16 (
  bP (ld Q q 84 x8 (G10.room 19)) fun x17 =>
  bP (ld Q q 84 x8 (G10.room 19)) fun x18 =>
  bP (pNil x18) fun x19 =>
  bP (fa Q q 318 0 0 x19) fun x20 =>
  bS (e.ev.cl 214 [x20] (G10.room 19)) fun x22 G21 =>
  chk ((sameO (ld Q q 84 x8 G21) x17 && true)) <|
  bP (bd Q q 324 z324 [(0, 0, 1), (1, 1, 1), (2, 2, 1)] [(.func (.func 221) #[] #[x0]), (.func (.func 17) #[] #[]), (.func (.func 222) #[] #[x8])]) fun x23 =>
  bS (bx q x23 (G21.at' (G10.nx + 8))) fun x24 G25 =>
  bP (ifc Q q 319 x24) fun x26 =>
  bP (ld Q q 84 x8 (G25.back G21)) fun x27 =>
  chk ((sameO (ld Q q 84 x8 (G10.room 19)) x27 && true)) <|
  bP (pNil x27) fun x28 =>
  bP (fa Q q 318 0 0 x28) fun x29 =>
  bS (e.ev.cl 220 [x29] (G25.back G21)) fun x31 G30 =>
  chk ((sameO (ld Q q 84 x8 G30) x17 && true)) <|
  bS (bs Q q 298 3 (rep z305 3) 1 [(0, 0, 1), (1, 1, 1), (2, 2, 1)] [x22, x26, x31] (G30.at' (G10.nx + 14))) fun x32 G33 =>
  bP (pNil x17) fun x34 =>
  bP (fa Q q 318 0 0 x34) fun x35 =>
  bP (fa Q q 300 4 16 x35) fun x36 =>
  bP (st Q q 298 1 x36 x32 (G33.back G30)) fun G37 =>
  bP (ld Q q 84 x8 G37) fun x38 =>
  some (x38, G37)) (
  bP (ld Q q 84 x8 G10) fun x39 =>
  some (x39, G10))
theorem m111 {e : Ex} {E : Ev} (h : ExLe Q e E) (v0 v1 : Value) (G : GS) : Ref (s111 true e v0 v1 G) (s111 false (Ex.of E) v0 v1 G) := by
  unfold s111
  exact Ref.gq
theorem f111 {orc : FuncId → Bool} {e : Ex} (h : ExLe Q e (E orc)) (v0 v1 : Value) (G : GS) : Ref (s111 true e v0 v1 G) ((E orc).cl 111 [v0, v1] G) :=
  fun r hr => cl_sxE_some Q orc (vs := [v0, v1]) G Tryz.func111 (by kernel_rfl) (by kernel_rfl) (by kernel_rfl) (by kernel_rfl) (by kernel_rfl) (by kernel_rfl) (m111 h v0 v1 G r hr)
/-- coxswain/coxswainref19.NewLook -/
noncomputable def s112 (q : Bool) (e : Ex) (v0 v1 : Value) (G : GS) : Option (Value × GS) :=
  bS (bx q v0 G) fun x0 G1 =>
  bP (lda Q q 31 13 x0 (G1.room 11)) fun x2 =>
  bP (lda Q q 31 13 x0 (G1.room 11)) fun x3 =>
  bS (e.ev.cl 216 [x3, v1] (G1.room 11)) fun x5 G4 =>
  chk ((sameO (lda Q q 31 13 x0 G4) x2 && true)) <|
  bS (e.ev.cl 217 [x2, v1, x5] G4) fun x7 G6 =>
  bP (lda Q q 31 13 x0 G6) fun x8 =>
  chk ((sameO (lda Q q 31 13 x0 G4) x8 && (sameO (lda Q q 31 13 x0 (G1.room 11)) x8 && true))) <|
  bS (e.ev.cl 44 [x8] G6) fun x10 G9 =>
  bP (bd Q q 214 z214 [(0, 0, 20), (1, 20, 1)] [x7, x10]) fun x11 =>
  bS (bx q x11 (G9.at' (G1.nx + 9))) fun x12 G13 =>
  some (x12, (G13.back G9))
theorem m112 {e : Ex} {E : Ev} (h : ExLe Q e E) (v0 v1 : Value) (G : GS) : Ref (s112 true e v0 v1 G) (s112 false (Ex.of E) v0 v1 G) := by
  unfold s112
  exact Ref.gq
theorem f112 {orc : FuncId → Bool} {e : Ex} (h : ExLe Q e (E orc)) (v0 v1 : Value) (G : GS) : Ref (s112 true e v0 v1 G) ((E orc).cl 112 [v0, v1] G) :=
  fun r hr => cl_sxE_some Q orc (vs := [v0, v1]) G Tryz.func112 (by kernel_rfl) (by kernel_rfl) (by kernel_rfl) (by kernel_rfl) (by kernel_rfl) (by kernel_rfl) (m112 h v0 v1 G r hr)
/-- coxswain/ready.NewTidy -/
noncomputable def s113 (q : Bool) (e : Ex) (v0 v1 : Value) (G : GS) : Option (Value × GS) :=
  bS (bx q v0 G) fun x0 G1 =>
  bP (lda Q q 31 13 x0 G1) fun x2 =>
  bS (e.ev.cl 213 [x2, v1] G1) fun x3 G4 =>
  bP (bd Q q 326 z326 [(0, 0, 19)] [x3]) fun x5 =>
  bS (bx q x5 G4) fun x6 G7 =>
  bS (al Q q 86 z86 G7) fun x8 G9 =>
  bP (st Q q 86 1 x8 x6 G9) fun G10 =>
  bP (ld Q q 86 x8 G10) fun x11 =>
  bP (pNil x11) fun x12 =>
  bP (fa Q q 326 0 0 x12) fun x13 =>
  bP (fa Q q 300 6 18 x13) fun x14 =>
  bP (ld Q q 33 x14 G10) fun x15 =>
  bP (bn Q q .eql 33 (.tmp 15) (.const (.int .i64 0)) x15 (.int .i64 0)) fun x16 =>
  ifV x16 (
  bP (ld Q q 86 x8 (G10.room 19)) fun x17 =>
  bP (ld Q q 86 x8 (G10.room 19)) fun x18 =>
  bP (pNil x18) fun x19 =>
  bP (fa Q q 326 0 0 x19) fun x20 =>
  bS (e.ev.cl 214 [x20] (G10.room 19)) fun x22 G21 =>
  chk ((sameO (ld Q q 86 x8 G21) x17 && true)) <|
  bP (ld Q q 86 x8 G21) fun x23 =>
  chk ((sameO (ld Q q 86 x8 (G10.room 19)) x23 && true)) <|
  bP (pNil x23) fun x24 =>
  bP (fa Q q 326 0 0 x24) fun x25 =>
  bS (e.ev.cl 223 [x25, (.func (.func 224) #[] #[x8])] G21) fun x27 G26 =>
  chk ((sameO (ld Q q 86 x8 G26) x17 && true)) <|
  bP (ld Q q 86 x8 G26) fun x28 =>
  chk ((sameO (ld Q q 86 x8 G21) x28 && (sameO (ld Q q 86 x8 (G10.room 19)) x28 && true))) <|
  bP (pNil x28) fun x29 =>
  bP (fa Q q 326 0 0 x29) fun x30 =>
  bS (e.ev.cl 220 [x30] G26) fun x32 G31 =>
  chk ((sameO (ld Q q 86 x8 G31) x17 && true)) <|
  bS (bs Q q 298 3 (rep z305 3) 1 [(0, 0, 1), (1, 1, 1), (2, 2, 1)] [x22, x27, x32] (G31.at' (G10.nx + 14))) fun x33 G34 =>
  bP (pNil x17) fun x35 =>
  bP (fa Q q 326 0 0 x35) fun x36 =>
  bP (fa Q q 300 4 16 x36) fun x37 =>
  bP (st Q q 298 1 x37 x33 (G34.back G31)) fun G38 =>
  bP (ld Q q 86 x8 G38) fun x39 =>
  some (x39, G38)) (
  bP (ld Q q 86 x8 G10) fun x40 =>
  some (x40, G10))
theorem m113 {e : Ex} {E : Ev} (h : ExLe Q e E) (v0 v1 : Value) (G : GS) : Ref (s113 true e v0 v1 G) (s113 false (Ex.of E) v0 v1 G) := by
  unfold s113
  exact Ref.gq
theorem f113 {orc : FuncId → Bool} {e : Ex} (h : ExLe Q e (E orc)) (v0 v1 : Value) (G : GS) : Ref (s113 true e v0 v1 G) ((E orc).cl 113 [v0, v1] G) :=
  fun r hr => cl_sxE_some Q orc (vs := [v0, v1]) G Tryz.func113 (by kernel_rfl) (by kernel_rfl) (by kernel_rfl) (by kernel_rfl) (by kernel_rfl) (by kernel_rfl) (m113 h v0 v1 G r hr)
/-- coxswain/coxswainref19.NewTidy -/
noncomputable def s114 (q : Bool) (e : Ex) (v0 v1 : Value) (G : GS) : Option (Value × GS) :=
  bS (bx q v0 G) fun x0 G1 =>
  bP (lda Q q 31 13 x0 (G1.room 9)) fun x2 =>
  bP (lda Q q 31 13 x0 (G1.room 9)) fun x3 =>
  bS (e.ev.cl 216 [x3, v1] (G1.room 9)) fun x5 G4 =>
  chk ((sameO (lda Q q 31 13 x0 G4) x2 && true)) <|
  bS (e.ev.cl 217 [x2, v1, x5] G4) fun x7 G6 =>
  bP (bd Q q 331 z331 [(0, 0, 20)] [x7]) fun x8 =>
  bS (bx q x8 (G6.at' (G1.nx + 7))) fun x9 G10 =>
  some (x9, (G10.back G6))
theorem m114 {e : Ex} {E : Ev} (h : ExLe Q e E) (v0 v1 : Value) (G : GS) : Ref (s114 true e v0 v1 G) (s114 false (Ex.of E) v0 v1 G) := by
  unfold s114
  exact Ref.gq
theorem f114 {orc : FuncId → Bool} {e : Ex} (h : ExLe Q e (E orc)) (v0 v1 : Value) (G : GS) : Ref (s114 true e v0 v1 G) ((E orc).cl 114 [v0, v1] G) :=
  fun r hr => cl_sxE_some Q orc (vs := [v0, v1]) G Tryz.func114 (by kernel_rfl) (by kernel_rfl) (by kernel_rfl) (by kernel_rfl) (by kernel_rfl) (by kernel_rfl) (m114 h v0 v1 G r hr)
/-- (*coxswain/ready.Put).Err -/
noncomputable def s115 (q : Bool) (e : Ex) (v0 : Value) (G : GS) : Option (Value × GS) :=
  bP (ep Q q false 80 (.tmp 3) (.const (.pointer none)) v0 (.pointer none)) fun x0 =>
  ifV x0 (
  some ((.int .i64 1), G)) (
  bP (pNil v0) fun x1 =>
  bP (fa Q q 303 0 0 x1) fun x2 =>
  bS (e.ev.cl 226 [x2] G) fun x3 G4 =>
  some (x3, G4))
theorem m115 {e : Ex} {E : Ev} (h : ExLe Q e E) (v0 : Value) (G : GS) : Ref (s115 true e v0 G) (s115 false (Ex.of E) v0 G) := by
  unfold s115
  exact Ref.gq
theorem f115 {orc : FuncId → Bool} {e : Ex} (h : ExLe Q e (E orc)) (v0 : Value) (G : GS) : Ref (s115 true e v0 G) ((E orc).cl 115 [v0] G) :=
  fun r hr => cl_sxE_some Q orc (vs := [v0]) G Tryz.func115 (by kernel_rfl) (by kernel_rfl) (by kernel_rfl) (by kernel_rfl) (by kernel_rfl) (by kernel_rfl) (m115 h v0 G r hr)
/-- (*coxswain/coxswainref19.Put).Err -/
noncomputable def s116 (q : Bool) (e : Ex) (v0 : Value) (G : GS) : Option (Value × GS) :=
  bP (pNil v0) fun x0 =>
  bP (fa Q q 210 0 0 x0) fun x1 =>
  bP (fa Q q 205 2 14 x1) fun x2 =>
  bP (ld Q q 3 x2 G) fun x3 =>
  bP (bn Q q .neq 3 (.tmp 7) (.const (.int .i64 9)) x3 (.int .i64 9)) fun x4 =>
  ifV x4 (
  some ((.int .i64 14), G)) (
  bP (pNil v0) fun x5 =>
  bP (fa Q q 210 0 0 x5) fun x6 =>
  bP (fa Q q 205 7 19 x6) fun x7 =>
  bP (ld Q q 33 x7 G) fun x8 =>
  some (x8, G))
theorem m116 {e : Ex} {E : Ev} (h : ExLe Q e E) (v0 : Value) (G : GS) : Ref (s116 true e v0 G) (s116 false (Ex.of E) v0 G) := by
  unfold s116
  exact Ref.gq
theorem f116 {orc : FuncId → Bool} {e : Ex} (h : ExLe Q e (E orc)) (v0 : Value) (G : GS) : Ref (s116 true e v0 G) ((E orc).cl 116 [v0] G) :=
  fun r hr => cl_sxE_some Q orc (vs := [v0]) G Tryz.func116 (by kernel_rfl) (by kernel_rfl) (by kernel_rfl) (by kernel_rfl) (by kernel_rfl) (by kernel_rfl) (m116 h v0 G r hr)
/-- (*coxswain/ready.Put).By -/
noncomputable def s117 (q : Bool) (e : Ex) (v0 : Value) (G : GS) : Option (Value × GS) :=
  bP (ep Q q false 80 (.tmp 3) (.const (.pointer none)) v0 (.pointer none)) fun x0 =>
  ifV x0 (
  some ((.int .u64 0), G)) (
  bP (pNil v0) fun x1 =>
  bP (fa Q q 303 0 0 x1) fun x2 =>
  bP (fa Q q 300 5 17 x2) fun x3 =>
  bP (ld Q q 41 x3 G) fun x4 =>
  some (x4, G))
theorem m117 {e : Ex} {E : Ev} (h : ExLe Q e E) (v0 : Value) (G : GS) : Ref (s117 true e v0 G) (s117 false (Ex.of E) v0 G) := by
  unfold s117
  exact Ref.gq
theorem f117 {orc : FuncId → Bool} {e : Ex} (h : ExLe Q e (E orc)) (v0 : Value) (G : GS) : Ref (s117 true e v0 G) ((E orc).cl 117 [v0] G) :=
  fun r hr => cl_sxE_some Q orc (vs := [v0]) G Tryz.func117 (by kernel_rfl) (by kernel_rfl) (by kernel_rfl) (by kernel_rfl) (by kernel_rfl) (by kernel_rfl) (m117 h v0 G r hr)
/-- (*coxswain/coxswainref19.Core).By -/
noncomputable def s118 (q : Bool) (e : Ex) (v0 : Value) (G : GS) : Option (Value × GS) :=
  bP (pNil v0) fun x0 =>
  bP (fa Q q 205 6 18 x0) fun x1 =>
  bP (ld Q q 41 x1 G) fun x2 =>
  some (x2, G)
theorem m118 {e : Ex} {E : Ev} (h : ExLe Q e E) (v0 : Value) (G : GS) : Ref (s118 true e v0 G) (s118 false (Ex.of E) v0 G) := by
  unfold s118
  exact Ref.gq
theorem f118 {orc : FuncId → Bool} {e : Ex} (h : ExLe Q e (E orc)) (v0 : Value) (G : GS) : Ref (s118 true e v0 G) ((E orc).cl 118 [v0] G) :=
  fun r hr => cl_sxE_some Q orc (vs := [v0]) G Tryz.func118 (by kernel_rfl) (by kernel_rfl) (by kernel_rfl) (by kernel_rfl) (by kernel_rfl) (by kernel_rfl) (m118 h v0 G r hr)
/-- (*coxswain/ready.Pick).Item -/
noncomputable def s119 (q : Bool) (e : Ex) (v0 : Value) (G : GS) : Option (Value × GS) :=
  bS (al Q q 44 z44 G) fun x0 G1 =>
  bP (ep Q q false 82 (.tmp 4) (.const (.pointer none)) v0 (.pointer none)) fun x2 =>
  ifV x2 (
  bP (bd Q q 44 z44 [] []) fun x3 =>
  bP (st Q q 44 2 x0 x3 G1) fun G4 =>
  bP (lda Q q 44 2 x0 G4) fun x5 =>
  some (.tuple #[x5, (.int .i64 1)], G4)) (
  bP (pNil v0) fun x6 =>
  bP (fa Q q 311 1 19 x6) fun x7 =>
  bP (lda Q q 309 3 x7 (G1.room 12)) fun x8 =>
  bP (pNil v0) fun x9 =>
  bP (fa Q q 311 0 0 x9) fun x10 =>
  bS (e.ev.cl 227 [x8, x10] (G1.room 12)) fun x12 G11 =>
  bP (pExtract x12 0) fun x13 =>
  bP (pExtract x12 1) fun x14 =>
  bP (st Q q 44 2 x0 x13 G11) fun G15 =>
  bP (lda Q q 44 2 x0 G15) fun x16 =>
  some (.tuple #[x16, x14], G15))
theorem m119 {e : Ex} {E : Ev} (h : ExLe Q e E) (v0 : Value) (G : GS) : Ref (s119 true e v0 G) (s119 false (Ex.of E) v0 G) := by
  unfold s119
  exact Ref.gq
theorem f119 {orc : FuncId → Bool} {e : Ex} (h : ExLe Q e (E orc)) (v0 : Value) (G : GS) : Ref (s119 true e v0 G) ((E orc).cl 119 [v0] G) :=
  fun r hr => cl_sxE_some Q orc (vs := [v0]) G Tryz.func119 (by kernel_rfl) (by kernel_rfl) (by kernel_rfl) (by kernel_rfl) (by kernel_rfl) (by kernel_rfl) (m119 h v0 G r hr)
/-- (*coxswain/coxswainref19.Pick).Item -/
noncomputable def s120 (q : Bool) (e : Ex) (v0 : Value) (G : GS) : Option (Value × GS) :=
  bS (al Q q 44 z44 G) fun x0 G1 =>
  bP (pNil v0) fun x2 =>
  bP (fa Q q 212 0 0 x2) fun x3 =>
  bP (fa Q q 205 2 14 x3) fun x4 =>
  bP (ld Q q 3 x4 G1) fun x5 =>
  bP (bn Q q .neq 3 (.tmp 8) (.const (.int .i64 9)) x5 (.int .i64 9)) fun x6 =>
  ifV x6 (
  bP (bd Q q 44 z44 [] []) fun x7 =>
  bP (st Q q 44 2 x0 x7 G1) fun G8 =>
  bP (lda Q q 44 2 x0 G8) fun x9 =>
  some (.tuple #[x9, (.int .i64 14)], G8)) (
  bP (pNil v0) fun x10 =>
  bP (fa Q q 212 0 0 x10) fun x11 =>
  bP (fa Q q 205 7 19 x11) fun x12 =>
  bP (ld Q q 33 x12 G1) fun x13 =>
  bP (bn Q q .neq 33 (.tmp 15) (.const (.int .i64 0)) x13 (.int .i64 0)) fun x14 =>
  ifV x14 (
  bP (bd Q q 44 z44 [] []) fun x15 =>
  bP (pNil v0) fun x16 =>
  bP (fa Q q 212 0 0 x16) fun x17 =>
  bP (fa Q q 205 7 19 x17) fun x18 =>
  bP (ld Q q 33 x18 (G1.room 8)) fun x19 =>
  bP (st Q q 44 2 x0 x15 (G1.room 8)) fun G20 =>
  chk ((sameO (ld Q q 33 x18 G20) x19 && true)) <|
  bP (lda Q q 44 2 x0 G20) fun x21 =>
  some (.tuple #[x21, x19], G20)) (
  bP (pNil v0) fun x22 =>
  bP (fa Q q 212 1 20 x22) fun x23 =>
  bP (ld Q q 121 x23 G1) fun x24 =>
  bS (e.ev.cl 163 [x24] G1) fun x25 G26 =>
  bP (pExtract x25 0) fun x27 =>
  bP (pExtract x25 1) fun x28 =>
  bP (st Q q 44 2 x0 x27 G26) fun G29 =>
  bP (lda Q q 44 2 x0 G29) fun x30 =>
  some (.tuple #[x30, x28], G29)))
theorem m120 {e : Ex} {E : Ev} (h : ExLe Q e E) (v0 : Value) (G : GS) : Ref (s120 true e v0 G) (s120 false (Ex.of E) v0 G) := by
  unfold s120
  exact Ref.gq
theorem f120 {orc : FuncId → Bool} {e : Ex} (h : ExLe Q e (E orc)) (v0 : Value) (G : GS) : Ref (s120 true e v0 G) ((E orc).cl 120 [v0] G) :=
  fun r hr => cl_sxE_some Q orc (vs := [v0]) G Tryz.func120 (by kernel_rfl) (by kernel_rfl) (by kernel_rfl) (by kernel_rfl) (by kernel_rfl) (by kernel_rfl) (m120 h v0 G r hr)
/-- (*coxswain/ready.Pick).By -/
noncomputable def s121 (q : Bool) (e : Ex) (v0 : Value) (G : GS) : Option (Value × GS) :=
  bP (ep Q q false 82 (.tmp 3) (.const (.pointer none)) v0 (.pointer none)) fun x0 =>
  ifV x0 (
  some ((.int .u64 0), G)) (
  bP (pNil v0) fun x1 =>
  bP (fa Q q 311 0 0 x1) fun x2 =>
  bP (fa Q q 300 5 17 x2) fun x3 =>
  bP (ld Q q 41 x3 G) fun x4 =>
  some (x4, G))
theorem m121 {e : Ex} {E : Ev} (h : ExLe Q e E) (v0 : Value) (G : GS) : Ref (s121 true e v0 G) (s121 false (Ex.of E) v0 G) := by
  unfold s121
  exact Ref.gq
theorem f121 {orc : FuncId → Bool} {e : Ex} (h : ExLe Q e (E orc)) (v0 : Value) (G : GS) : Ref (s121 true e v0 G) ((E orc).cl 121 [v0] G) :=
  fun r hr => cl_sxE_some Q orc (vs := [v0]) G Tryz.func121 (by kernel_rfl) (by kernel_rfl) (by kernel_rfl) (by kernel_rfl) (by kernel_rfl) (by kernel_rfl) (m121 h v0 G r hr)
/-- (*coxswain/ready.Look).Item -/
noncomputable def s122 (q : Bool) (e : Ex) (v0 : Value) (G : GS) : Option (Value × GS) :=
  bS (al Q q 44 z44 G) fun x0 G1 =>
  bP (ep Q q false 84 (.tmp 4) (.const (.pointer none)) v0 (.pointer none)) fun x2 =>
  ifV x2 (
  bP (bd Q q 44 z44 [] []) fun x3 =>
  bP (st Q q 44 2 x0 x3 G1) fun G4 =>
  bP (lda Q q 44 2 x0 G4) fun x5 =>
  some (.tuple #[x5, (.int .i64 1)], G4)) (
  bP (pNil v0) fun x6 =>
  bP (fa Q q 318 1 19 x6) fun x7 =>
  bP (lda Q q 309 3 x7 (G1.room 12)) fun x8 =>
  bP (pNil v0) fun x9 =>
  bP (fa Q q 318 0 0 x9) fun x10 =>
  bS (e.ev.cl 227 [x8, x10] (G1.room 12)) fun x12 G11 =>
  bP (pExtract x12 0) fun x13 =>
  bP (pExtract x12 1) fun x14 =>
  bP (st Q q 44 2 x0 x13 G11) fun G15 =>
  bP (lda Q q 44 2 x0 G15) fun x16 =>
  some (.tuple #[x16, x14], G15))
theorem m122 {e : Ex} {E : Ev} (h : ExLe Q e E) (v0 : Value) (G : GS) : Ref (s122 true e v0 G) (s122 false (Ex.of E) v0 G) := by
  unfold s122
  exact Ref.gq
theorem f122 {orc : FuncId → Bool} {e : Ex} (h : ExLe Q e (E orc)) (v0 : Value) (G : GS) : Ref (s122 true e v0 G) ((E orc).cl 122 [v0] G) :=
  fun r hr => cl_sxE_some Q orc (vs := [v0]) G Tryz.func122 (by kernel_rfl) (by kernel_rfl) (by kernel_rfl) (by kernel_rfl) (by kernel_rfl) (by kernel_rfl) (m122 h v0 G r hr)
/-- (*coxswain/coxswainref19.Look).Item -/
noncomputable def s123 (q : Bool) (e : Ex) (v0 : Value) (G : GS) : Option (Value × GS) :=
  bS (al Q q 44 z44 G) fun x0 G1 =>
  bP (pNil v0) fun x2 =>
  bP (fa Q q 214 0 0 x2) fun x3 =>
  bP (fa Q q 205 2 14 x3) fun x4 =>
  bP (ld Q q 3 x4 G1) fun x5 =>
  bP (bn Q q .neq 3 (.tmp 8) (.const (.int .i64 9)) x5 (.int .i64 9)) fun x6 =>
  ifV x6 (
  bP (bd Q q 44 z44 [] []) fun x7 =>
  bP (st Q q 44 2 x0 x7 G1) fun G8 =>
  bP (lda Q q 44 2 x0 G8) fun x9 =>
  some (.tuple #[x9, (.int .i64 14)], G8)) (
  bP (pNil v0) fun x10 =>
  bP (fa Q q 214 0 0 x10) fun x11 =>
  bP (fa Q q 205 7 19 x11) fun x12 =>
  bP (ld Q q 33 x12 G1) fun x13 =>
  bP (bn Q q .neq 33 (.tmp 15) (.const (.int .i64 0)) x13 (.int .i64 0)) fun x14 =>
  ifV x14 (
  bP (bd Q q 44 z44 [] []) fun x15 =>
  bP (pNil v0) fun x16 =>
  bP (fa Q q 214 0 0 x16) fun x17 =>
  bP (fa Q q 205 7 19 x17) fun x18 =>
  bP (ld Q q 33 x18 (G1.room 8)) fun x19 =>
  bP (st Q q 44 2 x0 x15 (G1.room 8)) fun G20 =>
  chk ((sameO (ld Q q 33 x18 G20) x19 && true)) <|
  bP (lda Q q 44 2 x0 G20) fun x21 =>
  some (.tuple #[x21, x19], G20)) (
  bP (pNil v0) fun x22 =>
  bP (fa Q q 214 1 20 x22) fun x23 =>
  bP (ld Q q 131 x23 G1) fun x24 =>
  bP (pNil x24) fun x25 =>
  bP (fa Q q 130 0 0 x25) fun x26 =>
  bS (e.ev.cl 163 [x26] G1) fun x27 G28 =>
  bP (pExtract x27 0) fun x29 =>
  bP (pExtract x27 1) fun x30 =>
  bP (st Q q 44 2 x0 x29 G28) fun G31 =>
  bP (lda Q q 44 2 x0 G31) fun x32 =>
  some (.tuple #[x32, x30], G31)))
theorem m123 {e : Ex} {E : Ev} (h : ExLe Q e E) (v0 : Value) (G : GS) : Ref (s123 true e v0 G) (s123 false (Ex.of E) v0 G) := by
  unfold s123
  exact Ref.gq
theorem f123 {orc : FuncId → Bool} {e : Ex} (h : ExLe Q e (E orc)) (v0 : Value) (G : GS) : Ref (s123 true e v0 G) ((E orc).cl 123 [v0] G) :=
  fun r hr => cl_sxE_some Q orc (vs := [v0]) G Tryz.func123 (by kernel_rfl) (by kernel_rfl) (by kernel_rfl) (by kernel_rfl) (by kernel_rfl) (by kernel_rfl) (m123 h v0 G r hr)
/-- (*coxswain/ready.Look).By -/
noncomputable def s124 (q : Bool) (e : Ex) (v0 : Value) (G : GS) : Option (Value × GS) :=
  bP (ep Q q false 84 (.tmp 3) (.const (.pointer none)) v0 (.pointer none)) fun x0 =>
  ifV x0 (
  some ((.int .u64 0), G)) (
  bP (pNil v0) fun x1 =>
  bP (fa Q q 318 0 0 x1) fun x2 =>
  bP (fa Q q 300 5 17 x2) fun x3 =>
  bP (ld Q q 41 x3 G) fun x4 =>
  some (x4, G))
theorem m124 {e : Ex} {E : Ev} (h : ExLe Q e E) (v0 : Value) (G : GS) : Ref (s124 true e v0 G) (s124 false (Ex.of E) v0 G) := by
  unfold s124
  exact Ref.gq
theorem f124 {orc : FuncId → Bool} {e : Ex} (h : ExLe Q e (E orc)) (v0 : Value) (G : GS) : Ref (s124 true e v0 G) ((E orc).cl 124 [v0] G) :=
  fun r hr => cl_sxE_some Q orc (vs := [v0]) G Tryz.func124 (by kernel_rfl) (by kernel_rfl) (by kernel_rfl) (by kernel_rfl) (by kernel_rfl) (by kernel_rfl) (m124 h v0 G r hr)
/-- (*coxswain/ready.Tidy).Many -/
noncomputable def s125 (q : Bool) (e : Ex) (v0 : Value) (G : GS) : Option (Value × GS) :=
  bP (ep Q q false 86 (.tmp 5) (.const (.pointer none)) v0 (.pointer none)) fun x0 =>
  ifV x0 (
  some (.tuple #[(.int .i64 0), (.int .i64 1)], G)) (
  bP (pNil v0) fun x1 =>
  bP (fa Q q 326 0 0 x1) fun x2 =>
  bS (e.ev.cl 226 [x2] G) fun x3 G4 =>
  bP (bn Q q .neq 33 (.tmp 11) (.const (.int .i64 0)) x3 (.int .i64 0)) fun x5 =>
  ifV x5 (
  some (.tuple #[(.int .i64 0), x3], G4)) (
  bP (pNil v0) fun x6 =>
  bP (fa Q q 326 1 19 x6) fun x7 =>
  bP (ld Q q 3 x7 (G4.room 10)) fun x8 =>
  bP (pNil v0) fun x9 =>
  bP (fa Q q 326 2 20 x9) fun x10 =>
  bP (ld Q q 33 x10 (G4.room 10)) fun x11 =>
  some (.tuple #[x8, x11], (G4.room 10))))
theorem m125 {e : Ex} {E : Ev} (h : ExLe Q e E) (v0 : Value) (G : GS) : Ref (s125 true e v0 G) (s125 false (Ex.of E) v0 G) := by
  unfold s125
  exact Ref.gq
theorem f125 {orc : FuncId → Bool} {e : Ex} (h : ExLe Q e (E orc)) (v0 : Value) (G : GS) : Ref (s125 true e v0 G) ((E orc).cl 125 [v0] G) :=
  fun r hr => cl_sxE_some Q orc (vs := [v0]) G Tryz.func125 (by kernel_rfl) (by kernel_rfl) (by kernel_rfl) (by kernel_rfl) (by kernel_rfl) (by kernel_rfl) (m125 h v0 G r hr)
/-- (*coxswain/coxswainref19.Tidy).Many -/
noncomputable def s126 (q : Bool) (e : Ex) (v0 : Value) (G : GS) : Option (Value × GS) :=
  bP (pNil v0) fun x0 =>
  bP (fa Q q 331 0 0 x0) fun x1 =>
  bP (fa Q q 205 2 14 x1) fun x2 =>
  bP (ld Q q 3 x2 G) fun x3 =>
  bP (bn Q q .neq 3 (.tmp 8) (.const (.int .i64 9)) x3 (.int .i64 9)) fun x4 =>
  ifV x4 (
  some (.tuple #[(.int .i64 0), (.int .i64 14)], G)) (
  bP (pNil v0) fun x5 =>
  bP (fa Q q 331 0 0 x5) fun x6 =>
  bP (fa Q q 205 7 19 x6) fun x7 =>
  bP (ld Q q 33 x7 G) fun x8 =>
  bP (bn Q q .neq 33 (.tmp 14) (.const (.int .i64 0)) x8 (.int .i64 0)) fun x9 =>
  ifV x9 (
  bP (pNil v0) fun x10 =>
  bP (fa Q q 331 0 0 x10) fun x11 =>
  bP (fa Q q 205 7 19 x11) fun x12 =>
  bP (ld Q q 33 x12 (G.room 7)) fun x13 =>
  some (.tuple #[(.int .i64 0), x13], (G.room 7))) (
  bP (pNil v0) fun x14 =>
  bP (fa Q q 331 1 20 x14) fun x15 =>
  bP (ld Q q 206 x15 G) fun x16 =>
  bS (e.ev.cl 228 [x16] G) fun x17 G18 =>
  bP (pExtract x17 0) fun x19 =>
  bP (pExtract x17 1) fun x20 =>
  some (.tuple #[x19, x20], G18)))
theorem m126 {e : Ex} {E : Ev} (h : ExLe Q e E) (v0 : Value) (G : GS) : Ref (s126 true e v0 G) (s126 false (Ex.of E) v0 G) := by
  unfold s126
  exact Ref.gq
theorem f126 {orc : FuncId → Bool} {e : Ex} (h : ExLe Q e (E orc)) (v0 : Value) (G : GS) : Ref (s126 true e v0 G) ((E orc).cl 126 [v0] G) :=
  fun r hr => cl_sxE_some Q orc (vs := [v0]) G Tryz.func126 (by kernel_rfl) (by kernel_rfl) (by kernel_rfl) (by kernel_rfl) (by kernel_rfl) (by kernel_rfl) (m126 h v0 G r hr)
/-- coxswain/tower.At -/
noncomputable def s191 (q : Bool) (e : Ex) (v0 v1 v2 : Value) (G : GS) : Option (Value × GS) :=
  bS (bx q v0 G) fun x0 G1 =>
  bP (lda Q q 31 13 x0 G1) fun x2 =>
  bS (e.ev.cl 102 [x2] G1) fun x3 G4 =>
  bP (un Q q .not x3) fun x5 =>
  ifV x5 (
  some ((.int .i64 (-1)), G4)) (
  bP (bn Q q .neq 3 (.tmp 12) (.const (.int .i64 (-1))) v1 (.int .i64 (-1))) fun x6 =>
  ifV x6 (
  bP (lda Q q 31 13 x0 G4) fun x7 =>
  bS (e.ev.cl 103 [x7] G4) fun x8 G9 =>
  bS (e.ev.cl 273 [x8, v1, v2] G9) fun x10 G11 =>
  some (x10, G11)) (
  bP (bn Q q .lss 3 (.tmp 20) (.const (.int .i64 4)) v2 (.int .i64 4)) fun x12 =>
  bS (gd x12 false (some (v2, G4)) G4) fun x13 G14 =>
  bS (gd x12 false (bP (fa Q q 31 2 2 x0) fun y => some (y, G14)) G14) fun x15 G16 =>
  bS (gd x12 false (bP (ld Q q 3 x15 G16) fun y => some (y, G16)) G16) fun x17 G18 =>
  bS (gd x12 false (bP (bn Q q .add 3 (.const (.int .i64 4)) (.tmp 25) (.int .i64 4) x17) fun y => some (y, G18)) G18) fun x19 G20 =>
  bS (gd x12 false (bP (bn Q q .geq 3 (.tmp 23) (.tmp 26) x13 x19) fun y => some (y, G20)) G20) fun x21 G22 =>
  bP (pickV x12 (.bool true) x21) fun x23 =>
  ifV x23 (
  some ((.int .i64 (-1)), G22)) (
  bP (lda Q q 31 13 x0 G22) fun x24 =>
  bS (e.ev.cl 105 [x24] G22) fun x25 G26 =>
  bP (bn Q q .sub 3 (.tmp 31) (.const (.int .i64 4)) v2 (.int .i64 4)) fun x27 =>
  bS (e.ev.cl 274 [x25, (.int .i64 0), x27] G26) fun x28 G29 =>
  some (x28, G29))))
theorem m191 {e : Ex} {E : Ev} (h : ExLe Q e E) (v0 v1 v2 : Value) (G : GS) : Ref (s191 true e v0 v1 v2 G) (s191 false (Ex.of E) v0 v1 v2 G) := by
  unfold s191
  exact Ref.gq
theorem f191 {orc : FuncId → Bool} {e : Ex} (h : ExLe Q e (E orc)) (v0 v1 v2 : Value) (G : GS) : Ref (s191 true e v0 v1 v2 G) ((E orc).cl 191 [v0, v1, v2] G) :=
  fun r hr => cl_sxE_some Q orc (vs := [v0, v1, v2]) G Tryz.func191 (by kernel_rfl) (by kernel_rfl) (by kernel_rfl) (by kernel_rfl) (by kernel_rfl) (by kernel_rfl) (m191 h v0 v1 v2 G r hr)
/-- coxswain/ready.begun -/
noncomputable def s213 (q : Bool) (e : Ex) (v0 v1 : Value) (G : GS) : Option (Value × GS) :=
  bS (bx q v0 G) fun x0 G1 =>
  bS (al Q q 300 z300 G1) fun x2 G3 =>
  bP (lda Q q 31 13 x0 G3) fun x4 =>
  bP (bd Q q 300 z300 [(0, 0, 13), (1, 13, 1), (2, 14, 1)] [x4, v1, (.bool true)]) fun x5 =>
  bS (al Q q 300 z300 G3) fun x6 G7 =>
  bP (st Q q 300 19 x6 x5 G7) fun G8 =>
  bP (lda Q q 31 13 x0 G8) fun x9 =>
  bS (e.ev.cl 191 [x9, (.int .i64 0), (.int .i64 0)] G8) fun x10 G11 =>
  bP (bn Q q .lss 3 (.tmp 11) (.const (.int .i64 0)) x10 (.int .i64 0)) fun x12 =>
  ifV x12 (
  bP (fa Q q 300 6 18 x6) fun x13 =>
  bP (st Q q 33 1 x13 (.int .i64 2) G11) fun G14 =>
  bP (lda Q q 300 19 x6 G14) fun x15 =>
  bP (st Q q 300 19 x2 x15 G14) fun G16 =>
  bP (lda Q q 300 19 x2 G16) fun x17 =>
  some (x17, G16)) (
  bP (bn Q q .lss 3 (.tmp 15) (.const (.int .i64 0)) v1 (.int .i64 0)) fun x18 =>
  bS (gd x18 false (some (v1, G11)) G11) fun x19 G20 =>
  bS (gd x18 false (bP (fa Q q 31 3 3 x0) fun y => some (y, G20)) G20) fun x21 G22 =>
  bS (gd x18 false (bP (fa Q q 29 1 6 x21) fun y => some (y, G22)) G22) fun x23 G24 =>
  bS (gd x18 false (bP (fa Q q 27 2 2 x23) fun y => some (y, G24)) G24) fun x25 G26 =>
  bS (gd x18 false (bP (ld Q q 3 x25 G26) fun y => some (y, G26)) G26) fun x27 G28 =>
  bS (gd x18 false (bP (bn Q q .geq 3 (.tmp 18) (.tmp 22) x19 x27) fun y => some (y, G28)) G28) fun x29 G30 =>
  bP (pickV x18 (.bool true) x29) fun x31 =>
  ifV x31 (
  bP (fa Q q 300 6 18 x6) fun x32 =>
  bP (st Q q 33 1 x32 (.int .i64 3) G30) fun G33 =>
  bP (lda Q q 300 19 x6 G33) fun x34 =>
  bP (st Q q 300 19 x2 x34 G33) fun G35 =>
  bP (lda Q q 300 19 x2 G35) fun x36 =>
  some (x36, G35)) (
  bP (lda Q q 300 19 x6 G30) fun x37 =>
  bP (st Q q 300 19 x2 x37 G30) fun G38 =>
  bP (lda Q q 300 19 x2 G38) fun x39 =>
  some (x39, G38)))
theorem m213 {e : Ex} {E : Ev} (h : ExLe Q e E) (v0 v1 : Value) (G : GS) : Ref (s213 true e v0 v1 G) (s213 false (Ex.of E) v0 v1 G) := by
  unfold s213
  exact Ref.gq
theorem f213 {orc : FuncId → Bool} {e : Ex} (h : ExLe Q e (E orc)) (v0 v1 : Value) (G : GS) : Ref (s213 true e v0 v1 G) ((E orc).cl 213 [v0, v1] G) :=
  fun r hr => cl_sxE_some Q orc (vs := [v0, v1]) G Tryz.func213 (by kernel_rfl) (by kernel_rfl) (by kernel_rfl) (by kernel_rfl) (by kernel_rfl) (by kernel_rfl) (m213 h v0 v1 G r hr)
/-- (*coxswain/ready.work).pin -/
noncomputable def s214 (q : Bool) (e : Ex) (v0 : Value) (G : GS) : Option (Value × GS) :=
  bS (bx q v0 G) fun x0 G1 =>
  bP (bd Q q 423 z423 [(0, 0, 1), (2, 2, 1)] [(.func (.func 290) #[] #[x0]), (.func (.func 292) #[] #[x0])]) fun x2 =>
  bS (bx q x2 G1) fun x3 G4 =>
  bP (ifc Q q 416 x3) fun x5 =>
  some (x5, G4)
theorem m214 {e : Ex} {E : Ev} (h : ExLe Q e E) (v0 : Value) (G : GS) : Ref (s214 true e v0 G) (s214 false (Ex.of E) v0 G) := by
  unfold s214
  exact Ref.gq
theorem f214 {orc : FuncId → Bool} {e : Ex} (h : ExLe Q e (E orc)) (v0 : Value) (G : GS) : Ref (s214 true e v0 G) ((E orc).cl 214 [v0] G) :=
  fun r hr => cl_sxE_some Q orc (vs := [v0]) G Tryz.func214 (by kernel_rfl) (by kernel_rfl) (by kernel_rfl) (by kernel_rfl) (by kernel_rfl) (by kernel_rfl) (m214 h v0 G r hr)
/-- (*coxswain/ready.Put).alloc -/
noncomputable def s215 (q : Bool) (e : Ex) (v0 : Value) (G : GS) : Option (Value × GS) :=
  bS (bx q v0 G) fun x0 G1 =>
  bP (ld Q q 80 x0 G1) fun x2 =>
  bP (bd Q q 429 z429 [(0, 0, 1), (2, 2, 1)] [(.func (.func 294) #[] #[x0]), (.func (.func 295) #[x2] #[])]) fun x3 =>
  bS (bx q x3 G1) fun x4 G5 =>
  bP (ifc Q q 424 x4) fun x6 =>
  some (x6, G5)
theorem m215 {e : Ex} {E : Ev} (h : ExLe Q e E) (v0 : Value) (G : GS) : Ref (s215 true e v0 G) (s215 false (Ex.of E) v0 G) := by
  unfold s215
  exact Ref.gq
theorem f215 {orc : FuncId → Bool} {e : Ex} (h : ExLe Q e (E orc)) (v0 : Value) (G : GS) : Ref (s215 true e v0 G) ((E orc).cl 215 [v0] G) :=
  fun r hr => cl_sxE_some Q orc (vs := [v0]) G Tryz.func215 (by kernel_rfl) (by kernel_rfl) (by kernel_rfl) (by kernel_rfl) (by kernel_rfl) (by kernel_rfl) (m215 h v0 G r hr)
/-- coxswain/coxswainref19.Refused -/
noncomputable def s216 (q : Bool) (e : Ex) (v0 v1 : Value) (G : GS) : Option (Value × GS) :=
  bS (bx q v0 G) fun x0 G1 =>
  bP (lda Q q 31 13 x0 G1) fun x2 =>
  bS (e.ev.cl 18 [x2] G1) fun x3 G4 =>
  bP (un Q q .not x3) fun x5 =>
  ifV x5 (
  some ((.int .i64 2), G4)) (
  bP (bn Q q .lss 3 (.tmp 10) (.const (.int .i64 0)) v1 (.int .i64 0)) fun x6 =>
  bS (gd x6 false (some (v1, G4)) G4) fun x7 G8 =>
  bS (gd x6 false (bP (fa Q q 31 3 3 x0) fun y => some (y, G8)) G8) fun x9 G10 =>
  bS (gd x6 false (bP (fa Q q 29 1 6 x9) fun y => some (y, G10)) G10) fun x11 G12 =>
  bS (gd x6 false (bP (fa Q q 27 2 2 x11) fun y => some (y, G12)) G12) fun x13 G14 =>
  bS (gd x6 false (bP (ld Q q 3 x13 G14) fun y => some (y, G14)) G14) fun x15 G16 =>
  bS (gd x6 false (bP (bn Q q .geq 3 (.tmp 13) (.tmp 17) x7 x15) fun y => some (y, G16)) G16) fun x17 G18 =>
  bP (pickV x6 (.bool true) x17) fun x19 =>
  ifV x19 (
  some ((.int .i64 3), G18)) (
  some ((.int .i64 0), G18)))
theorem m216 {e : Ex} {E : Ev} (h : ExLe Q e E) (v0 v1 : Value) (G : GS) : Ref (s216 true e v0 v1 G) (s216 false (Ex.of E) v0 v1 G) := by
  unfold s216
  exact Ref.gq
theorem f216 {orc : FuncId → Bool} {e : Ex} (h : ExLe Q e (E orc)) (v0 v1 : Value) (G : GS) : Ref (s216 true e v0 v1 G) ((E orc).cl 216 [v0, v1] G) :=
  fun r hr => cl_sxE_some Q orc (vs := [v0, v1]) G Tryz.func216 (by kernel_rfl) (by kernel_rfl) (by kernel_rfl) (by kernel_rfl) (by kernel_rfl) (by kernel_rfl) (m216 h v0 v1 G r hr)
/-- coxswain/coxswainref19.begun -/
noncomputable def s217 (q : Bool) (e : Ex) (v0 v1 v2 : Value) (G : GS) : Option (Value × GS) :=
  bS (bx q v0 G) fun x0 G1 =>
  bS (al Q q 205 z205 G1) fun x2 G3 =>
  bP (bn Q q .neq 33 (.tmp 7) (.const (.int .i64 0)) v2 (.int .i64 0)) fun x4 =>
  ifV x4 (
  bP (bd Q q 205 z205 [(2, 14, 1), (7, 19, 1)] [(.int .i64 9), v2]) fun x5 =>
  bP (st Q q 205 20 x2 x5 G3) fun G6 =>
  bP (lda Q q 205 20 x2 G6) fun x7 =>
  some (x7, G6)) (
  bP (lda Q q 31 13 x0 (G3.room 9)) fun x8 =>
  bP (fa Q q 31 3 3 x0) fun x9 =>
  bP (fa Q q 29 1 6 x9) fun x10 =>
  bP (lda Q q 27 3 x10 (G3.room 9)) fun x11 =>
  bS (e.ev.cl 296 [x11, v1] (G3.room 9)) fun x13 G12 =>
  chk ((sameO (lda Q q 31 13 x0 G12) x8 && true)) <|
  bP (bd Q q 205 z205 [(0, 0, 13), (1, 13, 1), (2, 14, 1), (3, 15, 1)] [x8, v1, (.int .i64 1), x13]) fun x14 =>
  bP (st Q q 205 20 x2 x14 G12) fun G15 =>
  bP (lda Q q 205 20 x2 G15) fun x16 =>
  some (x16, G15))
theorem m217 {e : Ex} {E : Ev} (h : ExLe Q e E) (v0 v1 v2 : Value) (G : GS) : Ref (s217 true e v0 v1 v2 G) (s217 false (Ex.of E) v0 v1 v2 G) := by
  unfold s217
  exact Ref.gq
theorem f217 {orc : FuncId → Bool} {e : Ex} (h : ExLe Q e (E orc)) (v0 v1 v2 : Value) (G : GS) : Ref (s217 true e v0 v1 v2 G) ((E orc).cl 217 [v0, v1, v2] G) :=
  fun r hr => cl_sxE_some Q orc (vs := [v0, v1, v2]) G Tryz.func217 (by kernel_rfl) (by kernel_rfl) (by kernel_rfl) (by kernel_rfl) (by kernel_rfl) (by kernel_rfl) (m217 h v0 v1 v2 G r hr)
/-- (*coxswain/ready.work).unpin -/
noncomputable def s220 (q : Bool) (e : Ex) (v0 : Value) (G : GS) : Option (Value × GS) :=
  bS (bx q v0 G) fun x0 G1 =>
  bP (bd Q q 438 z438 [(0, 0, 1)] [(.func (.func 297) #[] #[x0])]) fun x2 =>
  bS (bx q x2 G1) fun x3 G4 =>
  bP (ifc Q q 431 x3) fun x5 =>
  some (x5, G4)
theorem m220 {e : Ex} {E : Ev} (h : ExLe Q e E) (v0 : Value) (G : GS) : Ref (s220 true e v0 G) (s220 false (Ex.of E) v0 G) := by
  unfold s220
  exact Ref.gq
theorem f220 {orc : FuncId → Bool} {e : Ex} (h : ExLe Q e (E orc)) (v0 : Value) (G : GS) : Ref (s220 true e v0 G) ((E orc).cl 220 [v0] G) :=
  fun r hr => cl_sxE_some Q orc (vs := [v0]) G Tryz.func220 (by kernel_rfl) (by kernel_rfl) (by kernel_rfl) (by kernel_rfl) (by kernel_rfl) (by kernel_rfl) (m220 h v0 G r hr)
/-- (*coxswain/ready.work).collect -/
noncomputable def s223 (q : Bool) (e : Ex) (v0 v1 : Value) (G : GS) : Option (Value × GS) :=
  bS (bx q v0 G) fun x0 G1 =>
  bP (bd Q q 444 z444 [(0, 0, 1), (2, 2, 1)] [(.func (.func 299) #[] #[x0]), v1]) fun x2 =>
  bS (bx q x2 G1) fun x3 G4 =>
  bP (ifc Q q 439 x3) fun x5 =>
  some (x5, G4)
theorem m223 {e : Ex} {E : Ev} (h : ExLe Q e E) (v0 v1 : Value) (G : GS) : Ref (s223 true e v0 v1 G) (s223 false (Ex.of E) v0 v1 G) := by
  unfold s223
  exact Ref.gq
theorem f223 {orc : FuncId → Bool} {e : Ex} (h : ExLe Q e (E orc)) (v0 v1 : Value) (G : GS) : Ref (s223 true e v0 v1 G) ((E orc).cl 223 [v0, v1] G) :=
  fun r hr => cl_sxE_some Q orc (vs := [v0, v1]) G Tryz.func223 (by kernel_rfl) (by kernel_rfl) (by kernel_rfl) (by kernel_rfl) (by kernel_rfl) (by kernel_rfl) (m223 h v0 v1 G r hr)
/-- (*coxswain/ready.work).told -/
noncomputable def s226 (q : Bool) (e : Ex) (v0 : Value) (G : GS) : Option (Value × GS) :=
  bP (pNil v0) fun x0 =>
  bP (fa Q q 300 2 14 x0) fun x1 =>
  bP (ld Q q 4 x1 G) fun x2 =>
  bP (un Q q .not x2) fun x3 =>
  ifV x3 (
  some ((.int .i64 1), G)) (
  bP (pNil v0) fun x4 =>
  bP (fa Q q 300 4 16 x4) fun x5 =>
  bP (ld Q q 298 x5 G) fun x6 =>
  bP (ln Q q 298 x6) fun x7 =>
  bP (bn Q q .gtr 3 (.tmp 14) (.const (.int .i64 0)) x7 (.int .i64 0)) fun x8 =>
  ifV x8 (
  some ((.int .i64 14), G)) (
  bP (pNil v0) fun x9 =>
  bP (fa Q q 300 6 18 x9) fun x10 =>
  bP (ld Q q 33 x10 G) fun x11 =>
  some (x11, G)))
theorem m226 {e : Ex} {E : Ev} (h : ExLe Q e E) (v0 : Value) (G : GS) : Ref (s226 true e v0 G) (s226 false (Ex.of E) v0 G) := by
  unfold s226
  exact Ref.gq
theorem f226 {orc : FuncId → Bool} {e : Ex} (h : ExLe Q e (E orc)) (v0 : Value) (G : GS) : Ref (s226 true e v0 G) ((E orc).cl 226 [v0] G) :=
  fun r hr => cl_sxE_some Q orc (vs := [v0]) G Tryz.func226 (by kernel_rfl) (by kernel_rfl) (by kernel_rfl) (by kernel_rfl) (by kernel_rfl) (by kernel_rfl) (m226 h v0 G r hr)
/-- (coxswain/ready.seen).told -/
noncomputable def s227 (q : Bool) (e : Ex) (v0 v1 : Value) (G : GS) : Option (Value × GS) :=
  bS (bx q v0 G) fun x0 G1 =>
  bS (al Q q 44 z44 G1) fun x2 G3 =>
  bS (e.ev.cl 226 [v1] G3) fun x4 G5 =>
  bP (bn Q q .neq 33 (.tmp 9) (.const (.int .i64 0)) x4 (.int .i64 0)) fun x6 =>
  ifV x6 (
  bP (bd Q q 44 z44 [] []) fun x7 =>
  bP (st Q q 44 2 x2 x7 G5) fun G8 =>
  bP (lda Q q 44 2 x2 G8) fun x9 =>
  some (.tuple #[x9, x4], G8)) (
  bP (fa Q q 309 0 0 x0) fun x10 =>
  bP (lda Q q 44 2 x10 (G5.room 6)) fun x11 =>
  bP (fa Q q 309 1 2 x0) fun x12 =>
  bP (ld Q q 33 x12 (G5.room 6)) fun x13 =>
  bP (st Q q 44 2 x2 x11 (G5.room 6)) fun G14 =>
  chk ((sameO (ld Q q 33 x12 G14) x13 && true)) <|
  bP (lda Q q 44 2 x2 G14) fun x15 =>
  some (.tuple #[x15, x13], G14))
theorem m227 {e : Ex} {E : Ev} (h : ExLe Q e E) (v0 v1 : Value) (G : GS) : Ref (s227 true e v0 v1 G) (s227 false (Ex.of E) v0 v1 G) := by
  unfold s227
  exact Ref.gq
theorem f227 {orc : FuncId → Bool} {e : Ex} (h : ExLe Q e (E orc)) (v0 v1 : Value) (G : GS) : Ref (s227 true e v0 v1 G) ((E orc).cl 227 [v0, v1] G) :=
  fun r hr => cl_sxE_some Q orc (vs := [v0, v1]) G Tryz.func227 (by kernel_rfl) (by kernel_rfl) (by kernel_rfl) (by kernel_rfl) (by kernel_rfl) (by kernel_rfl) (m227 h v0 v1 G r hr)
/-- (coxswain/tower.rows[coxswain/tower.node]).at -/
noncomputable def s273 (q : Bool) (e : Ex) (v0 v1 v2 : Value) (G : GS) : Option (Value × GS) :=
  bS (bx q v0 G) fun x0 G1 =>
  bP (bn Q q .lss 3 (.tmp 7) (.const (.int .i64 0)) v1 (.int .i64 0)) fun x2 =>
  bS (gd x2 false (some (v1, G1)) G1) fun x3 G4 =>
  bS (gd x2 false (bP (fa Q q 187 1 1 x0) fun y => some (y, G4)) G4) fun x5 G6 =>
  bS (gd x2 false (bP (ld Q q 3 x5 G6) fun y => some (y, G6)) G6) fun x7 G8 =>
  bS (gd x2 false (bP (bn Q q .geq 3 (.tmp 10) (.tmp 12) x3 x7) fun y => some (y, G8)) G8) fun x9 G10 =>
  bP (pickV x2 (.bool true) x9) fun x11 =>
  bS (gd x11 false (some (v2, G10)) G10) fun x12 G13 =>
  bS (gd x11 false (bP (bn Q q .lss 3 (.tmp 16) (.const (.int .i64 0)) x12 (.int .i64 0)) fun y => some (y, G13)) G13) fun x14 G15 =>
  bP (pickV x11 (.bool true) x14) fun x16 =>
  bS (gd x16 false (some (v2, G15)) G15) fun x17 G18 =>
  bS (gd x16 false (bP (fa Q q 187 2 2 x0) fun y => some (y, G18)) G18) fun x19 G20 =>
  bS (gd x16 false (bP (ld Q q 185 x19 G20) fun y => some (y, G20)) G20) fun x21 G22 =>
  bS (gd x16 false (bP (ifc Q q 185 x21) fun y => some (y, G22)) G22) fun x23 G24 =>
  bS (gd x16 false (bS (cInvoke Q e.ev x23 "coxswain/tower.cells" [] G24) fun y G => some (y, G)) G24) fun x25 G26 =>
  bS (gd x16 false (bP (bn Q q .geq 3 (.tmp 20) (.tmp 24) x17 x25) fun y => some (y, G26)) G26) fun x27 G28 =>
  bP (pickV x16 (.bool true) x27) fun x29 =>
  ifV x29 (
  some ((.int .i64 (-1)), G28)) (
  bP (fa Q q 187 0 0 x0) fun x30 =>
  bP (ld Q q 3 x30 (G28.room 12)) fun x31 =>
  bP (fa Q q 187 2 2 x0) fun x32 =>
  bP (ld Q q 185 x32 (G28.room 12)) fun x33 =>
  bP (ifc Q q 185 x33) fun x34 =>
  bS (cInvoke Q e.ev x34 "coxswain/tower.cells" [] (G28.room 12)) fun x36 G35 =>
  chk ((sameO (ld Q q 3 x30 G35) x31 && true)) <|
  bP (bn Q q .mul 3 (.tmp 29) (.tmp 33) v1 x36) fun x37 =>
  bP (bn Q q .add 3 (.tmp 28) (.tmp 34) x31 x37) fun x38 =>
  bP (bn Q q .add 3 (.tmp 35) (.tmp 36) x38 v2) fun x39 =>
  some (x39, G35))
theorem m273 {e : Ex} {E : Ev} (h : ExLe Q e E) (v0 v1 v2 : Value) (G : GS) : Ref (s273 true e v0 v1 v2 G) (s273 false (Ex.of E) v0 v1 v2 G) := by
  unfold s273
  exact Ref.gq
theorem f273 {orc : FuncId → Bool} {e : Ex} (h : ExLe Q e (E orc)) (v0 v1 v2 : Value) (G : GS) : Ref (s273 true e v0 v1 v2 G) ((E orc).cl 273 [v0, v1, v2] G) :=
  fun r hr => cl_sxE_some Q orc (vs := [v0, v1, v2]) G Tryz.func273 (by kernel_rfl) (by kernel_rfl) (by kernel_rfl) (by kernel_rfl) (by kernel_rfl) (by kernel_rfl) (m273 h v0 v1 v2 G r hr)
/-- (coxswain/tower.rows[coxswain/tower.head]).at -/
noncomputable def s274 (q : Bool) (e : Ex) (v0 v1 v2 : Value) (G : GS) : Option (Value × GS) :=
  bS (bx q v0 G) fun x0 G1 =>
  bP (bn Q q .lss 3 (.tmp 7) (.const (.int .i64 0)) v1 (.int .i64 0)) fun x2 =>
  bS (gd x2 false (some (v1, G1)) G1) fun x3 G4 =>
  bS (gd x2 false (bP (fa Q q 192 1 1 x0) fun y => some (y, G4)) G4) fun x5 G6 =>
  bS (gd x2 false (bP (ld Q q 3 x5 G6) fun y => some (y, G6)) G6) fun x7 G8 =>
  bS (gd x2 false (bP (bn Q q .geq 3 (.tmp 10) (.tmp 12) x3 x7) fun y => some (y, G8)) G8) fun x9 G10 =>
  bP (pickV x2 (.bool true) x9) fun x11 =>
  bS (gd x11 false (some (v2, G10)) G10) fun x12 G13 =>
  bS (gd x11 false (bP (bn Q q .lss 3 (.tmp 16) (.const (.int .i64 0)) x12 (.int .i64 0)) fun y => some (y, G13)) G13) fun x14 G15 =>
  bP (pickV x11 (.bool true) x14) fun x16 =>
  bS (gd x16 false (some (v2, G15)) G15) fun x17 G18 =>
  bS (gd x16 false (bP (fa Q q 192 2 2 x0) fun y => some (y, G18)) G18) fun x19 G20 =>
  bS (gd x16 false (bP (ld Q q 190 x19 G20) fun y => some (y, G20)) G20) fun x21 G22 =>
  bS (gd x16 false (bP (ifc Q q 190 x21) fun y => some (y, G22)) G22) fun x23 G24 =>
  bS (gd x16 false (bS (cInvoke Q e.ev x23 "coxswain/tower.cells" [] G24) fun y G => some (y, G)) G24) fun x25 G26 =>
  bS (gd x16 false (bP (bn Q q .geq 3 (.tmp 20) (.tmp 24) x17 x25) fun y => some (y, G26)) G26) fun x27 G28 =>
  bP (pickV x16 (.bool true) x27) fun x29 =>
  ifV x29 (
  some ((.int .i64 (-1)), G28)) (
  bP (fa Q q 192 0 0 x0) fun x30 =>
  bP (ld Q q 3 x30 (G28.room 12)) fun x31 =>
  bP (fa Q q 192 2 2 x0) fun x32 =>
  bP (ld Q q 190 x32 (G28.room 12)) fun x33 =>
  bP (ifc Q q 190 x33) fun x34 =>
  bS (cInvoke Q e.ev x34 "coxswain/tower.cells" [] (G28.room 12)) fun x36 G35 =>
  chk ((sameO (ld Q q 3 x30 G35) x31 && true)) <|
  bP (bn Q q .mul 3 (.tmp 29) (.tmp 33) v1 x36) fun x37 =>
  bP (bn Q q .add 3 (.tmp 28) (.tmp 34) x31 x37) fun x38 =>
  bP (bn Q q .add 3 (.tmp 35) (.tmp 36) x38 v2) fun x39 =>
  some (x39, G35))
theorem m274 {e : Ex} {E : Ev} (h : ExLe Q e E) (v0 v1 v2 : Value) (G : GS) : Ref (s274 true e v0 v1 v2 G) (s274 false (Ex.of E) v0 v1 v2 G) := by
  unfold s274
  exact Ref.gq
theorem f274 {orc : FuncId → Bool} {e : Ex} (h : ExLe Q e (E orc)) (v0 v1 v2 : Value) (G : GS) : Ref (s274 true e v0 v1 v2 G) ((E orc).cl 274 [v0, v1, v2] G) :=
  fun r hr => cl_sxE_some Q orc (vs := [v0, v1, v2]) G Tryz.func274 (by kernel_rfl) (by kernel_rfl) (by kernel_rfl) (by kernel_rfl) (by kernel_rfl) (by kernel_rfl) (m274 h v0 v1 v2 G r hr)
/-- coxswain/coxswainref12.NewPin -/
noncomputable def s296 (q : Bool) (e : Ex) (v0 v1 : Value) (G : GS) : Option (Value × GS) :=
  bS (bx q v0 G) fun x0 G1 =>
  bP (lda Q q 27 3 x0 G1) fun x2 =>
  bS (e.ev.cl 369 [x2, v1] G1) fun x3 G4 =>
  ifV x3 (
  bP (bd Q q 516 z516 [(2, 4, 1), (4, 6, 1)] [(.int .i64 9), (.int .i64 3)]) fun x5 =>
  bS (bx q x5 G4) fun x6 G7 =>
  some (x6, G7)) (
  bP (lda Q q 27 3 x0 G4) fun x8 =>
  bP (bd Q q 516 z516 [(0, 0, 3), (1, 3, 1), (2, 4, 1)] [x8, v1, (.int .i64 1)]) fun x9 =>
  bS (bx q x9 G4) fun x10 G11 =>
  some (x10, G11))
theorem m296 {e : Ex} {E : Ev} (h : ExLe Q e E) (v0 v1 : Value) (G : GS) : Ref (s296 true e v0 v1 G) (s296 false (Ex.of E) v0 v1 G) := by
  unfold s296
  exact Ref.gq
theorem f296 {orc : FuncId → Bool} {e : Ex} (h : ExLe Q e (E orc)) (v0 v1 : Value) (G : GS) : Ref (s296 true e v0 v1 G) ((E orc).cl 296 [v0, v1] G) :=
  fun r hr => cl_sxE_some Q orc (vs := [v0, v1]) G Tryz.func296 (by kernel_rfl) (by kernel_rfl) (by kernel_rfl) (by kernel_rfl) (by kernel_rfl) (by kernel_rfl) (m296 h v0 v1 G r hr)
/-- coxswain/coxswainref12.none -/
noncomputable def s369 (q : Bool) (e : Ex) (v0 v1 : Value) (G : GS) : Option (Value × GS) :=
  bS (bx q v0 G) fun x0 G1 =>
  bP (bn Q q .lss 3 (.tmp 5) (.const (.int .i64 0)) v1 (.int .i64 0)) fun x2 =>
  bS (gd x2 false (some (v1, G1)) G1) fun x3 G4 =>
  bS (gd x2 false (bP (fa Q q 27 2 2 x0) fun y => some (y, G4)) G4) fun x5 G6 =>
  bS (gd x2 false (bP (ld Q q 3 x5 G6) fun y => some (y, G6)) G6) fun x7 G8 =>
  bS (gd x2 false (bP (bn Q q .geq 3 (.tmp 8) (.tmp 10) x3 x7) fun y => some (y, G8)) G8) fun x9 G10 =>
  bP (pickV x2 (.bool true) x9) fun x11 =>
  some (x11, G10)
theorem m369 {e : Ex} {E : Ev} (h : ExLe Q e E) (v0 v1 : Value) (G : GS) : Ref (s369 true e v0 v1 G) (s369 false (Ex.of E) v0 v1 G) := by
  unfold s369
  exact Ref.gq
theorem f369 {orc : FuncId → Bool} {e : Ex} (h : ExLe Q e (E orc)) (v0 v1 : Value) (G : GS) : Ref (s369 true e v0 v1 G) ((E orc).cl 369 [v0, v1] G) :=
  fun r hr => cl_sxE_some Q orc (vs := [v0, v1]) G Tryz.func369 (by kernel_rfl) (by kernel_rfl) (by kernel_rfl) (by kernel_rfl) (by kernel_rfl) (by kernel_rfl) (m369 h v0 v1 G r hr)
/-- (coxswain/tower.node).cells -/
noncomputable def s520 (q : Bool) (e : Ex) (v0 : Value) (G : GS) : Option (Value × GS) :=
  bP (bn Q q .add 3 (.const (.int .i64 4)) (.tmp 3) (.int .i64 4) v0) fun x0 =>
  some (x0, G)
theorem m520 {e : Ex} {E : Ev} (h : ExLe Q e E) (v0 : Value) (G : GS) : Ref (s520 true e v0 G) (s520 false (Ex.of E) v0 G) := by
  unfold s520
  exact Ref.gq
theorem f520 {orc : FuncId → Bool} {e : Ex} (h : ExLe Q e (E orc)) (v0 : Value) (G : GS) : Ref (s520 true e v0 G) ((E orc).cl 520 [v0] G) :=
  fun r hr => cl_sxE_some Q orc (vs := [v0]) G Tryz.func520 (by kernel_rfl) (by kernel_rfl) (by kernel_rfl) (by kernel_rfl) (by kernel_rfl) (by kernel_rfl) (m520 h v0 G r hr)
/-- (coxswain/tower.head).cells -/
noncomputable def s521 (q : Bool) (e : Ex) (v0 : Value) (G : GS) : Option (Value × GS) :=
  some (v0, G)
theorem m521 {e : Ex} {E : Ev} (h : ExLe Q e E) (v0 : Value) (G : GS) : Ref (s521 true e v0 G) (s521 false (Ex.of E) v0 G) := by
  unfold s521
  exact Ref.gq
theorem f521 {orc : FuncId → Bool} {e : Ex} (h : ExLe Q e (E orc)) (v0 : Value) (G : GS) : Ref (s521 true e v0 G) ((E orc).cl 521 [v0] G) :=
  fun r hr => cl_sxE_some Q orc (vs := [v0]) G Tryz.func521 (by kernel_rfl) (by kernel_rfl) (by kernel_rfl) (by kernel_rfl) (by kernel_rfl) (by kernel_rfl) (m521 h v0 G r hr)
noncomputable def clT (orc : FuncId → Bool) (e : Ex) (f : FuncId) (vs : List Value) (G : GS) : Option (Value × GS) :=
  fork f 119 (
fork f 107 (
fork f 43 (
fork f 18 (
fork f 5 (
leaf f 5 (app5 (s5 true e) vs G)) (
leaf f 18 (app1 (s18 true e) vs G))) (
fork f 30 (
leaf f 30 (app3 (s30 true e) vs G)) (
fork f 31 (
leaf f 31 (app1 (s31 true e) vs G)) (
leaf f 43 (app1 (s43 true e) vs G))))) (
fork f 102 (
fork f 44 (
leaf f 44 (app1 (s44 true e) vs G)) (
fork f 69 (
leaf f 69 (app3 (s69 true e) vs G)) (
leaf f 102 (app1 (s102 true e) vs G)))) (
fork f 103 (
leaf f 103 (app1 (s103 true e) vs G)) (
fork f 105 (
leaf f 105 (app1 (s105 true e) vs G)) (
leaf f 107 (app5 (s107 true e) vs G)))))) (
fork f 113 (
fork f 110 (
fork f 108 (
leaf f 108 (app5 (s108 true e) vs G)) (
fork f 109 (
leaf f 109 (app2 (s109 true e) vs G)) (
leaf f 110 (app2 (s110 true e) vs G)))) (
fork f 111 (
leaf f 111 (app2 (s111 true e) vs G)) (
fork f 112 (
leaf f 112 (app2 (s112 true e) vs G)) (
leaf f 113 (app2 (s113 true e) vs G))))) (
fork f 116 (
fork f 114 (
leaf f 114 (app2 (s114 true e) vs G)) (
fork f 115 (
leaf f 115 (app1 (s115 true e) vs G)) (
leaf f 116 (app1 (s116 true e) vs G)))) (
fork f 117 (
leaf f 117 (app1 (s117 true e) vs G)) (
fork f 118 (
leaf f 118 (app1 (s118 true e) vs G)) (
leaf f 119 (app1 (s119 true e) vs G))))))) (
fork f 215 (
fork f 124 (
fork f 121 (
fork f 120 (
leaf f 120 (app1 (s120 true e) vs G)) (
leaf f 121 (app1 (s121 true e) vs G))) (
fork f 122 (
leaf f 122 (app1 (s122 true e) vs G)) (
fork f 123 (
leaf f 123 (app1 (s123 true e) vs G)) (
leaf f 124 (app1 (s124 true e) vs G))))) (
fork f 191 (
fork f 125 (
leaf f 125 (app1 (s125 true e) vs G)) (
fork f 126 (
leaf f 126 (app1 (s126 true e) vs G)) (
leaf f 191 (app3 (s191 true e) vs G)))) (
fork f 213 (
leaf f 213 (app2 (s213 true e) vs G)) (
fork f 214 (
leaf f 214 (app1 (s214 true e) vs G)) (
leaf f 215 (app1 (s215 true e) vs G)))))) (
fork f 227 (
fork f 220 (
fork f 216 (
leaf f 216 (app2 (s216 true e) vs G)) (
fork f 217 (
leaf f 217 (app3 (s217 true e) vs G)) (
leaf f 220 (app1 (s220 true e) vs G)))) (
fork f 223 (
leaf f 223 (app2 (s223 true e) vs G)) (
fork f 226 (
leaf f 226 (app1 (s226 true e) vs G)) (
leaf f 227 (app2 (s227 true e) vs G))))) (
fork f 296 (
fork f 273 (
leaf f 273 (app3 (s273 true e) vs G)) (
fork f 274 (
leaf f 274 (app3 (s274 true e) vs G)) (
leaf f 296 (app2 (s296 true e) vs G)))) (
fork f 369 (
leaf f 369 (app2 (s369 true e) vs G)) (
fork f 520 (
leaf f 520 (app1 (s520 true e) vs G)) (
leaf f 521 (app1 (s521 true e) vs G)))))))
theorem clT_ok {orc : FuncId → Bool} {e : Ex} (h : ExLe Q e (E orc)) (f : FuncId) (vs : List Value) (G : GS) : Ref (clT orc e f vs G) ((E orc).cl f vs G) :=
  Ref.fork (
Ref.fork (
Ref.fork (
Ref.fork (
Ref.fork (
Ref.leaf (y := fun f => (E orc).cl f vs G) (Ref.app5 (fun u0 u1 u2 u3 u4 G => f5 h u0 u1 u2 u3 u4 G) vs G)) (
Ref.leaf (y := fun f => (E orc).cl f vs G) (Ref.app1 (fun u0 G => f18 h u0 G) vs G))) (
Ref.fork (
Ref.leaf (y := fun f => (E orc).cl f vs G) (Ref.app3 (fun u0 u1 u2 G => f30 h u0 u1 u2 G) vs G)) (
Ref.fork (
Ref.leaf (y := fun f => (E orc).cl f vs G) (Ref.app1 (fun u0 G => f31 h u0 G) vs G)) (
Ref.leaf (y := fun f => (E orc).cl f vs G) (Ref.app1 (fun u0 G => f43 h u0 G) vs G))))) (
Ref.fork (
Ref.fork (
Ref.leaf (y := fun f => (E orc).cl f vs G) (Ref.app1 (fun u0 G => f44 h u0 G) vs G)) (
Ref.fork (
Ref.leaf (y := fun f => (E orc).cl f vs G) (Ref.app3 (fun u0 u1 u2 G => f69 h u0 u1 u2 G) vs G)) (
Ref.leaf (y := fun f => (E orc).cl f vs G) (Ref.app1 (fun u0 G => f102 h u0 G) vs G)))) (
Ref.fork (
Ref.leaf (y := fun f => (E orc).cl f vs G) (Ref.app1 (fun u0 G => f103 h u0 G) vs G)) (
Ref.fork (
Ref.leaf (y := fun f => (E orc).cl f vs G) (Ref.app1 (fun u0 G => f105 h u0 G) vs G)) (
Ref.leaf (y := fun f => (E orc).cl f vs G) (Ref.app5 (fun u0 u1 u2 u3 u4 G => f107 h u0 u1 u2 u3 u4 G) vs G)))))) (
Ref.fork (
Ref.fork (
Ref.fork (
Ref.leaf (y := fun f => (E orc).cl f vs G) (Ref.app5 (fun u0 u1 u2 u3 u4 G => f108 h u0 u1 u2 u3 u4 G) vs G)) (
Ref.fork (
Ref.leaf (y := fun f => (E orc).cl f vs G) (Ref.app2 (fun u0 u1 G => f109 h u0 u1 G) vs G)) (
Ref.leaf (y := fun f => (E orc).cl f vs G) (Ref.app2 (fun u0 u1 G => f110 h u0 u1 G) vs G)))) (
Ref.fork (
Ref.leaf (y := fun f => (E orc).cl f vs G) (Ref.app2 (fun u0 u1 G => f111 h u0 u1 G) vs G)) (
Ref.fork (
Ref.leaf (y := fun f => (E orc).cl f vs G) (Ref.app2 (fun u0 u1 G => f112 h u0 u1 G) vs G)) (
Ref.leaf (y := fun f => (E orc).cl f vs G) (Ref.app2 (fun u0 u1 G => f113 h u0 u1 G) vs G))))) (
Ref.fork (
Ref.fork (
Ref.leaf (y := fun f => (E orc).cl f vs G) (Ref.app2 (fun u0 u1 G => f114 h u0 u1 G) vs G)) (
Ref.fork (
Ref.leaf (y := fun f => (E orc).cl f vs G) (Ref.app1 (fun u0 G => f115 h u0 G) vs G)) (
Ref.leaf (y := fun f => (E orc).cl f vs G) (Ref.app1 (fun u0 G => f116 h u0 G) vs G)))) (
Ref.fork (
Ref.leaf (y := fun f => (E orc).cl f vs G) (Ref.app1 (fun u0 G => f117 h u0 G) vs G)) (
Ref.fork (
Ref.leaf (y := fun f => (E orc).cl f vs G) (Ref.app1 (fun u0 G => f118 h u0 G) vs G)) (
Ref.leaf (y := fun f => (E orc).cl f vs G) (Ref.app1 (fun u0 G => f119 h u0 G) vs G))))))) (
Ref.fork (
Ref.fork (
Ref.fork (
Ref.fork (
Ref.leaf (y := fun f => (E orc).cl f vs G) (Ref.app1 (fun u0 G => f120 h u0 G) vs G)) (
Ref.leaf (y := fun f => (E orc).cl f vs G) (Ref.app1 (fun u0 G => f121 h u0 G) vs G))) (
Ref.fork (
Ref.leaf (y := fun f => (E orc).cl f vs G) (Ref.app1 (fun u0 G => f122 h u0 G) vs G)) (
Ref.fork (
Ref.leaf (y := fun f => (E orc).cl f vs G) (Ref.app1 (fun u0 G => f123 h u0 G) vs G)) (
Ref.leaf (y := fun f => (E orc).cl f vs G) (Ref.app1 (fun u0 G => f124 h u0 G) vs G))))) (
Ref.fork (
Ref.fork (
Ref.leaf (y := fun f => (E orc).cl f vs G) (Ref.app1 (fun u0 G => f125 h u0 G) vs G)) (
Ref.fork (
Ref.leaf (y := fun f => (E orc).cl f vs G) (Ref.app1 (fun u0 G => f126 h u0 G) vs G)) (
Ref.leaf (y := fun f => (E orc).cl f vs G) (Ref.app3 (fun u0 u1 u2 G => f191 h u0 u1 u2 G) vs G)))) (
Ref.fork (
Ref.leaf (y := fun f => (E orc).cl f vs G) (Ref.app2 (fun u0 u1 G => f213 h u0 u1 G) vs G)) (
Ref.fork (
Ref.leaf (y := fun f => (E orc).cl f vs G) (Ref.app1 (fun u0 G => f214 h u0 G) vs G)) (
Ref.leaf (y := fun f => (E orc).cl f vs G) (Ref.app1 (fun u0 G => f215 h u0 G) vs G)))))) (
Ref.fork (
Ref.fork (
Ref.fork (
Ref.leaf (y := fun f => (E orc).cl f vs G) (Ref.app2 (fun u0 u1 G => f216 h u0 u1 G) vs G)) (
Ref.fork (
Ref.leaf (y := fun f => (E orc).cl f vs G) (Ref.app3 (fun u0 u1 u2 G => f217 h u0 u1 u2 G) vs G)) (
Ref.leaf (y := fun f => (E orc).cl f vs G) (Ref.app1 (fun u0 G => f220 h u0 G) vs G)))) (
Ref.fork (
Ref.leaf (y := fun f => (E orc).cl f vs G) (Ref.app2 (fun u0 u1 G => f223 h u0 u1 G) vs G)) (
Ref.fork (
Ref.leaf (y := fun f => (E orc).cl f vs G) (Ref.app1 (fun u0 G => f226 h u0 G) vs G)) (
Ref.leaf (y := fun f => (E orc).cl f vs G) (Ref.app2 (fun u0 u1 G => f227 h u0 u1 G) vs G))))) (
Ref.fork (
Ref.fork (
Ref.leaf (y := fun f => (E orc).cl f vs G) (Ref.app3 (fun u0 u1 u2 G => f273 h u0 u1 u2 G) vs G)) (
Ref.fork (
Ref.leaf (y := fun f => (E orc).cl f vs G) (Ref.app3 (fun u0 u1 u2 G => f274 h u0 u1 u2 G) vs G)) (
Ref.leaf (y := fun f => (E orc).cl f vs G) (Ref.app2 (fun u0 u1 G => f296 h u0 u1 G) vs G)))) (
Ref.fork (
Ref.leaf (y := fun f => (E orc).cl f vs G) (Ref.app2 (fun u0 u1 G => f369 h u0 u1 G) vs G)) (
Ref.fork (
Ref.leaf (y := fun f => (E orc).cl f vs G) (Ref.app1 (fun u0 G => f520 h u0 G) vs G)) (
Ref.leaf (y := fun f => (E orc).cl f vs G) (Ref.app1 (fun u0 G => f521 h u0 G) vs G)))))))
noncomputable def lpT (FUEL : Nat) (e : Ex) (f k : Nat) (τ : Env) (G : GS) : Option (Exit × Env × GS) :=
  leaf f 5 (leaf k 0 (lpS 27 (b5_0 true e) FUEL τ G))
theorem lpT_ok {orc : FuncId → Bool} {e : Ex} (h : ExLe Q e (E orc)) (FUEL f k : Nat) (τ : Env) (G : GS) : Ref (lpT FUEL e f k τ G) (mapE ((E orc).lp (codeAt Q f k) (lst (nOf Q f) τ) G)) :=
  Ref.leaf (y := fun f => mapE ((E orc).lp (codeAt Q f k) (lst (nOf Q f) τ) G)) (Ref.leaf (y := fun k => mapE ((E orc).lp (codeAt Q 5 k) (lst (nOf Q 5) τ) G)) (lp_leaf (c := (subAt [1, 0, 1, 0, 0] (bodyOf Tryz.f5))) (l5_0 h) _ _ _))
noncomputable def kE (orc : FuncId → Bool) (n : Nat) : Ex := Nat.rec (motive := fun _ => Ex) ⟨Ev.zero, fun _ _ _ _ => none⟩ (fun _ e => ⟨⟨(evO Q orc 0).ex, clT orc e, (evO Q orc 2000).rd, (evO Q orc 2000).sc, (evO Q orc 0).lp⟩, lpT 6000 e⟩) n
theorem kE_ok (orc : FuncId → Bool) : ∀ n, ExLe Q (kE orc n) (E orc)
  | 0 => ⟨zero_le _, fun _ _ _ _ => .nil _⟩
  | n + 1 => ⟨⟨(le_evL Q orc 0).ex, fun f vs G r hr => clT_ok (kE_ok orc n) f vs G r hr, (le_evL Q orc 2000).rd, (le_evL Q orc 2000).sc, (le_evL Q orc 0).lp⟩, lpT_ok (kE_ok orc n) 6000⟩
/-- what the tables find true is true -/
theorem at_kE {orc : FuncId → Bool} {n f : Nat} {vs : List Value} (h : isTrue ((kE orc n).ev.cl f vs GS.empty) = true) : ∃ G', (E orc).cl f vs GS.empty = some (.bool true, G') := isTrue_of ((kE_ok orc n).ev.cl f vs GS.empty) h
theorem closed_kE {orc : FuncId → Bool} (ho : OrcOk Q orc) (hmix : Q.follows .mixedOrders = true) {n f : Nat} (h : isTrue ((kE orc n).ev.cl f [] GS.empty) = true) (w : World) : Calls Q f #[] w fun e w' => e = .returned (.bool true) ∧ Go.RowKit.Below w.heap.size w w' :=
  let ⟨_, hG⟩ := at_kE h
  law_plain hmix ho hG fun _ => trivial
end Go.Proofs.YtdohlgkmaeipjaaGreat.Lift
