/- the program's code, spelled out by a program of ours (lift2.lean) -/
import Derived.Test.YtfakjapkhjfmiaaGreatProg
import Derived.Test.YtfakjapkhjfmiaaGreatGhKO
import Derived.KernelRfl
namespace Go.Proofs.YtfakjapkhjfmiaaGreat.Lift
open Go Go.Proofs.YtfakjapkhjfmiaaGreat.Gh Go.Proofs
set_option linter.unusedVariables false
set_option maxRecDepth 100000
@[reducible] noncomputable def Q : Program := Tryz.prog
@[reducible] noncomputable def E (orc : FuncId → Bool) : Ev := evL Tryz.prog orc
instance ilp9_0 : LpIs Q 9 0 (subAt [1, 1, 0, 1, 0, 0] (bodyOf Tryz.f9)) 29 := ⟨by kernel_rfl, by kernel_rfl⟩
instance ilp15_0 : LpIs Q 15 0 (subAt [1, 1, 1, 1, 0, 1, 0, 0] (bodyOf Tryz.f15)) 59 := ⟨by kernel_rfl, by kernel_rfl⟩
instance ilp42_0 : LpIs Q 42 0 (subAt [1, 1, 1, 0, 0, 0] (bodyOf Tryz.f42)) 35 := ⟨by kernel_rfl, by kernel_rfl⟩
instance ilp54_0 : LpIs Q 54 0 (subAt [1, 1, 0, 1, 0, 0] (bodyOf Tryz.f54)) 29 := ⟨by kernel_rfl, by kernel_rfl⟩
instance ilp57_0 : LpIs Q 57 0 (subAt [1, 1, 0, 1, 0, 0] (bodyOf Tryz.f57)) 29 := ⟨by kernel_rfl, by kernel_rfl⟩
instance ilp59_0 : LpIs Q 59 0 (subAt [1, 1, 1, 1, 0, 0] (bodyOf Tryz.f59)) 24 := ⟨by kernel_rfl, by kernel_rfl⟩
instance ilp82_0 : LpIs Q 82 0 (subAt [1, 1, 0, 1, 0, 0] (bodyOf Tryz.f82)) 30 := ⟨by kernel_rfl, by kernel_rfl⟩
instance ilp97_0 : LpIs Q 97 0 (subAt [1, 0, 1, 1, 1, 1, 1, 0, 0] (bodyOf Tryz.f97)) 91 := ⟨by kernel_rfl, by kernel_rfl⟩
instance ilp104_0 : LpIs Q 104 0 (subAt [1, 1, 1, 0, 1, 0, 0] (bodyOf Tryz.f104)) 42 := ⟨by kernel_rfl, by kernel_rfl⟩
instance ilp110_0 : LpIs Q 110 0 (subAt [1, 1, 1, 1, 0, 0] (bodyOf Tryz.f110)) 23 := ⟨by kernel_rfl, by kernel_rfl⟩
instance ilp152_0 : LpIs Q 152 0 (subAt [1, 1, 0, 0] (bodyOf Tryz.f152)) 40 := ⟨by kernel_rfl, by kernel_rfl⟩
instance ilp157_0 : LpIs Q 157 0 (subAt [1, 1, 1, 1, 1, 0, 0] (bodyOf Tryz.f157)) 29 := ⟨by kernel_rfl, by kernel_rfl⟩
instance ilp198_0 : LpIs Q 198 0 (subAt [1, 1, 1, 1, 0, 0] (bodyOf Tryz.f198)) 34 := ⟨by kernel_rfl, by kernel_rfl⟩
instance ilp206_0 : LpIs Q 206 0 (subAt [1, 0, 0] (bodyOf Tryz.f206)) 18 := ⟨by kernel_rfl, by kernel_rfl⟩
instance ilp229_0 : LpIs Q 229 0 (subAt [1, 0, 1, 0, 0] (bodyOf Tryz.f229)) 24 := ⟨by kernel_rfl, by kernel_rfl⟩
instance ilp231_0 : LpIs Q 231 0 (subAt [1, 1, 0, 1, 0, 0] (bodyOf Tryz.f231)) 24 := ⟨by kernel_rfl, by kernel_rfl⟩
instance ilp262_0 : LpIs Q 262 0 (subAt [1, 1, 0, 0] (bodyOf Tryz.f262)) 25 := ⟨by kernel_rfl, by kernel_rfl⟩
instance ilp290_0 : LpIs Q 290 0 (subAt [1, 0, 1, 1, 0, 0, 0] (bodyOf Tryz.f290)) 162 := ⟨by kernel_rfl, by kernel_rfl⟩
instance ilp300_0 : LpIs Q 300 0 (subAt [1, 0, 1, 1, 1, 1, 1, 0, 0, 0] (bodyOf Tryz.f300)) 195 := ⟨by kernel_rfl, by kernel_rfl⟩
instance ilp328_0 : LpIs Q 328 0 (subAt [1, 1, 0, 1, 0, 0] (bodyOf Tryz.f328)) 36 := ⟨by kernel_rfl, by kernel_rfl⟩
instance ilp334_0 : LpIs Q 334 0 (subAt [1, 0, 1, 1, 0, 1, 0, 0] (bodyOf Tryz.f334)) 66 := ⟨by kernel_rfl, by kernel_rfl⟩
instance ilp346_0 : LpIs Q 346 0 (subAt [1, 1, 0, 1, 0, 0] (bodyOf Tryz.f346)) 20 := ⟨by kernel_rfl, by kernel_rfl⟩
instance ilp352_0 : LpIs Q 352 0 (subAt [1, 1, 0, 1, 0, 0] (bodyOf Tryz.f352)) 20 := ⟨by kernel_rfl, by kernel_rfl⟩
instance ilp353_0 : LpIs Q 353 0 (subAt [1, 1, 0, 1, 0, 0] (bodyOf Tryz.f353)) 20 := ⟨by kernel_rfl, by kernel_rfl⟩
noncomputable abbrev z31 : List Value := [(.int .i64 0), (.int .i64 0), (.int .i64 0), (.int .i64 0), (.int .i64 0), (.int .i64 0), (.int .i64 0), (.int .i64 0), (.int .i64 0), (.int .i64 0), (.int .i64 0), (.int .i64 0), (.int .i64 0)]
instance ial31 : AlOk Q 31 z31 := ⟨fun G => by kernel_rfl⟩
instance ist31 : StOk Q 31 13 := ⟨fun b o s v G => by kernel_rfl⟩
instance iep33 : EpOk Q 33 := ⟨fun neg x y => by cases neg <;> kernel_rfl, fun neg x y a => by cases neg <;> kernel_rfl, fun neg x y a => by cases neg <;> kernel_rfl⟩
instance ilda31 : LdAOk Q 31 13 := ⟨fun b o s G => by kernel_rfl⟩
noncomputable abbrev z38 : List Value := [(.int .u64 0), (.int .i64 0)]
instance ial38 : AlOk Q 38 z38 := ⟨fun G => by kernel_rfl⟩
instance ist38 : StOk Q 38 2 := ⟨fun b o s v G => by kernel_rfl⟩
noncomputable abbrev z23 : List Value := [(.int .i64 0), (.int .i64 0), (.int .i64 0)]
instance ibd23_0_1_2 : BdOk Q 23 z23 [(0, 0, 1), (1, 1, 1), (2, 2, 1)] := bd_ok Q (by kernel_rfl) (by kernel_rfl) (by kernel_rfl)
noncomputable abbrev z25 : List Value := [(.int .i64 0), (.int .i64 0), (.int .i64 0), (.int .i64 0), (.int .i64 0), (.int .i64 0)]
instance ibd25_0_1_2_3 : BdOk Q 25 z25 [(0, 0, 3), (1, 3, 1), (2, 4, 1), (3, 5, 1)] := bd_ok Q (by kernel_rfl) (by kernel_rfl) (by kernel_rfl)
instance ial25 : AlOk Q 25 z25 := ⟨fun G => by kernel_rfl⟩
instance ist25 : StOk Q 25 6 := ⟨fun b o s v G => by kernel_rfl⟩
instance ilda25 : LdAOk Q 25 6 := ⟨fun b o s G => by kernel_rfl⟩
noncomputable abbrev z27 : List Value := [(.int .i64 0), (.int .i64 0), (.int .i64 0)]
instance ibd27_0_1_2 : BdOk Q 27 z27 [(0, 0, 1), (1, 1, 1), (2, 2, 1)] := bd_ok Q (by kernel_rfl) (by kernel_rfl) (by kernel_rfl)
noncomputable abbrev z29 : List Value := [(.int .i64 0), (.int .i64 0), (.int .i64 0), (.int .i64 0), (.int .i64 0), (.int .i64 0), (.int .i64 0), (.int .i64 0), (.int .i64 0), (.int .i64 0)]
instance ibd29_0_1_2 : BdOk Q 29 z29 [(0, 0, 6), (1, 6, 3), (2, 9, 1)] := bd_ok Q (by kernel_rfl) (by kernel_rfl) (by kernel_rfl)
instance ial29 : AlOk Q 29 z29 := ⟨fun G => by kernel_rfl⟩
instance ist29 : StOk Q 29 10 := ⟨fun b o s v G => by kernel_rfl⟩
instance ilda29 : LdAOk Q 29 10 := ⟨fun b o s G => by kernel_rfl⟩
instance ibd31_0_1_2_3 : BdOk Q 31 z31 [(0, 0, 1), (1, 1, 1), (2, 2, 1), (3, 3, 10)] := bd_ok Q (by kernel_rfl) (by kernel_rfl) (by kernel_rfl)
instance ifa38_0 : FaOk Q 38 0 0 := ⟨fun b o s => by kernel_rfl⟩
instance ild36 : LdOk Q 36 := ⟨fun b o s G => (show _ = loadOne b o G by kernel_rfl).trans (loadOne_eq b o G)⟩
instance ifa38_1 : FaOk Q 38 1 1 := ⟨fun b o s => by kernel_rfl⟩
instance ild3 : LdOk Q 3 := ⟨fun b o s G => (show _ = loadOne b o G by kernel_rfl).trans (loadOne_eq b o G)⟩
instance ilda38 : LdAOk Q 38 2 := ⟨fun b o s G => by kernel_rfl⟩
noncomputable abbrev z82 : List Value := [(.int .i64 0), (.int .i64 0), (.int .i64 0), (.int .i64 0), (.int .i64 0), (.int .i64 0), (.int .i64 0), (.int .i64 0), (.int .i64 0), (.int .i64 0), (.int .i64 0), (.int .i64 0), (.int .i64 0), (.int .i64 0), (.bool false), (.int .i64 0), (.slice none 0 0), (.int .u64 0), (.int .i64 0), (.int .u64 0), (.int .i64 0), (.int .i64 0), (.int .i64 0), (.int .u64 0)]
instance ibd82_0_1_2_3 : BdOk Q 82 z82 [(0, 0, 19), (1, 19, 1), (2, 20, 1), (3, 21, 1)] := bd_ok Q (by kernel_rfl) (by kernel_rfl) (by kernel_rfl)
instance ifa82_0 : FaOk Q 82 0 0 := ⟨fun b o s => by kernel_rfl⟩
instance ifa79_6 : FaOk Q 79 6 18 := ⟨fun b o s => by kernel_rfl⟩
instance ild39 : LdOk Q 39 := ⟨fun b o s G => (show _ = loadOne b o G by kernel_rfl).trans (loadOne_eq b o G)⟩
instance ifa31_2 : FaOk Q 31 2 2 := ⟨fun b o s => by kernel_rfl⟩
instance ist39 : StOk Q 39 1 := ⟨fun b o s v G => by kernel_rfl⟩
noncomputable abbrev z84 : List Value := [.nilIface]
instance ibs77_2_0_1 : BsOk Q 77 2 (rep z84 2) 1 [(0, 0, 1), (1, 1, 1)] := bs_ok Q (z0 := z84) (by kernel_rfl) rfl (by decide) (by kernel_rfl)
instance ifa79_4 : FaOk Q 79 4 16 := ⟨fun b o s => by kernel_rfl⟩
instance ist77 : StOk Q 77 1 := ⟨fun b o s v G => by kernel_rfl⟩
noncomputable abbrev z89 : List Value := [(.int .i64 0), (.int .i64 0), (.int .i64 0), (.int .i64 0), (.int .i64 0), (.int .i64 0), (.int .i64 0), (.int .i64 0), (.int .i64 0), (.int .i64 0), (.int .i64 0), (.int .i64 0), (.int .i64 0), (.int .i64 0), (.bool false), (.int .i64 0), (.slice none 0 0), (.int .u64 0), (.int .i64 0), (.int .u64 0), (.int .i64 0), (.int .i64 0)]
instance ibd89_0 : BdOk Q 89 z89 [(0, 0, 19)] := bd_ok Q (by kernel_rfl) (by kernel_rfl) (by kernel_rfl)
noncomputable abbrev z44 : List Value := [(.pointer none)]
instance ial44 : AlOk Q 44 z44 := ⟨fun G => by kernel_rfl⟩
instance ist44 : StOk Q 44 1 := ⟨fun b o s v G => by kernel_rfl⟩
instance ild44 : LdOk Q 44 := ⟨fun b o s G => (show _ = loadOne b o G by kernel_rfl).trans (loadOne_eq b o G)⟩
instance ifa89_0 : FaOk Q 89 0 0 := ⟨fun b o s => by kernel_rfl⟩
noncomputable abbrev z97 : List Value := [.nilFunc, .nilFunc, .nilFunc, (.pointer none), (.bool false)]
instance ibd97_0_1_2 : BdOk Q 97 z97 [(0, 0, 1), (1, 1, 1), (2, 2, 1)] := bd_ok Q (by kernel_rfl) (by kernel_rfl) (by kernel_rfl)
instance iifc90 : IfcOk Q 90 := ⟨fun v => by kernel_rfl⟩
instance ibs77_3_0_1_2 : BsOk Q 77 3 (rep z84 3) 1 [(0, 0, 1), (1, 1, 1), (2, 2, 1)] := bs_ok Q (z0 := z84) (by kernel_rfl) rfl (by decide) (by kernel_rfl)
instance iep44 : EpOk Q 44 := ⟨fun neg x y => by cases neg <;> kernel_rfl, fun neg x y a => by cases neg <;> kernel_rfl, fun neg x y a => by cases neg <;> kernel_rfl⟩
instance ibd38_ : BdOk Q 38 z38 [] := bd_ok Q (by kernel_rfl) (by kernel_rfl) (by kernel_rfl)
instance ifa89_1 : FaOk Q 89 1 19 := ⟨fun b o s => by kernel_rfl⟩
instance ilda87 : LdAOk Q 87 3 := ⟨fun b o s G => by kernel_rfl⟩
instance iep42 : EpOk Q 42 := ⟨fun neg x y => by cases neg <;> kernel_rfl, fun neg x y a => by cases neg <;> kernel_rfl, fun neg x y a => by cases neg <;> kernel_rfl⟩
instance icv3_36 : CvOk Q 3 36 .i64 .u64 := ⟨fun n => by kernel_rfl⟩
instance iln100 : LnOk Q 100 := ⟨fun a n c => by kernel_rfl⟩
noncomputable abbrev z123 : List Value := [(.pointer none), (.int .u64 0), (.int .u64 0)]
instance ibd123_0_1 : BdOk Q 123 z123 [(0, 0, 1), (1, 1, 1)] := bd_ok Q (by kernel_rfl) (by kernel_rfl) (by kernel_rfl)
instance ial123 : AlOk Q 123 z123 := ⟨fun G => by kernel_rfl⟩
instance ist123 : StOk Q 123 3 := ⟨fun b o s v G => by kernel_rfl⟩
instance ifa123_0 : FaOk Q 123 0 0 := ⟨fun b o s => by kernel_rfl⟩
instance ild120 : LdOk Q 120 := ⟨fun b o s G => (show _ = loadOne b o G by kernel_rfl).trans (loadOne_eq b o G)⟩
instance ilda123 : LdAOk Q 123 3 := ⟨fun b o s G => by kernel_rfl⟩
instance iias67 : IasOk Q 67 1 := ⟨fun b o s n c k j => by kernel_rfl⟩
instance ifa144_3 : FaOk Q 144 3 7 := ⟨fun b o s => by kernel_rfl⟩
noncomputable abbrev z79 : List Value := [(.int .i64 0), (.int .i64 0), (.int .i64 0), (.int .i64 0), (.int .i64 0), (.int .i64 0), (.int .i64 0), (.int .i64 0), (.int .i64 0), (.int .i64 0), (.int .i64 0), (.int .i64 0), (.int .i64 0), (.int .i64 0), (.bool false), (.int .i64 0), (.slice none 0 0), (.int .u64 0), (.int .i64 0)]
instance ial79 : AlOk Q 79 z79 := ⟨fun G => by kernel_rfl⟩
instance ibd79_0_1_2 : BdOk Q 79 z79 [(0, 0, 13), (1, 13, 1), (2, 14, 1)] := bd_ok Q (by kernel_rfl) (by kernel_rfl) (by kernel_rfl)
instance ist79 : StOk Q 79 19 := ⟨fun b o s v G => by kernel_rfl⟩
instance ifa31_3 : FaOk Q 31 3 3 := ⟨fun b o s => by kernel_rfl⟩
instance ifa29_1 : FaOk Q 29 1 6 := ⟨fun b o s => by kernel_rfl⟩
instance ifa27_2 : FaOk Q 27 2 2 := ⟨fun b o s => by kernel_rfl⟩
instance ilda79 : LdAOk Q 79 19 := ⟨fun b o s G => by kernel_rfl⟩
noncomputable abbrev z154 : List Value := [.nilFunc, .nilFunc, .nilFunc, (.pointer none), (.bool false)]
instance ibd154_0_2 : BdOk Q 154 z154 [(0, 0, 1), (2, 2, 1)] := bd_ok Q (by kernel_rfl) (by kernel_rfl) (by kernel_rfl)
instance iifc146 : IfcOk Q 146 := ⟨fun v => by kernel_rfl⟩
instance ild42 : LdOk Q 42 := ⟨fun b o s G => (show _ = loadOne b o G by kernel_rfl).trans (loadOne_eq b o G)⟩
noncomputable abbrev z162 : List Value := [.nilFunc, .nilFunc, .nilFunc, (.pointer none), (.bool false)]
instance ibd162_0_2 : BdOk Q 162 z162 [(0, 0, 1), (2, 2, 1)] := bd_ok Q (by kernel_rfl) (by kernel_rfl) (by kernel_rfl)
instance iifc155 : IfcOk Q 155 := ⟨fun v => by kernel_rfl⟩
noncomputable abbrev z172 : List Value := [(.int .i64 0), (.int .i64 0), (.int .i64 0), (.int .i64 0), (.int .i64 0), (.int .i64 0), (.int .i64 0), (.int .i64 0), (.int .i64 0), (.int .i64 0), (.int .i64 0), (.int .i64 0), (.int .i64 0), (.int .i64 0), (.bool false), (.pointer none), (.pointer none), (.int .i64 0), (.int .u64 0), (.int .i64 0), (.int .u64 0), (.int .u64 0), (.int .i64 0), (.int .u64 0), (.bool false), (.int .i64 0)]
instance ibd172_0 : BdOk Q 172 z172 [(0, 0, 26)] := bd_ok Q (by kernel_rfl) (by kernel_rfl) (by kernel_rfl)
instance iep91 : EpOk Q 91 := ⟨fun neg x y => by cases neg <;> kernel_rfl, fun neg x y a => by cases neg <;> kernel_rfl, fun neg x y a => by cases neg <;> kernel_rfl⟩
instance ifa172_0 : FaOk Q 172 0 0 := ⟨fun b o s => by kernel_rfl⟩
instance ifa169_7 : FaOk Q 169 7 23 := ⟨fun b o s => by kernel_rfl⟩
instance ifa87_0 : FaOk Q 87 0 0 := ⟨fun b o s => by kernel_rfl⟩
instance ifa87_1 : FaOk Q 87 1 2 := ⟨fun b o s => by kernel_rfl⟩
noncomputable abbrev z180 : List Value := [.nilFunc, .nilFunc, .nilFunc, (.pointer none), (.bool false)]
instance ibd180_0 : BdOk Q 180 z180 [(0, 0, 1)] := bd_ok Q (by kernel_rfl) (by kernel_rfl) (by kernel_rfl)
instance iifc173 : IfcOk Q 173 := ⟨fun v => by kernel_rfl⟩
instance ifa79_2 : FaOk Q 79 2 14 := ⟨fun b o s => by kernel_rfl⟩
instance ild4 : LdOk Q 4 := ⟨fun b o s G => (show _ = loadOne b o G by kernel_rfl).trans (loadOne_eq b o G)⟩
instance ild77 : LdOk Q 77 := ⟨fun b o s G => (show _ = loadOne b o G by kernel_rfl).trans (loadOne_eq b o G)⟩
instance iln77 : LnOk Q 77 := ⟨fun a n c => by kernel_rfl⟩
noncomputable abbrev z100 : List Value := [(.slice none 0 0)]
instance ial100 : AlOk Q 100 z100 := ⟨fun G => by kernel_rfl⟩
instance ild100 : LdOk Q 100 := ⟨fun b o s G => (show _ = loadOne b o G by kernel_rfl).trans (loadOne_eq b o G)⟩
noncomputable abbrev z3 : List Value := [(.int .i64 0)]
instance ibs100_1_0 : BsOk Q 100 1 (rep z3 1) 1 [(0, 0, 1)] := bs_ok Q (z0 := z3) (by kernel_rfl) rfl (by decide) (by kernel_rfl)
instance iap100_100 : ApOk Q 100 100 1 8 := ⟨fun s x G => by kernel_rfl⟩
instance ist100 : StOk Q 100 1 := ⟨fun b o s v G => by kernel_rfl⟩
noncomputable abbrev z190 : List Value := (zs 4096 (.int .u64 0))
instance ial190 : AlOk Q 190 z190 := ⟨fun G => by kernel_rfl⟩
noncomputable abbrev z144 : List Value := [(.pointer none), (.int .i64 0), (.int .i64 0), (.int .i64 0), (.int .u64 0), (.int .u64 0), (.bool false), (.int .i64 0)]
instance ibd144_0_1 : BdOk Q 144 z144 [(0, 0, 1), (1, 1, 1)] := bd_ok Q (by kernel_rfl) (by kernel_rfl) (by kernel_rfl)
instance ifa31_1 : FaOk Q 31 1 1 := ⟨fun b o s => by kernel_rfl⟩
instance iias77 : IasOk Q 77 1 := ⟨fun b o s n c k j => by kernel_rfl⟩
instance ild84 : LdOk Q 84 := ⟨fun b o s G => (show _ = loadOne b o G by kernel_rfl).trans (loadOne_eq b o G)⟩
instance isl77 : SlOk Q 77 1 := ⟨fun a n c lo hi mx G => sl_eq Q (e := 84) (by kernel_rfl) (by kernel_rfl) a n c lo hi mx G⟩
instance ifa79_5 : FaOk Q 79 5 17 := ⟨fun b o s => by kernel_rfl⟩
instance ist36 : StOk Q 36 1 := ⟨fun b o s v G => by kernel_rfl⟩
instance ibs77_1_0 : BsOk Q 77 1 (rep z84 1) 1 [(0, 0, 1)] := bs_ok Q (z0 := z84) (by kernel_rfl) rfl (by decide) (by kernel_rfl)
instance iap77_77 : ApOk Q 77 77 1 16 := ⟨fun s x G => by kernel_rfl⟩
instance ifa144_0 : FaOk Q 144 0 0 := ⟨fun b o s => by kernel_rfl⟩
instance ild142 : LdOk Q 142 := ⟨fun b o s G => (show _ = loadOne b o G by kernel_rfl).trans (loadOne_eq b o G)⟩
instance iep142 : EpOk Q 142 := ⟨fun neg x y => by cases neg <;> kernel_rfl, fun neg x y a => by cases neg <;> kernel_rfl, fun neg x y a => by cases neg <;> kernel_rfl⟩
instance ifa144_1 : FaOk Q 144 1 1 := ⟨fun b o s => by kernel_rfl⟩
instance iiaa190 : IaaOk Q 190 4096 1 := ⟨fun b o s k j => by kernel_rfl⟩
noncomputable abbrev z117 : List Value := [(.int .i64 0), (.int .i64 0), (.int .u64 0), (.int .u64 0), (.bool false)]
instance ial117 : AlOk Q 117 z117 := ⟨fun G => by kernel_rfl⟩
instance ibd117_ : BdOk Q 117 z117 [] := bd_ok Q (by kernel_rfl) (by kernel_rfl) (by kernel_rfl)
instance ist117 : StOk Q 117 5 := ⟨fun b o s v G => by kernel_rfl⟩
instance ist3 : StOk Q 3 1 := ⟨fun b o s v G => by kernel_rfl⟩
instance ibd117_0_1 : BdOk Q 117 z117 [(0, 0, 1), (1, 1, 1)] := bd_ok Q (by kernel_rfl) (by kernel_rfl) (by kernel_rfl)
instance ifa144_2 : FaOk Q 144 2 2 := ⟨fun b o s => by kernel_rfl⟩
instance ild188 : LdOk Q 188 := ⟨fun b o s G => (show _ = loadOne b o G by kernel_rfl).trans (loadOne_eq b o G)⟩
instance ifa117_2 : FaOk Q 117 2 2 := ⟨fun b o s => by kernel_rfl⟩
instance ifa117_3 : FaOk Q 117 3 3 := ⟨fun b o s => by kernel_rfl⟩
instance ifa117_4 : FaOk Q 117 4 4 := ⟨fun b o s => by kernel_rfl⟩
instance ist4 : StOk Q 4 1 := ⟨fun b o s v G => by kernel_rfl⟩
instance ist188 : StOk Q 188 1 := ⟨fun b o s v G => by kernel_rfl⟩
instance ilda117 : LdAOk Q 117 5 := ⟨fun b o s G => by kernel_rfl⟩
instance ifa123_1 : FaOk Q 123 1 1 := ⟨fun b o s => by kernel_rfl⟩
instance iep70 : EpOk Q 70 := ⟨fun neg x y => by cases neg <;> kernel_rfl, fun neg x y a => by cases neg <;> kernel_rfl, fun neg x y a => by cases neg <;> kernel_rfl⟩
instance ifa138_8 : FaOk Q 138 8 11 := ⟨fun b o s => by kernel_rfl⟩
instance ifa138_9 : FaOk Q 138 9 12 := ⟨fun b o s => by kernel_rfl⟩
instance ifa138_7 : FaOk Q 138 7 10 := ⟨fun b o s => by kernel_rfl⟩
instance ifa138_2 : FaOk Q 138 2 5 := ⟨fun b o s => by kernel_rfl⟩
instance ild135 : LdOk Q 135 := ⟨fun b o s G => (show _ = loadOne b o G by kernel_rfl).trans (loadOne_eq b o G)⟩
instance iep135 : EpOk Q 135 := ⟨fun neg x y => by cases neg <;> kernel_rfl, fun neg x y a => by cases neg <;> kernel_rfl, fun neg x y a => by cases neg <;> kernel_rfl⟩
instance ifa138_0 : FaOk Q 138 0 0 := ⟨fun b o s => by kernel_rfl⟩
instance ifa138_4 : FaOk Q 138 4 7 := ⟨fun b o s => by kernel_rfl⟩
instance ild67 : LdOk Q 67 := ⟨fun b o s G => (show _ = loadOne b o G by kernel_rfl).trans (loadOne_eq b o G)⟩
noncomputable abbrev z36 : List Value := [(.int .u64 0)]
instance ibs67_1_0 : BsOk Q 67 1 (rep z36 1) 1 [(0, 0, 1)] := bs_ok Q (z0 := z36) (by kernel_rfl) rfl (by decide) (by kernel_rfl)
instance iap67_67 : ApOk Q 67 67 1 8 := ⟨fun s x G => by kernel_rfl⟩
instance ist67 : StOk Q 67 1 := ⟨fun b o s v G => by kernel_rfl⟩
instance ifa134_1 : FaOk Q 134 1 1 := ⟨fun b o s => by kernel_rfl⟩
instance ifa138_3 : FaOk Q 138 3 6 := ⟨fun b o s => by kernel_rfl⟩
instance ifa138_5 : FaOk Q 138 5 8 := ⟨fun b o s => by kernel_rfl⟩
instance ifa138_1 : FaOk Q 138 1 2 := ⟨fun b o s => by kernel_rfl⟩
instance ifa63_1 : FaOk Q 63 1 1 := ⟨fun b o s => by kernel_rfl⟩
instance ifa138_6 : FaOk Q 138 6 9 := ⟨fun b o s => by kernel_rfl⟩
instance iln67 : LnOk Q 67 := ⟨fun a n c => by kernel_rfl⟩
noncomputable abbrev z210 : List Value := [(.int .i64 0), (.int .i64 0), (.int .i64 0), (.int .i64 0), (.int .i64 0), (.int .i64 0), (.int .i64 0), (.int .i64 0), (.int .i64 0), (.int .i64 0), (.int .i64 0), (.int .i64 0), (.int .i64 0), (.int .i64 0), (.bool false), (.int .i64 0), (.slice none 0 0), (.int .u64 0), (.int .i64 0), (.int .u64 0), (.int .i64 0), (.int .i64 0)]
instance ibd210_0 : BdOk Q 210 z210 [(0, 0, 19)] := bd_ok Q (by kernel_rfl) (by kernel_rfl) (by kernel_rfl)
noncomputable abbrev z135 : List Value := [(.pointer none)]
instance ial135 : AlOk Q 135 z135 := ⟨fun G => by kernel_rfl⟩
instance ist135 : StOk Q 135 1 := ⟨fun b o s v G => by kernel_rfl⟩
instance ifa210_0 : FaOk Q 210 0 0 := ⟨fun b o s => by kernel_rfl⟩
noncomputable abbrev z218 : List Value := [.nilFunc, .nilFunc, .nilFunc, (.pointer none), (.bool false)]
instance ibd218_0_1_2 : BdOk Q 218 z218 [(0, 0, 1), (1, 1, 1), (2, 2, 1)] := bd_ok Q (by kernel_rfl) (by kernel_rfl) (by kernel_rfl)
instance iifc211 : IfcOk Q 211 := ⟨fun v => by kernel_rfl⟩
instance ifa210_1 : FaOk Q 210 1 19 := ⟨fun b o s => by kernel_rfl⟩
instance ifa138_10 : FaOk Q 138 10 13 := ⟨fun b o s => by kernel_rfl⟩
instance ild99 : LdOk Q 99 := ⟨fun b o s G => (show _ = loadOne b o G by kernel_rfl).trans (loadOne_eq b o G)⟩
instance ifa79_0 : FaOk Q 79 0 0 := ⟨fun b o s => by kernel_rfl⟩
instance ilda27 : LdAOk Q 27 3 := ⟨fun b o s G => by kernel_rfl⟩
instance ifa79_1 : FaOk Q 79 1 13 := ⟨fun b o s => by kernel_rfl⟩
noncomputable abbrev z230 : List Value := [.nilFunc, .nilFunc, .nilFunc, (.int .i64 0), (.bool false), (.int .i64 0)]
instance ibd230_2 : BdOk Q 230 z230 [(2, 4, 1)] := bd_ok Q (by kernel_rfl) (by kernel_rfl) (by kernel_rfl)
noncomputable abbrev z234 : List Value := [.nilFunc, .nilFunc, .nilFunc, (.int .i64 0), (.bool false), (.int .i64 0), (.int .i64 0), (.int .i64 0), (.int .i64 0), (.int .i64 0), (.int .u32 0)]
instance ibd234_0_1 : BdOk Q 234 z234 [(0, 0, 6), (1, 6, 3)] := bd_ok Q (by kernel_rfl) (by kernel_rfl) (by kernel_rfl)
instance ifa234_0 : FaOk Q 234 0 0 := ⟨fun b o s => by kernel_rfl⟩
instance ifa27_1 : FaOk Q 27 1 1 := ⟨fun b o s => by kernel_rfl⟩
instance ifa234_2 : FaOk Q 234 2 9 := ⟨fun b o s => by kernel_rfl⟩
noncomputable abbrev z228 : List Value := [.nilFunc, .nilFunc, .nilFunc]
instance ibd228_0_1_2 : BdOk Q 228 z228 [(0, 0, 1), (1, 1, 1), (2, 2, 1)] := bd_ok Q (by kernel_rfl) (by kernel_rfl) (by kernel_rfl)
instance ifa230_0 : FaOk Q 230 0 0 := ⟨fun b o s => by kernel_rfl⟩
instance ist228 : StOk Q 228 3 := ⟨fun b o s v G => by kernel_rfl⟩
instance ifa79_3 : FaOk Q 79 3 15 := ⟨fun b o s => by kernel_rfl⟩
instance iep147 : EpOk Q 147 := ⟨fun neg x y => by cases neg <;> kernel_rfl, fun neg x y a => by cases neg <;> kernel_rfl, fun neg x y a => by cases neg <;> kernel_rfl⟩
instance ifa234_3 : FaOk Q 234 3 10 := ⟨fun b o s => by kernel_rfl⟩
instance ild232 : LdOk Q 232 := ⟨fun b o s G => (show _ = loadOne b o G by kernel_rfl).trans (loadOne_eq b o G)⟩
instance icv232_3 : CvOk Q 232 3 .u32 .i64 := ⟨fun n => by kernel_rfl⟩
instance ifa29_0 : FaOk Q 29 0 0 := ⟨fun b o s => by kernel_rfl⟩
instance ifa25_0 : FaOk Q 25 0 0 := ⟨fun b o s => by kernel_rfl⟩
instance ilda23 : LdAOk Q 23 3 := ⟨fun b o s G => by kernel_rfl⟩
noncomputable abbrev z240 : List Value := [(.pointer none), (.int .i64 0), (.int .i64 0), (.int .i64 0), (.int .i64 0), (.int .i64 0), (.int .i64 0), (.bool false), .nilFunc, (.int .i64 0), (.int .u64 0), (.int .i64 0)]
instance ibd240_0_1_2_3 : BdOk Q 240 z240 [(0, 0, 1), (1, 1, 6), (2, 7, 1), (3, 8, 1)] := bd_ok Q (by kernel_rfl) (by kernel_rfl) (by kernel_rfl)
instance ifa82_5 : FaOk Q 82 5 23 := ⟨fun b o s => by kernel_rfl⟩
noncomputable abbrev z85 : List Value := [.nilFunc]
instance ibs243_3_0_1_2 : BsOk Q 243 3 (rep z85 3) 1 [(0, 0, 1), (1, 1, 1), (2, 2, 1)] := bs_ok Q (z0 := z85) (by kernel_rfl) rfl (by decide) (by kernel_rfl)
instance iln243 : LnOk Q 243 := ⟨fun a n c => by kernel_rfl⟩
instance iias243 : IasOk Q 243 1 := ⟨fun b o s n c k j => by kernel_rfl⟩
instance ild85 : LdOk Q 85 := ⟨fun b o s G => (show _ = loadOne b o G by kernel_rfl).trans (loadOne_eq b o G)⟩
instance ifa82_4 : FaOk Q 82 4 22 := ⟨fun b o s => by kernel_rfl⟩
instance ibs243_4_0_1_2_3 : BsOk Q 243 4 (rep z85 4) 1 [(0, 0, 1), (1, 1, 1), (2, 2, 1), (3, 3, 1)] := bs_ok Q (z0 := z85) (by kernel_rfl) rfl (by decide) (by kernel_rfl)
noncomputable abbrev z169 : List Value := [(.int .i64 0), (.int .i64 0), (.int .i64 0), (.int .i64 0), (.int .i64 0), (.int .i64 0), (.int .i64 0), (.int .i64 0), (.int .i64 0), (.int .i64 0), (.int .i64 0), (.int .i64 0), (.int .i64 0), (.int .i64 0), (.bool false), (.pointer none), (.pointer none), (.int .i64 0), (.int .u64 0), (.int .i64 0), (.int .u64 0), (.int .u64 0), (.int .i64 0), (.int .u64 0), (.bool false), (.int .i64 0)]
instance ial169 : AlOk Q 169 z169 := ⟨fun G => by kernel_rfl⟩
instance ibd169_8_2_9 : BdOk Q 169 z169 [(8, 24, 1), (2, 17, 1), (9, 25, 1)] := bd_ok Q (by kernel_rfl) (by kernel_rfl) (by kernel_rfl)
instance ist169 : StOk Q 169 26 := ⟨fun b o s v G => by kernel_rfl⟩
instance ibd169_0_8_2 : BdOk Q 169 z169 [(0, 0, 13), (8, 24, 1), (2, 17, 1)] := bd_ok Q (by kernel_rfl) (by kernel_rfl) (by kernel_rfl)
instance ilda169 : LdAOk Q 169 26 := ⟨fun b o s G => by kernel_rfl⟩
instance ifa169_8 : FaOk Q 169 8 24 := ⟨fun b o s => by kernel_rfl⟩
instance ifa169_2 : FaOk Q 169 2 17 := ⟨fun b o s => by kernel_rfl⟩
instance ifa169_9 : FaOk Q 169 9 25 := ⟨fun b o s => by kernel_rfl⟩
instance ifa169_6 : FaOk Q 169 6 21 := ⟨fun b o s => by kernel_rfl⟩
noncomputable abbrev z247 : List Value := [.nilFunc, .nilFunc, .nilFunc, (.int .i64 0), (.bool false), (.int .i64 0), (.int .i64 0)]
instance ibd247_0_1 : BdOk Q 247 z247 [(0, 0, 6), (1, 6, 1)] := bd_ok Q (by kernel_rfl) (by kernel_rfl) (by kernel_rfl)
instance ifa247_0 : FaOk Q 247 0 0 := ⟨fun b o s => by kernel_rfl⟩
instance iiaa228 : IaaOk Q 228 3 1 := ⟨fun b o s k j => by kernel_rfl⟩
instance ist203 : StOk Q 203 1 := ⟨fun b o s v G => by kernel_rfl⟩
instance imk67 : MkSlOk Q 67 1 8 z36 := ⟨fun k k' l c G => by kernel_rfl⟩
instance isla190 : SlAOk Q 190 4096 1 := ⟨fun a lo hi mx G => by kernel_rfl⟩
instance iln248 : LnOk Q 248 := ⟨fun a n c => by kernel_rfl⟩
instance iias248 : IasOk Q 248 1 := ⟨fun b o s n c k j => by kernel_rfl⟩
noncomputable abbrev z252 : List Value := [(.int .i64 0), (.int .i64 0), (.int .i64 0), (.int .i64 0), (.int .i64 0), (.int .i64 0), (.int .i64 0), (.int .i64 0), (.int .i64 0), (.int .i64 0), (.int .i64 0), (.int .i64 0), (.int .i64 0), (.int .i64 0), (.bool false), (.int .i64 0), (.slice none 0 0), (.int .u64 0), (.int .i64 0), (.int .i64 0), (.int .i64 0)]
instance ibd252_0 : BdOk Q 252 z252 [(0, 0, 19)] := bd_ok Q (by kernel_rfl) (by kernel_rfl) (by kernel_rfl)
noncomputable abbrev z186 : List Value := [(.pointer none)]
instance ial186 : AlOk Q 186 z186 := ⟨fun G => by kernel_rfl⟩
instance ist186 : StOk Q 186 1 := ⟨fun b o s v G => by kernel_rfl⟩
instance ild186 : LdOk Q 186 := ⟨fun b o s G => (show _ = loadOne b o G by kernel_rfl).trans (loadOne_eq b o G)⟩
instance ifa252_0 : FaOk Q 252 0 0 := ⟨fun b o s => by kernel_rfl⟩
instance iep186 : EpOk Q 186 := ⟨fun neg x y => by cases neg <;> kernel_rfl, fun neg x y a => by cases neg <;> kernel_rfl, fun neg x y a => by cases neg <;> kernel_rfl⟩
instance ifa252_1 : FaOk Q 252 1 19 := ⟨fun b o s => by kernel_rfl⟩
instance ifa252_2 : FaOk Q 252 2 20 := ⟨fun b o s => by kernel_rfl⟩
instance ifa23_2 : FaOk Q 23 2 2 := ⟨fun b o s => by kernel_rfl⟩
instance ifa31_0 : FaOk Q 31 0 0 := ⟨fun b o s => by kernel_rfl⟩
instance ifd23_0 : FdOk Q 23 0 0 := ⟨fun l => by kernel_rfl⟩
instance iep120 : EpOk Q 120 := ⟨fun neg x y => by cases neg <;> kernel_rfl, fun neg x y a => by cases neg <;> kernel_rfl, fun neg x y a => by cases neg <;> kernel_rfl⟩
instance ifa134_0 : FaOk Q 134 0 0 := ⟨fun b o s => by kernel_rfl⟩
instance ibd123_0 : BdOk Q 123 z123 [(0, 0, 1)] := bd_ok Q (by kernel_rfl) (by kernel_rfl) (by kernel_rfl)
instance ifd117_3 : FdOk Q 117 3 3 := ⟨fun l => by kernel_rfl⟩
noncomputable abbrev z284 : List Value := [(.int .i64 0), (.int .i64 0), (.int .i64 0), (.int .i64 0), (.int .i64 0), (.int .i64 0), (.int .i64 0), (.int .i64 0), (.int .i64 0), (.int .i64 0), (.int .i64 0), (.int .i64 0), (.int .i64 0), (.int .i64 0), (.int .u64 0), (.int .i64 0), (.int .u64 0), (.int .u64 0), (.int .i64 0), (.int .u64 0), (.bool false), (.int .i64 0)]
instance ibd284_0 : BdOk Q 284 z284 [(0, 0, 22)] := bd_ok Q (by kernel_rfl) (by kernel_rfl) (by kernel_rfl)
instance iep212 : EpOk Q 212 := ⟨fun neg x y => by cases neg <;> kernel_rfl, fun neg x y a => by cases neg <;> kernel_rfl, fun neg x y a => by cases neg <;> kernel_rfl⟩
instance ifa284_0 : FaOk Q 284 0 0 := ⟨fun b o s => by kernel_rfl⟩
instance ifa281_7 : FaOk Q 281 7 19 := ⟨fun b o s => by kernel_rfl⟩
noncomputable abbrev z221 : List Value := [(.int .i64 0), (.int .i64 0), (.int .i64 0)]
instance ial221 : AlOk Q 221 z221 := ⟨fun G => by kernel_rfl⟩
instance ibd221_0_1_2 : BdOk Q 221 z221 [(0, 0, 1), (1, 1, 1), (2, 2, 1)] := bd_ok Q (by kernel_rfl) (by kernel_rfl) (by kernel_rfl)
instance ist221 : StOk Q 221 3 := ⟨fun b o s v G => by kernel_rfl⟩
instance ilda221 : LdAOk Q 221 3 := ⟨fun b o s G => by kernel_rfl⟩
instance ifa221_1 : FaOk Q 221 1 1 := ⟨fun b o s => by kernel_rfl⟩
instance ifa221_2 : FaOk Q 221 2 2 := ⟨fun b o s => by kernel_rfl⟩
instance ild219 : LdOk Q 219 := ⟨fun b o s G => (show _ = loadOne b o G by kernel_rfl).trans (loadOne_eq b o G)⟩
instance iifc219 : IfcOk Q 219 := ⟨fun v => by kernel_rfl⟩
instance ifa221_0 : FaOk Q 221 0 0 := ⟨fun b o s => by kernel_rfl⟩
noncomputable abbrev z226 : List Value := [(.int .i64 0), (.int .i64 0), (.int .i64 0)]
instance ial226 : AlOk Q 226 z226 := ⟨fun G => by kernel_rfl⟩
instance ibd226_0_1_2 : BdOk Q 226 z226 [(0, 0, 1), (1, 1, 1), (2, 2, 1)] := bd_ok Q (by kernel_rfl) (by kernel_rfl) (by kernel_rfl)
instance ist226 : StOk Q 226 3 := ⟨fun b o s v G => by kernel_rfl⟩
instance ilda226 : LdAOk Q 226 3 := ⟨fun b o s G => by kernel_rfl⟩
instance ifa226_1 : FaOk Q 226 1 1 := ⟨fun b o s => by kernel_rfl⟩
instance ifa226_2 : FaOk Q 226 2 2 := ⟨fun b o s => by kernel_rfl⟩
instance ild224 : LdOk Q 224 := ⟨fun b o s G => (show _ = loadOne b o G by kernel_rfl).trans (loadOne_eq b o G)⟩
instance iifc224 : IfcOk Q 224 := ⟨fun v => by kernel_rfl⟩
instance ifa226_0 : FaOk Q 226 0 0 := ⟨fun b o s => by kernel_rfl⟩
instance ifa230_1 : FaOk Q 230 1 3 := ⟨fun b o s => by kernel_rfl⟩
instance ifa230_3 : FaOk Q 230 3 5 := ⟨fun b o s => by kernel_rfl⟩
instance ifa234_1 : FaOk Q 234 1 6 := ⟨fun b o s => by kernel_rfl⟩
instance ifa27_0 : FaOk Q 27 0 0 := ⟨fun b o s => by kernel_rfl⟩
instance icv36_232 : CvOk Q 36 232 .u64 .u32 := ⟨fun n => by kernel_rfl⟩
instance ist232 : StOk Q 232 1 := ⟨fun b o s v G => by kernel_rfl⟩
instance icv232_36 : CvOk Q 232 36 .u32 .u64 := ⟨fun n => by kernel_rfl⟩
instance ifa230_2 : FaOk Q 230 2 4 := ⟨fun b o s => by kernel_rfl⟩
noncomputable abbrev z287 : List Value := [(.int .i64 0), (.int .i64 0), (.int .i64 0), (.int .u64 0), (.int .i64 0), (.int .i64 0), (.bool false), (.bool false), (.int .i64 0)]
instance ibd287_0_4 : BdOk Q 287 z287 [(0, 0, 3), (4, 6, 1)] := bd_ok Q (by kernel_rfl) (by kernel_rfl) (by kernel_rfl)
noncomputable abbrev z290 : List Value := [(.int .i64 0), (.int .i64 0), (.int .i64 0), (.int .u64 0), (.int .i64 0), (.int .i64 0), (.bool false), (.bool false), (.int .i64 0), .nilFunc]
instance ibd290_0_1 : BdOk Q 290 z290 [(0, 0, 9), (1, 9, 1)] := bd_ok Q (by kernel_rfl) (by kernel_rfl) (by kernel_rfl)
instance ifa240_0 : FaOk Q 240 0 0 := ⟨fun b o s => by kernel_rfl⟩
instance ild236 : LdOk Q 236 := ⟨fun b o s G => (show _ = loadOne b o G by kernel_rfl).trans (loadOne_eq b o G)⟩
instance ifa240_4 : FaOk Q 240 4 9 := ⟨fun b o s => by kernel_rfl⟩
instance ifa240_3 : FaOk Q 240 3 8 := ⟨fun b o s => by kernel_rfl⟩
instance ist238 : StOk Q 238 1 := ⟨fun b o s v G => by kernel_rfl⟩
instance iep156 : EpOk Q 156 := ⟨fun neg x y => by cases neg <;> kernel_rfl, fun neg x y a => by cases neg <;> kernel_rfl, fun neg x y a => by cases neg <;> kernel_rfl⟩
instance ifa240_2 : FaOk Q 240 2 7 := ⟨fun b o s => by kernel_rfl⟩
instance ild238 : LdOk Q 238 := ⟨fun b o s G => (show _ = loadOne b o G by kernel_rfl).trans (loadOne_eq b o G)⟩
instance ief238 : EfOk Q 238 := ⟨fun neg x y => by cases neg <;> kernel_rfl, fun neg x y f a b => by cases neg <;> kernel_rfl⟩
instance ifa240_5 : FaOk Q 240 5 10 := ⟨fun b o s => by kernel_rfl⟩
instance ifa240_6 : FaOk Q 240 6 11 := ⟨fun b o s => by kernel_rfl⟩
noncomputable abbrev z298 : List Value := [.nilFunc, .nilFunc, .nilFunc, (.pointer none), (.bool false)]
instance ibd298_0_1 : BdOk Q 298 z298 [(0, 0, 1), (1, 1, 1)] := bd_ok Q (by kernel_rfl) (by kernel_rfl) (by kernel_rfl)
instance iifc291 : IfcOk Q 291 := ⟨fun v => by kernel_rfl⟩
noncomputable abbrev z306 : List Value := [.nilFunc, .nilFunc, .nilFunc, (.pointer none), (.bool false)]
instance ibd306_0_1 : BdOk Q 306 z306 [(0, 0, 1), (1, 1, 1)] := bd_ok Q (by kernel_rfl) (by kernel_rfl) (by kernel_rfl)
instance iifc299 : IfcOk Q 299 := ⟨fun v => by kernel_rfl⟩
noncomputable abbrev z312 : List Value := [.nilFunc, .nilFunc, .nilFunc, (.pointer none), (.bool false)]
instance ibd312_0_2 : BdOk Q 312 z312 [(0, 0, 1), (2, 2, 1)] := bd_ok Q (by kernel_rfl) (by kernel_rfl) (by kernel_rfl)
instance iifc307 : IfcOk Q 307 := ⟨fun v => by kernel_rfl⟩
instance ifa247_1 : FaOk Q 247 1 6 := ⟨fun b o s => by kernel_rfl⟩
instance ild183 : LdOk Q 183 := ⟨fun b o s G => (show _ = loadOne b o G by kernel_rfl).trans (loadOne_eq b o G)⟩
noncomputable abbrev z314 : List Value := [(.int .i64 0), (.int .i64 0)]
instance ial314 : AlOk Q 314 z314 := ⟨fun G => by kernel_rfl⟩
instance ist314 : StOk Q 314 2 := ⟨fun b o s v G => by kernel_rfl⟩
instance ifa314_0 : FaOk Q 314 0 0 := ⟨fun b o s => by kernel_rfl⟩
instance iln183 : LnOk Q 183 := ⟨fun a n c => by kernel_rfl⟩
instance iias183 : IasOk Q 183 1 := ⟨fun b o s n c k j => by kernel_rfl⟩
instance iep253 : EpOk Q 253 := ⟨fun neg x y => by cases neg <;> kernel_rfl, fun neg x y a => by cases neg <;> kernel_rfl, fun neg x y a => by cases neg <;> kernel_rfl⟩
instance ifa327_0 : FaOk Q 327 0 0 := ⟨fun b o s => by kernel_rfl⟩
instance ifa327_6 : FaOk Q 327 6 18 := ⟨fun b o s => by kernel_rfl⟩
instance ifa25_2 : FaOk Q 25 2 4 := ⟨fun b o s => by kernel_rfl⟩
instance ifa25_1 : FaOk Q 25 1 3 := ⟨fun b o s => by kernel_rfl⟩
instance ild33 : LdOk Q 33 := ⟨fun b o s G => (show _ = loadOne b o G by kernel_rfl).trans (loadOne_eq b o G)⟩
instance ial23 : AlOk Q 23 z23 := ⟨fun G => by kernel_rfl⟩
instance ifa29_2 : FaOk Q 29 2 9 := ⟨fun b o s => by kernel_rfl⟩
instance ifa23_1 : FaOk Q 23 1 1 := ⟨fun b o s => by kernel_rfl⟩
instance ist23 : StOk Q 23 3 := ⟨fun b o s v G => by kernel_rfl⟩
noncomputable abbrev z262 : List Value := [(.int .i64 0), (.int .i64 0), (.bool false)]
instance ial262 : AlOk Q 262 z262 := ⟨fun G => by kernel_rfl⟩
noncomputable abbrev z333 : List Value := [(.int .i64 0), (.int .i64 0), (.int .i64 0), (.int .i64 0)]
instance ial333 : AlOk Q 333 z333 := ⟨fun G => by kernel_rfl⟩
instance ist333 : StOk Q 333 4 := ⟨fun b o s v G => by kernel_rfl⟩
instance iiaa333 : IaaOk Q 333 2 2 := ⟨fun b o s k j => by kernel_rfl⟩
instance ilda332 : LdAOk Q 332 2 := ⟨fun b o s G => by kernel_rfl⟩
instance ibd262_0_1_2 : BdOk Q 262 z262 [(0, 0, 1), (1, 1, 1), (2, 2, 1)] := bd_ok Q (by kernel_rfl) (by kernel_rfl) (by kernel_rfl)
instance ist262 : StOk Q 262 3 := ⟨fun b o s v G => by kernel_rfl⟩
instance ilda262 : LdAOk Q 262 3 := ⟨fun b o s G => by kernel_rfl⟩
instance ibd262_ : BdOk Q 262 z262 [] := bd_ok Q (by kernel_rfl) (by kernel_rfl) (by kernel_rfl)
noncomputable abbrev z281 : List Value := [(.int .i64 0), (.int .i64 0), (.int .i64 0), (.int .i64 0), (.int .i64 0), (.int .i64 0), (.int .i64 0), (.int .i64 0), (.int .i64 0), (.int .i64 0), (.int .i64 0), (.int .i64 0), (.int .i64 0), (.int .i64 0), (.int .u64 0), (.int .i64 0), (.int .u64 0), (.int .u64 0), (.int .i64 0), (.int .u64 0), (.bool false), (.int .i64 0)]
instance ial281 : AlOk Q 281 z281 := ⟨fun G => by kernel_rfl⟩
instance ibd281_8_2_9 : BdOk Q 281 z281 [(8, 20, 1), (2, 13, 1), (9, 21, 1)] := bd_ok Q (by kernel_rfl) (by kernel_rfl) (by kernel_rfl)
instance ist281 : StOk Q 281 22 := ⟨fun b o s v G => by kernel_rfl⟩
instance ibd281_0_8_2 : BdOk Q 281 z281 [(0, 0, 13), (8, 20, 1), (2, 13, 1)] := bd_ok Q (by kernel_rfl) (by kernel_rfl) (by kernel_rfl)
instance ilda281 : LdAOk Q 281 22 := ⟨fun b o s G => by kernel_rfl⟩
instance ifa281_8 : FaOk Q 281 8 20 := ⟨fun b o s => by kernel_rfl⟩
instance ifa281_2 : FaOk Q 281 2 13 := ⟨fun b o s => by kernel_rfl⟩
instance ifa281_9 : FaOk Q 281 9 21 := ⟨fun b o s => by kernel_rfl⟩
instance ifa281_6 : FaOk Q 281 6 17 := ⟨fun b o s => by kernel_rfl⟩
instance ifa290_1 : FaOk Q 290 1 9 := ⟨fun b o s => by kernel_rfl⟩
instance ist288 : StOk Q 288 1 := ⟨fun b o s v G => by kernel_rfl⟩
instance ifa290_0 : FaOk Q 290 0 0 := ⟨fun b o s => by kernel_rfl⟩
instance ifa287_2 : FaOk Q 287 2 4 := ⟨fun b o s => by kernel_rfl⟩
instance iep236 : EpOk Q 236 := ⟨fun neg x y => by cases neg <;> kernel_rfl, fun neg x y a => by cases neg <;> kernel_rfl, fun neg x y a => by cases neg <;> kernel_rfl⟩
instance ild288 : LdOk Q 288 := ⟨fun b o s G => (show _ = loadOne b o G by kernel_rfl).trans (loadOne_eq b o G)⟩
instance ifa287_5 : FaOk Q 287 5 7 := ⟨fun b o s => by kernel_rfl⟩
instance ifa240_1 : FaOk Q 240 1 1 := ⟨fun b o s => by kernel_rfl⟩
instance ibd262_0_1 : BdOk Q 262 z262 [(0, 0, 1), (1, 1, 1)] := bd_ok Q (by kernel_rfl) (by kernel_rfl) (by kernel_rfl)
instance ifa82_1 : FaOk Q 82 1 19 := ⟨fun b o s => by kernel_rfl⟩
instance ifa82_2 : FaOk Q 82 2 20 := ⟨fun b o s => by kernel_rfl⟩
instance ifa82_3 : FaOk Q 82 3 21 := ⟨fun b o s => by kernel_rfl⟩
noncomputable abbrev z348 : List Value := [(.bool false), (.int .u64 0), .nilFunc, .nilFunc, .nilFunc, .nilFunc, (.int .i64 0), (.int .i64 0)]
instance ibd348_0_1_4 : BdOk Q 348 z348 [(0, 0, 1), (1, 1, 1), (4, 7, 1)] := bd_ok Q (by kernel_rfl) (by kernel_rfl) (by kernel_rfl)
instance ifa348_4 : FaOk Q 348 4 7 := ⟨fun b o s => by kernel_rfl⟩
instance ifa348_3 : FaOk Q 348 3 6 := ⟨fun b o s => by kernel_rfl⟩
instance ial3 : AlOk Q 3 z3 := ⟨fun G => by kernel_rfl⟩
noncomputable abbrev z346 : List Value := [.nilFunc, .nilFunc, .nilFunc, .nilFunc]
instance ibd346_0_1_2_3 : BdOk Q 346 z346 [(0, 0, 1), (1, 1, 1), (2, 2, 1), (3, 3, 1)] := bd_ok Q (by kernel_rfl) (by kernel_rfl) (by kernel_rfl)
instance ifa348_2 : FaOk Q 348 2 2 := ⟨fun b o s => by kernel_rfl⟩
instance ist346 : StOk Q 346 4 := ⟨fun b o s v G => by kernel_rfl⟩
instance iep292 : EpOk Q 292 := ⟨fun neg x y => by cases neg <;> kernel_rfl, fun neg x y a => by cases neg <;> kernel_rfl, fun neg x y a => by cases neg <;> kernel_rfl⟩
instance ifa348_1 : FaOk Q 348 1 1 := ⟨fun b o s => by kernel_rfl⟩
noncomputable abbrev z353 : List Value := [(.int .i64 0), (.int .i64 0), (.int .i64 0), (.int .i64 0), (.int .i64 0), (.int .i64 0), (.int .i64 0), (.int .i64 0), (.int .i64 0), (.int .i64 0), (.int .i64 0), (.int .i64 0), (.int .i64 0), (.bool false), (.bool false), (.int .u64 0), (.int .u64 0), (.int .i64 0), (.int .i64 0), (.int .i64 0), (.int .i64 0), (.int .u64 0), (.pointer none), (.pointer none), (.int .u64 0), (.int .i64 0)]
instance ibd353_0_1_3_4_6_13 : BdOk Q 353 z353 [(0, 0, 13), (1, 13, 1), (3, 15, 1), (4, 16, 1), (6, 18, 1), (13, 25, 1)] := bd_ok Q (by kernel_rfl) (by kernel_rfl) (by kernel_rfl)
instance ifa353_13 : FaOk Q 353 13 25 := ⟨fun b o s => by kernel_rfl⟩
instance ifa262_0 : FaOk Q 262 0 0 := ⟨fun b o s => by kernel_rfl⟩
instance ifa353_5 : FaOk Q 353 5 17 := ⟨fun b o s => by kernel_rfl⟩
instance ifa353_7 : FaOk Q 353 7 19 := ⟨fun b o s => by kernel_rfl⟩
instance ist351 : StOk Q 351 1 := ⟨fun b o s v G => by kernel_rfl⟩
instance iep300 : EpOk Q 300 := ⟨fun neg x y => by cases neg <;> kernel_rfl, fun neg x y a => by cases neg <;> kernel_rfl, fun neg x y a => by cases neg <;> kernel_rfl⟩
instance ifa353_12 : FaOk Q 353 12 24 := ⟨fun b o s => by kernel_rfl⟩
noncomputable abbrev z320 : List Value := [.nilFunc, (.bool false), (.int .i64 0)]
instance ibd320_1 : BdOk Q 320 z320 [(1, 1, 1)] := bd_ok Q (by kernel_rfl) (by kernel_rfl) (by kernel_rfl)
noncomputable abbrev z327 : List Value := [.nilFunc, (.bool false), (.int .i64 0), (.int .i64 0), (.int .i64 0), (.int .i64 0), (.int .i64 0), (.int .i64 0), (.int .i64 0), (.int .i64 0), (.int .i64 0), (.int .i64 0), (.int .i64 0), (.pointer none), (.pointer none), (.int .i64 0), (.pointer none), (.int .i64 0), (.int .i64 0)]
instance ibd327_0_1 : BdOk Q 327 z327 [(0, 0, 3), (1, 3, 10)] := bd_ok Q (by kernel_rfl) (by kernel_rfl) (by kernel_rfl)
instance ifa320_2 : FaOk Q 320 2 2 := ⟨fun b o s => by kernel_rfl⟩
instance ifa327_2 : FaOk Q 327 2 13 := ⟨fun b o s => by kernel_rfl⟩
instance ist321 : StOk Q 321 1 := ⟨fun b o s v G => by kernel_rfl⟩
instance ifa327_3 : FaOk Q 327 3 14 := ⟨fun b o s => by kernel_rfl⟩
instance ist322 : StOk Q 322 1 := ⟨fun b o s v G => by kernel_rfl⟩
instance ifa320_0 : FaOk Q 320 0 0 := ⟨fun b o s => by kernel_rfl⟩
instance ist318 : StOk Q 318 1 := ⟨fun b o s v G => by kernel_rfl⟩
instance ibd314_0_1 : BdOk Q 314 z314 [(0, 0, 1), (1, 1, 1)] := bd_ok Q (by kernel_rfl) (by kernel_rfl) (by kernel_rfl)
instance ilda314 : LdAOk Q 314 2 := ⟨fun b o s G => by kernel_rfl⟩
instance ifa320_1 : FaOk Q 320 1 1 := ⟨fun b o s => by kernel_rfl⟩
instance ild318 : LdOk Q 318 := ⟨fun b o s G => (show _ = loadOne b o G by kernel_rfl).trans (loadOne_eq b o G)⟩
instance ief318 : EfOk Q 318 := ⟨fun neg x y => by cases neg <;> kernel_rfl, fun neg x y f a b => by cases neg <;> kernel_rfl⟩
instance ifa23_0 : FaOk Q 23 0 0 := ⟨fun b o s => by kernel_rfl⟩
noncomputable abbrev z332 : List Value := [(.int .i64 0), (.int .i64 0)]
instance ibd332_0_1 : BdOk Q 332 z332 [(0, 0, 1), (1, 1, 1)] := bd_ok Q (by kernel_rfl) (by kernel_rfl) (by kernel_rfl)
instance ibd333_0_1 : BdOk Q 333 z333 [(0, 0, 2), (1, 2, 2)] := bd_ok Q (by kernel_rfl) (by kernel_rfl) (by kernel_rfl)
instance ilda333 : LdAOk Q 333 4 := ⟨fun b o s G => by kernel_rfl⟩
instance ifa332_0 : FaOk Q 332 0 0 := ⟨fun b o s => by kernel_rfl⟩
instance ifa332_1 : FaOk Q 332 1 1 := ⟨fun b o s => by kernel_rfl⟩
instance icv36_3 : CvOk Q 36 3 .u64 .i64 := ⟨fun n => by kernel_rfl⟩
noncomputable abbrev z361 : List Value := [(.int .i64 0), (.int .i64 0), (.int .i64 0)]
instance ibd361_0_1_2 : BdOk Q 361 z361 [(0, 0, 1), (1, 1, 1), (2, 2, 1)] := bd_ok Q (by kernel_rfl) (by kernel_rfl) (by kernel_rfl)
instance ifa262_1 : FaOk Q 262 1 1 := ⟨fun b o s => by kernel_rfl⟩
instance ibs376_2_0_1 : BsOk Q 376 2 (rep z361 2) 3 [(0, 0, 3), (1, 3, 3)] := bs_ok Q (z0 := z361) (by kernel_rfl) rfl (by decide) (by kernel_rfl)
instance isla333 : SlAOk Q 333 2 2 := ⟨fun a lo hi mx G => by kernel_rfl⟩
instance ibs100_2_0_1 : BsOk Q 100 2 (rep z3 2) 1 [(0, 0, 1), (1, 1, 1)] := bs_ok Q (z0 := z3) (by kernel_rfl) rfl (by decide) (by kernel_rfl)
instance ifa262_2 : FaOk Q 262 2 2 := ⟨fun b o s => by kernel_rfl⟩
instance ifa287_0 : FaOk Q 287 0 0 := ⟨fun b o s => by kernel_rfl⟩
instance ifa287_3 : FaOk Q 287 3 5 := ⟨fun b o s => by kernel_rfl⟩
instance ifa287_1 : FaOk Q 287 1 3 := ⟨fun b o s => by kernel_rfl⟩
instance ifa287_6 : FaOk Q 287 6 8 := ⟨fun b o s => by kernel_rfl⟩
instance iep368 : EpOk Q 368 := ⟨fun neg x y => by cases neg <;> kernel_rfl, fun neg x y a => by cases neg <;> kernel_rfl, fun neg x y a => by cases neg <;> kernel_rfl⟩
instance ifa287_4 : FaOk Q 287 4 6 := ⟨fun b o s => by kernel_rfl⟩
instance ifa353_0 : FaOk Q 353 0 0 := ⟨fun b o s => by kernel_rfl⟩
instance ifa353_4 : FaOk Q 353 4 16 := ⟨fun b o s => by kernel_rfl⟩
instance ifa353_10 : FaOk Q 353 10 22 := ⟨fun b o s => by kernel_rfl⟩
instance ist163 : StOk Q 163 1 := ⟨fun b o s v G => by kernel_rfl⟩
noncomputable abbrev z371 : List Value := [.nilFunc, .nilFunc, .nilFunc, (.int .i64 0), (.bool false), (.int .i64 0), (.int .i64 0), (.int .i64 0), (.int .i64 0), (.int .i64 0), (.int .i64 0), (.int .u64 0), (.int .i64 0)]
instance ibd371_0_1_2_3 : BdOk Q 371 z371 [(0, 0, 6), (1, 6, 3), (2, 9, 1), (3, 10, 1)] := bd_ok Q (by kernel_rfl) (by kernel_rfl) (by kernel_rfl)
instance ifa371_0 : FaOk Q 371 0 0 := ⟨fun b o s => by kernel_rfl⟩
noncomputable abbrev z374 : List Value := [(.int .i64 0), (.int .i64 0), (.int .i64 0), (.int .u64 0), (.int .i64 0), (.int .i64 0), (.bool false), (.bool false), (.int .i64 0), .nilFunc]
instance ibd374_0_1 : BdOk Q 374 z374 [(0, 0, 9), (1, 9, 1)] := bd_ok Q (by kernel_rfl) (by kernel_rfl) (by kernel_rfl)
instance ild321 : LdOk Q 321 := ⟨fun b o s G => (show _ = loadOne b o G by kernel_rfl).trans (loadOne_eq b o G)⟩
instance ibd314_0 : BdOk Q 314 z314 [(0, 0, 1)] := bd_ok Q (by kernel_rfl) (by kernel_rfl) (by kernel_rfl)
instance iln376 : LnOk Q 376 := ⟨fun a n c => by kernel_rfl⟩
instance iias376 : IasOk Q 376 3 := ⟨fun b o s n c k j => by kernel_rfl⟩
instance ilda361 : LdAOk Q 361 3 := ⟨fun b o s G => by kernel_rfl⟩
instance ial361 : AlOk Q 361 z361 := ⟨fun G => by kernel_rfl⟩
instance ist361 : StOk Q 361 3 := ⟨fun b o s v G => by kernel_rfl⟩
instance ifa361_0 : FaOk Q 361 0 0 := ⟨fun b o s => by kernel_rfl⟩
instance ifa361_1 : FaOk Q 361 1 1 := ⟨fun b o s => by kernel_rfl⟩
instance ifa361_2 : FaOk Q 361 2 2 := ⟨fun b o s => by kernel_rfl⟩
instance iln364 : LnOk Q 364 := ⟨fun a n c => by kernel_rfl⟩
instance iias364 : IasOk Q 364 2 := ⟨fun b o s n c k j => by kernel_rfl⟩
instance ial332 : AlOk Q 332 z332 := ⟨fun G => by kernel_rfl⟩
instance ist332 : StOk Q 332 2 := ⟨fun b o s v G => by kernel_rfl⟩
instance iias100 : IasOk Q 100 1 := ⟨fun b o s n c k j => by kernel_rfl⟩
noncomputable abbrev z383 : List Value := [(.int .i64 0), (.int .i64 0), (.int .i64 0), (.int .i64 0), (.int .i64 0), (.int .i64 0), (.int .i64 0), (.int .i64 0), (.int .i64 0), (.int .i64 0), (.int .i64 0), (.int .i64 0), (.int .i64 0), (.int .u64 0), (.int .i64 0), (.int .i64 0), (.int .i64 0), (.int .u64 0), (.int .u64 0), (.int .u64 0), (.slice none 0 0), (.int .u64 0), (.bool false), (.int .i64 0)]
instance ibd383_0_1_7 : BdOk Q 383 z383 [(0, 0, 13), (1, 13, 1), (7, 22, 1)] := bd_ok Q (by kernel_rfl) (by kernel_rfl) (by kernel_rfl)
instance ifa383_2 : FaOk Q 383 2 14 := ⟨fun b o s => by kernel_rfl⟩
instance ifa383_8 : FaOk Q 383 8 23 := ⟨fun b o s => by kernel_rfl⟩
noncomputable abbrev z380 : List Value := [(.int .i64 0), (.int .i64 0), (.int .u64 0), (.int .u64 0)]
instance imk381 : MkSlOk Q 381 4 32 z380 := ⟨fun k k' l c G => by kernel_rfl⟩
instance ifa383_5 : FaOk Q 383 5 20 := ⟨fun b o s => by kernel_rfl⟩
instance ist381 : StOk Q 381 1 := ⟨fun b o s v G => by kernel_rfl⟩
instance ifa371_1 : FaOk Q 371 1 6 := ⟨fun b o s => by kernel_rfl⟩
instance ifa371_4 : FaOk Q 371 4 11 := ⟨fun b o s => by kernel_rfl⟩
instance ifa371_3 : FaOk Q 371 3 10 := ⟨fun b o s => by kernel_rfl⟩
instance ifa371_5 : FaOk Q 371 5 12 := ⟨fun b o s => by kernel_rfl⟩
instance ifa374_1 : FaOk Q 374 1 9 := ⟨fun b o s => by kernel_rfl⟩
instance ist372 : StOk Q 372 1 := ⟨fun b o s v G => by kernel_rfl⟩
instance ifa374_0 : FaOk Q 374 0 0 := ⟨fun b o s => by kernel_rfl⟩
instance iep321 : EpOk Q 321 := ⟨fun neg x y => by cases neg <;> kernel_rfl, fun neg x y a => by cases neg <;> kernel_rfl, fun neg x y a => by cases neg <;> kernel_rfl⟩
instance ild322 : LdOk Q 322 := ⟨fun b o s G => (show _ = loadOne b o G by kernel_rfl).trans (loadOne_eq b o G)⟩
instance ifa327_4 : FaOk Q 327 4 15 := ⟨fun b o s => by kernel_rfl⟩
instance ifa314_1 : FaOk Q 314 1 1 := ⟨fun b o s => by kernel_rfl⟩
instance ifa383_0 : FaOk Q 383 0 0 := ⟨fun b o s => by kernel_rfl⟩
instance ifa371_2 : FaOk Q 371 2 9 := ⟨fun b o s => by kernel_rfl⟩
instance ibd123_0_1_2 : BdOk Q 123 z123 [(0, 0, 1), (1, 1, 1), (2, 2, 1)] := bd_ok Q (by kernel_rfl) (by kernel_rfl) (by kernel_rfl)
instance ifd117_4 : FdOk Q 117 4 4 := ⟨fun l => by kernel_rfl⟩
instance ild203 : LdOk Q 203 := ⟨fun b o s G => (show _ = loadOne b o G by kernel_rfl).trans (loadOne_eq b o G)⟩
instance iep322 : EpOk Q 322 := ⟨fun neg x y => by cases neg <;> kernel_rfl, fun neg x y a => by cases neg <;> kernel_rfl, fun neg x y a => by cases neg <;> kernel_rfl⟩
instance ild372 : LdOk Q 372 := ⟨fun b o s G => (show _ = loadOne b o G by kernel_rfl).trans (loadOne_eq b o G)⟩
instance ifa327_1 : FaOk Q 327 1 3 := ⟨fun b o s => by kernel_rfl⟩
noncomputable abbrev z325 : List Value := [(.pointer none), (.int .i64 0)]
instance ibd325_0_1 : BdOk Q 325 z325 [(0, 0, 1), (1, 1, 1)] := bd_ok Q (by kernel_rfl) (by kernel_rfl) (by kernel_rfl)
instance ifa327_5 : FaOk Q 327 5 16 := ⟨fun b o s => by kernel_rfl⟩
instance ist325 : StOk Q 325 2 := ⟨fun b o s v G => by kernel_rfl⟩
instance ild163 : LdOk Q 163 := ⟨fun b o s G => (show _ = loadOne b o G by kernel_rfl).trans (loadOne_eq b o G)⟩
instance ild381 : LdOk Q 381 := ⟨fun b o s G => (show _ = loadOne b o G by kernel_rfl).trans (loadOne_eq b o G)⟩
instance ial380 : AlOk Q 380 z380 := ⟨fun G => by kernel_rfl⟩
instance ist380 : StOk Q 380 4 := ⟨fun b o s v G => by kernel_rfl⟩
instance ilda380 : LdAOk Q 380 4 := ⟨fun b o s G => by kernel_rfl⟩
instance ifa383_3 : FaOk Q 383 3 15 := ⟨fun b o s => by kernel_rfl⟩
instance ifa123_2 : FaOk Q 123 2 2 := ⟨fun b o s => by kernel_rfl⟩
noncomputable abbrev z394 : List Value := [(.pointer none), (.int .i64 0), (.int .i64 0), (.int .i64 0), (.int .i64 0), (.int .i64 0), (.int .i64 0), (.bool false), .nilFunc, (.int .i64 0), (.int .u64 0), (.int .i64 0)]
instance ibd394_0_1_2_4 : BdOk Q 394 z394 [(0, 0, 1), (1, 1, 6), (2, 7, 1), (4, 9, 1)] := bd_ok Q (by kernel_rfl) (by kernel_rfl) (by kernel_rfl)
instance ifa394_6 : FaOk Q 394 6 11 := ⟨fun b o s => by kernel_rfl⟩
instance ifa394_3 : FaOk Q 394 3 8 := ⟨fun b o s => by kernel_rfl⟩
instance ist392 : StOk Q 392 1 := ⟨fun b o s v G => by kernel_rfl⟩
instance ifa325_0 : FaOk Q 325 0 0 := ⟨fun b o s => by kernel_rfl⟩
instance ild323 : LdOk Q 323 := ⟨fun b o s G => (show _ = loadOne b o G by kernel_rfl).trans (loadOne_eq b o G)⟩
instance ifa325_1 : FaOk Q 325 1 1 := ⟨fun b o s => by kernel_rfl⟩
instance ibd287_0_2_4 : BdOk Q 287 z287 [(0, 0, 3), (2, 4, 1), (4, 6, 1)] := bd_ok Q (by kernel_rfl) (by kernel_rfl) (by kernel_rfl)
noncomputable abbrev z398 : List Value := [(.int .i64 0), (.int .i64 0), (.int .i64 0), (.int .u64 0), (.int .i64 0), (.int .i64 0), (.bool false), (.bool false), (.int .i64 0), .nilFunc]
instance ibd398_0_1 : BdOk Q 398 z398 [(0, 0, 9), (1, 9, 1)] := bd_ok Q (by kernel_rfl) (by kernel_rfl) (by kernel_rfl)
instance ifa398_0 : FaOk Q 398 0 0 := ⟨fun b o s => by kernel_rfl⟩
instance ifa394_1 : FaOk Q 394 1 1 := ⟨fun b o s => by kernel_rfl⟩
instance ifa394_4 : FaOk Q 394 4 9 := ⟨fun b o s => by kernel_rfl⟩
instance ifa394_5 : FaOk Q 394 5 10 := ⟨fun b o s => by kernel_rfl⟩
instance ifa25_3 : FaOk Q 25 3 5 := ⟨fun b o s => by kernel_rfl⟩
instance iep323 : EpOk Q 323 := ⟨fun neg x y => by cases neg <;> kernel_rfl, fun neg x y a => by cases neg <;> kernel_rfl, fun neg x y a => by cases neg <;> kernel_rfl⟩
instance ild392 : LdOk Q 392 := ⟨fun b o s G => (show _ = loadOne b o G by kernel_rfl).trans (loadOne_eq b o G)⟩
instance ief392 : EfOk Q 392 := ⟨fun neg x y => by cases neg <;> kernel_rfl, fun neg x y f a b => by cases neg <;> kernel_rfl⟩
instance ibd380_1 : BdOk Q 380 z380 [(1, 1, 1)] := bd_ok Q (by kernel_rfl) (by kernel_rfl) (by kernel_rfl)
instance ifa380_0 : FaOk Q 380 0 0 := ⟨fun b o s => by kernel_rfl⟩
instance ifa380_3 : FaOk Q 380 3 3 := ⟨fun b o s => by kernel_rfl⟩
instance iias381 : IasOk Q 381 4 := ⟨fun b o s n c k j => by kernel_rfl⟩
instance ifa398_1 : FaOk Q 398 1 9 := ⟨fun b o s => by kernel_rfl⟩
instance ist396 : StOk Q 396 1 := ⟨fun b o s v G => by kernel_rfl⟩
instance ifa394_0 : FaOk Q 394 0 0 := ⟨fun b o s => by kernel_rfl⟩
instance ild390 : LdOk Q 390 := ⟨fun b o s G => (show _ = loadOne b o G by kernel_rfl).trans (loadOne_eq b o G)⟩
instance iep390 : EpOk Q 390 := ⟨fun neg x y => by cases neg <;> kernel_rfl, fun neg x y a => by cases neg <;> kernel_rfl, fun neg x y a => by cases neg <;> kernel_rfl⟩
instance ild396 : LdOk Q 396 := ⟨fun b o s G => (show _ = loadOne b o G by kernel_rfl).trans (loadOne_eq b o G)⟩
instance ifa97_4 : FaOk Q 97 4 4 := ⟨fun b o s => by kernel_rfl⟩
instance ifa97_0 : FaOk Q 97 0 0 := ⟨fun b o s => by kernel_rfl⟩
instance ild93 : LdOk Q 93 := ⟨fun b o s G => (show _ = loadOne b o G by kernel_rfl).trans (loadOne_eq b o G)⟩
instance ifa97_3 : FaOk Q 97 3 3 := ⟨fun b o s => by kernel_rfl⟩
instance ist91 : StOk Q 91 1 := ⟨fun b o s v G => by kernel_rfl⟩
instance ild91 : LdOk Q 91 := ⟨fun b o s G => (show _ = loadOne b o G by kernel_rfl).trans (loadOne_eq b o G)⟩
instance iifc91 : IfcOk Q 91 := ⟨fun v => by kernel_rfl⟩
instance ifa97_1 : FaOk Q 97 1 1 := ⟨fun b o s => by kernel_rfl⟩
instance ild94 : LdOk Q 94 := ⟨fun b o s G => (show _ = loadOne b o G by kernel_rfl).trans (loadOne_eq b o G)⟩
instance ief94 : EfOk Q 94 := ⟨fun neg x y => by cases neg <;> kernel_rfl, fun neg x y f a b => by cases neg <;> kernel_rfl⟩
instance ifa97_2 : FaOk Q 97 2 2 := ⟨fun b o s => by kernel_rfl⟩
instance ild95 : LdOk Q 95 := ⟨fun b o s G => (show _ = loadOne b o G by kernel_rfl).trans (loadOne_eq b o G)⟩
instance ief95 : EfOk Q 95 := ⟨fun neg x y => by cases neg <;> kernel_rfl, fun neg x y f a b => by cases neg <;> kernel_rfl⟩
instance ifa169_5 : FaOk Q 169 5 20 := ⟨fun b o s => by kernel_rfl⟩
instance ist167 : StOk Q 167 1 := ⟨fun b o s v G => by kernel_rfl⟩
instance ild167 : LdOk Q 167 := ⟨fun b o s G => (show _ = loadOne b o G by kernel_rfl).trans (loadOne_eq b o G)⟩
instance ifa169_3 : FaOk Q 169 3 18 := ⟨fun b o s => by kernel_rfl⟩
instance ifa169_0 : FaOk Q 169 0 0 := ⟨fun b o s => by kernel_rfl⟩
instance ifa169_4 : FaOk Q 169 4 19 := ⟨fun b o s => by kernel_rfl⟩
instance ifa169_1 : FaOk Q 169 1 13 := ⟨fun b o s => by kernel_rfl⟩
instance ifa166_1 : FaOk Q 166 1 1 := ⟨fun b o s => by kernel_rfl⟩
instance ifa166_2 : FaOk Q 166 2 2 := ⟨fun b o s => by kernel_rfl⟩
instance ifa166_0 : FaOk Q 166 0 0 := ⟨fun b o s => by kernel_rfl⟩
instance ifa166_3 : FaOk Q 166 3 3 := ⟨fun b o s => by kernel_rfl⟩
instance ist164 : StOk Q 164 1 := ⟨fun b o s v G => by kernel_rfl⟩
instance ild164 : LdOk Q 164 := ⟨fun b o s G => (show _ = loadOne b o G by kernel_rfl).trans (loadOne_eq b o G)⟩
instance iep163 : EpOk Q 163 := ⟨fun neg x y => by cases neg <;> kernel_rfl, fun neg x y a => by cases neg <;> kernel_rfl, fun neg x y a => by cases neg <;> kernel_rfl⟩
instance ifa383_7 : FaOk Q 383 7 22 := ⟨fun b o s => by kernel_rfl⟩
instance ifa380_1 : FaOk Q 380 1 1 := ⟨fun b o s => by kernel_rfl⟩
instance ifa380_2 : FaOk Q 380 2 2 := ⟨fun b o s => by kernel_rfl⟩
instance ifa383_6 : FaOk Q 383 6 21 := ⟨fun b o s => by kernel_rfl⟩
instance ifa383_4 : FaOk Q 383 4 19 := ⟨fun b o s => by kernel_rfl⟩
instance ifa383_1 : FaOk Q 383 1 13 := ⟨fun b o s => by kernel_rfl⟩
noncomputable abbrev z418 : List Value := [.nilFunc, (.bool false), (.int .i64 0), (.int .i64 0), (.int .i64 0), (.int .i64 0), (.int .i64 0), (.int .i64 0), (.int .i64 0), (.int .i64 0), (.int .i64 0), (.int .i64 0), (.int .i64 0), (.int .i64 0), (.pointer none)]
instance ibd418_0_1_2 : BdOk Q 418 z418 [(0, 0, 3), (1, 3, 10), (2, 13, 1)] := bd_ok Q (by kernel_rfl) (by kernel_rfl) (by kernel_rfl)
instance ifa418_0 : FaOk Q 418 0 0 := ⟨fun b o s => by kernel_rfl⟩
instance iep164 : EpOk Q 164 := ⟨fun neg x y => by cases neg <;> kernel_rfl, fun neg x y a => by cases neg <;> kernel_rfl, fun neg x y a => by cases neg <;> kernel_rfl⟩
instance ifa418_1 : FaOk Q 418 1 3 := ⟨fun b o s => by kernel_rfl⟩
instance icv36_257 : CvOk Q 36 257 .u64 .i64 := ⟨fun n => by kernel_rfl⟩
instance ifa418_2 : FaOk Q 418 2 13 := ⟨fun b o s => by kernel_rfl⟩
instance ifa418_3 : FaOk Q 418 3 14 := ⟨fun b o s => by kernel_rfl⟩
instance ist390 : StOk Q 390 1 := ⟨fun b o s v G => by kernel_rfl⟩
instance ifa154_4 : FaOk Q 154 4 4 := ⟨fun b o s => by kernel_rfl⟩
instance ifa154_0 : FaOk Q 154 0 0 := ⟨fun b o s => by kernel_rfl⟩
instance ild149 : LdOk Q 149 := ⟨fun b o s G => (show _ = loadOne b o G by kernel_rfl).trans (loadOne_eq b o G)⟩
instance ifa154_3 : FaOk Q 154 3 3 := ⟨fun b o s => by kernel_rfl⟩
instance ist147 : StOk Q 147 1 := ⟨fun b o s v G => by kernel_rfl⟩
instance ild147 : LdOk Q 147 := ⟨fun b o s G => (show _ = loadOne b o G by kernel_rfl).trans (loadOne_eq b o G)⟩
instance iifc147 : IfcOk Q 147 := ⟨fun v => by kernel_rfl⟩
instance ifa154_1 : FaOk Q 154 1 1 := ⟨fun b o s => by kernel_rfl⟩
instance ild152 : LdOk Q 152 := ⟨fun b o s G => (show _ = loadOne b o G by kernel_rfl).trans (loadOne_eq b o G)⟩
instance ief152 : EfOk Q 152 := ⟨fun neg x y => by cases neg <;> kernel_rfl, fun neg x y f a b => by cases neg <;> kernel_rfl⟩
instance ifa154_2 : FaOk Q 154 2 2 := ⟨fun b o s => by kernel_rfl⟩
instance ild151 : LdOk Q 151 := ⟨fun b o s G => (show _ = loadOne b o G by kernel_rfl).trans (loadOne_eq b o G)⟩
instance ief151 : EfOk Q 151 := ⟨fun neg x y => by cases neg <;> kernel_rfl, fun neg x y f a b => by cases neg <;> kernel_rfl⟩
instance ifa162_4 : FaOk Q 162 4 4 := ⟨fun b o s => by kernel_rfl⟩
instance ifa162_0 : FaOk Q 162 0 0 := ⟨fun b o s => by kernel_rfl⟩
instance ild158 : LdOk Q 158 := ⟨fun b o s G => (show _ = loadOne b o G by kernel_rfl).trans (loadOne_eq b o G)⟩
instance ifa162_3 : FaOk Q 162 3 3 := ⟨fun b o s => by kernel_rfl⟩
instance ist156 : StOk Q 156 1 := ⟨fun b o s v G => by kernel_rfl⟩
instance ild156 : LdOk Q 156 := ⟨fun b o s G => (show _ = loadOne b o G by kernel_rfl).trans (loadOne_eq b o G)⟩
instance iifc156 : IfcOk Q 156 := ⟨fun v => by kernel_rfl⟩
instance ifa162_1 : FaOk Q 162 1 1 := ⟨fun b o s => by kernel_rfl⟩
instance ild160 : LdOk Q 160 := ⟨fun b o s G => (show _ = loadOne b o G by kernel_rfl).trans (loadOne_eq b o G)⟩
instance ief160 : EfOk Q 160 := ⟨fun neg x y => by cases neg <;> kernel_rfl, fun neg x y f a b => by cases neg <;> kernel_rfl⟩
instance ifa162_2 : FaOk Q 162 2 2 := ⟨fun b o s => by kernel_rfl⟩
instance ild159 : LdOk Q 159 := ⟨fun b o s G => (show _ = loadOne b o G by kernel_rfl).trans (loadOne_eq b o G)⟩
instance ief159 : EfOk Q 159 := ⟨fun neg x y => by cases neg <;> kernel_rfl, fun neg x y f a b => by cases neg <;> kernel_rfl⟩
instance ifa180_4 : FaOk Q 180 4 4 := ⟨fun b o s => by kernel_rfl⟩
instance ifa180_0 : FaOk Q 180 0 0 := ⟨fun b o s => by kernel_rfl⟩
instance ild176 : LdOk Q 176 := ⟨fun b o s G => (show _ = loadOne b o G by kernel_rfl).trans (loadOne_eq b o G)⟩
instance ifa180_3 : FaOk Q 180 3 3 := ⟨fun b o s => by kernel_rfl⟩
instance ist174 : StOk Q 174 1 := ⟨fun b o s v G => by kernel_rfl⟩
instance ild174 : LdOk Q 174 := ⟨fun b o s G => (show _ = loadOne b o G by kernel_rfl).trans (loadOne_eq b o G)⟩
instance iifc174 : IfcOk Q 174 := ⟨fun v => by kernel_rfl⟩
instance ifa180_1 : FaOk Q 180 1 1 := ⟨fun b o s => by kernel_rfl⟩
instance ild177 : LdOk Q 177 := ⟨fun b o s G => (show _ = loadOne b o G by kernel_rfl).trans (loadOne_eq b o G)⟩
instance ief177 : EfOk Q 177 := ⟨fun neg x y => by cases neg <;> kernel_rfl, fun neg x y f a b => by cases neg <;> kernel_rfl⟩
instance ifa180_2 : FaOk Q 180 2 2 := ⟨fun b o s => by kernel_rfl⟩
instance ild178 : LdOk Q 178 := ⟨fun b o s G => (show _ = loadOne b o G by kernel_rfl).trans (loadOne_eq b o G)⟩
instance ief178 : EfOk Q 178 := ⟨fun neg x y => by cases neg <;> kernel_rfl, fun neg x y f a b => by cases neg <;> kernel_rfl⟩
instance iep174 : EpOk Q 174 := ⟨fun neg x y => by cases neg <;> kernel_rfl, fun neg x y a => by cases neg <;> kernel_rfl, fun neg x y a => by cases neg <;> kernel_rfl⟩
instance ifa218_4 : FaOk Q 218 4 4 := ⟨fun b o s => by kernel_rfl⟩
instance ifa218_0 : FaOk Q 218 0 0 := ⟨fun b o s => by kernel_rfl⟩
instance ild214 : LdOk Q 214 := ⟨fun b o s G => (show _ = loadOne b o G by kernel_rfl).trans (loadOne_eq b o G)⟩
instance ifa218_3 : FaOk Q 218 3 3 := ⟨fun b o s => by kernel_rfl⟩
instance ist212 : StOk Q 212 1 := ⟨fun b o s v G => by kernel_rfl⟩
instance ild212 : LdOk Q 212 := ⟨fun b o s G => (show _ = loadOne b o G by kernel_rfl).trans (loadOne_eq b o G)⟩
instance iifc212 : IfcOk Q 212 := ⟨fun v => by kernel_rfl⟩
instance ifa218_1 : FaOk Q 218 1 1 := ⟨fun b o s => by kernel_rfl⟩
instance ild215 : LdOk Q 215 := ⟨fun b o s G => (show _ = loadOne b o G by kernel_rfl).trans (loadOne_eq b o G)⟩
instance ief215 : EfOk Q 215 := ⟨fun neg x y => by cases neg <;> kernel_rfl, fun neg x y f a b => by cases neg <;> kernel_rfl⟩
instance ifa218_2 : FaOk Q 218 2 2 := ⟨fun b o s => by kernel_rfl⟩
instance ild216 : LdOk Q 216 := ⟨fun b o s G => (show _ = loadOne b o G by kernel_rfl).trans (loadOne_eq b o G)⟩
instance ief216 : EfOk Q 216 := ⟨fun neg x y => by cases neg <;> kernel_rfl, fun neg x y f a b => by cases neg <;> kernel_rfl⟩
instance ifa281_0 : FaOk Q 281 0 0 := ⟨fun b o s => by kernel_rfl⟩
instance ifa281_3 : FaOk Q 281 3 14 := ⟨fun b o s => by kernel_rfl⟩
instance ifa281_4 : FaOk Q 281 4 15 := ⟨fun b o s => by kernel_rfl⟩
instance ifa281_5 : FaOk Q 281 5 16 := ⟨fun b o s => by kernel_rfl⟩
instance ifa298_4 : FaOk Q 298 4 4 := ⟨fun b o s => by kernel_rfl⟩
instance ifa298_0 : FaOk Q 298 0 0 := ⟨fun b o s => by kernel_rfl⟩
instance ild294 : LdOk Q 294 := ⟨fun b o s G => (show _ = loadOne b o G by kernel_rfl).trans (loadOne_eq b o G)⟩
instance ifa298_3 : FaOk Q 298 3 3 := ⟨fun b o s => by kernel_rfl⟩
instance ist292 : StOk Q 292 1 := ⟨fun b o s v G => by kernel_rfl⟩
instance ild292 : LdOk Q 292 := ⟨fun b o s G => (show _ = loadOne b o G by kernel_rfl).trans (loadOne_eq b o G)⟩
instance iifc292 : IfcOk Q 292 := ⟨fun v => by kernel_rfl⟩
instance ifa298_1 : FaOk Q 298 1 1 := ⟨fun b o s => by kernel_rfl⟩
instance ild295 : LdOk Q 295 := ⟨fun b o s G => (show _ = loadOne b o G by kernel_rfl).trans (loadOne_eq b o G)⟩
instance ief295 : EfOk Q 295 := ⟨fun neg x y => by cases neg <;> kernel_rfl, fun neg x y f a b => by cases neg <;> kernel_rfl⟩
instance ifa298_2 : FaOk Q 298 2 2 := ⟨fun b o s => by kernel_rfl⟩
instance ild296 : LdOk Q 296 := ⟨fun b o s G => (show _ = loadOne b o G by kernel_rfl).trans (loadOne_eq b o G)⟩
instance ief296 : EfOk Q 296 := ⟨fun neg x y => by cases neg <;> kernel_rfl, fun neg x y f a b => by cases neg <;> kernel_rfl⟩
instance ilda346 : LdAOk Q 346 4 := ⟨fun b o s G => by kernel_rfl⟩
instance iix346 : IxOk Q 346 4 := ⟨fun l k j => by kernel_rfl⟩
instance ifa348_0 : FaOk Q 348 0 0 := ⟨fun b o s => by kernel_rfl⟩
instance ifa306_4 : FaOk Q 306 4 4 := ⟨fun b o s => by kernel_rfl⟩
instance ifa306_0 : FaOk Q 306 0 0 := ⟨fun b o s => by kernel_rfl⟩
instance ild302 : LdOk Q 302 := ⟨fun b o s G => (show _ = loadOne b o G by kernel_rfl).trans (loadOne_eq b o G)⟩
instance ifa306_3 : FaOk Q 306 3 3 := ⟨fun b o s => by kernel_rfl⟩
instance ist300 : StOk Q 300 1 := ⟨fun b o s v G => by kernel_rfl⟩
instance ild300 : LdOk Q 300 := ⟨fun b o s G => (show _ = loadOne b o G by kernel_rfl).trans (loadOne_eq b o G)⟩
instance iifc300 : IfcOk Q 300 := ⟨fun v => by kernel_rfl⟩
instance ifa306_1 : FaOk Q 306 1 1 := ⟨fun b o s => by kernel_rfl⟩
instance ild303 : LdOk Q 303 := ⟨fun b o s G => (show _ = loadOne b o G by kernel_rfl).trans (loadOne_eq b o G)⟩
instance ief303 : EfOk Q 303 := ⟨fun neg x y => by cases neg <;> kernel_rfl, fun neg x y f a b => by cases neg <;> kernel_rfl⟩
instance ifa306_2 : FaOk Q 306 2 2 := ⟨fun b o s => by kernel_rfl⟩
instance ild304 : LdOk Q 304 := ⟨fun b o s G => (show _ = loadOne b o G by kernel_rfl).trans (loadOne_eq b o G)⟩
instance ief304 : EfOk Q 304 := ⟨fun neg x y => by cases neg <;> kernel_rfl, fun neg x y f a b => by cases neg <;> kernel_rfl⟩
instance ild351 : LdOk Q 351 := ⟨fun b o s G => (show _ = loadOne b o G by kernel_rfl).trans (loadOne_eq b o G)⟩
noncomputable abbrev z421 : List Value := [.nilFunc, .nilFunc, .nilFunc, .nilFunc, .nilFunc, .nilFunc, .nilFunc, .nilFunc, .nilFunc, .nilFunc, .nilFunc, .nilFunc, .nilFunc]
instance ial421 : AlOk Q 421 z421 := ⟨fun G => by kernel_rfl⟩
instance ist421 : StOk Q 421 13 := ⟨fun b o s v G => by kernel_rfl⟩
instance iiaa421 : IaaOk Q 421 13 1 := ⟨fun b o s k j => by kernel_rfl⟩
instance ild420 : LdOk Q 420 := ⟨fun b o s G => (show _ = loadOne b o G by kernel_rfl).trans (loadOne_eq b o G)⟩
instance ibd421_1_2_3_4_5_6_7_8_9_10_11_12 : BdOk Q 421 z421 [(1, 1, 1), (2, 2, 1), (3, 3, 1), (4, 4, 1), (5, 5, 1), (6, 6, 1), (7, 7, 1), (8, 8, 1), (9, 9, 1), (10, 10, 1), (11, 11, 1), (12, 12, 1)] := bd_ok Q (by kernel_rfl) (by kernel_rfl) (by kernel_rfl)
instance ilda421 : LdAOk Q 421 13 := ⟨fun b o s G => by kernel_rfl⟩
instance ifa353_8 : FaOk Q 353 8 20 := ⟨fun b o s => by kernel_rfl⟩
instance ifa353_3 : FaOk Q 353 3 15 := ⟨fun b o s => by kernel_rfl⟩
instance ifa353_6 : FaOk Q 353 6 18 := ⟨fun b o s => by kernel_rfl⟩
instance ifa353_2 : FaOk Q 353 2 14 := ⟨fun b o s => by kernel_rfl⟩
instance ifa353_9 : FaOk Q 353 9 21 := ⟨fun b o s => by kernel_rfl⟩
instance ifa353_11 : FaOk Q 353 11 23 := ⟨fun b o s => by kernel_rfl⟩
instance iln381 : LnOk Q 381 := ⟨fun a n c => by kernel_rfl⟩
instance ifa312_4 : FaOk Q 312 4 4 := ⟨fun b o s => by kernel_rfl⟩
instance ifa312_0 : FaOk Q 312 0 0 := ⟨fun b o s => by kernel_rfl⟩
instance ild309 : LdOk Q 309 := ⟨fun b o s G => (show _ = loadOne b o G by kernel_rfl).trans (loadOne_eq b o G)⟩
instance ifa312_3 : FaOk Q 312 3 3 := ⟨fun b o s => by kernel_rfl⟩
instance ist253 : StOk Q 253 1 := ⟨fun b o s v G => by kernel_rfl⟩
instance ild253 : LdOk Q 253 := ⟨fun b o s G => (show _ = loadOne b o G by kernel_rfl).trans (loadOne_eq b o G)⟩
instance iifc253 : IfcOk Q 253 := ⟨fun v => by kernel_rfl⟩
instance ifa312_1 : FaOk Q 312 1 1 := ⟨fun b o s => by kernel_rfl⟩
instance ild310 : LdOk Q 310 := ⟨fun b o s G => (show _ = loadOne b o G by kernel_rfl).trans (loadOne_eq b o G)⟩
instance ief310 : EfOk Q 310 := ⟨fun neg x y => by cases neg <;> kernel_rfl, fun neg x y f a b => by cases neg <;> kernel_rfl⟩
instance ifa312_2 : FaOk Q 312 2 2 := ⟨fun b o s => by kernel_rfl⟩
instance ild254 : LdOk Q 254 := ⟨fun b o s G => (show _ = loadOne b o G by kernel_rfl).trans (loadOne_eq b o G)⟩
instance ief254 : EfOk Q 254 := ⟨fun neg x y => by cases neg <;> kernel_rfl, fun neg x y f a b => by cases neg <;> kernel_rfl⟩
/-- coxswain/coxswainlaw19.ReadyKnown -/
noncomputable def s3 (q : Bool) (e : Ex) (G : GS) : Option (Value × GS) :=
  bS (e.ev.cl 6 [] G) fun x0 G1 =>
  bS (al Q q 31 z31 G1) fun x2 G3 =>
  bP (st Q q 31 13 x2 x0 G3) fun G4 =>
  bS (e.ev.cl 7 [] G4) fun x5 G6 =>
  bP (ep Q q false 33 (.tmp 14) (.const (.pointer none)) x5 (.pointer none)) fun x7 =>
  bS (gd x7 false (bP (lda Q q 31 13 x2 G6) fun y => some (y, G6)) G6) fun x8 G9 =>
  bS (gd x7 false (some (x5, G9)) G9) fun x10 G11 =>
  bS (gd x7 false (bS (e.ev.cl 8 [x8, x10, (.int .u64 4), (.int .i64 6)] G11) fun y G => some (y, G)) G11) fun x12 G13 =>
  bS (gd x7 false (bP (un Q q .not x12) fun y => some (y, G13)) G13) fun x14 G15 =>
  bP (pickV x7 (.bool true) x14) fun x16 =>
  bS (gd x16 false (bP (lda Q q 31 13 x2 G15) fun y => some (y, G15)) G15) fun x17 G18 =>
  bS (gd x16 false (some (x5, G18)) G18) fun x19 G20 =>
  bS (gd x16 false (bS (e.ev.cl 8 [x17, x19, (.int .u64 9), (.int .i64 5)] G20) fun y G => some (y, G)) G20) fun x21 G22 =>
  bS (gd x16 false (bP (un Q q .not x21) fun y => some (y, G22)) G22) fun x23 G24 =>
  bP (pickV x16 (.bool true) x23) fun x25 =>
  ifV x25 (
  some ((.bool false), G24)) (
  bP (lda Q q 31 13 x2 G24) fun x26 =>
  bS (e.ev.cl 9 [x26, x5, (.int .i64 0)] G24) fun x27 G28 =>
  bP (pExtract x27 0) fun x29 =>
  bP (pExtract x27 1) fun x30 =>
  bS (al Q q 38 z38 G28) fun x31 G32 =>
  bP (st Q q 38 2 x31 x29 G32) fun G33 =>
  bP (lda Q q 31 13 x2 (G33.room 6)) fun x34 =>
  bS (e.ev.cl 10 [x34, (.int .i64 2), (.int .u64 1), (.int .i64 1), (.int .i64 1)] (G33.room 6)) fun x36 G35 =>
  bP (lda Q q 31 13 x2 G35) fun x37 =>
  chk ((sameO (lda Q q 31 13 x2 (G33.room 6)) x37 && true)) <|
  bS (e.ev.cl 10 [x37, (.int .i64 0), (.int .u64 18446744073709551615), (.int .i64 1), (.int .i64 1)] G35) fun x39 G38 =>
  bP (lda Q q 31 13 x2 (G38.room 6)) fun x40 =>
  bS (e.ev.cl 10 [x40, (.int .i64 0), (.int .u64 1), (.int .i64 (-1)), (.int .i64 1)] (G38.room 6)) fun x42 G41 =>
  bP (lda Q q 31 13 x2 G41) fun x43 =>
  chk ((sameO (lda Q q 31 13 x2 (G38.room 6)) x43 && true)) <|
  bS (e.ev.cl 10 [x43, (.int .i64 0), (.int .u64 1), (.int .i64 1), (.int .i64 3)] G41) fun x45 G44 =>
  bP (lda Q q 31 13 x2 G44) fun x46 =>
  bS (e.ev.cl 11 [x46, (.int .i64 (-1))] G44) fun x47 G48 =>
  bS (e.ev.cl 12 [x47] G48) fun x49 G50 =>
  bP (pExtract x49 0) fun x51 =>
  bP (pExtract x49 1) fun x52 =>
  bS (al Q q 38 z38 G50) fun x53 G54 =>
  bP (st Q q 38 2 x53 x51 G54) fun G55 =>
  bP (lda Q q 31 13 x2 G55) fun x56 =>
  bS (e.ev.cl 10 [x56, (.int .i64 0), (.int .u64 1), (.int .i64 1), (.int .i64 1)] G55) fun x57 G58 =>
  bS (e.ev.cl 13 [] G58) fun x59 G60 =>
  bS (gd x59 true (some (x30, G60)) G60) fun x61 G62 =>
  bS (gd x59 true (bP (bn Q q .eql 39 (.tmp 52) (.const (.int .i64 15)) x61 (.int .i64 15)) fun y => some (y, G62)) G62) fun x63 G64 =>
  bP (pickV x59 x63 (.bool false)) fun x65 =>
  bS (gd x65 true (some (x36, G64)) G64) fun x66 G67 =>
  bS (gd x65 true (bS (e.ev.cl 14 [x66] G67) fun y G => some (y, G)) G67) fun x68 G69 =>
  bS (gd x65 true (bP (bn Q q .eql 39 (.tmp 57) (.const (.int .i64 3)) x68 (.int .i64 3)) fun y => some (y, G69)) G69) fun x70 G71 =>
  bP (pickV x65 x70 (.bool false)) fun x72 =>
  bS (gd x72 true (some (x39, G71)) G71) fun x73 G74 =>
  bS (gd x72 true (bS (e.ev.cl 14 [x73] G74) fun y G => some (y, G)) G74) fun x75 G76 =>
  bS (gd x72 true (bP (bn Q q .eql 39 (.tmp 62) (.const (.int .i64 3)) x75 (.int .i64 3)) fun y => some (y, G76)) G76) fun x77 G78 =>
  bP (pickV x72 x77 (.bool false)) fun x79 =>
  bS (gd x79 true (some (x42, G78)) G78) fun x80 G81 =>
  bS (gd x79 true (bS (e.ev.cl 14 [x80] G81) fun y G => some (y, G)) G81) fun x82 G83 =>
  bS (gd x79 true (bP (bn Q q .eql 39 (.tmp 67) (.const (.int .i64 3)) x82 (.int .i64 3)) fun y => some (y, G83)) G83) fun x84 G85 =>
  bP (pickV x79 x84 (.bool false)) fun x86 =>
  bS (gd x86 true (some (x45, G85)) G85) fun x87 G88 =>
  bS (gd x86 true (bS (e.ev.cl 14 [x87] G88) fun y G => some (y, G)) G88) fun x89 G90 =>
  bS (gd x86 true (bP (bn Q q .eql 39 (.tmp 72) (.const (.int .i64 3)) x89 (.int .i64 3)) fun y => some (y, G90)) G90) fun x91 G92 =>
  bP (pickV x86 x91 (.bool false)) fun x93 =>
  bS (gd x93 true (some (x52, G92)) G92) fun x94 G95 =>
  bS (gd x93 true (bP (bn Q q .eql 39 (.tmp 76) (.const (.int .i64 3)) x94 (.int .i64 3)) fun y => some (y, G95)) G95) fun x96 G97 =>
  bP (pickV x93 x96 (.bool false)) fun x98 =>
  bS (gd x98 true (some (x57, G97)) G97) fun x99 G100 =>
  bS (gd x98 true (bS (e.ev.cl 14 [x99] G100) fun y G => some (y, G)) G100) fun x101 G102 =>
  bS (gd x98 true (bP (bn Q q .eql 39 (.tmp 81) (.const (.int .i64 14)) x101 (.int .i64 14)) fun y => some (y, G102)) G102) fun x103 G104 =>
  bP (pickV x98 x103 (.bool false)) fun x105 =>
  bS (gd x105 true (bS (e.ev.cl 15 [] G104) fun y G => some (y, G)) G104) fun x106 G107 =>
  bP (pickV x105 x106 (.bool false)) fun x108 =>
  bS (gd x108 true (bS (e.ev.cl 16 [] G107) fun y G => some (y, G)) G107) fun x109 G110 =>
  bP (pickV x108 x109 (.bool false)) fun x111 =>
  some (x111, G110))
theorem m3 {e : Ex} {E : Ev} (h : ExLe Q e E) (G : GS) : Ref (s3 true e  G) (s3 false (Ex.of E)  G) := by
  unfold s3
  exact Ref.go
theorem f3 {orc : FuncId → Bool} {e : Ex} (h : ExLe Q e (E orc)) (ho : orc 3 = false) (G : GS) : Ref (s3 true e  G) ((E orc).cl 3 [] G) :=
  fun r hr => cl_sxE_some Q orc (vs := []) G Tryz.func3 (by kernel_rfl) (by kernel_rfl) ho (by kernel_rfl) (by kernel_rfl) (by kernel_rfl) (m3 h  G r hr)
/-- coxswain/coxswainlaw19.chapter -/
noncomputable def s6 (q : Bool) (e : Ex) (G : GS) : Option (Value × GS) :=
  bS (al Q q 31 z31 G) fun x0 G1 =>
  bP (bd Q q 23 z23 [(0, 0, 1), (1, 1, 1), (2, 2, 1)] [(.int .i64 0), (.int .i64 1), (.int .i64 3)]) fun x2 =>
  bP (bd Q q 25 z25 [(0, 0, 3), (1, 3, 1), (2, 4, 1), (3, 5, 1)] [x2, (.int .i64 4), (.int .i64 7), (.int .i64 9)]) fun x3 =>
  bS (al Q q 25 z25 G1) fun x4 G5 =>
  bP (st Q q 25 6 x4 x3 G5) fun G6 =>
  bP (lda Q q 25 6 x4 G6) fun x7 =>
  bP (bd Q q 27 z27 [(0, 0, 1), (1, 1, 1), (2, 2, 1)] [(.int .i64 8), (.int .i64 9), (.int .i64 2)]) fun x8 =>
  bP (bd Q q 29 z29 [(0, 0, 6), (1, 6, 3), (2, 9, 1)] [x7, x8, (.int .i64 11)]) fun x9 =>
  bS (al Q q 29 z29 G6) fun x10 G11 =>
  bP (st Q q 29 10 x10 x9 G11) fun G12 =>
  bP (lda Q q 29 10 x10 G12) fun x13 =>
  bP (bd Q q 31 z31 [(0, 0, 1), (1, 1, 1), (2, 2, 1), (3, 3, 10)] [(.int .i64 16), (.int .i64 14), (.int .i64 2), x13]) fun x14 =>
  bP (st Q q 31 13 x0 x14 G12) fun G15 =>
  bP (lda Q q 31 13 x0 G15) fun x16 =>
  some (x16, G15)
theorem m6 {e : Ex} {E : Ev} (h : ExLe Q e E) (G : GS) : Ref (s6 true e  G) (s6 false (Ex.of E)  G) := by
  unfold s6
  exact Ref.go
theorem f6 {orc : FuncId → Bool} {e : Ex} (h : ExLe Q e (E orc)) (ho : orc 6 = false) (G : GS) : Ref (s6 true e  G) ((E orc).cl 6 [] G) :=
  fun r hr => cl_sxE_some Q orc (vs := []) G Tryz.func6 (by kernel_rfl) (by kernel_rfl) ho (by kernel_rfl) (by kernel_rfl) (by kernel_rfl) (m6 h  G r hr)
/-- coxswain/coxswainlaw19.two -/
noncomputable def s7 (q : Bool) (e : Ex) (G : GS) : Option (Value × GS) :=
  bS (e.ev.cl 6 [] G) fun x0 G1 =>
  bS (al Q q 31 z31 G1) fun x2 G3 =>
  bP (st Q q 31 13 x2 x0 G3) fun G4 =>
  bP (lda Q q 31 13 x2 G4) fun x5 =>
  bS (e.ev.cl 41 [x5, (.int .i64 34)] G4) fun x6 G7 =>
  bP (ep Q q false 33 (.tmp 10) (.const (.pointer none)) x6 (.pointer none)) fun x8 =>
  ifV x8 (
  some ((.pointer none), G7)) (
  bP (lda Q q 31 13 x2 G7) fun x9 =>
  bS (e.ev.cl 42 [x9, x6, (.int .i64 0), (.int .u64 9), (.int .i64 5), (.int .i64 1)] G7) fun x10 G11 =>
  bP (pExtract x10 0) fun x12 =>
  bP (pExtract x10 1) fun x13 =>
  bP (lda Q q 31 13 x2 G11) fun x14 =>
  bS (e.ev.cl 42 [x14, x6, (.int .i64 1), (.int .u64 4), (.int .i64 6), (.int .i64 1)] G11) fun x15 G16 =>
  bP (pExtract x15 0) fun x17 =>
  bP (pExtract x15 1) fun x18 =>
  bP (bn Q q .neq 39 (.tmp 24) (.const (.int .i64 0)) x12 (.int .i64 0)) fun x19 =>
  bS (gd x19 false (some (x17, G16)) G16) fun x20 G21 =>
  bS (gd x19 false (bP (bn Q q .neq 39 (.tmp 27) (.const (.int .i64 0)) x20 (.int .i64 0)) fun y => some (y, G21)) G21) fun x22 G23 =>
  bP (pickV x19 (.bool true) x22) fun x24 =>
  bS (gd x24 false (some (x13, G23)) G23) fun x25 G26 =>
  bS (gd x24 false (bP (bn Q q .neq 3 (.tmp 31) (.const (.int .i64 18)) x25 (.int .i64 18)) fun y => some (y, G26)) G26) fun x27 G28 =>
  bP (pickV x24 (.bool true) x27) fun x29 =>
  bS (gd x29 false (some (x18, G28)) G28) fun x30 G31 =>
  bS (gd x29 false (bP (bn Q q .neq 3 (.tmp 35) (.const (.int .i64 20)) x30 (.int .i64 20)) fun y => some (y, G31)) G31) fun x32 G33 =>
  bP (pickV x29 (.bool true) x32) fun x34 =>
  ifV x34 (
  some ((.pointer none), G33)) (
  some (x6, G33)))
theorem m7 {e : Ex} {E : Ev} (h : ExLe Q e E) (G : GS) : Ref (s7 true e  G) (s7 false (Ex.of E)  G) := by
  unfold s7
  exact Ref.go
theorem f7 {orc : FuncId → Bool} {e : Ex} (h : ExLe Q e (E orc)) (ho : orc 7 = false) (G : GS) : Ref (s7 true e  G) ((E orc).cl 7 [] G) :=
  fun r hr => cl_sxE_some Q orc (vs := []) G Tryz.func7 (by kernel_rfl) (by kernel_rfl) ho (by kernel_rfl) (by kernel_rfl) (by kernel_rfl) (m7 h  G r hr)
/-- coxswain/coxswainlaw19.picked -/
noncomputable def s8 (q : Bool) (e : Ex) (v0 v1 v2 v3 : Value) (G : GS) : Option (Value × GS) :=
  bS (bx q v0 G) fun x0 G1 =>
  bP (lda Q q 31 13 x0 G1) fun x2 =>
  bS (e.ev.cl 9 [x2, v1, (.int .i64 0)] G1) fun x3 G4 =>
  bP (pExtract x3 0) fun x5 =>
  bP (pExtract x3 1) fun x6 =>
  bS (al Q q 38 z38 G4) fun x7 G8 =>
  bP (st Q q 38 2 x7 x5 G8) fun G9 =>
  bP (bn Q q .eql 39 (.tmp 17) (.const (.int .i64 0)) x6 (.int .i64 0)) fun x10 =>
  bS (gd x10 true (bP (fa Q q 38 0 0 x7) fun y => some (y, G9)) G9) fun x11 G12 =>
  bS (gd x10 true (bP (ld Q q 36 x11 G12) fun y => some (y, G12)) G12) fun x13 G14 =>
  bS (gd x10 true (some (v2, G14)) G14) fun x15 G16 =>
  bS (gd x10 true (bP (bn Q q .eql 36 (.tmp 21) (.tmp 22) x13 x15) fun y => some (y, G16)) G16) fun x17 G18 =>
  bP (pickV x10 x17 (.bool false)) fun x19 =>
  bS (gd x19 true (bP (fa Q q 38 1 1 x7) fun y => some (y, G18)) G18) fun x20 G21 =>
  bS (gd x19 true (bP (ld Q q 3 x20 G21) fun y => some (y, G21)) G21) fun x22 G23 =>
  bS (gd x19 true (some (v3, G23)) G23) fun x24 G25 =>
  bS (gd x19 true (bP (bn Q q .eql 3 (.tmp 27) (.tmp 28) x22 x24) fun y => some (y, G25)) G25) fun x26 G27 =>
  bP (pickV x19 x26 (.bool false)) fun x28 =>
  some (x28, G27)
theorem m8 {e : Ex} {E : Ev} (h : ExLe Q e E) (v0 v1 v2 v3 : Value) (G : GS) : Ref (s8 true e v0 v1 v2 v3 G) (s8 false (Ex.of E) v0 v1 v2 v3 G) := by
  unfold s8
  exact Ref.go
theorem f8 {orc : FuncId → Bool} {e : Ex} (h : ExLe Q e (E orc)) (v0 v1 v2 v3 : Value) (G : GS) : Ref (s8 true e v0 v1 v2 v3 G) ((E orc).cl 8 [v0, v1, v2, v3] G) :=
  fun r hr => cl_sxE_some Q orc (vs := [v0, v1, v2, v3]) G Tryz.func8 (by kernel_rfl) (by kernel_rfl) (by kernel_rfl) (by kernel_rfl) (by kernel_rfl) (by kernel_rfl) (m8 h v0 v1 v2 v3 G r hr)
noncomputable def b9_0 (q : Bool) (e : Ex) (lp : Env → GS → Option (Exit × Env × GS)) (τ : Env) (G : GS) : Option (Exit × Env × GS) :=
  bV q (τ 1) fun a1_ =>
  bV q (τ 8) fun a8_ =>
  bV q (τ 9) fun a9_ =>
  bP (bn Q q .lss 3 (.tmp 13) (.const (.int .i64 4000)) a9_ (.int .i64 4000)) fun x0 =>
  bS (gd x0 true (some (a8_, G)) G) fun x1 G2 =>
  bS (gd x0 true (some (a1_, G2)) G2) fun x3 G4 =>
  bS (gd x0 true (bS (e.ev.cl 22 [x1, x3] G4) fun y G => some (y, G)) G4) fun x5 G6 =>
  bS (gd x0 true (bP (un Q q .not x5) fun y => some (y, G6)) G6) fun x7 G8 =>
  bP (pickV x0 x7 (.bool false)) fun x9 =>
  ifV x9 (
  bS (e.ev.cl 43 [a1_] G8) fun x10 G11 =>
  bP (bn Q q .add 3 (.tmp 21) (.const (.int .i64 1)) a9_ (.int .i64 1)) fun x12 =>
  lp (tu τ [(1, a1_), (8, a8_), (9, x12), (13, a9_), (14, x0), (15, x0), (16, x1), (17, x3), (18, x5), (19, x7), (20, x9), (21, a9_), (22, x12), (23, a1_), (24, x10)]) G11) (
  some ((.exit 0), clq q 29 (tu τ [(1, a1_), (8, a8_), (9, a9_), (13, a9_), (14, x0), (15, x0), (16, x1), (17, x3), (18, x5), (19, x7), (20, x9)]), G8))
theorem mb9_0 {e : Ex} {E : Ev} (h : ExLe Q e E) {lp lp' : Env → GS → Option (Exit × Env × GS)} (hlp : LpLe lp lp') (τ : Env) (G : GS) : Ref (b9_0 true e lp τ G) (b9_0 false (Ex.of E) lp' τ G) := by
  unfold b9_0
  exact Ref.go
theorem l9_0 {orc : FuncId → Bool} {e : Ex} (h : ExLe Q e (E orc)) (lp : Env → GS → Option (Exit × Env × GS)) (hlp : ∀ τ G, Ref (lp τ G) (mapE ((E orc).lp (subAt [1, 1, 0, 1, 0, 0] (bodyOf Tryz.f9)) (lst 29 τ) G))) (T : List Value) (G : GS) (hT : T.length = 29) : Ref (b9_0 true e lp (nth undef T) G) (mapE ((E orc).lp (subAt [1, 1, 0, 1, 0, 0] (bodyOf Tryz.f9)) T G)) :=
  fun r hr => lp_sxM Q orc G hT (by kernel_rfl) (mb9_0 h ⟨hlp⟩ _ _ r hr)
/-- coxswain/coxswainlaw19.pick -/
noncomputable def s9 (q : Bool) (e : Ex) (v0 v1 v2 : Value) (G : GS) : Option (Value × GS) :=
  bS (bx q v0 G) fun x0 G1 =>
  bS (al Q q 38 z38 G1) fun x2 G3 =>
  bP (lda Q q 31 13 x0 G3) fun x4 =>
  bS (e.ev.cl 11 [x4, v2] G3) fun x5 G6 =>
  bL q e 9 0 (subAt [1, 1, 0, 1, 0, 0] (bodyOf Tryz.f9)) 29 (tu (nth undef [v0, v1, v2]) [(3, x0), (6, x2), (7, (.int .i64 0)), (8, x5), (9, (.int .i64 1)), (10, x4), (11, v2), (12, x5)]) G6 fun e7 t8 G9 =>
  bV q (t8 6) fun t8x6_ =>
  bV q (t8 8) fun t8x8_ =>
  ifE e7 (.exit 0) (
  bS (e.ev.cl 12 [t8x8_] G9) fun x10 G11 =>
  bP (pExtract x10 0) fun x12 =>
  bP (pExtract x10 1) fun x13 =>
  bP (st Q q 38 2 t8x6_ x12 G11) fun G14 =>
  bP (lda Q q 38 2 t8x6_ G14) fun x15 =>
  some (.tuple #[x15, x13], G14)) (none)
theorem m9 {e : Ex} {E : Ev} (h : ExLe Q e E) (v0 v1 v2 : Value) (G : GS) : Ref (s9 true e v0 v1 v2 G) (s9 false (Ex.of E) v0 v1 v2 G) := by
  unfold s9
  exact Ref.go
theorem f9 {orc : FuncId → Bool} {e : Ex} (h : ExLe Q e (E orc)) (v0 v1 v2 : Value) (G : GS) : Ref (s9 true e v0 v1 v2 G) ((E orc).cl 9 [v0, v1, v2] G) :=
  fun r hr => cl_sxE_some Q orc (vs := [v0, v1, v2]) G Tryz.func9 (by kernel_rfl) (by kernel_rfl) (by kernel_rfl) (by kernel_rfl) (by kernel_rfl) (by kernel_rfl) (m9 h v0 v1 v2 G r hr)
/-- coxswain/ready.NewPut -/
noncomputable def s10 (q : Bool) (e : Ex) (v0 v1 v2 v3 v4 : Value) (G : GS) : Option (Value × GS) :=
  bS (bx q v0 G) fun x0 G1 =>
  bP (lda Q q 31 13 x0 G1) fun x2 =>
  bS (e.ev.cl 44 [x2, v1] G1) fun x3 G4 =>
  bP (bd Q q 82 z82 [(0, 0, 19), (1, 19, 1), (2, 20, 1), (3, 21, 1)] [x3, v2, v3, v4]) fun x5 =>
  bS (bx q x5 G4) fun x6 G7 =>
  bP (pNil x6) fun x8 =>
  bP (fa Q q 82 0 0 x8) fun x9 =>
  bP (fa Q q 79 6 18 x9) fun x10 =>
  bP (ld Q q 39 x10 G7) fun x11 =>
  bP (bn Q q .eql 39 (.tmp 24) (.const (.int .i64 0)) x11 (.int .i64 0)) fun x12 =>
  bS (gd x12 true (some (v2, G7)) G7) fun x13 G14 =>
  bS (gd x12 true (bP (bn Q q .eql 36 (.tmp 27) (.const (.int .u64 18446744073709551615)) x13 (.int .u64 18446744073709551615)) fun y => some (y, G14)) G14) fun x15 G16 =>
  bS (gd x12 true (some (x15, G16)) G16) fun x17 G18 =>
  bS (gd x17 false (some (v3, G18)) G18) fun x19 G20 =>
  bS (gd x17 false (bP (bn Q q .lss 3 (.tmp 30) (.const (.int .i64 0)) x19 (.int .i64 0)) fun y => some (y, G20)) G20) fun x21 G22 =>
  bS (gd x12 true (bP (pickV x17 (.bool true) x21) fun y => some (y, G22)) G22) fun x23 G24 =>
  bS (gd x12 true (some (x23, G24)) G24) fun x25 G26 =>
  bS (gd x25 false (some (v3, G26)) G26) fun x27 G28 =>
  bS (gd x25 false (bP (bn Q q .gtr 3 (.tmp 34) (.const (.int .i64 65534)) x27 (.int .i64 65534)) fun y => some (y, G28)) G28) fun x29 G30 =>
  bS (gd x12 true (bP (pickV x25 (.bool true) x29) fun y => some (y, G30)) G30) fun x31 G32 =>
  bS (gd x12 true (some (x31, G32)) G32) fun x33 G34 =>
  bS (gd x33 false (some (v4, G34)) G34) fun x35 G36 =>
  bS (gd x33 false (bP (bn Q q .lss 3 (.tmp 38) (.const (.int .i64 1)) x35 (.int .i64 1)) fun y => some (y, G36)) G36) fun x37 G38 =>
  bS (gd x12 true (bP (pickV x33 (.bool true) x37) fun y => some (y, G38)) G38) fun x39 G40 =>
  bS (gd x12 true (some (x39, G40)) G40) fun x41 G42 =>
  bS (gd x41 false (some (v4, G42)) G42) fun x43 G44 =>
  bS (gd x41 false (bP (fa Q q 31 2 2 x0) fun y => some (y, G44)) G44) fun x45 G46 =>
  bS (gd x41 false (bP (ld Q q 3 x45 G46) fun y => some (y, G46)) G46) fun x47 G48 =>
  bS (gd x41 false (bP (bn Q q .gtr 3 (.tmp 42) (.tmp 44) x43 x47) fun y => some (y, G48)) G48) fun x49 G50 =>
  bS (gd x12 true (bP (pickV x41 (.bool true) x49) fun y => some (y, G50)) G50) fun x51 G52 =>
  bP (pickV x12 x51 (.bool false)) fun x53 =>
  ifV x53 (
  bP (pNil x6) fun x54 =>
  bP (fa Q q 82 0 0 x54) fun x55 =>
  bP (fa Q q 79 6 18 x55) fun x56 =>
  bP (st Q q 39 1 x56 (.int .i64 3) G52) fun G57 =>
  bP (pNil x6) fun x58 =>
  bP (fa Q q 82 0 0 x58) fun x59 =>
  bP (fa Q q 79 6 18 x59) fun x60 =>
  bP (ld Q q 39 x60 G57) fun x61 =>
  bP (bn Q q .eql 39 (.tmp 56) (.const (.int .i64 0)) x61 (.int .i64 0)) fun x62 =>
  ifV x62 (
  bP (pNil x6) fun x63 =>
  bP (fa Q q 82 0 0 x63) fun x64 =>
  bS (e.ev.cl 45 [x64] G57) fun x65 G66 =>
  bS (e.ev.cl 46 [x6] G66) fun x67 G68 =>
  bS (bs Q q 77 2 (rep z84 2) 1 [(0, 0, 1), (1, 1, 1)] [x65, x67] G68) fun x69 G70 =>
  bP (pNil x6) fun x71 =>
  bP (fa Q q 82 0 0 x71) fun x72 =>
  bP (fa Q q 79 4 16 x72) fun x73 =>
  bP (st Q q 77 1 x73 x69 G70) fun G74 =>
  some (x6, G74)) (
  some (x6, G57))) (
  bP (pNil x6) fun x75 =>
  bP (fa Q q 82 0 0 x75) fun x76 =>
  bP (fa Q q 79 6 18 x76) fun x77 =>
  bP (ld Q q 39 x77 G52) fun x78 =>
  bP (bn Q q .eql 39 (.tmp 56) (.const (.int .i64 0)) x78 (.int .i64 0)) fun x79 =>
  ifV x79 (
  bP (pNil x6) fun x80 =>
  bP (fa Q q 82 0 0 x80) fun x81 =>
  bS (e.ev.cl 45 [x81] G52) fun x82 G83 =>
  bS (e.ev.cl 46 [x6] G83) fun x84 G85 =>
  bS (bs Q q 77 2 (rep z84 2) 1 [(0, 0, 1), (1, 1, 1)] [x82, x84] G85) fun x86 G87 =>
  bP (pNil x6) fun x88 =>
  bP (fa Q q 82 0 0 x88) fun x89 =>
  bP (fa Q q 79 4 16 x89) fun x90 =>
  bP (st Q q 77 1 x90 x86 G87) fun G91 =>
  some (x6, G91)) (
  some (x6, G52)))
theorem m10 {e : Ex} {E : Ev} (h : ExLe Q e E) (v0 v1 v2 v3 v4 : Value) (G : GS) : Ref (s10 true e v0 v1 v2 v3 v4 G) (s10 false (Ex.of E) v0 v1 v2 v3 v4 G) := by
  unfold s10
  exact Ref.go
theorem f10 {orc : FuncId → Bool} {e : Ex} (h : ExLe Q e (E orc)) (v0 v1 v2 v3 v4 : Value) (G : GS) : Ref (s10 true e v0 v1 v2 v3 v4 G) ((E orc).cl 10 [v0, v1, v2, v3, v4] G) :=
  fun r hr => cl_sxE_some Q orc (vs := [v0, v1, v2, v3, v4]) G Tryz.func10 (by kernel_rfl) (by kernel_rfl) (by kernel_rfl) (by kernel_rfl) (by kernel_rfl) (by kernel_rfl) (m10 h v0 v1 v2 v3 v4 G r hr)
/-- coxswain/ready.NewPick -/
noncomputable def s11 (q : Bool) (e : Ex) (v0 v1 : Value) (G : GS) : Option (Value × GS) :=
  bS (bx q v0 G) fun x0 G1 =>
  bP (lda Q q 31 13 x0 G1) fun x2 =>
  bS (e.ev.cl 44 [x2, v1] G1) fun x3 G4 =>
  bP (bd Q q 89 z89 [(0, 0, 19)] [x3]) fun x5 =>
  bS (bx q x5 G4) fun x6 G7 =>
  bS (al Q q 44 z44 G7) fun x8 G9 =>
  bP (st Q q 44 1 x8 x6 G9) fun G10 =>
  bP (ld Q q 44 x8 G10) fun x11 =>
  bP (pNil x11) fun x12 =>
  bP (fa Q q 89 0 0 x12) fun x13 =>
  bP (fa Q q 79 6 18 x13) fun x14 =>
  bP (ld Q q 39 x14 G10) fun x15 =>
  bP (bn Q q .eql 39 (.tmp 15) (.const (.int .i64 0)) x15 (.int .i64 0)) fun x16 =>
  ifV x16 (
  bP (ld Q q 44 x8 (G10.room 19)) fun x17 =>
  bP (ld Q q 44 x8 (G10.room 19)) fun x18 =>
  bP (pNil x18) fun x19 =>
  bP (fa Q q 89 0 0 x19) fun x20 =>
  bS (e.ev.cl 45 [x20] (G10.room 19)) fun x22 G21 =>
  chk ((sameO (ld Q q 44 x8 G21) x17 && true)) <|
  bP (bd Q q 97 z97 [(0, 0, 1), (1, 1, 1), (2, 2, 1)] [(.func (.func 47) #[] #[x0]), (.func (.func 49) #[] #[]), (.func (.func 50) #[] #[x8])]) fun x23 =>
  bS (bx q x23 (G21.at' (G10.nx + 8))) fun x24 G25 =>
  bP (ifc Q q 90 x24) fun x26 =>
  bP (ld Q q 44 x8 (G25.back G21)) fun x27 =>
  chk ((sameO (ld Q q 44 x8 (G10.room 19)) x27 && true)) <|
  bP (pNil x27) fun x28 =>
  bP (fa Q q 89 0 0 x28) fun x29 =>
  bS (e.ev.cl 52 [x29] (G25.back G21)) fun x31 G30 =>
  chk ((sameO (ld Q q 44 x8 G30) x17 && true)) <|
  bS (bs Q q 77 3 (rep z84 3) 1 [(0, 0, 1), (1, 1, 1), (2, 2, 1)] [x22, x26, x31] (G30.at' (G10.nx + 14))) fun x32 G33 =>
  bP (pNil x17) fun x34 =>
  bP (fa Q q 89 0 0 x34) fun x35 =>
  bP (fa Q q 79 4 16 x35) fun x36 =>
  bP (st Q q 77 1 x36 x32 (G33.back G30)) fun G37 =>
  bP (ld Q q 44 x8 G37) fun x38 =>
  some (x38, G37)) (
  bP (ld Q q 44 x8 G10) fun x39 =>
  some (x39, G10))
theorem m11 {e : Ex} {E : Ev} (h : ExLe Q e E) (v0 v1 : Value) (G : GS) : Ref (s11 true e v0 v1 G) (s11 false (Ex.of E) v0 v1 G) := by
  unfold s11
  exact Ref.go
theorem f11 {orc : FuncId → Bool} {e : Ex} (h : ExLe Q e (E orc)) (v0 v1 : Value) (G : GS) : Ref (s11 true e v0 v1 G) ((E orc).cl 11 [v0, v1] G) :=
  fun r hr => cl_sxE_some Q orc (vs := [v0, v1]) G Tryz.func11 (by kernel_rfl) (by kernel_rfl) (by kernel_rfl) (by kernel_rfl) (by kernel_rfl) (by kernel_rfl) (m11 h v0 v1 G r hr)
/-- (*coxswain/ready.Pick).Item -/
noncomputable def s12 (q : Bool) (e : Ex) (v0 : Value) (G : GS) : Option (Value × GS) :=
  bS (al Q q 38 z38 G) fun x0 G1 =>
  bP (ep Q q false 44 (.tmp 4) (.const (.pointer none)) v0 (.pointer none)) fun x2 =>
  ifV x2 (
  bP (bd Q q 38 z38 [] []) fun x3 =>
  bP (st Q q 38 2 x0 x3 G1) fun G4 =>
  bP (lda Q q 38 2 x0 G4) fun x5 =>
  some (.tuple #[x5, (.int .i64 1)], G4)) (
  bP (pNil v0) fun x6 =>
  bP (fa Q q 89 1 19 x6) fun x7 =>
  bP (lda Q q 87 3 x7 (G1.room 12)) fun x8 =>
  bP (pNil v0) fun x9 =>
  bP (fa Q q 89 0 0 x9) fun x10 =>
  bS (e.ev.cl 53 [x8, x10] (G1.room 12)) fun x12 G11 =>
  bP (pExtract x12 0) fun x13 =>
  bP (pExtract x12 1) fun x14 =>
  bP (st Q q 38 2 x0 x13 G11) fun G15 =>
  bP (lda Q q 38 2 x0 G15) fun x16 =>
  some (.tuple #[x16, x14], G15))
theorem m12 {e : Ex} {E : Ev} (h : ExLe Q e E) (v0 : Value) (G : GS) : Ref (s12 true e v0 G) (s12 false (Ex.of E) v0 G) := by
  unfold s12
  exact Ref.go
theorem f12 {orc : FuncId → Bool} {e : Ex} (h : ExLe Q e (E orc)) (v0 : Value) (G : GS) : Ref (s12 true e v0 G) ((E orc).cl 12 [v0] G) :=
  fun r hr => cl_sxE_some Q orc (vs := [v0]) G Tryz.func12 (by kernel_rfl) (by kernel_rfl) (by kernel_rfl) (by kernel_rfl) (by kernel_rfl) (by kernel_rfl) (m12 h v0 G r hr)
/-- coxswain/coxswainlaw19.awake -/
noncomputable def s13 (q : Bool) (e : Ex) (G : GS) : Option (Value × GS) :=
  bS (e.ev.cl 6 [] G) fun x0 G1 =>
  bS (al Q q 31 z31 G1) fun x2 G3 =>
  bP (st Q q 31 13 x2 x0 G3) fun G4 =>
  bS (e.ev.cl 7 [] G4) fun x5 G6 =>
  bP (ep Q q false 33 (.tmp 7) (.const (.pointer none)) x5 (.pointer none)) fun x7 =>
  ifV x7 (
  some ((.bool false), G6)) (
  bP (lda Q q 31 13 x2 G6) fun x8 =>
  bS (e.ev.cl 54 [x8, x5, (.int .i64 0)] G6) fun x9 G10 =>
  bP (pExtract x9 0) fun x11 =>
  bP (pExtract x9 1) fun x12 =>
  bS (al Q q 38 z38 G10) fun x13 G14 =>
  bP (st Q q 38 2 x13 x11 G14) fun G15 =>
  bP (bn Q q .eql 39 (.tmp 15) (.const (.int .i64 0)) x12 (.int .i64 0)) fun x16 =>
  bS (gd x16 true (bP (fa Q q 38 0 0 x13) fun y => some (y, G15)) G15) fun x17 G18 =>
  bS (gd x16 true (bP (ld Q q 36 x17 G18) fun y => some (y, G18)) G18) fun x19 G20 =>
  bS (gd x16 true (bP (bn Q q .eql 36 (.tmp 19) (.const (.int .u64 4)) x19 (.int .u64 4)) fun y => some (y, G20)) G20) fun x21 G22 =>
  bP (pickV x16 x21 (.bool false)) fun x23 =>
  bS (gd x23 true (bP (fa Q q 38 1 1 x13) fun y => some (y, G22)) G22) fun x24 G25 =>
  bS (gd x23 true (bP (ld Q q 3 x24 G25) fun y => some (y, G25)) G25) fun x26 G27 =>
  bS (gd x23 true (bP (bn Q q .eql 3 (.tmp 24) (.const (.int .i64 6)) x26 (.int .i64 6)) fun y => some (y, G27)) G27) fun x28 G29 =>
  bP (pickV x23 x28 (.bool false)) fun x30 =>
  bS (gd x30 true (bP (lda Q q 31 13 x2 G29) fun y => some (y, G29)) G29) fun x31 G32 =>
  bS (gd x30 true (some (x5, G32)) G32) fun x33 G34 =>
  bS (gd x30 true (bS (e.ev.cl 8 [x31, x33, (.int .u64 4), (.int .i64 6)] G34) fun y G => some (y, G)) G34) fun x35 G36 =>
  bP (pickV x30 x35 (.bool false)) fun x37 =>
  some (x37, G36))
theorem m13 {e : Ex} {E : Ev} (h : ExLe Q e E) (G : GS) : Ref (s13 true e  G) (s13 false (Ex.of E)  G) := by
  unfold s13
  exact Ref.go
theorem f13 {orc : FuncId → Bool} {e : Ex} (h : ExLe Q e (E orc)) (ho : orc 13 = false) (G : GS) : Ref (s13 true e  G) ((E orc).cl 13 [] G) :=
  fun r hr => cl_sxE_some Q orc (vs := []) G Tryz.func13 (by kernel_rfl) (by kernel_rfl) ho (by kernel_rfl) (by kernel_rfl) (by kernel_rfl) (m13 h  G r hr)
/-- (*coxswain/ready.Put).Err -/
noncomputable def s14 (q : Bool) (e : Ex) (v0 : Value) (G : GS) : Option (Value × GS) :=
  bP (ep Q q false 42 (.tmp 3) (.const (.pointer none)) v0 (.pointer none)) fun x0 =>
  ifV x0 (
  some ((.int .i64 1), G)) (
  bP (pNil v0) fun x1 =>
  bP (fa Q q 82 0 0 x1) fun x2 =>
  bS (e.ev.cl 55 [x2] G) fun x3 G4 =>
  some (x3, G4))
theorem m14 {e : Ex} {E : Ev} (h : ExLe Q e E) (v0 : Value) (G : GS) : Ref (s14 true e v0 G) (s14 false (Ex.of E) v0 G) := by
  unfold s14
  exact Ref.go
theorem f14 {orc : FuncId → Bool} {e : Ex} (h : ExLe Q e (E orc)) (v0 : Value) (G : GS) : Ref (s14 true e v0 G) ((E orc).cl 14 [v0] G) :=
  fun r hr => cl_sxE_some Q orc (vs := [v0]) G Tryz.func14 (by kernel_rfl) (by kernel_rfl) (by kernel_rfl) (by kernel_rfl) (by kernel_rfl) (by kernel_rfl) (m14 h v0 G r hr)
noncomputable def b15_0 (q : Bool) (e : Ex) (lp : Env → GS → Option (Exit × Env × GS)) (τ : Env) (G : GS) : Option (Exit × Env × GS) :=
  bV q (τ 1) fun a1_ =>
  bV q (τ 2) fun a2_ =>
  bV q (τ 3) fun a3_ =>
  bP (bn Q q .leq 3 (.tmp 15) (.const (.int .i64 3)) a3_ (.int .i64 3)) fun x0 =>
  ifV x0 (
  bP (lda Q q 31 13 a1_ G) fun x1 =>
  bP (cv Q q 3 36 .i64 .u64 a3_) fun x2 =>
  bS (e.ev.cl 42 [x1, a2_, (.int .i64 0), x2, a3_, (.int .i64 1)] G) fun x3 G4 =>
  bP (pExtract x3 0) fun x5 =>
  bP (pExtract x3 1) fun x6 =>
  bP (bn Q q .neq 39 (.tmp 28) (.const (.int .i64 0)) x5 (.int .i64 0)) fun x7 =>
  ifV x7 (
  some (.ret, clq q 59 (tu τ [(1, a1_), (2, a2_), (3, a3_), (0, (.bool false)), (4, x5), (5, x6), (15, a3_), (16, x0), (19, x3), (20, x1), (21, a2_), (22, a3_), (23, x2), (24, a3_), (25, x3), (26, x5), (27, x6), (28, x5), (29, x7)]), G4)) (
  bP (bn Q q .add 3 (.tmp 17) (.const (.int .i64 1)) a3_ (.int .i64 1)) fun x8 =>
  lp (tu τ [(1, a1_), (2, a2_), (3, x8), (4, x5), (5, x6), (15, a3_), (16, x0), (17, a3_), (18, x8), (19, x3), (20, x1), (21, a2_), (22, a3_), (23, x2), (24, a3_), (25, x3), (26, x5), (27, x6), (28, x5), (29, x7)]) G4)) (
  some ((.exit 0), clq q 59 (tu τ [(1, a1_), (2, a2_), (3, a3_), (15, a3_), (16, x0)]), G))
theorem mb15_0 {e : Ex} {E : Ev} (h : ExLe Q e E) {lp lp' : Env → GS → Option (Exit × Env × GS)} (hlp : LpLe lp lp') (τ : Env) (G : GS) : Ref (b15_0 true e lp τ G) (b15_0 false (Ex.of E) lp' τ G) := by
  unfold b15_0
  exact Ref.go
theorem l15_0 {orc : FuncId → Bool} {e : Ex} (h : ExLe Q e (E orc)) (lp : Env → GS → Option (Exit × Env × GS)) (hlp : ∀ τ G, Ref (lp τ G) (mapE ((E orc).lp (subAt [1, 1, 1, 1, 0, 1, 0, 0] (bodyOf Tryz.f15)) (lst 59 τ) G))) (T : List Value) (G : GS) (hT : T.length = 59) : Ref (b15_0 true e lp (nth undef T) G) (mapE ((E orc).lp (subAt [1, 1, 1, 1, 0, 1, 0, 0] (bodyOf Tryz.f15)) T G)) :=
  fun r hr => lp_sxM Q orc G hT (by kernel_rfl) (mb15_0 h ⟨hlp⟩ _ _ r hr)
/-- coxswain/coxswainlaw19.full -/
noncomputable def s15 (q : Bool) (e : Ex) (G : GS) : Option (Value × GS) :=
  bS (e.ev.cl 6 [] G) fun x0 G1 =>
  bS (al Q q 31 z31 G1) fun x2 G3 =>
  bP (st Q q 31 13 x2 x0 G3) fun G4 =>
  bP (lda Q q 31 13 x2 G4) fun x5 =>
  bS (e.ev.cl 41 [x5, (.int .i64 34)] G4) fun x6 G7 =>
  bP (ep Q q false 33 (.tmp 13) (.const (.pointer none)) x6 (.pointer none)) fun x8 =>
  ifV x8 (
  some ((.bool false), G7)) (
  bL q e 15 0 (subAt [1, 1, 1, 1, 0, 1, 0, 0] (bodyOf Tryz.f15)) 59 (tu (nth undef []) [(0, (.bool false)), (1, x2), (2, x6), (3, (.int .i64 1)), (10, x0), (11, x5), (12, x6), (13, x6), (14, x8)]) G7 fun e9 t10 G11 =>
  bV q (t10 0) fun t10x0_ =>
  bV q (t10 1) fun t10x1_ =>
  bV q (t10 2) fun t10x2_ =>
  ifE e9 (.exit 0) (
  bP (lda Q q 31 13 t10x1_ G11) fun x12 =>
  bS (e.ev.cl 42 [x12, t10x2_, (.int .i64 0), (.int .u64 4), (.int .i64 4), (.int .i64 1)] G11) fun x13 G14 =>
  bP (pExtract x13 0) fun x15 =>
  bP (pExtract x13 1) fun x16 =>
  bP (bn Q q .neq 39 (.tmp 36) (.const (.int .i64 7)) x15 (.int .i64 7)) fun x17 =>
  bS (gd x17 false (bP (lda Q q 31 13 t10x1_ G14) fun y => some (y, G14)) G14) fun x18 G19 =>
  bS (gd x17 false (some (t10x2_, G19)) G19) fun x20 G21 =>
  bS (gd x17 false (bS (e.ev.cl 8 [x18, x20, (.int .u64 1), (.int .i64 1)] G21) fun y G => some (y, G)) G21) fun x22 G23 =>
  bS (gd x17 false (bP (un Q q .not x22) fun y => some (y, G23)) G23) fun x24 G25 =>
  bP (pickV x17 (.bool true) x24) fun x26 =>
  ifV x26 (
  some ((.bool false), G25)) (
  bP (lda Q q 31 13 t10x1_ G25) fun x27 =>
  bS (e.ev.cl 42 [x27, t10x2_, (.int .i64 0), (.int .u64 4), (.int .i64 4), (.int .i64 1)] G25) fun x28 G29 =>
  bP (pExtract x28 0) fun x30 =>
  bP (pExtract x28 1) fun x31 =>
  bP (bn Q q .eql 39 (.tmp 50) (.const (.int .i64 0)) x30 (.int .i64 0)) fun x32 =>
  bS (gd x32 true (bP (lda Q q 31 13 t10x1_ G29) fun y => some (y, G29)) G29) fun x33 G34 =>
  bS (gd x32 true (some (t10x2_, G34)) G34) fun x35 G36 =>
  bS (gd x32 true (bS (e.ev.cl 56 [x33, (.int .i64 0), x35] G36) fun y G => some (y, G)) G36) fun x37 G38 =>
  bS (gd x32 true (bP (ln Q q 100 x37) fun y => some (y, G38)) G38) fun x39 G40 =>
  bS (gd x32 true (bP (bn Q q .eql 3 (.tmp 56) (.const (.int .i64 3)) x39 (.int .i64 3)) fun y => some (y, G40)) G40) fun x41 G42 =>
  bP (pickV x32 x41 (.bool false)) fun x43 =>
  some (x43, G42))) (ifE e9 .ret (
  some (t10x0_, G11)) (none)))
theorem m15 {e : Ex} {E : Ev} (h : ExLe Q e E) (G : GS) : Ref (s15 true e  G) (s15 false (Ex.of E)  G) := by
  unfold s15
  exact Ref.go
theorem f15 {orc : FuncId → Bool} {e : Ex} (h : ExLe Q e (E orc)) (ho : orc 15 = false) (G : GS) : Ref (s15 true e  G) ((E orc).cl 15 [] G) :=
  fun r hr => cl_sxE_some Q orc (vs := []) G Tryz.func15 (by kernel_rfl) (by kernel_rfl) ho (by kernel_rfl) (by kernel_rfl) (by kernel_rfl) (m15 h  G r hr)
/-- coxswain/coxswainlaw19.tidied -/
noncomputable def s16 (q : Bool) (e : Ex) (G : GS) : Option (Value × GS) :=
  bS (e.ev.cl 6 [] G) fun x0 G1 =>
  bS (al Q q 31 z31 G1) fun x2 G3 =>
  bP (st Q q 31 13 x2 x0 G3) fun G4 =>
  bP (lda Q q 31 13 x2 G4) fun x5 =>
  bS (e.ev.cl 41 [x5, (.int .i64 34)] G4) fun x6 G7 =>
  bP (ep Q q false 33 (.tmp 14) (.const (.pointer none)) x6 (.pointer none)) fun x8 =>
  ifV x8 (
  some ((.bool false), G7)) (
  bP (lda Q q 31 13 x2 G7) fun x9 =>
  bS (e.ev.cl 42 [x9, x6, (.int .i64 0), (.int .u64 1), (.int .i64 1), (.int .i64 1)] G7) fun x10 G11 =>
  bP (pExtract x10 0) fun x12 =>
  bP (pExtract x10 1) fun x13 =>
  bP (bn Q q .neq 39 (.tmp 22) (.const (.int .i64 0)) x12 (.int .i64 0)) fun x14 =>
  bS (gd x14 false (bP (lda Q q 31 13 x2 G11) fun y => some (y, G11)) G11) fun x15 G16 =>
  bS (gd x14 false (some (x6, G16)) G16) fun x17 G18 =>
  bS (gd x14 false (bS (e.ev.cl 8 [x15, x17, (.int .u64 1), (.int .i64 1)] G18) fun y G => some (y, G)) G18) fun x19 G20 =>
  bS (gd x14 false (bP (un Q q .not x19) fun y => some (y, G20)) G20) fun x21 G22 =>
  bP (pickV x14 (.bool true) x21) fun x23 =>
  ifV x23 (
  some ((.bool false), G22)) (
  bP (lda Q q 31 13 x2 G22) fun x24 =>
  bS (e.ev.cl 57 [x24, x6, (.int .i64 0)] G22) fun x25 G26 =>
  bP (pExtract x25 0) fun x27 =>
  bP (pExtract x25 1) fun x28 =>
  bP (lda Q q 31 13 x2 G26) fun x29 =>
  bS (e.ev.cl 57 [x29, x6, (.int .i64 0)] G26) fun x30 G31 =>
  bP (pExtract x30 0) fun x32 =>
  bP (pExtract x30 1) fun x33 =>
  bP (lda Q q 31 13 x2 G31) fun x34 =>
  bS (e.ev.cl 57 [x34, x6, (.int .i64 0)] G31) fun x35 G36 =>
  bP (pExtract x35 0) fun x37 =>
  bP (pExtract x35 1) fun x38 =>
  bP (bn Q q .eql 3 (.tmp 48) (.const (.int .i64 0)) x27 (.int .i64 0)) fun x39 =>
  bS (gd x39 true (some (x32, G36)) G36) fun x40 G41 =>
  bS (gd x39 true (bP (bn Q q .eql 3 (.tmp 51) (.const (.int .i64 1)) x40 (.int .i64 1)) fun y => some (y, G41)) G41) fun x42 G43 =>
  bP (pickV x39 x42 (.bool false)) fun x44 =>
  bS (gd x44 true (some (x37, G43)) G43) fun x45 G46 =>
  bS (gd x44 true (bP (bn Q q .eql 3 (.tmp 55) (.const (.int .i64 0)) x45 (.int .i64 0)) fun y => some (y, G46)) G46) fun x47 G48 =>
  bP (pickV x44 x47 (.bool false)) fun x49 =>
  bS (gd x49 true (some (x28, G48)) G48) fun x50 G51 =>
  bS (gd x49 true (bP (bn Q q .eql 39 (.tmp 59) (.const (.int .i64 0)) x50 (.int .i64 0)) fun y => some (y, G51)) G51) fun x52 G53 =>
  bP (pickV x49 x52 (.bool false)) fun x54 =>
  bS (gd x54 true (some (x33, G53)) G53) fun x55 G56 =>
  bS (gd x54 true (bP (bn Q q .eql 39 (.tmp 63) (.const (.int .i64 0)) x55 (.int .i64 0)) fun y => some (y, G56)) G56) fun x57 G58 =>
  bP (pickV x54 x57 (.bool false)) fun x59 =>
  bS (gd x59 true (some (x38, G58)) G58) fun x60 G61 =>
  bS (gd x59 true (bP (bn Q q .eql 39 (.tmp 67) (.const (.int .i64 0)) x60 (.int .i64 0)) fun y => some (y, G61)) G61) fun x62 G63 =>
  bP (pickV x59 x62 (.bool false)) fun x64 =>
  some (x64, G63)))
theorem m16 {e : Ex} {E : Ev} (h : ExLe Q e E) (G : GS) : Ref (s16 true e  G) (s16 false (Ex.of E)  G) := by
  unfold s16
  exact Ref.go
theorem f16 {orc : FuncId → Bool} {e : Ex} (h : ExLe Q e (E orc)) (ho : orc 16 = false) (G : GS) : Ref (s16 true e  G) ((E orc).cl 16 [] G) :=
  fun r hr => cl_sxE_some Q orc (vs := []) G Tryz.func16 (by kernel_rfl) (by kernel_rfl) ho (by kernel_rfl) (by kernel_rfl) (by kernel_rfl) (m16 h  G r hr)
/-- (*coxswain/ready.Pick).Step -/
noncomputable def s22 (q : Bool) (e : Ex) (v0 v1 : Value) (G : GS) : Option (Value × GS) :=
  bP (ep Q q false 44 (.tmp 5) (.const (.pointer none)) v0 (.pointer none)) fun x0 =>
  bS (gd x0 false (some (v0, G)) G) fun x1 G2 =>
  bS (gd x0 false (bP (pNil x1) fun y => some (y, G2)) G2) fun x3 G4 =>
  bS (gd x0 false (bP (fa Q q 89 0 0 x3) fun y => some (y, G4)) G4) fun x5 G6 =>
  bS (gd x0 false (some (v1, G6)) G6) fun x7 G8 =>
  bS (gd x0 false (bS (e.ev.cl 65 [x5, x7] G8) fun y G => some (y, G)) G8) fun x9 G10 =>
  bP (pickV x0 (.bool true) x9) fun x11 =>
  some (x11, G10)
theorem m22 {e : Ex} {E : Ev} (h : ExLe Q e E) (v0 v1 : Value) (G : GS) : Ref (s22 true e v0 v1 G) (s22 false (Ex.of E) v0 v1 G) := by
  unfold s22
  exact Ref.go
theorem f22 {orc : FuncId → Bool} {e : Ex} (h : ExLe Q e (E orc)) (v0 v1 : Value) (G : GS) : Ref (s22 true e v0 v1 G) ((E orc).cl 22 [v0, v1] G) :=
  fun r hr => cl_sxE_some Q orc (vs := [v0, v1]) G Tryz.func22 (by kernel_rfl) (by kernel_rfl) (by kernel_rfl) (by kernel_rfl) (by kernel_rfl) (by kernel_rfl) (m22 h v0 v1 G r hr)
/-- (*coxswain/cells.Mem).Store -/
noncomputable def s26 (q : Bool) (e : Ex) (v0 v1 v2 : Value) (G : GS) : Option (Value × GS) :=
  bS (e.ev.cl 73 [v0, v1] G) fun x0 G1 =>
  bP (bd Q q 123 z123 [(0, 0, 1), (1, 1, 1)] [x0, v2]) fun x2 =>
  bS (al Q q 123 z123 G1) fun x3 G4 =>
  bP (st Q q 123 3 x3 x2 G4) fun G5 =>
  bP (fa Q q 123 0 0 x3) fun x6 =>
  bP (ld Q q 120 x6 G5) fun x7 =>
  bP (lda Q q 123 3 x3 G5) fun x8 =>
  bS (e.ev.cl 74 [v0, (.int .i64 2), v1, x7, (.func (.func 75) #[x8] #[])] G5) fun x9 G10 =>
  some (.tuple #[], G10)
theorem m26 {e : Ex} {E : Ev} (h : ExLe Q e E) (v0 v1 v2 : Value) (G : GS) : Ref (s26 true e v0 v1 v2 G) (s26 false (Ex.of E) v0 v1 v2 G) := by
  unfold s26
  exact Ref.go
theorem f26 {orc : FuncId → Bool} {e : Ex} (h : ExLe Q e (E orc)) (v0 v1 v2 : Value) (G : GS) : Ref (s26 true e v0 v1 v2 G) ((E orc).cl 26 [v0, v1, v2] G) :=
  fun r hr => cl_sxE_some Q orc (vs := [v0, v1, v2]) G Tryz.func26 (by kernel_rfl) (by kernel_rfl) (by kernel_rfl) (by kernel_rfl) (by kernel_rfl) (by kernel_rfl) (m26 h v0 v1 v2 G r hr)
/-- coxswain/run.Worst -/
noncomputable def s34 (q : Bool) (e : Ex) (v0 v1 : Value) (G : GS) : Option (Value × GS) :=
  bS (e.ev.cl 82 [v0, (.func (.func 83) #[] #[])] G) fun x0 G1 =>
  bP (bn Q q .lss 3 (.tmp 9) (.const (.int .i64 0)) x0 (.int .i64 0)) fun x2 =>
  bS (gd x2 false (some (v0, G1)) G1) fun x3 G4 =>
  bS (gd x2 false (some (x0, G4)) G4) fun x5 G6 =>
  bS (gd x2 false (bP (ias Q q 67 1 x3 x5) fun y => some (y, G6)) G6) fun x7 G8 =>
  bS (gd x2 false (bP (ld Q q 36 x7 G8) fun y => some (y, G8)) G8) fun x9 G10 =>
  bS (gd x2 false (some (v1, G10)) G10) fun x11 G12 =>
  bS (gd x2 false (bP (bn Q q .leq 36 (.tmp 15) (.tmp 16) x9 x11) fun y => some (y, G12)) G12) fun x13 G14 =>
  bP (pickV x2 (.bool true) x13) fun x15 =>
  ifV x15 (
  some (.tuple #[(.int .i64 (-1)), (.bool false)], G14)) (
  some (.tuple #[x0, (.bool true)], G14))
theorem m34 {e : Ex} {E : Ev} (h : ExLe Q e E) (v0 v1 : Value) (G : GS) : Ref (s34 true e v0 v1 G) (s34 false (Ex.of E) v0 v1 G) := by
  unfold s34
  exact Ref.go
theorem f34 {orc : FuncId → Bool} {e : Ex} (h : ExLe Q e (E orc)) (v0 v1 : Value) (G : GS) : Ref (s34 true e v0 v1 G) ((E orc).cl 34 [v0, v1] G) :=
  fun r hr => cl_sxE_some Q orc (vs := [v0, v1]) G Tryz.func34 (by kernel_rfl) (by kernel_rfl) (by kernel_rfl) (by kernel_rfl) (by kernel_rfl) (by kernel_rfl) (m34 h v0 v1 G r hr)
/-- coxswain/coxswainlaw19.filled -/
noncomputable def s41 (q : Bool) (e : Ex) (v0 v1 : Value) (G : GS) : Option (Value × GS) :=
  bS (bx q v0 G) fun x0 G1 =>
  bS (e.ev.cl 58 [v1] G1) fun x2 G3 =>
  bP (pExtract x2 0) fun x4 =>
  bP (pExtract x2 1) fun x5 =>
  bP (bn Q q .neq 39 (.tmp 12) (.const (.int .i64 0)) x5 (.int .i64 0)) fun x6 =>
  bS (gd x6 false (some (x4, G3)) G3) fun x7 G8 =>
  bS (gd x6 false (bP (ep Q q false 33 (.tmp 15) (.const (.pointer none)) x7 (.pointer none)) fun y => some (y, G8)) G8) fun x9 G10 =>
  bP (pickV x6 (.bool true) x9) fun x11 =>
  ifV x11 (
  some ((.pointer none), G10)) (
  bP (lda Q q 31 13 x0 G10) fun x12 =>
  bS (e.ev.cl 59 [x12, x4] G10) fun x13 G14 =>
  some (x4, G14))
theorem m41 {e : Ex} {E : Ev} (h : ExLe Q e E) (v0 v1 : Value) (G : GS) : Ref (s41 true e v0 v1 G) (s41 false (Ex.of E) v0 v1 G) := by
  unfold s41
  exact Ref.go
theorem f41 {orc : FuncId → Bool} {e : Ex} (h : ExLe Q e (E orc)) (v0 v1 : Value) (G : GS) : Ref (s41 true e v0 v1 G) ((E orc).cl 41 [v0, v1] G) :=
  fun r hr => cl_sxE_some Q orc (vs := [v0, v1]) G Tryz.func41 (by kernel_rfl) (by kernel_rfl) (by kernel_rfl) (by kernel_rfl) (by kernel_rfl) (by kernel_rfl) (m41 h v0 v1 G r hr)
noncomputable def b42_0 (q : Bool) (e : Ex) (lp : Env → GS → Option (Exit × Env × GS)) (τ : Env) (G : GS) : Option (Exit × Env × GS) :=
  bV q (τ 1) fun a1_ =>
  bV q (τ 14) fun a14_ =>
  bV q (τ 15) fun a15_ =>
  bP (bn Q q .lss 3 (.tmp 22) (.const (.int .i64 4000)) a15_ (.int .i64 4000)) fun x0 =>
  bS (gd x0 true (some (a14_, G)) G) fun x1 G2 =>
  bS (gd x0 true (some (a1_, G2)) G2) fun x3 G4 =>
  bS (gd x0 true (bS (e.ev.cl 77 [x1, x3] G4) fun y G => some (y, G)) G4) fun x5 G6 =>
  bS (gd x0 true (bP (un Q q .not x5) fun y => some (y, G6)) G6) fun x7 G8 =>
  bP (pickV x0 x7 (.bool false)) fun x9 =>
  ifV x9 (
  bP (bn Q q .add 3 (.tmp 30) (.const (.int .i64 1)) a15_ (.int .i64 1)) fun x10 =>
  lp (tu τ [(1, a1_), (14, a14_), (15, x10), (22, a15_), (23, x0), (24, x0), (25, x1), (26, x3), (27, x5), (28, x7), (29, x9), (30, a15_), (31, x10)]) G8) (
  some ((.exit 0), clq q 35 (tu τ [(1, a1_), (14, a14_), (15, a15_), (22, a15_), (23, x0), (24, x0), (25, x1), (26, x3), (27, x5), (28, x7), (29, x9)]), G8))
theorem mb42_0 {e : Ex} {E : Ev} (h : ExLe Q e E) {lp lp' : Env → GS → Option (Exit × Env × GS)} (hlp : LpLe lp lp') (τ : Env) (G : GS) : Ref (b42_0 true e lp τ G) (b42_0 false (Ex.of E) lp' τ G) := by
  unfold b42_0
  exact Ref.go
theorem l42_0 {orc : FuncId → Bool} {e : Ex} (h : ExLe Q e (E orc)) (lp : Env → GS → Option (Exit × Env × GS)) (hlp : ∀ τ G, Ref (lp τ G) (mapE ((E orc).lp (subAt [1, 1, 1, 0, 0, 0] (bodyOf Tryz.f42)) (lst 35 τ) G))) (T : List Value) (G : GS) (hT : T.length = 35) : Ref (b42_0 true e lp (nth undef T) G) (mapE ((E orc).lp (subAt [1, 1, 1, 0, 0, 0] (bodyOf Tryz.f42)) T G)) :=
  fun r hr => lp_sxM Q orc G hT (by kernel_rfl) (mb42_0 h ⟨hlp⟩ _ _ r hr)
/-- coxswain/coxswainlaw19.put -/
noncomputable def s42 (q : Bool) (e : Ex) (v0 v1 v2 v3 v4 v5 : Value) (G : GS) : Option (Value × GS) :=
  bS (bx q v0 G) fun x0 G1 =>
  bP (lda Q q 31 13 x0 G1) fun x2 =>
  bS (e.ev.cl 10 [x2, v2, v3, v4, v5] G1) fun x3 G4 =>
  bL q e 42 0 (subAt [1, 1, 1, 0, 0, 0] (bodyOf Tryz.f42)) 35 (tu (nth undef [v0, v1, v2, v3, v4, v5]) [(6, x0), (12, (.int .i64 0)), (13, (.int .i64 0)), (14, x3), (15, (.int .i64 1)), (16, x2), (17, v2), (18, v3), (19, v4), (20, v5), (21, x3)]) G4 fun e5 t6 G7 =>
  bV q (t6 14) fun t6x14_ =>
  bV q (t6 15) fun t6x15_ =>
  ifE e5 (.exit 0) (
  bS (e.ev.cl 14 [t6x14_] G7) fun x8 G9 =>
  some (.tuple #[x8, t6x15_], G9)) (none)
theorem m42 {e : Ex} {E : Ev} (h : ExLe Q e E) (v0 v1 v2 v3 v4 v5 : Value) (G : GS) : Ref (s42 true e v0 v1 v2 v3 v4 v5 G) (s42 false (Ex.of E) v0 v1 v2 v3 v4 v5 G) := by
  unfold s42
  exact Ref.go
theorem f42 {orc : FuncId → Bool} {e : Ex} (h : ExLe Q e (E orc)) (v0 v1 v2 v3 v4 v5 : Value) (G : GS) : Ref (s42 true e v0 v1 v2 v3 v4 v5 G) ((E orc).cl 42 [v0, v1, v2, v3, v4, v5] G) :=
  fun r hr => cl_sxE_some Q orc (vs := [v0, v1, v2, v3, v4, v5]) G Tryz.func42 (by kernel_rfl) (by kernel_rfl) (by kernel_rfl) (by kernel_rfl) (by kernel_rfl) (by kernel_rfl) (m42 h v0 v1 v2 v3 v4 v5 G r hr)
/-- (*coxswain/cells.Mem).Count -/
noncomputable def s43 (q : Bool) (e : Ex) (v0 : Value) (G : GS) : Option (Value × GS) :=
  bP (ep Q q false 33 (.tmp 3) (.const (.pointer none)) v0 (.pointer none)) fun x0 =>
  ifV x0 (
  some ((.int .i64 0), G)) (
  bP (pNil v0) fun x1 =>
  bP (fa Q q 144 3 7 x1) fun x2 =>
  bP (ld Q q 3 x2 G) fun x3 =>
  some (x3, G))
theorem m43 {e : Ex} {E : Ev} (h : ExLe Q e E) (v0 : Value) (G : GS) : Ref (s43 true e v0 G) (s43 false (Ex.of E) v0 G) := by
  unfold s43
  exact Ref.go
theorem f43 {orc : FuncId → Bool} {e : Ex} (h : ExLe Q e (E orc)) (v0 : Value) (G : GS) : Ref (s43 true e v0 G) ((E orc).cl 43 [v0] G) :=
  fun r hr => cl_sxE_some Q orc (vs := [v0]) G Tryz.func43 (by kernel_rfl) (by kernel_rfl) (by kernel_rfl) (by kernel_rfl) (by kernel_rfl) (by kernel_rfl) (m43 h v0 G r hr)
/-- coxswain/ready.begun -/
noncomputable def s44 (q : Bool) (e : Ex) (v0 v1 : Value) (G : GS) : Option (Value × GS) :=
  bS (bx q v0 G) fun x0 G1 =>
  bS (al Q q 79 z79 G1) fun x2 G3 =>
  bP (lda Q q 31 13 x0 G3) fun x4 =>
  bP (bd Q q 79 z79 [(0, 0, 13), (1, 13, 1), (2, 14, 1)] [x4, v1, (.bool true)]) fun x5 =>
  bS (al Q q 79 z79 G3) fun x6 G7 =>
  bP (st Q q 79 19 x6 x5 G7) fun G8 =>
  bP (lda Q q 31 13 x0 G8) fun x9 =>
  bS (e.ev.cl 90 [x9, (.int .i64 0), (.int .i64 0)] G8) fun x10 G11 =>
  bP (bn Q q .lss 3 (.tmp 11) (.const (.int .i64 0)) x10 (.int .i64 0)) fun x12 =>
  ifV x12 (
  bP (fa Q q 79 6 18 x6) fun x13 =>
  bP (st Q q 39 1 x13 (.int .i64 2) G11) fun G14 =>
  bP (lda Q q 79 19 x6 G14) fun x15 =>
  bP (st Q q 79 19 x2 x15 G14) fun G16 =>
  bP (lda Q q 79 19 x2 G16) fun x17 =>
  some (x17, G16)) (
  bP (bn Q q .lss 3 (.tmp 15) (.const (.int .i64 0)) v1 (.int .i64 0)) fun x18 =>
  bS (gd x18 false (some (v1, G11)) G11) fun x19 G20 =>
  bS (gd x18 false (bP (fa Q q 31 3 3 x0) fun y => some (y, G20)) G20) fun x21 G22 =>
  bS (gd x18 false (bP (fa Q q 29 1 6 x21) fun y => some (y, G22)) G22) fun x23 G24 =>
  bS (gd x18 false (bP (fa Q q 27 2 2 x23) fun y => some (y, G24)) G24) fun x25 G26 =>
  bS (gd x18 false (bP (ld Q q 3 x25 G26) fun y => some (y, G26)) G26) fun x27 G28 =>
  bS (gd x18 false (bP (bn Q q .geq 3 (.tmp 18) (.tmp 22) x19 x27) fun y => some (y, G28)) G28) fun x29 G30 =>
  bP (pickV x18 (.bool true) x29) fun x31 =>
  ifV x31 (
  bP (fa Q q 79 6 18 x6) fun x32 =>
  bP (st Q q 39 1 x32 (.int .i64 3) G30) fun G33 =>
  bP (lda Q q 79 19 x6 G33) fun x34 =>
  bP (st Q q 79 19 x2 x34 G33) fun G35 =>
  bP (lda Q q 79 19 x2 G35) fun x36 =>
  some (x36, G35)) (
  bP (lda Q q 79 19 x6 G30) fun x37 =>
  bP (st Q q 79 19 x2 x37 G30) fun G38 =>
  bP (lda Q q 79 19 x2 G38) fun x39 =>
  some (x39, G38)))
theorem m44 {e : Ex} {E : Ev} (h : ExLe Q e E) (v0 v1 : Value) (G : GS) : Ref (s44 true e v0 v1 G) (s44 false (Ex.of E) v0 v1 G) := by
  unfold s44
  exact Ref.go
theorem f44 {orc : FuncId → Bool} {e : Ex} (h : ExLe Q e (E orc)) (v0 v1 : Value) (G : GS) : Ref (s44 true e v0 v1 G) ((E orc).cl 44 [v0, v1] G) :=
  fun r hr => cl_sxE_some Q orc (vs := [v0, v1]) G Tryz.func44 (by kernel_rfl) (by kernel_rfl) (by kernel_rfl) (by kernel_rfl) (by kernel_rfl) (by kernel_rfl) (m44 h v0 v1 G r hr)
/-- (*coxswain/ready.work).pin -/
noncomputable def s45 (q : Bool) (e : Ex) (v0 : Value) (G : GS) : Option (Value × GS) :=
  bS (bx q v0 G) fun x0 G1 =>
  bP (bd Q q 154 z154 [(0, 0, 1), (2, 2, 1)] [(.func (.func 91) #[] #[x0]), (.func (.func 93) #[] #[x0])]) fun x2 =>
  bS (bx q x2 G1) fun x3 G4 =>
  bP (ifc Q q 146 x3) fun x5 =>
  some (x5, G4)
theorem m45 {e : Ex} {E : Ev} (h : ExLe Q e E) (v0 : Value) (G : GS) : Ref (s45 true e v0 G) (s45 false (Ex.of E) v0 G) := by
  unfold s45
  exact Ref.go
theorem f45 {orc : FuncId → Bool} {e : Ex} (h : ExLe Q e (E orc)) (v0 : Value) (G : GS) : Ref (s45 true e v0 G) ((E orc).cl 45 [v0] G) :=
  fun r hr => cl_sxE_some Q orc (vs := [v0]) G Tryz.func45 (by kernel_rfl) (by kernel_rfl) (by kernel_rfl) (by kernel_rfl) (by kernel_rfl) (by kernel_rfl) (m45 h v0 G r hr)
/-- (*coxswain/ready.Put).alloc -/
noncomputable def s46 (q : Bool) (e : Ex) (v0 : Value) (G : GS) : Option (Value × GS) :=
  bS (bx q v0 G) fun x0 G1 =>
  bP (ld Q q 42 x0 G1) fun x2 =>
  bP (bd Q q 162 z162 [(0, 0, 1), (2, 2, 1)] [(.func (.func 95) #[] #[x0]), (.func (.func 97) #[x2] #[])]) fun x3 =>
  bS (bx q x3 G1) fun x4 G5 =>
  bP (ifc Q q 155 x4) fun x6 =>
  some (x6, G5)
theorem m46 {e : Ex} {E : Ev} (h : ExLe Q e E) (v0 : Value) (G : GS) : Ref (s46 true e v0 G) (s46 false (Ex.of E) v0 G) := by
  unfold s46
  exact Ref.go
theorem f46 {orc : FuncId → Bool} {e : Ex} (h : ExLe Q e (E orc)) (v0 : Value) (G : GS) : Ref (s46 true e v0 G) ((E orc).cl 46 [v0] G) :=
  fun r hr => cl_sxE_some Q orc (vs := [v0]) G Tryz.func46 (by kernel_rfl) (by kernel_rfl) (by kernel_rfl) (by kernel_rfl) (by kernel_rfl) (by kernel_rfl) (m46 h v0 G r hr)
/-- coxswain/ready.NewPick$1 -/
noncomputable def s47 (q : Bool) (e : Ex) (v0 : Value) (G : GS) : Option (Value × GS) :=
  bP (lda Q q 31 13 v0 G) fun x0 =>
  bS (e.ev.cl 48 [x0] G) fun x1 G2 =>
  some (x1, G2)
theorem m47 {e : Ex} {E : Ev} (h : ExLe Q e E) (v0 : Value) (G : GS) : Ref (s47 true e v0 G) (s47 false (Ex.of E) v0 G) := by
  unfold s47
  exact Ref.go
theorem f47 {orc : FuncId → Bool} {e : Ex} (h : ExLe Q e (E orc)) (v0 : Value) (G : GS) : Ref (s47 true e v0 G) ((E orc).cl 47 [v0] G) :=
  fun r hr => cl_sxE_some Q orc (vs := [v0]) G Tryz.func47 (by kernel_rfl) (by kernel_rfl) (by kernel_rfl) (by kernel_rfl) (by kernel_rfl) (by kernel_rfl) (m47 h v0 G r hr)
/-- coxswain/claim.NewClaim -/
noncomputable def s48 (q : Bool) (e : Ex) (v0 : Value) (G : GS) : Option (Value × GS) :=
  bS (bx q v0 G) fun x0 G1 =>
  bP (lda Q q 31 13 x0 G1) fun x2 =>
  bS (e.ev.cl 98 [x2] G1) fun x3 G4 =>
  bP (bd Q q 172 z172 [(0, 0, 26)] [x3]) fun x5 =>
  bS (bx q x5 G4) fun x6 G7 =>
  some (x6, G7)
theorem m48 {e : Ex} {E : Ev} (h : ExLe Q e E) (v0 : Value) (G : GS) : Ref (s48 true e v0 G) (s48 false (Ex.of E) v0 G) := by
  unfold s48
  exact Ref.go
theorem f48 {orc : FuncId → Bool} {e : Ex} (h : ExLe Q e (E orc)) (v0 : Value) (G : GS) : Ref (s48 true e v0 G) ((E orc).cl 48 [v0] G) :=
  fun r hr => cl_sxE_some Q orc (vs := [v0]) G Tryz.func48 (by kernel_rfl) (by kernel_rfl) (by kernel_rfl) (by kernel_rfl) (by kernel_rfl) (by kernel_rfl) (m48 h v0 G r hr)
/-- (*coxswain/claim.Claim).By -/
noncomputable def s49 (q : Bool) (e : Ex) (v0 : Value) (G : GS) : Option (Value × GS) :=
  bP (ep Q q false 91 (.tmp 3) (.const (.pointer none)) v0 (.pointer none)) fun x0 =>
  ifV x0 (
  some ((.int .u64 0), G)) (
  bP (pNil v0) fun x1 =>
  bP (fa Q q 172 0 0 x1) fun x2 =>
  bP (fa Q q 169 7 23 x2) fun x3 =>
  bP (ld Q q 36 x3 G) fun x4 =>
  some (x4, G))
theorem m49 {e : Ex} {E : Ev} (h : ExLe Q e E) (v0 : Value) (G : GS) : Ref (s49 true e v0 G) (s49 false (Ex.of E) v0 G) := by
  unfold s49
  exact Ref.go
theorem f49 {orc : FuncId → Bool} {e : Ex} (h : ExLe Q e (E orc)) (v0 : Value) (G : GS) : Ref (s49 true e v0 G) ((E orc).cl 49 [v0] G) :=
  fun r hr => cl_sxE_some Q orc (vs := [v0]) G Tryz.func49 (by kernel_rfl) (by kernel_rfl) (by kernel_rfl) (by kernel_rfl) (by kernel_rfl) (by kernel_rfl) (m49 h v0 G r hr)
/-- coxswain/ready.NewPick$2 -/
noncomputable def s50 (q : Bool) (e : Ex) (v0 v1 : Value) (G : GS) : Option (Value × GS) :=
  bP (ld Q q 44 v1 (G.room 15)) fun x0 =>
  bP (ld Q q 44 v1 (G.room 15)) fun x1 =>
  bS (e.ev.cl 51 [v0] (G.room 15)) fun x3 G2 =>
  chk ((sameO (ld Q q 44 v1 G2) x1 && (sameO (ld Q q 44 v1 G2) x0 && true))) <|
  bP (pExtract x3 0) fun x4 =>
  bP (pExtract x3 1) fun x5 =>
  bP (pNil x0) fun x6 =>
  bP (fa Q q 89 1 19 x6) fun x7 =>
  bP (fa Q q 87 0 0 x7) fun x8 =>
  bP (st Q q 38 2 x8 x4 G2) fun G9 =>
  chk ((sameO (ld Q q 44 v1 G9) x1 && true)) <|
  bP (pNil x1) fun x10 =>
  bP (fa Q q 89 1 19 x10) fun x11 =>
  bP (fa Q q 87 1 2 x11) fun x12 =>
  bP (st Q q 39 1 x12 x5 G9) fun G13 =>
  some (.tuple #[], G13)
theorem m50 {e : Ex} {E : Ev} (h : ExLe Q e E) (v0 v1 : Value) (G : GS) : Ref (s50 true e v0 v1 G) (s50 false (Ex.of E) v0 v1 G) := by
  unfold s50
  exact Ref.go
theorem f50 {orc : FuncId → Bool} {e : Ex} (h : ExLe Q e (E orc)) (v0 v1 : Value) (G : GS) : Ref (s50 true e v0 v1 G) ((E orc).cl 50 [v0, v1] G) :=
  fun r hr => cl_sxE_some Q orc (vs := [v0, v1]) G Tryz.func50 (by kernel_rfl) (by kernel_rfl) (by kernel_rfl) (by kernel_rfl) (by kernel_rfl) (by kernel_rfl) (m50 h v0 v1 G r hr)
/-- (*coxswain/claim.Claim).Item -/
noncomputable def s51 (q : Bool) (e : Ex) (v0 : Value) (G : GS) : Option (Value × GS) :=
  bS (al Q q 38 z38 G) fun x0 G1 =>
  bP (ep Q q false 91 (.tmp 4) (.const (.pointer none)) v0 (.pointer none)) fun x2 =>
  ifV x2 (
  bP (bd Q q 38 z38 [] []) fun x3 =>
  bP (st Q q 38 2 x0 x3 G1) fun G4 =>
  bP (lda Q q 38 2 x0 G4) fun x5 =>
  some (.tuple #[x5, (.int .i64 1)], G4)) (
  bP (pNil v0) fun x6 =>
  bP (fa Q q 172 0 0 x6) fun x7 =>
  bS (e.ev.cl 99 [x7] G1) fun x8 G9 =>
  bP (pExtract x8 0) fun x10 =>
  bP (pExtract x8 1) fun x11 =>
  bP (st Q q 38 2 x0 x10 G9) fun G12 =>
  bP (lda Q q 38 2 x0 G12) fun x13 =>
  some (.tuple #[x13, x11], G12))
theorem m51 {e : Ex} {E : Ev} (h : ExLe Q e E) (v0 : Value) (G : GS) : Ref (s51 true e v0 G) (s51 false (Ex.of E) v0 G) := by
  unfold s51
  exact Ref.go
theorem f51 {orc : FuncId → Bool} {e : Ex} (h : ExLe Q e (E orc)) (v0 : Value) (G : GS) : Ref (s51 true e v0 G) ((E orc).cl 51 [v0] G) :=
  fun r hr => cl_sxE_some Q orc (vs := [v0]) G Tryz.func51 (by kernel_rfl) (by kernel_rfl) (by kernel_rfl) (by kernel_rfl) (by kernel_rfl) (by kernel_rfl) (m51 h v0 G r hr)
/-- (*coxswain/ready.work).unpin -/
noncomputable def s52 (q : Bool) (e : Ex) (v0 : Value) (G : GS) : Option (Value × GS) :=
  bS (bx q v0 G) fun x0 G1 =>
  bP (bd Q q 180 z180 [(0, 0, 1)] [(.func (.func 100) #[] #[x0])]) fun x2 =>
  bS (bx q x2 G1) fun x3 G4 =>
  bP (ifc Q q 173 x3) fun x5 =>
  some (x5, G4)
theorem m52 {e : Ex} {E : Ev} (h : ExLe Q e E) (v0 : Value) (G : GS) : Ref (s52 true e v0 G) (s52 false (Ex.of E) v0 G) := by
  unfold s52
  exact Ref.go
theorem f52 {orc : FuncId → Bool} {e : Ex} (h : ExLe Q e (E orc)) (v0 : Value) (G : GS) : Ref (s52 true e v0 G) ((E orc).cl 52 [v0] G) :=
  fun r hr => cl_sxE_some Q orc (vs := [v0]) G Tryz.func52 (by kernel_rfl) (by kernel_rfl) (by kernel_rfl) (by kernel_rfl) (by kernel_rfl) (by kernel_rfl) (m52 h v0 G r hr)
/-- (coxswain/ready.seen).told -/
noncomputable def s53 (q : Bool) (e : Ex) (v0 v1 : Value) (G : GS) : Option (Value × GS) :=
  bS (bx q v0 G) fun x0 G1 =>
  bS (al Q q 38 z38 G1) fun x2 G3 =>
  bS (e.ev.cl 55 [v1] G3) fun x4 G5 =>
  bP (bn Q q .neq 39 (.tmp 9) (.const (.int .i64 0)) x4 (.int .i64 0)) fun x6 =>
  ifV x6 (
  bP (bd Q q 38 z38 [] []) fun x7 =>
  bP (st Q q 38 2 x2 x7 G5) fun G8 =>
  bP (lda Q q 38 2 x2 G8) fun x9 =>
  some (.tuple #[x9, x4], G8)) (
  bP (fa Q q 87 0 0 x0) fun x10 =>
  bP (lda Q q 38 2 x10 (G5.room 6)) fun x11 =>
  bP (fa Q q 87 1 2 x0) fun x12 =>
  bP (ld Q q 39 x12 (G5.room 6)) fun x13 =>
  bP (st Q q 38 2 x2 x11 (G5.room 6)) fun G14 =>
  chk ((sameO (ld Q q 39 x12 G14) x13 && true)) <|
  bP (lda Q q 38 2 x2 G14) fun x15 =>
  some (.tuple #[x15, x13], G14))
theorem m53 {e : Ex} {E : Ev} (h : ExLe Q e E) (v0 v1 : Value) (G : GS) : Ref (s53 true e v0 v1 G) (s53 false (Ex.of E) v0 v1 G) := by
  unfold s53
  exact Ref.go
theorem f53 {orc : FuncId → Bool} {e : Ex} (h : ExLe Q e (E orc)) (v0 v1 : Value) (G : GS) : Ref (s53 true e v0 v1 G) ((E orc).cl 53 [v0, v1] G) :=
  fun r hr => cl_sxE_some Q orc (vs := [v0, v1]) G Tryz.func53 (by kernel_rfl) (by kernel_rfl) (by kernel_rfl) (by kernel_rfl) (by kernel_rfl) (by kernel_rfl) (m53 h v0 v1 G r hr)
noncomputable def b54_0 (q : Bool) (e : Ex) (lp : Env → GS → Option (Exit × Env × GS)) (τ : Env) (G : GS) : Option (Exit × Env × GS) :=
  bV q (τ 1) fun a1_ =>
  bV q (τ 8) fun a8_ =>
  bV q (τ 9) fun a9_ =>
  bP (bn Q q .lss 3 (.tmp 13) (.const (.int .i64 4000)) a9_ (.int .i64 4000)) fun x0 =>
  bS (gd x0 true (some (a8_, G)) G) fun x1 G2 =>
  bS (gd x0 true (some (a1_, G2)) G2) fun x3 G4 =>
  bS (gd x0 true (bS (e.ev.cl 102 [x1, x3] G4) fun y G => some (y, G)) G4) fun x5 G6 =>
  bS (gd x0 true (bP (un Q q .not x5) fun y => some (y, G6)) G6) fun x7 G8 =>
  bP (pickV x0 x7 (.bool false)) fun x9 =>
  ifV x9 (
  bS (e.ev.cl 43 [a1_] G8) fun x10 G11 =>
  bP (bn Q q .add 3 (.tmp 21) (.const (.int .i64 1)) a9_ (.int .i64 1)) fun x12 =>
  lp (tu τ [(1, a1_), (8, a8_), (9, x12), (13, a9_), (14, x0), (15, x0), (16, x1), (17, x3), (18, x5), (19, x7), (20, x9), (21, a9_), (22, x12), (23, a1_), (24, x10)]) G11) (
  some ((.exit 0), clq q 29 (tu τ [(1, a1_), (8, a8_), (9, a9_), (13, a9_), (14, x0), (15, x0), (16, x1), (17, x3), (18, x5), (19, x7), (20, x9)]), G8))
theorem mb54_0 {e : Ex} {E : Ev} (h : ExLe Q e E) {lp lp' : Env → GS → Option (Exit × Env × GS)} (hlp : LpLe lp lp') (τ : Env) (G : GS) : Ref (b54_0 true e lp τ G) (b54_0 false (Ex.of E) lp' τ G) := by
  unfold b54_0
  exact Ref.go
theorem l54_0 {orc : FuncId → Bool} {e : Ex} (h : ExLe Q e (E orc)) (lp : Env → GS → Option (Exit × Env × GS)) (hlp : ∀ τ G, Ref (lp τ G) (mapE ((E orc).lp (subAt [1, 1, 0, 1, 0, 0] (bodyOf Tryz.f54)) (lst 29 τ) G))) (T : List Value) (G : GS) (hT : T.length = 29) : Ref (b54_0 true e lp (nth undef T) G) (mapE ((E orc).lp (subAt [1, 1, 0, 1, 0, 0] (bodyOf Tryz.f54)) T G)) :=
  fun r hr => lp_sxM Q orc G hT (by kernel_rfl) (mb54_0 h ⟨hlp⟩ _ _ r hr)
/-- coxswain/coxswainlaw19.look -/
noncomputable def s54 (q : Bool) (e : Ex) (v0 v1 v2 : Value) (G : GS) : Option (Value × GS) :=
  bS (bx q v0 G) fun x0 G1 =>
  bS (al Q q 38 z38 G1) fun x2 G3 =>
  bP (lda Q q 31 13 x0 G3) fun x4 =>
  bS (e.ev.cl 85 [x4, v2] G3) fun x5 G6 =>
  bL q e 54 0 (subAt [1, 1, 0, 1, 0, 0] (bodyOf Tryz.f54)) 29 (tu (nth undef [v0, v1, v2]) [(3, x0), (6, x2), (7, (.int .i64 0)), (8, x5), (9, (.int .i64 1)), (10, x4), (11, v2), (12, x5)]) G6 fun e7 t8 G9 =>
  bV q (t8 6) fun t8x6_ =>
  bV q (t8 8) fun t8x8_ =>
  ifE e7 (.exit 0) (
  bS (e.ev.cl 86 [t8x8_] G9) fun x10 G11 =>
  bP (pExtract x10 0) fun x12 =>
  bP (pExtract x10 1) fun x13 =>
  bP (st Q q 38 2 t8x6_ x12 G11) fun G14 =>
  bP (lda Q q 38 2 t8x6_ G14) fun x15 =>
  some (.tuple #[x15, x13], G14)) (none)
theorem m54 {e : Ex} {E : Ev} (h : ExLe Q e E) (v0 v1 v2 : Value) (G : GS) : Ref (s54 true e v0 v1 v2 G) (s54 false (Ex.of E) v0 v1 v2 G) := by
  unfold s54
  exact Ref.go
theorem f54 {orc : FuncId → Bool} {e : Ex} (h : ExLe Q e (E orc)) (v0 v1 v2 : Value) (G : GS) : Ref (s54 true e v0 v1 v2 G) ((E orc).cl 54 [v0, v1, v2] G) :=
  fun r hr => cl_sxE_some Q orc (vs := [v0, v1, v2]) G Tryz.func54 (by kernel_rfl) (by kernel_rfl) (by kernel_rfl) (by kernel_rfl) (by kernel_rfl) (by kernel_rfl) (m54 h v0 v1 v2 G r hr)
/-- (*coxswain/ready.work).told -/
noncomputable def s55 (q : Bool) (e : Ex) (v0 : Value) (G : GS) : Option (Value × GS) :=
  bP (pNil v0) fun x0 =>
  bP (fa Q q 79 2 14 x0) fun x1 =>
  bP (ld Q q 4 x1 G) fun x2 =>
  bP (un Q q .not x2) fun x3 =>
  ifV x3 (
  some ((.int .i64 1), G)) (
  bP (pNil v0) fun x4 =>
  bP (fa Q q 79 4 16 x4) fun x5 =>
  bP (ld Q q 77 x5 G) fun x6 =>
  bP (ln Q q 77 x6) fun x7 =>
  bP (bn Q q .gtr 3 (.tmp 14) (.const (.int .i64 0)) x7 (.int .i64 0)) fun x8 =>
  ifV x8 (
  some ((.int .i64 14), G)) (
  bP (pNil v0) fun x9 =>
  bP (fa Q q 79 6 18 x9) fun x10 =>
  bP (ld Q q 39 x10 G) fun x11 =>
  some (x11, G)))
theorem m55 {e : Ex} {E : Ev} (h : ExLe Q e E) (v0 : Value) (G : GS) : Ref (s55 true e v0 G) (s55 false (Ex.of E) v0 G) := by
  unfold s55
  exact Ref.go
theorem f55 {orc : FuncId → Bool} {e : Ex} (h : ExLe Q e (E orc)) (v0 : Value) (G : GS) : Ref (s55 true e v0 G) ((E orc).cl 55 [v0] G) :=
  fun r hr => cl_sxE_some Q orc (vs := [v0]) G Tryz.func55 (by kernel_rfl) (by kernel_rfl) (by kernel_rfl) (by kernel_rfl) (by kernel_rfl) (by kernel_rfl) (m55 h v0 G r hr)
/-- coxswain/tower.Level -/
noncomputable def s56 (q : Bool) (e : Ex) (v0 v1 v2 : Value) (G : GS) : Option (Value × GS) :=
  bS (bx q v0 G) fun x0 G1 =>
  bS (al Q q 100 z100 G1) fun x2 G3 =>
  bP (lda Q q 31 13 x0 G3) fun x4 =>
  bS (e.ev.cl 103 [x4, (.int .i64 (-1)), v1] G3) fun x5 G6 =>
  bP (bn Q q .lss 3 (.tmp 11) (.const (.int .i64 0)) x5 (.int .i64 0)) fun x7 =>
  ifV x7 (
  bP (ld Q q 100 x2 G6) fun x8 =>
  some (x8, G6)) (
  bS (e.ev.cl 104 [v2] (G6.room 5)) fun x10 G9 =>
  bP (lda Q q 31 13 x0 G9) fun x11 =>
  chk ((sameO (lda Q q 31 13 x0 (G6.room 5)) x11 && true)) <|
  bS (e.ev.cl 105 [x10, x11, v1] G9) fun x13 G12 =>
  bX (xRange e.ev x13 #[19] (subAt [1, 1, 1, 0, 1, 0, 0] (bodyOf Tryz.f56)) (subAt [1, 1, 1, 0, 1, 0, 1] (bodyOf Tryz.f56)) (lst 25 (tu (nth undef [v0, v1, v2]) [(3, x0), (6, (.slice none 0 0)), (7, x2), (9, x4), (10, v1), (11, x5), (12, x7), (14, v2), (15, x10), (16, x11), (17, v1), (18, x13)])) G12) fun e14 T15 G16 =>
  bV q (nth undef T15 7) fun T15x7_ =>
  ifE e14 .normal (
  bP (ld Q q 100 T15x7_ G16) fun x17 =>
  some (x17, G16)) (none))
theorem m56 {e : Ex} {E : Ev} (h : ExLe Q e E) (v0 v1 v2 : Value) (G : GS) : Ref (s56 true e v0 v1 v2 G) (s56 false (Ex.of E) v0 v1 v2 G) := by
  unfold s56
  exact Ref.go
theorem f56 {orc : FuncId → Bool} {e : Ex} (h : ExLe Q e (E orc)) (v0 v1 v2 : Value) (G : GS) : Ref (s56 true e v0 v1 v2 G) ((E orc).cl 56 [v0, v1, v2] G) :=
  fun r hr => cl_sxE_some Q orc (vs := [v0, v1, v2]) G Tryz.func56 (by kernel_rfl) (by kernel_rfl) (by kernel_rfl) (by kernel_rfl) (by kernel_rfl) (by kernel_rfl) (m56 h v0 v1 v2 G r hr)
noncomputable def b57_0 (q : Bool) (e : Ex) (lp : Env → GS → Option (Exit × Env × GS)) (τ : Env) (G : GS) : Option (Exit × Env × GS) :=
  bV q (τ 1) fun a1_ =>
  bV q (τ 8) fun a8_ =>
  bV q (τ 9) fun a9_ =>
  bP (bn Q q .lss 3 (.tmp 13) (.const (.int .i64 4000)) a9_ (.int .i64 4000)) fun x0 =>
  bS (gd x0 true (some (a8_, G)) G) fun x1 G2 =>
  bS (gd x0 true (some (a1_, G2)) G2) fun x3 G4 =>
  bS (gd x0 true (bS (e.ev.cl 107 [x1, x3] G4) fun y G => some (y, G)) G4) fun x5 G6 =>
  bS (gd x0 true (bP (un Q q .not x5) fun y => some (y, G6)) G6) fun x7 G8 =>
  bP (pickV x0 x7 (.bool false)) fun x9 =>
  ifV x9 (
  bS (e.ev.cl 43 [a1_] G8) fun x10 G11 =>
  bP (bn Q q .add 3 (.tmp 21) (.const (.int .i64 1)) a9_ (.int .i64 1)) fun x12 =>
  lp (tu τ [(1, a1_), (8, a8_), (9, x12), (13, a9_), (14, x0), (15, x0), (16, x1), (17, x3), (18, x5), (19, x7), (20, x9), (21, a9_), (22, x12), (23, a1_), (24, x10)]) G11) (
  some ((.exit 0), clq q 29 (tu τ [(1, a1_), (8, a8_), (9, a9_), (13, a9_), (14, x0), (15, x0), (16, x1), (17, x3), (18, x5), (19, x7), (20, x9)]), G8))
theorem mb57_0 {e : Ex} {E : Ev} (h : ExLe Q e E) {lp lp' : Env → GS → Option (Exit × Env × GS)} (hlp : LpLe lp lp') (τ : Env) (G : GS) : Ref (b57_0 true e lp τ G) (b57_0 false (Ex.of E) lp' τ G) := by
  unfold b57_0
  exact Ref.go
theorem l57_0 {orc : FuncId → Bool} {e : Ex} (h : ExLe Q e (E orc)) (lp : Env → GS → Option (Exit × Env × GS)) (hlp : ∀ τ G, Ref (lp τ G) (mapE ((E orc).lp (subAt [1, 1, 0, 1, 0, 0] (bodyOf Tryz.f57)) (lst 29 τ) G))) (T : List Value) (G : GS) (hT : T.length = 29) : Ref (b57_0 true e lp (nth undef T) G) (mapE ((E orc).lp (subAt [1, 1, 0, 1, 0, 0] (bodyOf Tryz.f57)) T G)) :=
  fun r hr => lp_sxM Q orc G hT (by kernel_rfl) (mb57_0 h ⟨hlp⟩ _ _ r hr)
/-- coxswain/coxswainlaw19.tidy -/
noncomputable def s57 (q : Bool) (e : Ex) (v0 v1 v2 : Value) (G : GS) : Option (Value × GS) :=
  bS (bx q v0 G) fun x0 G1 =>
  bP (lda Q q 31 13 x0 G1) fun x2 =>
  bS (e.ev.cl 106 [x2, v2] G1) fun x3 G4 =>
  bL q e 57 0 (subAt [1, 1, 0, 1, 0, 0] (bodyOf Tryz.f57)) 29 (tu (nth undef [v0, v1, v2]) [(3, x0), (6, (.int .i64 0)), (7, (.int .i64 0)), (8, x3), (9, (.int .i64 1)), (10, x2), (11, v2), (12, x3)]) G4 fun e5 t6 G7 =>
  bV q (t6 8) fun t6x8_ =>
  ifE e5 (.exit 0) (
  bS (e.ev.cl 108 [t6x8_] G7) fun x8 G9 =>
  bP (pExtract x8 0) fun x10 =>
  bP (pExtract x8 1) fun x11 =>
  some (.tuple #[x10, x11], G9)) (none)
theorem m57 {e : Ex} {E : Ev} (h : ExLe Q e E) (v0 v1 v2 : Value) (G : GS) : Ref (s57 true e v0 v1 v2 G) (s57 false (Ex.of E) v0 v1 v2 G) := by
  unfold s57
  exact Ref.go
theorem f57 {orc : FuncId → Bool} {e : Ex} (h : ExLe Q e (E orc)) (v0 v1 v2 : Value) (G : GS) : Ref (s57 true e v0 v1 v2 G) ((E orc).cl 57 [v0, v1, v2] G) :=
  fun r hr => cl_sxE_some Q orc (vs := [v0, v1, v2]) G Tryz.func57 (by kernel_rfl) (by kernel_rfl) (by kernel_rfl) (by kernel_rfl) (by kernel_rfl) (by kernel_rfl) (m57 h v0 v1 v2 G r hr)
/-- coxswain/cells.New -/
noncomputable def s58 (q : Bool) (e : Ex) (v0 : Value) (G : GS) : Option (Value × GS) :=
  bP (bn Q q .lss 3 (.tmp 4) (.const (.int .i64 1)) v0 (.int .i64 1)) fun x0 =>
  bS (gd x0 false (some (v0, G)) G) fun x1 G2 =>
  bS (gd x0 false (bP (bn Q q .gtr 3 (.tmp 7) (.const (.int .i64 4096)) x1 (.int .i64 4096)) fun y => some (y, G2)) G2) fun x3 G4 =>
  bP (pickV x0 (.bool true) x3) fun x5 =>
  ifV x5 (
  some (.tuple #[(.pointer none), (.int .i64 3)], G4)) (
  bS (al Q q 190 z190 G4) fun x6 G7 =>
  bP (bd Q q 144 z144 [(0, 0, 1), (1, 1, 1)] [x6, v0]) fun x8 =>
  bS (bx q x8 G7) fun x9 G10 =>
  some (.tuple #[x9, (.int .i64 0)], G10))
theorem m58 {e : Ex} {E : Ev} (h : ExLe Q e E) (v0 : Value) (G : GS) : Ref (s58 true e v0 G) (s58 false (Ex.of E) v0 G) := by
  unfold s58
  exact Ref.go
theorem f58 {orc : FuncId → Bool} {e : Ex} (h : ExLe Q e (E orc)) (v0 : Value) (G : GS) : Ref (s58 true e v0 G) ((E orc).cl 58 [v0] G) :=
  fun r hr => cl_sxE_some Q orc (vs := [v0]) G Tryz.func58 (by kernel_rfl) (by kernel_rfl) (by kernel_rfl) (by kernel_rfl) (by kernel_rfl) (by kernel_rfl) (m58 h v0 G r hr)
noncomputable def b59_0 (q : Bool) (e : Ex) (lp : Env → GS → Option (Exit × Env × GS)) (τ : Env) (G : GS) : Option (Exit × Env × GS) :=
  bV q (τ 1) fun a1_ =>
  bV q (τ 2) fun a2_ =>
  bV q (τ 13) fun a13_ =>
  bV q (τ 14) fun a14_ =>
  bP (bn Q q .lss 3 (.tmp 14) (.tmp 13) a14_ a13_) fun x0 =>
  ifV x0 (
  bP (fa Q q 31 1 1 a2_) fun x1 =>
  bP (ld Q q 3 x1 G) fun x2 =>
  bP (bn Q q .add 3 (.tmp 19) (.tmp 20) x2 a14_) fun x3 =>
  bS (e.ev.cl 26 [a1_, x3, (.int .u64 0)] G) fun x4 G5 =>
  bP (bn Q q .add 3 (.tmp 14) (.const (.int .i64 1)) a14_ (.int .i64 1)) fun x6 =>
  lp (tu τ [(1, a1_), (2, a2_), (13, a13_), (14, x6), (4, a14_), (15, x0), (16, a14_), (17, a1_), (18, x1), (19, x2), (20, a14_), (21, x3), (22, x4), (23, x6)]) G5) (
  some ((.exit 0), clq q 24 (tu τ [(1, a1_), (2, a2_), (13, a13_), (14, a14_), (15, x0)]), G))
theorem mb59_0 {e : Ex} {E : Ev} (h : ExLe Q e E) {lp lp' : Env → GS → Option (Exit × Env × GS)} (hlp : LpLe lp lp') (τ : Env) (G : GS) : Ref (b59_0 true e lp τ G) (b59_0 false (Ex.of E) lp' τ G) := by
  unfold b59_0
  exact Ref.go
theorem l59_0 {orc : FuncId → Bool} {e : Ex} (h : ExLe Q e (E orc)) (lp : Env → GS → Option (Exit × Env × GS)) (hlp : ∀ τ G, Ref (lp τ G) (mapE ((E orc).lp (subAt [1, 1, 1, 1, 0, 0] (bodyOf Tryz.f59)) (lst 24 τ) G))) (T : List Value) (G : GS) (hT : T.length = 24) : Ref (b59_0 true e lp (nth undef T) G) (mapE ((E orc).lp (subAt [1, 1, 1, 1, 0, 0] (bodyOf Tryz.f59)) T G)) :=
  fun r hr => lp_sxM Q orc G hT (by kernel_rfl) (mb59_0 h ⟨hlp⟩ _ _ r hr)
/-- coxswain/tower.Fill -/
noncomputable def s59 (q : Bool) (e : Ex) (v0 v1 : Value) (G : GS) : Option (Value × GS) :=
  bS (bx q v0 G) fun x0 G1 =>
  bP (lda Q q 31 13 x0 G1) fun x2 =>
  bS (e.ev.cl 109 [x2] G1) fun x3 G4 =>
  bP (un Q q .not x3) fun x5 =>
  ifV x5 (
  some (.tuple #[], G4)) (
  bP (fa Q q 31 3 3 x0) fun x6 =>
  bP (lda Q q 29 10 x6 G4) fun x7 =>
  bS (e.ev.cl 110 [x7, v1] G4) fun x8 G9 =>
  bP (fa Q q 31 2 2 x0) fun x10 =>
  bP (ld Q q 3 x10 G9) fun x11 =>
  bL q e 59 0 (subAt [1, 1, 1, 1, 0, 0] (bodyOf Tryz.f59)) 24 (tu (nth undef [v0, v1]) [(2, x0), (5, x2), (6, x3), (7, x5), (8, x6), (9, x7), (10, v1), (11, x8), (12, x10), (13, x11), (14, (.int .i64 0))]) G9 fun e12 t13 G14 =>
  ifE e12 (.exit 0) (
  some (.tuple #[], G14)) (none))
theorem m59 {e : Ex} {E : Ev} (h : ExLe Q e E) (v0 v1 : Value) (G : GS) : Ref (s59 true e v0 v1 G) (s59 false (Ex.of E) v0 v1 G) := by
  unfold s59
  exact Ref.go
theorem f59 {orc : FuncId → Bool} {e : Ex} (h : ExLe Q e (E orc)) (v0 v1 : Value) (G : GS) : Ref (s59 true e v0 v1 G) ((E orc).cl 59 [v0, v1] G) :=
  fun r hr => cl_sxE_some Q orc (vs := [v0, v1]) G Tryz.func59 (by kernel_rfl) (by kernel_rfl) (by kernel_rfl) (by kernel_rfl) (by kernel_rfl) (by kernel_rfl) (m59 h v0 v1 G r hr)
/-- (*coxswain/ready.work).step -/
noncomputable def s65 (q : Bool) (e : Ex) (v0 v1 : Value) (G : GS) : Option (Value × GS) :=
  bP (pNil v0) fun x0 =>
  bP (fa Q q 79 4 16 x0) fun x1 =>
  bP (ld Q q 77 x1 G) fun x2 =>
  bP (ln Q q 77 x2) fun x3 =>
  bP (bn Q q .eql 3 (.tmp 12) (.const (.int .i64 0)) x3 (.int .i64 0)) fun x4 =>
  ifV x4 (
  some ((.bool true), G)) (
  bP (pNil v0) fun x5 =>
  bP (fa Q q 79 4 16 x5) fun x6 =>
  bP (ld Q q 77 x6 G) fun x7 =>
  bP (ias Q q 77 1 x7 (.int .i64 0)) fun x8 =>
  bP (ld Q q 84 x8 G) fun x9 =>
  bP (pNil v0) fun x10 =>
  bP (fa Q q 79 4 16 x10) fun x11 =>
  bP (ld Q q 77 x11 G) fun x12 =>
  bP (sl Q q 77 1 x12 (some (.int .i64 1)) none none G) fun x13 =>
  bP (pNil v0) fun x14 =>
  bP (fa Q q 79 4 16 x14) fun x15 =>
  bP (st Q q 77 1 x15 x13 G) fun G16 =>
  bS (cInvoke Q e.ev x9 "coxswain/ready.run" [v1] G16) fun x17 G18 =>
  bP (pExtract x17 0) fun x19 =>
  bP (pExtract x17 1) fun x20 =>
  bP (pNil v0) fun x21 =>
  bP (fa Q q 79 5 17 x21) fun x22 =>
  bP (st Q q 36 1 x22 x20 G18) fun G23 =>
  bP (un Q q .not x19) fun x24 =>
  ifV x24 (
  bS (bs Q q 77 1 (rep z84 1) 1 [(0, 0, 1)] [x9] G23) fun x25 G26 =>
  bP (pNil v0) fun x27 =>
  bP (fa Q q 79 4 16 x27) fun x28 =>
  bP (ld Q q 77 x28 G26) fun x29 =>
  bS (ap Q q 77 77 1 16 x25 x29 G26) fun x30 G31 =>
  bP (pNil v0) fun x32 =>
  bP (fa Q q 79 4 16 x32) fun x33 =>
  bP (st Q q 77 1 x33 x30 G31) fun G34 =>
  bP (pNil v0) fun x35 =>
  bP (fa Q q 79 4 16 x35) fun x36 =>
  bP (ld Q q 77 x36 G34) fun x37 =>
  bP (ln Q q 77 x37) fun x38 =>
  bP (bn Q q .eql 3 (.tmp 54) (.const (.int .i64 0)) x38 (.int .i64 0)) fun x39 =>
  some (x39, G34)) (
  bP (pNil v0) fun x40 =>
  bP (fa Q q 79 4 16 x40) fun x41 =>
  bP (ld Q q 77 x41 G23) fun x42 =>
  bP (ln Q q 77 x42) fun x43 =>
  bP (bn Q q .eql 3 (.tmp 54) (.const (.int .i64 0)) x43 (.int .i64 0)) fun x44 =>
  some (x44, G23)))
theorem m65 {e : Ex} {E : Ev} (h : ExLe Q e E) (v0 v1 : Value) (G : GS) : Ref (s65 true e v0 v1 G) (s65 false (Ex.of E) v0 v1 G) := by
  unfold s65
  exact Ref.go
theorem f65 {orc : FuncId → Bool} {e : Ex} (h : ExLe Q e (E orc)) (v0 v1 : Value) (G : GS) : Ref (s65 true e v0 v1 G) ((E orc).cl 65 [v0, v1] G) :=
  fun r hr => cl_sxE_some Q orc (vs := [v0, v1]) G Tryz.func65 (by kernel_rfl) (by kernel_rfl) (by kernel_rfl) (by kernel_rfl) (by kernel_rfl) (by kernel_rfl) (m65 h v0 v1 G r hr)
/-- (*coxswain/cells.Mem).cell -/
noncomputable def s73 (q : Bool) (e : Ex) (v0 v1 : Value) (G : GS) : Option (Value × GS) :=
  bP (ep Q q false 33 (.tmp 5) (.const (.pointer none)) v0 (.pointer none)) fun x0 =>
  bS (gd x0 false (some (v0, G)) G) fun x1 G2 =>
  bS (gd x0 false (bP (pNil x1) fun y => some (y, G2)) G2) fun x3 G4 =>
  bS (gd x0 false (bP (fa Q q 144 0 0 x3) fun y => some (y, G4)) G4) fun x5 G6 =>
  bS (gd x0 false (bP (ld Q q 142 x5 G6) fun y => some (y, G6)) G6) fun x7 G8 =>
  bS (gd x0 false (bP (ep Q q false 142 (.tmp 11) (.const (.pointer none)) x7 (.pointer none)) fun y => some (y, G8)) G8) fun x9 G10 =>
  bP (pickV x0 (.bool true) x9) fun x11 =>
  bS (gd x11 false (some (v1, G10)) G10) fun x12 G13 =>
  bS (gd x11 false (bP (bn Q q .lss 3 (.tmp 15) (.const (.int .i64 0)) x12 (.int .i64 0)) fun y => some (y, G13)) G13) fun x14 G15 =>
  bP (pickV x11 (.bool true) x14) fun x16 =>
  bS (gd x16 false (some (v1, G15)) G15) fun x17 G18 =>
  bS (gd x16 false (some (v0, G18)) G18) fun x19 G20 =>
  bS (gd x16 false (bP (pNil x19) fun y => some (y, G20)) G20) fun x21 G22 =>
  bS (gd x16 false (bP (fa Q q 144 1 1 x21) fun y => some (y, G22)) G22) fun x23 G24 =>
  bS (gd x16 false (bP (ld Q q 3 x23 G24) fun y => some (y, G24)) G24) fun x25 G26 =>
  bS (gd x16 false (bP (bn Q q .geq 3 (.tmp 19) (.tmp 23) x17 x25) fun y => some (y, G26)) G26) fun x27 G28 =>
  bP (pickV x16 (.bool true) x27) fun x29 =>
  ifV x29 (
  some ((.pointer none), G28)) (
  bP (pNil v0) fun x30 =>
  bP (fa Q q 144 0 0 x30) fun x31 =>
  bP (ld Q q 142 x31 G28) fun x32 =>
  bP (pNil x32) fun x33 =>
  bP (iaa Q q 190 4096 1 x33 v1) fun x34 =>
  some (x34, G28))
theorem m73 {e : Ex} {E : Ev} (h : ExLe Q e E) (v0 v1 : Value) (G : GS) : Ref (s73 true e v0 v1 G) (s73 false (Ex.of E) v0 v1 G) := by
  unfold s73
  exact Ref.go
theorem f73 {orc : FuncId → Bool} {e : Ex} (h : ExLe Q e (E orc)) (v0 v1 : Value) (G : GS) : Ref (s73 true e v0 v1 G) ((E orc).cl 73 [v0, v1] G) :=
  fun r hr => cl_sxE_some Q orc (vs := [v0, v1]) G Tryz.func73 (by kernel_rfl) (by kernel_rfl) (by kernel_rfl) (by kernel_rfl) (by kernel_rfl) (by kernel_rfl) (m73 h v0 v1 G r hr)
/-- (*coxswain/cells.Mem).do -/
noncomputable def s74 (q : Bool) (e : Ex) (v0 v1 v2 v3 v4 : Value) (G : GS) : Option (Value × GS) :=
  bS (al Q q 117 z117 G) fun x0 G1 =>
  bP (ep Q q false 33 (.tmp 13) (.const (.pointer none)) v0 (.pointer none)) fun x2 =>
  bS (gd x2 false (some (v0, G1)) G1) fun x3 G4 =>
  bS (gd x2 false (bP (pNil x3) fun y => some (y, G4)) G4) fun x5 G6 =>
  bS (gd x2 false (bP (fa Q q 144 0 0 x5) fun y => some (y, G6)) G6) fun x7 G8 =>
  bS (gd x2 false (bP (ld Q q 142 x7 G8) fun y => some (y, G8)) G8) fun x9 G10 =>
  bS (gd x2 false (bP (ep Q q false 142 (.tmp 19) (.const (.pointer none)) x9 (.pointer none)) fun y => some (y, G10)) G10) fun x11 G12 =>
  bP (pickV x2 (.bool true) x11) fun x13 =>
  ifV x13 (
  bP (bd Q q 117 z117 [] []) fun x14 =>
  bP (st Q q 117 5 x0 x14 G12) fun G15 =>
  bP (lda Q q 117 5 x0 G15) fun x16 =>
  some (x16, G15)) (
  bP (pNil v0) fun x17 =>
  bP (fa Q q 144 3 7 x17) fun x18 =>
  bP (ld Q q 3 x18 G12) fun x19 =>
  bP (bn Q q .add 3 (.tmp 26) (.const (.int .i64 1)) x19 (.int .i64 1)) fun x20 =>
  bP (pNil v0) fun x21 =>
  bP (fa Q q 144 3 7 x21) fun x22 =>
  bP (st Q q 3 1 x22 x20 G12) fun G23 =>
  bP (bd Q q 117 z117 [(0, 0, 1), (1, 1, 1)] [v1, v2]) fun x24 =>
  bP (pNil v0) fun x25 =>
  bP (fa Q q 144 2 2 x25) fun x26 =>
  bP (st Q q 117 5 x26 x24 G23) fun G27 =>
  bS (e.ev.cl 121 [v3] G27) fun x28 G29 =>
  ifV x28 (
  bS (cValue e.ev v4 [] G29) fun x30 G31 =>
  bP (pExtract x30 0) fun x32 =>
  bP (pExtract x30 1) fun x33 =>
  bP (pNil v3) fun x34 =>
  bP (ld Q q 188 x34 G31) fun x35 =>
  bP (pNil v0) fun x36 =>
  bP (fa Q q 144 2 2 x36) fun x37 =>
  bP (fa Q q 117 2 2 x37) fun x38 =>
  bP (st Q q 36 1 x38 x35 G31) fun G39 =>
  bP (pNil v0) fun x40 =>
  bP (fa Q q 144 2 2 x40) fun x41 =>
  bP (fa Q q 117 3 3 x41) fun x42 =>
  bP (st Q q 36 1 x42 x32 G39) fun G43 =>
  bP (pNil v0) fun x44 =>
  bP (fa Q q 144 2 2 x44) fun x45 =>
  bP (fa Q q 117 4 4 x45) fun x46 =>
  bP (st Q q 4 1 x46 x33 G43) fun G47 =>
  bP (pNil v3) fun x48 =>
  bP (st Q q 188 1 x48 x32 G47) fun G49 =>
  bP (pNil v0) fun x50 =>
  bP (fa Q q 144 2 2 x50) fun x51 =>
  bP (lda Q q 117 5 x51 G49) fun x52 =>
  bP (st Q q 117 5 x0 x52 G49) fun G53 =>
  bP (lda Q q 117 5 x0 G53) fun x54 =>
  some (x54, G53)) (
  bP (pNil v0) fun x55 =>
  bP (fa Q q 144 2 2 x55) fun x56 =>
  bP (lda Q q 117 5 x56 G29) fun x57 =>
  bP (st Q q 117 5 x0 x57 G29) fun G58 =>
  bP (lda Q q 117 5 x0 G58) fun x59 =>
  some (x59, G58)))
theorem m74 {e : Ex} {E : Ev} (h : ExLe Q e E) (v0 v1 v2 v3 v4 : Value) (G : GS) : Ref (s74 true e v0 v1 v2 v3 v4 G) (s74 false (Ex.of E) v0 v1 v2 v3 v4 G) := by
  unfold s74
  exact Ref.go
theorem f74 {orc : FuncId → Bool} {e : Ex} (h : ExLe Q e (E orc)) (v0 v1 v2 v3 v4 : Value) (G : GS) : Ref (s74 true e v0 v1 v2 v3 v4 G) ((E orc).cl 74 [v0, v1, v2, v3, v4] G) :=
  fun r hr => cl_sxE_some Q orc (vs := [v0, v1, v2, v3, v4]) G Tryz.func74 (by kernel_rfl) (by kernel_rfl) (by kernel_rfl) (by kernel_rfl) (by kernel_rfl) (by kernel_rfl) (m74 h v0 v1 v2 v3 v4 G r hr)
/-- (coxswain/cells.deed).store -/
noncomputable def s75 (q : Bool) (e : Ex) (v0 : Value) (G : GS) : Option (Value × GS) :=
  bS (bx q v0 G) fun x0 G1 =>
  bP (fa Q q 123 1 1 x0) fun x2 =>
  bP (ld Q q 36 x2 G1) fun x3 =>
  some (.tuple #[x3, (.bool true)], G1)
theorem m75 {e : Ex} {E : Ev} (h : ExLe Q e E) (v0 : Value) (G : GS) : Ref (s75 true e v0 G) (s75 false (Ex.of E) v0 G) := by
  unfold s75
  exact Ref.go
theorem f75 {orc : FuncId → Bool} {e : Ex} (h : ExLe Q e (E orc)) (v0 : Value) (G : GS) : Ref (s75 true e v0 G) ((E orc).cl 75 [v0] G) :=
  fun r hr => cl_sxE_some Q orc (vs := [v0]) G Tryz.func75 (by kernel_rfl) (by kernel_rfl) (by kernel_rfl) (by kernel_rfl) (by kernel_rfl) (by kernel_rfl) (m75 h v0 G r hr)
/-- (*coxswain/ready.Put).Step -/
noncomputable def s77 (q : Bool) (e : Ex) (v0 v1 : Value) (G : GS) : Option (Value × GS) :=
  bP (ep Q q false 42 (.tmp 5) (.const (.pointer none)) v0 (.pointer none)) fun x0 =>
  bS (gd x0 false (some (v0, G)) G) fun x1 G2 =>
  bS (gd x0 false (bP (pNil x1) fun y => some (y, G2)) G2) fun x3 G4 =>
  bS (gd x0 false (bP (fa Q q 82 0 0 x3) fun y => some (y, G4)) G4) fun x5 G6 =>
  bS (gd x0 false (some (v1, G6)) G6) fun x7 G8 =>
  bS (gd x0 false (bS (e.ev.cl 65 [x5, x7] G8) fun y G => some (y, G)) G8) fun x9 G10 =>
  bP (pickV x0 (.bool true) x9) fun x11 =>
  some (x11, G10)
theorem m77 {e : Ex} {E : Ev} (h : ExLe Q e E) (v0 v1 : Value) (G : GS) : Ref (s77 true e v0 v1 G) (s77 false (Ex.of E) v0 v1 G) := by
  unfold s77
  exact Ref.go
theorem f77 {orc : FuncId → Bool} {e : Ex} (h : ExLe Q e (E orc)) (v0 v1 : Value) (G : GS) : Ref (s77 true e v0 v1 G) ((E orc).cl 77 [v0, v1] G) :=
  fun r hr => cl_sxE_some Q orc (vs := [v0, v1]) G Tryz.func77 (by kernel_rfl) (by kernel_rfl) (by kernel_rfl) (by kernel_rfl) (by kernel_rfl) (by kernel_rfl) (m77 h v0 v1 G r hr)
/-- (*coxswain/run.Balance).Step -/
noncomputable def s78 (q : Bool) (e : Ex) (v0 v1 : Value) (G : GS) : Option (Value × GS) :=
  bP (ep Q q false 70 (.tmp 9) (.const (.pointer none)) v0 (.pointer none)) fun x0 =>
  bS (gd x0 false (some (v0, G)) G) fun x1 G2 =>
  bS (gd x0 false (bP (pNil x1) fun y => some (y, G2)) G2) fun x3 G4 =>
  bS (gd x0 false (bP (fa Q q 138 8 11 x3) fun y => some (y, G4)) G4) fun x5 G6 =>
  bS (gd x0 false (bP (ld Q q 4 x5 G6) fun y => some (y, G6)) G6) fun x7 G8 =>
  bS (gd x0 false (bP (un Q q .not x7) fun y => some (y, G8)) G8) fun x9 G10 =>
  bP (pickV x0 (.bool true) x9) fun x11 =>
  bS (gd x11 false (some (v0, G10)) G10) fun x12 G13 =>
  bS (gd x11 false (bP (pNil x12) fun y => some (y, G13)) G13) fun x14 G15 =>
  bS (gd x11 false (bP (fa Q q 138 9 12 x14) fun y => some (y, G15)) G15) fun x16 G17 =>
  bS (gd x11 false (bP (ld Q q 4 x16 G17) fun y => some (y, G17)) G17) fun x18 G19 =>
  bP (pickV x11 (.bool true) x18) fun x20 =>
  ifV x20 (
  some ((.bool true), G19)) (
  bP (pNil v0) fun x21 =>
  bP (fa Q q 138 7 10 x21) fun x22 =>
  bP (st Q q 36 1 x22 (.int .u64 0) G19) fun G23 =>
  bP (pNil v0) fun x24 =>
  bP (fa Q q 138 2 5 x24) fun x25 =>
  bP (ld Q q 135 x25 G23) fun x26 =>
  bP (ep Q q true 135 (.tmp 30) (.const (.pointer none)) x26 (.pointer none)) fun x27 =>
  ifV x27 (
  bS (e.ev.cl 122 [v0, v1] G23) fun x28 G29 =>
  bP (pNil v0) fun x30 =>
  bP (fa Q q 138 9 12 x30) fun x31 =>
  bP (ld Q q 4 x31 G29) fun x32 =>
  some (x32, G29)) (
  bP (pNil v0) fun x33 =>
  bP (fa Q q 138 0 0 x33) fun x34 =>
  bS (e.ev.cl 123 [x34] G23) fun x35 G36 =>
  bP (pExtract x35 0) fun x37 =>
  bP (pExtract x35 1) fun x38 =>
  ifV x38 (
  bP (pNil v0) fun x39 =>
  bP (fa Q q 138 4 7 x39) fun x40 =>
  bP (ld Q q 67 x40 (G36.room 13)) fun x41 =>
  bS (e.ev.cl 124 [v1, x37] (G36.room 13)) fun x43 G42 =>
  chk ((sameO (ld Q q 67 x40 G42) x41 && true)) <|
  bS (bs Q q 67 1 (rep z36 1) 1 [(0, 0, 1)] [x43] (G42.at' (G36.nx + 8))) fun x44 G45 =>
  bS (ap Q q 67 67 1 8 x41 x44 (G45.back G42)) fun x47 G46 =>
  bP (pNil v0) fun x48 =>
  bP (fa Q q 138 4 7 x48) fun x49 =>
  bP (st Q q 67 1 x49 x47 G46) fun G50 =>
  bP (pNil v0) fun x51 =>
  bP (fa Q q 138 0 0 x51) fun x52 =>
  bP (fa Q q 134 1 1 x52) fun x53 =>
  bP (ld Q q 3 x53 G50) fun x54 =>
  bP (bn Q q .eql 3 (.tmp 63) (.const (.int .i64 0)) x54 (.int .i64 0)) fun x55 =>
  ifV x55 (
  bP (pNil v0) fun x56 =>
  bP (fa Q q 138 4 7 x56) fun x57 =>
  bP (ld Q q 67 x57 (G50.room 14)) fun x58 =>
  bP (pNil v0) fun x59 =>
  bP (fa Q q 138 3 6 x59) fun x60 =>
  bP (ld Q q 36 x60 (G50.room 14)) fun x61 =>
  bS (e.ev.cl 34 [x58, x61] (G50.room 14)) fun x63 G62 =>
  bP (pExtract x63 0) fun x64 =>
  bP (pExtract x63 1) fun x65 =>
  bP (un Q q .not x65) fun x66 =>
  bP (pNil v0) fun x67 =>
  bP (fa Q q 138 5 8 x67) fun x68 =>
  bP (st Q q 3 1 x68 x64 G62) fun G69 =>
  bP (pNil v0) fun x70 =>
  bP (fa Q q 138 9 12 x70) fun x71 =>
  bP (st Q q 4 1 x71 x66 G69) fun G72 =>
  bP (pNil v0) fun x73 =>
  bP (fa Q q 138 9 12 x73) fun x74 =>
  bP (ld Q q 4 x74 G72) fun x75 =>
  some (x75, G72)) (
  bP (pNil v0) fun x76 =>
  bP (fa Q q 138 9 12 x76) fun x77 =>
  bP (ld Q q 4 x77 G50) fun x78 =>
  some (x78, G50))) (
  bP (pNil v0) fun x79 =>
  bP (fa Q q 138 1 2 x79) fun x80 =>
  bP (fa Q q 63 1 1 x80) fun x81 =>
  bP (ld Q q 3 x81 (G36.room 12)) fun x82 =>
  bP (pNil v0) fun x83 =>
  bP (fa Q q 138 5 8 x83) fun x84 =>
  bP (ld Q q 3 x84 (G36.room 12)) fun x85 =>
  bP (bn Q q .add 3 (.tmp 95) (.tmp 99) x82 x85) fun x86 =>
  bS (e.ev.cl 26 [v1, x86, (.int .u64 1)] (G36.room 12)) fun x88 G87 =>
  bP (pNil v0) fun x89 =>
  bP (fa Q q 138 5 8 x89) fun x90 =>
  bP (ld Q q 3 x90 G87) fun x91 =>
  bP (pNil v0) fun x92 =>
  bP (fa Q q 138 6 9 x92) fun x93 =>
  bP (st Q q 3 1 x93 x91 G87) fun G94 =>
  bS (e.ev.cl 87 [v0, (.int .i64 0)] G94) fun x95 G96 =>
  some ((.bool true), G96))))
theorem m78 {e : Ex} {E : Ev} (h : ExLe Q e E) (v0 v1 : Value) (G : GS) : Ref (s78 true e v0 v1 G) (s78 false (Ex.of E) v0 v1 G) := by
  unfold s78
  exact Ref.go
set_option maxHeartbeats 8000000 in
theorem f78 {orc : FuncId → Bool} {e : Ex} (h : ExLe Q e (E orc)) (v0 v1 : Value) (G : GS) : Ref (s78 true e v0 v1 G) ((E orc).cl 78 [v0, v1] G) :=
  fun r hr => cl_sxE_some Q orc (vs := [v0, v1]) G Tryz.func78 (by kernel_rfl) (by kernel_rfl) (by kernel_rfl) (by kernel_rfl) (by kernel_rfl) (by kernel_rfl) (m78 h v0 v1 G r hr)
noncomputable def b82_0 (q : Bool) (e : Ex) (lp : Env → GS → Option (Exit × Env × GS)) (τ : Env) (G : GS) : Option (Exit × Env × GS) :=
  bV q (τ 0) fun a0_ =>
  bV q (τ 1) fun a1_ =>
  bV q (τ 5) fun a5_ =>
  bV q (τ 8) fun a8_ =>
  bV q (τ 9) fun a9_ =>
  bV q (τ 10) fun a10_ =>
  bP (bn Q q .lss 3 (.tmp 10) (.tmp 9) a10_ a9_) fun x0 =>
  ifV x0 (
  bP (ias Q q 67 1 a8_ a10_) fun x1 =>
  bP (ld Q q 36 x1 G) fun x2 =>
  bP (bn Q q .lss 3 (.tmp 15) (.const (.int .i64 0)) a5_ (.int .i64 0)) fun x3 =>
  bS (gd x3 false (some (a1_, G)) G) fun x4 G5 =>
  bS (gd x3 false (some (x2, G5)) G5) fun x6 G7 =>
  bS (gd x3 false (some (a0_, G7)) G7) fun x8 G9 =>
  bS (gd x3 false (some (a5_, G9)) G9) fun x10 G11 =>
  bS (gd x3 false (bP (ias Q q 67 1 x8 x10) fun y => some (y, G11)) G11) fun x12 G13 =>
  bS (gd x3 false (bP (ld Q q 36 x12 G13) fun y => some (y, G13)) G13) fun x14 G15 =>
  bS (gd x3 false (bS (cValue e.ev x4 [x6, x14] G15) fun y G => some (y, G)) G15) fun x16 G17 =>
  bS (gd x3 false (bP (bn Q q .gtr 3 (.tmp 24) (.const (.int .i64 0)) x16 (.int .i64 0)) fun y => some (y, G17)) G17) fun x18 G19 =>
  bP (pickV x3 (.bool true) x18) fun x20 =>
  ifV x20 (
  bP (bn Q q .add 3 (.tmp 10) (.const (.int .i64 1)) a10_ (.int .i64 1)) fun x21 =>
  lp (tu τ [(0, a0_), (1, a1_), (5, a10_), (8, a8_), (9, a9_), (10, x21), (6, a10_), (7, x2), (11, x0), (12, a10_), (13, x1), (14, x2), (15, a5_), (16, x3), (17, x3), (18, x4), (19, x6), (20, x8), (21, x10), (22, x12), (23, x14), (24, x16), (25, x18), (26, x20), (27, a10_), (28, x21)]) G19) (
  bP (bn Q q .add 3 (.tmp 10) (.const (.int .i64 1)) a10_ (.int .i64 1)) fun x22 =>
  lp (tu τ [(0, a0_), (1, a1_), (5, a5_), (8, a8_), (9, a9_), (10, x22), (6, a10_), (7, x2), (11, x0), (12, a10_), (13, x1), (14, x2), (15, a5_), (16, x3), (17, x3), (18, x4), (19, x6), (20, x8), (21, x10), (22, x12), (23, x14), (24, x16), (25, x18), (26, x20), (28, x22)]) G19)) (
  some ((.exit 0), clq q 30 (tu τ [(0, a0_), (1, a1_), (5, a5_), (8, a8_), (9, a9_), (10, a10_), (11, x0)]), G))
theorem mb82_0 {e : Ex} {E : Ev} (h : ExLe Q e E) {lp lp' : Env → GS → Option (Exit × Env × GS)} (hlp : LpLe lp lp') (τ : Env) (G : GS) : Ref (b82_0 true e lp τ G) (b82_0 false (Ex.of E) lp' τ G) := by
  unfold b82_0
  exact Ref.go
theorem l82_0 {orc : FuncId → Bool} {e : Ex} (h : ExLe Q e (E orc)) (lp : Env → GS → Option (Exit × Env × GS)) (hlp : ∀ τ G, Ref (lp τ G) (mapE ((E orc).lp (subAt [1, 1, 0, 1, 0, 0] (bodyOf Tryz.f82)) (lst 30 τ) G))) (T : List Value) (G : GS) (hT : T.length = 30) : Ref (b82_0 true e lp (nth undef T) G) (mapE ((E orc).lp (subAt [1, 1, 0, 1, 0, 0] (bodyOf Tryz.f82)) T G)) :=
  fun r hr => lp_sxM Q orc G hT (by kernel_rfl) (mb82_0 h ⟨hlp⟩ _ _ r hr)
/-- coxswain/run.greatest[uint64] -/
noncomputable def s82 (q : Bool) (e : Ex) (v0 v1 : Value) (G : GS) : Option (Value × GS) :=
  bP (ln Q q 67 v0) fun x0 =>
  bL q e 82 0 (subAt [1, 1, 0, 1, 0, 0] (bodyOf Tryz.f82)) 30 (tu (nth undef [v0, v1]) [(4, (.int .i64 0)), (5, (.int .i64 (-1))), (8, v0), (9, x0), (10, (.int .i64 0))]) G fun e1 t2 G3 =>
  bV q (t2 5) fun t2x5_ =>
  ifE e1 (.exit 0) (
  some (t2x5_, G3)) (none)
theorem m82 {e : Ex} {E : Ev} (h : ExLe Q e E) (v0 v1 : Value) (G : GS) : Ref (s82 true e v0 v1 G) (s82 false (Ex.of E) v0 v1 G) := by
  unfold s82
  exact Ref.go
theorem f82 {orc : FuncId → Bool} {e : Ex} (h : ExLe Q e (E orc)) (v0 v1 : Value) (G : GS) : Ref (s82 true e v0 v1 G) ((E orc).cl 82 [v0, v1] G) :=
  fun r hr => cl_sxE_some Q orc (vs := [v0, v1]) G Tryz.func82 (by kernel_rfl) (by kernel_rfl) (by kernel_rfl) (by kernel_rfl) (by kernel_rfl) (by kernel_rfl) (m82 h v0 v1 G r hr)
/-- cmp.Compare[uint64] -/
noncomputable def s83 (q : Bool) (e : Ex) (v0 v1 : Value) (G : GS) : Option (Value × GS) :=
  bS (e.ev.cl 126 [v0] G) fun x0 G1 =>
  bS (e.ev.cl 126 [v1] G1) fun x2 G3 =>
  ifV x0 (
  ifV x2 (
  some ((.int .i64 0), G3)) (
  some ((.int .i64 (-1)), G3))) (
  ifV x2 (
  some ((.int .i64 1), G3)) (
  bP (bn Q q .lss 36 (.tmp 14) (.tmp 15) v0 v1) fun x4 =>
  ifV x4 (
  some ((.int .i64 (-1)), G3)) (
  bP (bn Q q .gtr 36 (.tmp 17) (.tmp 18) v0 v1) fun x5 =>
  ifV x5 (
  some ((.int .i64 1), G3)) (
  some ((.int .i64 0), G3)))))
theorem m83 {e : Ex} {E : Ev} (h : ExLe Q e E) (v0 v1 : Value) (G : GS) : Ref (s83 true e v0 v1 G) (s83 false (Ex.of E) v0 v1 G) := by
  unfold s83
  exact Ref.go
theorem f83 {orc : FuncId → Bool} {e : Ex} (h : ExLe Q e (E orc)) (v0 v1 : Value) (G : GS) : Ref (s83 true e v0 v1 G) ((E orc).cl 83 [v0, v1] G) :=
  fun r hr => cl_sxE_some Q orc (vs := [v0, v1]) G Tryz.func83 (by kernel_rfl) (by kernel_rfl) (by kernel_rfl) (by kernel_rfl) (by kernel_rfl) (by kernel_rfl) (m83 h v0 v1 G r hr)
/-- coxswain/ready.NewLook -/
noncomputable def s85 (q : Bool) (e : Ex) (v0 v1 : Value) (G : GS) : Option (Value × GS) :=
  bS (bx q v0 G) fun x0 G1 =>
  bP (lda Q q 31 13 x0 G1) fun x2 =>
  bS (e.ev.cl 44 [x2, v1] G1) fun x3 G4 =>
  bP (bd Q q 210 z210 [(0, 0, 19)] [x3]) fun x5 =>
  bS (bx q x5 G4) fun x6 G7 =>
  bS (al Q q 135 z135 G7) fun x8 G9 =>
  bP (st Q q 135 1 x8 x6 G9) fun G10 =>
  bP (ld Q q 135 x8 G10) fun x11 =>
  bP (pNil x11) fun x12 =>
  bP (fa Q q 210 0 0 x12) fun x13 =>
  bP (fa Q q 79 6 18 x13) fun x14 =>
  bP (ld Q q 39 x14 G10) fun x15 =>
  bP (bn Q q .eql 39 (.tmp 15) (.const (.int .i64 0)) x15 (.int .i64 0)) fun x16 =>
  ifV x16 (
  bP (ld Q q 135 x8 (G10.room 19)) fun x17 =>
  bP (ld Q q 135 x8 (G10.room 19)) fun x18 =>
  bP (pNil x18) fun x19 =>
  bP (fa Q q 210 0 0 x19) fun x20 =>
  bS (e.ev.cl 45 [x20] (G10.room 19)) fun x22 G21 =>
  chk ((sameO (ld Q q 135 x8 G21) x17 && true)) <|
  bP (bd Q q 218 z218 [(0, 0, 1), (1, 1, 1), (2, 2, 1)] [(.func (.func 129) #[] #[x0]), (.func (.func 131) #[] #[]), (.func (.func 132) #[] #[x8])]) fun x23 =>
  bS (bx q x23 (G21.at' (G10.nx + 8))) fun x24 G25 =>
  bP (ifc Q q 211 x24) fun x26 =>
  bP (ld Q q 135 x8 (G25.back G21)) fun x27 =>
  chk ((sameO (ld Q q 135 x8 (G10.room 19)) x27 && true)) <|
  bP (pNil x27) fun x28 =>
  bP (fa Q q 210 0 0 x28) fun x29 =>
  bS (e.ev.cl 52 [x29] (G25.back G21)) fun x31 G30 =>
  chk ((sameO (ld Q q 135 x8 G30) x17 && true)) <|
  bS (bs Q q 77 3 (rep z84 3) 1 [(0, 0, 1), (1, 1, 1), (2, 2, 1)] [x22, x26, x31] (G30.at' (G10.nx + 14))) fun x32 G33 =>
  bP (pNil x17) fun x34 =>
  bP (fa Q q 210 0 0 x34) fun x35 =>
  bP (fa Q q 79 4 16 x35) fun x36 =>
  bP (st Q q 77 1 x36 x32 (G33.back G30)) fun G37 =>
  bP (ld Q q 135 x8 G37) fun x38 =>
  some (x38, G37)) (
  bP (ld Q q 135 x8 G10) fun x39 =>
  some (x39, G10))
theorem m85 {e : Ex} {E : Ev} (h : ExLe Q e E) (v0 v1 : Value) (G : GS) : Ref (s85 true e v0 v1 G) (s85 false (Ex.of E) v0 v1 G) := by
  unfold s85
  exact Ref.go
theorem f85 {orc : FuncId → Bool} {e : Ex} (h : ExLe Q e (E orc)) (v0 v1 : Value) (G : GS) : Ref (s85 true e v0 v1 G) ((E orc).cl 85 [v0, v1] G) :=
  fun r hr => cl_sxE_some Q orc (vs := [v0, v1]) G Tryz.func85 (by kernel_rfl) (by kernel_rfl) (by kernel_rfl) (by kernel_rfl) (by kernel_rfl) (by kernel_rfl) (m85 h v0 v1 G r hr)
/-- (*coxswain/ready.Look).Item -/
noncomputable def s86 (q : Bool) (e : Ex) (v0 : Value) (G : GS) : Option (Value × GS) :=
  bS (al Q q 38 z38 G) fun x0 G1 =>
  bP (ep Q q false 135 (.tmp 4) (.const (.pointer none)) v0 (.pointer none)) fun x2 =>
  ifV x2 (
  bP (bd Q q 38 z38 [] []) fun x3 =>
  bP (st Q q 38 2 x0 x3 G1) fun G4 =>
  bP (lda Q q 38 2 x0 G4) fun x5 =>
  some (.tuple #[x5, (.int .i64 1)], G4)) (
  bP (pNil v0) fun x6 =>
  bP (fa Q q 210 1 19 x6) fun x7 =>
  bP (lda Q q 87 3 x7 (G1.room 12)) fun x8 =>
  bP (pNil v0) fun x9 =>
  bP (fa Q q 210 0 0 x9) fun x10 =>
  bS (e.ev.cl 53 [x8, x10] (G1.room 12)) fun x12 G11 =>
  bP (pExtract x12 0) fun x13 =>
  bP (pExtract x12 1) fun x14 =>
  bP (st Q q 38 2 x0 x13 G11) fun G15 =>
  bP (lda Q q 38 2 x0 G15) fun x16 =>
  some (.tuple #[x16, x14], G15))
theorem m86 {e : Ex} {E : Ev} (h : ExLe Q e E) (v0 : Value) (G : GS) : Ref (s86 true e v0 G) (s86 false (Ex.of E) v0 G) := by
  unfold s86
  exact Ref.go
theorem f86 {orc : FuncId → Bool} {e : Ex} (h : ExLe Q e (E orc)) (v0 : Value) (G : GS) : Ref (s86 true e v0 G) ((E orc).cl 86 [v0] G) :=
  fun r hr => cl_sxE_some Q orc (vs := [v0]) G Tryz.func86 (by kernel_rfl) (by kernel_rfl) (by kernel_rfl) (by kernel_rfl) (by kernel_rfl) (by kernel_rfl) (m86 h v0 G r hr)
/-- (*coxswain/run.Balance).ends -/
noncomputable def s87 (q : Bool) (e : Ex) (v0 v1 : Value) (G : GS) : Option (Value × GS) :=
  bP (pNil v0) fun x0 =>
  bP (fa Q q 138 9 12 x0) fun x1 =>
  bP (st Q q 4 1 x1 (.bool true) G) fun G2 =>
  bP (pNil v0) fun x3 =>
  bP (fa Q q 138 10 13 x3) fun x4 =>
  bP (st Q q 39 1 x4 v1 G2) fun G5 =>
  some (.tuple #[], G5)
theorem m87 {e : Ex} {E : Ev} (h : ExLe Q e E) (v0 v1 : Value) (G : GS) : Ref (s87 true e v0 v1 G) (s87 false (Ex.of E) v0 v1 G) := by
  unfold s87
  exact Ref.go
theorem f87 {orc : FuncId → Bool} {e : Ex} (h : ExLe Q e (E orc)) (v0 v1 : Value) (G : GS) : Ref (s87 true e v0 v1 G) ((E orc).cl 87 [v0, v1] G) :=
  fun r hr => cl_sxE_some Q orc (vs := [v0, v1]) G Tryz.func87 (by kernel_rfl) (by kernel_rfl) (by kernel_rfl) (by kernel_rfl) (by kernel_rfl) (by kernel_rfl) (m87 h v0 v1 G r hr)
/-- coxswain/tower.At -/
noncomputable def s90 (q : Bool) (e : Ex) (v0 v1 v2 : Value) (G : GS) : Option (Value × GS) :=
  bS (bx q v0 G) fun x0 G1 =>
  bP (lda Q q 31 13 x0 G1) fun x2 =>
  bS (e.ev.cl 109 [x2] G1) fun x3 G4 =>
  bP (un Q q .not x3) fun x5 =>
  ifV x5 (
  some ((.int .i64 (-1)), G4)) (
  bP (bn Q q .neq 3 (.tmp 12) (.const (.int .i64 (-1))) v1 (.int .i64 (-1))) fun x6 =>
  ifV x6 (
  bP (lda Q q 31 13 x0 G4) fun x7 =>
  bS (e.ev.cl 134 [x7] G4) fun x8 G9 =>
  bS (e.ev.cl 135 [x8, v1, v2] G9) fun x10 G11 =>
  some (x10, G11)) (
  bP (bn Q q .lss 3 (.tmp 20) (.const (.int .i64 4)) v2 (.int .i64 4)) fun x12 =>
  bS (gd x12 false (some (v2, G4)) G4) fun x13 G14 =>
  bS (gd x12 false (bP (fa Q q 31 2 2 x0) fun y => some (y, G14)) G14) fun x15 G16 =>
  bS (gd x12 false (bP (ld Q q 3 x15 G16) fun y => some (y, G16)) G16) fun x17 G18 =>
  bS (gd x12 false (bP (bn Q q .add 3 (.const (.int .i64 4)) (.tmp 25) (.int .i64 4) x17) fun y => some (y, G18)) G18) fun x19 G20 =>
  bS (gd x12 false (bP (bn Q q .geq 3 (.tmp 23) (.tmp 26) x13 x19) fun y => some (y, G20)) G20) fun x21 G22 =>
  bP (pickV x12 (.bool true) x21) fun x23 =>
  ifV x23 (
  some ((.int .i64 (-1)), G22)) (
  bP (lda Q q 31 13 x0 G22) fun x24 =>
  bS (e.ev.cl 136 [x24] G22) fun x25 G26 =>
  bP (bn Q q .sub 3 (.tmp 31) (.const (.int .i64 4)) v2 (.int .i64 4)) fun x27 =>
  bS (e.ev.cl 137 [x25, (.int .i64 0), x27] G26) fun x28 G29 =>
  some (x28, G29))))
theorem m90 {e : Ex} {E : Ev} (h : ExLe Q e E) (v0 v1 v2 : Value) (G : GS) : Ref (s90 true e v0 v1 v2 G) (s90 false (Ex.of E) v0 v1 v2 G) := by
  unfold s90
  exact Ref.go
theorem f90 {orc : FuncId → Bool} {e : Ex} (h : ExLe Q e (E orc)) (v0 v1 v2 : Value) (G : GS) : Ref (s90 true e v0 v1 v2 G) ((E orc).cl 90 [v0, v1, v2] G) :=
  fun r hr => cl_sxE_some Q orc (vs := [v0, v1, v2]) G Tryz.func90 (by kernel_rfl) (by kernel_rfl) (by kernel_rfl) (by kernel_rfl) (by kernel_rfl) (by kernel_rfl) (m90 h v0 v1 v2 G r hr)
/-- (*coxswain/ready.work).pin$1 -/
noncomputable def s91 (q : Bool) (e : Ex) (v0 : Value) (G : GS) : Option (Value × GS) :=
  bP (ld Q q 99 v0 (G.room 12)) fun x0 =>
  bP (pNil x0) fun x1 =>
  bP (fa Q q 79 0 0 x1) fun x2 =>
  bP (fa Q q 31 3 3 x2) fun x3 =>
  bP (fa Q q 29 1 6 x3) fun x4 =>
  bP (lda Q q 27 3 x4 (G.room 12)) fun x5 =>
  bP (ld Q q 99 v0 (G.room 12)) fun x6 =>
  bP (pNil x6) fun x7 =>
  bP (fa Q q 79 1 13 x7) fun x8 =>
  bP (ld Q q 3 x8 (G.room 12)) fun x9 =>
  bS (e.ev.cl 92 [x5, x9] (G.room 12)) fun x11 G10 =>
  some (x11, G10)
theorem m91 {e : Ex} {E : Ev} (h : ExLe Q e E) (v0 : Value) (G : GS) : Ref (s91 true e v0 G) (s91 false (Ex.of E) v0 G) := by
  unfold s91
  exact Ref.go
theorem f91 {orc : FuncId → Bool} {e : Ex} (h : ExLe Q e (E orc)) (v0 : Value) (G : GS) : Ref (s91 true e v0 G) ((E orc).cl 91 [v0] G) :=
  fun r hr => cl_sxE_some Q orc (vs := [v0]) G Tryz.func91 (by kernel_rfl) (by kernel_rfl) (by kernel_rfl) (by kernel_rfl) (by kernel_rfl) (by kernel_rfl) (m91 h v0 G r hr)
/-- coxswain/epoch.NewPin -/
noncomputable def s92 (q : Bool) (e : Ex) (v0 v1 : Value) (G : GS) : Option (Value × GS) :=
  bS (bx q v0 G) fun x0 G1 =>
  bP (bd Q q 230 z230 [(2, 4, 1)] [(.bool true)]) fun x2 =>
  bP (lda Q q 27 3 x0 G1) fun x3 =>
  bP (bd Q q 234 z234 [(0, 0, 6), (1, 6, 3)] [x2, x3]) fun x4 =>
  bS (bx q x4 G1) fun x5 G6 =>
  bP (lda Q q 27 3 x0 G6) fun x7 =>
  bS (e.ev.cl 138 [x7, v1] G6) fun x8 G9 =>
  ifV x8 (
  bP (pNil x5) fun x10 =>
  bP (fa Q q 234 0 0 x10) fun x11 =>
  bS (e.ev.cl 139 [x11, (.int .i64 3)] G9) fun x12 G13 =>
  some (x5, G13)) (
  bP (fa Q q 27 1 1 x0) fun x14 =>
  bP (ld Q q 3 x14 G9) fun x15 =>
  bP (bn Q q .add 3 (.tmp 20) (.tmp 21) x15 v1) fun x16 =>
  bP (pNil x5) fun x17 =>
  bP (fa Q q 234 2 9 x17) fun x18 =>
  bP (st Q q 3 1 x18 x16 G9) fun G19 =>
  bP (bd Q q 228 z228 [(0, 0, 1), (1, 1, 1), (2, 2, 1)] [(.func (.func 140) #[x5] #[]), (.func (.func 141) #[x5] #[]), (.func (.func 142) #[x5] #[])]) fun x20 =>
  bP (pNil x5) fun x21 =>
  bP (fa Q q 234 0 0 x21) fun x22 =>
  bP (fa Q q 230 0 0 x22) fun x23 =>
  bP (st Q q 228 3 x23 x20 G19) fun G24 =>
  some (x5, G24))
theorem m92 {e : Ex} {E : Ev} (h : ExLe Q e E) (v0 v1 : Value) (G : GS) : Ref (s92 true e v0 v1 G) (s92 false (Ex.of E) v0 v1 G) := by
  unfold s92
  exact Ref.go
theorem f92 {orc : FuncId → Bool} {e : Ex} (h : ExLe Q e (E orc)) (v0 v1 : Value) (G : GS) : Ref (s92 true e v0 v1 G) ((E orc).cl 92 [v0, v1] G) :=
  fun r hr => cl_sxE_some Q orc (vs := [v0, v1]) G Tryz.func92 (by kernel_rfl) (by kernel_rfl) (by kernel_rfl) (by kernel_rfl) (by kernel_rfl) (by kernel_rfl) (m92 h v0 v1 G r hr)
/-- (*coxswain/ready.work).pin$2 -/
noncomputable def s93 (q : Bool) (e : Ex) (v0 v1 : Value) (G : GS) : Option (Value × GS) :=
  bP (ld Q q 99 v1 (G.room 9)) fun x0 =>
  bS (e.ev.cl 94 [v0] (G.room 9)) fun x2 G1 =>
  chk ((sameO (ld Q q 99 v1 G1) x0 && true)) <|
  bP (pExtract x2 0) fun x3 =>
  bP (pExtract x2 1) fun x4 =>
  bP (pNil x0) fun x5 =>
  bP (fa Q q 79 3 15 x5) fun x6 =>
  bP (st Q q 3 1 x6 x3 G1) fun G7 =>
  some (.tuple #[], G7)
theorem m93 {e : Ex} {E : Ev} (h : ExLe Q e E) (v0 v1 : Value) (G : GS) : Ref (s93 true e v0 v1 G) (s93 false (Ex.of E) v0 v1 G) := by
  unfold s93
  exact Ref.go
theorem f93 {orc : FuncId → Bool} {e : Ex} (h : ExLe Q e (E orc)) (v0 v1 : Value) (G : GS) : Ref (s93 true e v0 v1 G) ((E orc).cl 93 [v0, v1] G) :=
  fun r hr => cl_sxE_some Q orc (vs := [v0, v1]) G Tryz.func93 (by kernel_rfl) (by kernel_rfl) (by kernel_rfl) (by kernel_rfl) (by kernel_rfl) (by kernel_rfl) (m93 h v0 v1 G r hr)
/-- (*coxswain/epoch.Pin).At -/
noncomputable def s94 (q : Bool) (e : Ex) (v0 : Value) (G : GS) : Option (Value × GS) :=
  bP (ep Q q false 147 (.tmp 5) (.const (.pointer none)) v0 (.pointer none)) fun x0 =>
  ifV x0 (
  some (.tuple #[(.int .i64 0), (.int .i64 1)], G)) (
  bP (pNil v0) fun x1 =>
  bP (fa Q q 234 0 0 x1) fun x2 =>
  bS (e.ev.cl 143 [x2] G) fun x3 G4 =>
  bP (bn Q q .neq 39 (.tmp 11) (.const (.int .i64 0)) x3 (.int .i64 0)) fun x5 =>
  ifV x5 (
  some (.tuple #[(.int .i64 0), x3], G4)) (
  bP (pNil v0) fun x6 =>
  bP (fa Q q 234 3 10 x6) fun x7 =>
  bP (ld Q q 232 x7 G4) fun x8 =>
  bP (cv Q q 232 3 .u32 .i64 x8) fun x9 =>
  some (.tuple #[x9, (.int .i64 0)], G4)))
theorem m94 {e : Ex} {E : Ev} (h : ExLe Q e E) (v0 : Value) (G : GS) : Ref (s94 true e v0 G) (s94 false (Ex.of E) v0 G) := by
  unfold s94
  exact Ref.go
theorem f94 {orc : FuncId → Bool} {e : Ex} (h : ExLe Q e (E orc)) (v0 : Value) (G : GS) : Ref (s94 true e v0 G) ((E orc).cl 94 [v0] G) :=
  fun r hr => cl_sxE_some Q orc (vs := [v0]) G Tryz.func94 (by kernel_rfl) (by kernel_rfl) (by kernel_rfl) (by kernel_rfl) (by kernel_rfl) (by kernel_rfl) (m94 h v0 G r hr)
/-- (*coxswain/ready.Put).alloc$1 -/
noncomputable def s95 (q : Bool) (e : Ex) (v0 : Value) (G : GS) : Option (Value × GS) :=
  bP (ld Q q 42 v0 G) fun x0 =>
  bP (pNil x0) fun x1 =>
  bP (fa Q q 82 0 0 x1) fun x2 =>
  bP (fa Q q 79 0 0 x2) fun x3 =>
  bP (fa Q q 31 3 3 x3) fun x4 =>
  bP (fa Q q 29 0 0 x4) fun x5 =>
  bP (lda Q q 25 6 x5 G) fun x6 =>
  bS (e.ev.cl 96 [x6] G) fun x7 G8 =>
  some (x7, G8)
theorem m95 {e : Ex} {E : Ev} (h : ExLe Q e E) (v0 : Value) (G : GS) : Ref (s95 true e v0 G) (s95 false (Ex.of E) v0 G) := by
  unfold s95
  exact Ref.go
theorem f95 {orc : FuncId → Bool} {e : Ex} (h : ExLe Q e (E orc)) (v0 : Value) (G : GS) : Ref (s95 true e v0 G) ((E orc).cl 95 [v0] G) :=
  fun r hr => cl_sxE_some Q orc (vs := [v0]) G Tryz.func95 (by kernel_rfl) (by kernel_rfl) (by kernel_rfl) (by kernel_rfl) (by kernel_rfl) (by kernel_rfl) (m95 h v0 G r hr)
/-- coxswain/arena.NewAlloc -/
noncomputable def s96 (q : Bool) (e : Ex) (v0 : Value) (G : GS) : Option (Value × GS) :=
  bS (bx q v0 G) fun x0 G1 =>
  bP (fa Q q 25 0 0 x0) fun x2 =>
  bP (lda Q q 23 3 x2 (G1.room 7)) fun x3 =>
  bS (e.ev.cl 144 [x3] (G1.room 7)) fun x5 G4 =>
  bP (lda Q q 25 6 x0 G4) fun x6 =>
  chk ((sameO (lda Q q 25 6 x0 (G1.room 7)) x6 && true)) <|
  bP (bd Q q 240 z240 [(0, 0, 1), (1, 1, 6), (2, 7, 1), (3, 8, 1)] [x5, x6, (.bool true), (.func (.func 145) #[] #[])]) fun x7 =>
  bS (bx q x7 (G4.at' (G1.nx + 5))) fun x8 G9 =>
  some (x8, (G9.back G4))
theorem m96 {e : Ex} {E : Ev} (h : ExLe Q e E) (v0 : Value) (G : GS) : Ref (s96 true e v0 G) (s96 false (Ex.of E) v0 G) := by
  unfold s96
  exact Ref.go
theorem f96 {orc : FuncId → Bool} {e : Ex} (h : ExLe Q e (E orc)) (v0 : Value) (G : GS) : Ref (s96 true e v0 G) ((E orc).cl 96 [v0] G) :=
  fun r hr => cl_sxE_some Q orc (vs := [v0]) G Tryz.func96 (by kernel_rfl) (by kernel_rfl) (by kernel_rfl) (by kernel_rfl) (by kernel_rfl) (by kernel_rfl) (m96 h v0 G r hr)
noncomputable def b97_0 (q : Bool) (e : Ex) (lp : Env → GS → Option (Exit × Env × GS)) (τ : Env) (G : GS) : Option (Exit × Env × GS) :=
  bV q (τ 2) fun a2_ =>
  bV q (τ 5) fun a5_ =>
  bV q (τ 27) fun a27_ =>
  bV q (τ 28) fun a28_ =>
  bV q (τ 29) fun a29_ =>
  bP (bn Q q .lss 3 (.tmp 29) (.tmp 28) a29_ a28_) fun x0 =>
  ifV x0 (
  bP (ias Q q 243 1 a27_ a29_) fun x1 =>
  bP (ld Q q 85 x1 G) fun x2 =>
  bP (bn Q q .eql 39 (.tmp 33) (.const (.int .i64 7)) a5_ (.int .i64 7)) fun x3 =>
  bS (gd x3 true (bP (ld Q q 42 a2_ G) fun y => some (y, G)) G) fun x4 G5 =>
  bS (gd x3 true (bP (pNil x4) fun y => some (y, G5)) G5) fun x6 G7 =>
  bS (gd x3 true (bP (fa Q q 82 4 22 x6) fun y => some (y, G7)) G7) fun x8 G9 =>
  bS (gd x3 true (bP (ld Q q 3 x8 G9) fun y => some (y, G9)) G9) fun x10 G11 =>
  bS (gd x3 true (bP (bn Q q .lss 3 (.tmp 39) (.const (.int .i64 3)) x10 (.int .i64 3)) fun y => some (y, G11)) G11) fun x12 G13 =>
  bP (pickV x3 x12 (.bool false)) fun x14 =>
  ifV x14 (
  bP (ld Q q 42 a2_ G13) fun x15 =>
  bP (pNil x15) fun x16 =>
  bP (fa Q q 82 4 22 x16) fun x17 =>
  bP (ld Q q 3 x17 G13) fun x18 =>
  bP (bn Q q .add 3 (.tmp 45) (.const (.int .i64 1)) x18 (.int .i64 1)) fun x19 =>
  bP (pNil x15) fun x20 =>
  bP (fa Q q 82 4 22 x20) fun x21 =>
  bP (st Q q 3 1 x21 x19 G13) fun G22 =>
  bP (ld Q q 42 a2_ (G22.room 13)) fun x23 =>
  bP (pNil x23) fun x24 =>
  bP (fa Q q 82 0 0 x24) fun x25 =>
  bP (ld Q q 42 a2_ (G22.room 13)) fun x26 =>
  bP (pNil x26) fun x27 =>
  bP (fa Q q 82 0 0 x27) fun x28 =>
  bP (ld Q q 42 a2_ (G22.room 13)) fun x29 =>
  bS (bs Q q 243 4 (rep z85 4) 1 [(0, 0, 1), (1, 1, 1), (2, 2, 1), (3, 3, 1)] [(.func (.func 149) #[] #[a2_]), (.func (.func 52) #[x25] #[]), (.func (.func 45) #[x28] #[]), (.func (.func 46) #[x29] #[])] ((G22.room 13).at' (G22.nx + 11))) fun x30 G31 =>
  some ((.goto 0), clq q 91 (tu τ [(2, a2_), (5, (.int .i64 0)), (27, a27_), (28, a28_), (29, a29_), (6, x30), (8, x2), (30, x0), (31, x1), (32, x2), (33, a5_), (34, x3), (35, x3), (36, x4), (37, x6), (38, x8), (39, x10), (40, x12), (41, x14), (42, x15), (43, x16), (44, x17), (45, x18), (46, x19), (47, x20), (48, x21), (49, (.func (.func 149) #[] #[a2_])), (50, x23), (51, x24), (52, x25), (53, (.func (.func 52) #[x25] #[])), (54, x26), (55, x27), (56, x28), (57, (.func (.func 45) #[x28] #[])), (58, x29), (59, (.func (.func 46) #[x29] #[])), (60, x30)]), (G31.back (G22.room 13)))) (
  bP (bn Q q .neq 39 (.tmp 61) (.const (.int .i64 0)) a5_ (.int .i64 0)) fun x32 =>
  ifV x32 (
  bP (ld Q q 42 a2_ G13) fun x33 =>
  bP (pNil x33) fun x34 =>
  bP (fa Q q 82 0 0 x34) fun x35 =>
  bP (fa Q q 79 6 18 x35) fun x36 =>
  bP (st Q q 39 1 x36 a5_ G13) fun G37 =>
  bP (ld Q q 42 a2_ (G37.room 10)) fun x38 =>
  bP (ld Q q 42 a2_ (G37.room 10)) fun x39 =>
  bP (pNil x39) fun x40 =>
  bP (fa Q q 82 0 0 x40) fun x41 =>
  bS (e.ev.cl 52 [x41] (G37.room 10)) fun x43 G42 =>
  chk ((sameO (ld Q q 42 a2_ G42) x38 && true)) <|
  bS (bs Q q 77 1 (rep z84 1) 1 [(0, 0, 1)] [x43] (G42.at' (G37.nx + 5))) fun x44 G45 =>
  bP (pNil x38) fun x46 =>
  bP (fa Q q 82 0 0 x46) fun x47 =>
  bP (fa Q q 79 4 16 x47) fun x48 =>
  bP (st Q q 77 1 x48 x44 (G45.back G42)) fun G49 =>
  some (.ret, clq q 91 (tu τ [(2, a2_), (5, a5_), (27, a27_), (28, a28_), (29, a29_), (8, x2), (30, x0), (31, x1), (32, x2), (33, a5_), (34, x3), (35, x3), (36, x4), (37, x6), (38, x8), (39, x10), (40, x12), (41, x14), (61, a5_), (62, x32), (63, x33), (64, a5_), (65, x34), (66, x35), (67, x36), (68, x38), (69, x39), (70, x40), (71, x41), (72, x43), (73, x44), (74, x46), (75, x47), (76, x48)]), G49)) (
  bP (ld Q q 42 a2_ (G13.room 14)) fun x50 =>
  bP (ld Q q 42 a2_ (G13.room 14)) fun x51 =>
  bP (pNil x51) fun x52 =>
  bP (fa Q q 82 0 0 x52) fun x53 =>
  bP (fa Q q 79 4 16 x53) fun x54 =>
  bP (ld Q q 77 x54 (G13.room 14)) fun x55 =>
  bS (cValue e.ev x2 [] (G13.room 14)) fun x57 G56 =>
  chk ((sameO (ld Q q 77 x54 G56) x55 && (sameO (ld Q q 42 a2_ G56) x51 && (sameO (ld Q q 42 a2_ G56) x50 && true)))) <|
  bS (bs Q q 77 1 (rep z84 1) 1 [(0, 0, 1)] [x57] (G56.at' (G13.nx + 8))) fun x58 G59 =>
  bS (ap Q q 77 77 1 16 x55 x58 (G59.back G56)) fun x61 G60 =>
  chk ((sameO (ld Q q 42 a2_ G60) x50 && true)) <|
  bP (pNil x50) fun x62 =>
  bP (fa Q q 82 0 0 x62) fun x63 =>
  bP (fa Q q 79 4 16 x63) fun x64 =>
  bP (st Q q 77 1 x64 x61 G60) fun G65 =>
  bP (bn Q q .add 3 (.tmp 29) (.const (.int .i64 1)) a29_ (.int .i64 1)) fun x66 =>
  lp (tu τ [(2, a2_), (5, a5_), (27, a27_), (28, a28_), (29, x66), (8, x2), (30, x0), (31, x1), (32, x2), (33, a5_), (34, x3), (35, x3), (36, x4), (37, x6), (38, x8), (39, x10), (40, x12), (41, x14), (61, a5_), (62, x32), (77, x50), (78, x51), (79, x52), (80, x53), (81, x54), (82, x55), (83, x2), (84, x57), (85, x58), (86, x61), (87, x62), (88, x63), (89, x64), (90, x66)]) G65))) (
  some ((.exit 0), clq q 91 (tu τ [(2, a2_), (5, a5_), (27, a27_), (28, a28_), (29, a29_), (30, x0)]), G))
theorem mb97_0 {e : Ex} {E : Ev} (h : ExLe Q e E) {lp lp' : Env → GS → Option (Exit × Env × GS)} (hlp : LpLe lp lp') (τ : Env) (G : GS) : Ref (b97_0 true e lp τ G) (b97_0 false (Ex.of E) lp' τ G) := by
  unfold b97_0
  exact Ref.go
set_option maxHeartbeats 8000000 in
theorem l97_0 {orc : FuncId → Bool} {e : Ex} (h : ExLe Q e (E orc)) (lp : Env → GS → Option (Exit × Env × GS)) (hlp : ∀ τ G, Ref (lp τ G) (mapE ((E orc).lp (subAt [1, 0, 1, 1, 1, 1, 1, 0, 0] (bodyOf Tryz.f97)) (lst 91 τ) G))) (T : List Value) (G : GS) (hT : T.length = 91) : Ref (b97_0 true e lp (nth undef T) G) (mapE ((E orc).lp (subAt [1, 0, 1, 1, 1, 1, 1, 0, 0] (bodyOf Tryz.f97)) T G)) :=
  fun r hr => lp_sxM Q orc G hT (by kernel_rfl) (mb97_0 h ⟨hlp⟩ _ _ r hr)
/-- (*coxswain/ready.Put).given -/
noncomputable def s97 (q : Bool) (e : Ex) (v0 v1 : Value) (G : GS) : Option (Value × GS) :=
  bS (bx q v0 G) fun x0 G1 =>
  bS (e.ev.cl 146 [v1] G1) fun x2 G3 =>
  bP (pExtract x2 0) fun x4 =>
  bP (pExtract x2 1) fun x5 =>
  bP (ld Q q 42 x0 G3) fun x6 =>
  bP (pNil x6) fun x7 =>
  bP (fa Q q 82 5 23 x7) fun x8 =>
  bP (st Q q 36 1 x8 x4 G3) fun G9 =>
  bP (ld Q q 42 x0 (G9.room 10)) fun x10 =>
  bP (ld Q q 42 x0 (G9.room 10)) fun x11 =>
  bP (ld Q q 42 x0 (G9.room 10)) fun x12 =>
  bP (pNil x12) fun x13 =>
  bP (fa Q q 82 0 0 x13) fun x14 =>
  bS (bs Q q 243 3 (rep z85 3) 1 [(0, 0, 1), (1, 1, 1), (2, 2, 1)] [(.func (.func 147) #[x10] #[]), (.func (.func 148) #[x11] #[]), (.func (.func 52) #[x14] #[])] ((G9.room 10).at' (G9.nx + 8))) fun x15 G16 =>
  bP (ln Q q 243 x15) fun x17 =>
  bL q e 97 0 (subAt [1, 0, 1, 1, 1, 1, 1, 0, 0] (bodyOf Tryz.f97)) 91 (tu (nth undef [v0, v1]) [(2, x0), (4, x4), (5, x5), (6, x15), (9, x2), (10, v1), (11, x2), (12, x4), (13, x5), (14, x6), (15, x4), (16, x7), (17, x8), (18, x10), (19, (.func (.func 147) #[x10] #[])), (20, x11), (21, (.func (.func 148) #[x11] #[])), (22, x12), (23, x13), (24, x14), (25, (.func (.func 52) #[x14] #[])), (26, x15), (27, x15), (28, x17), (29, (.int .i64 0))]) (G16.back (G9.room 10)) fun e18 t19 G20 =>
  ifE e18 (.exit 0) (
  some (.tuple #[], G20)) (ifE e18 (.goto 0) (
  bX (e.ev.sc (subAt [1, 0] (bodyOf Tryz.f97)) (labelAt 0 (subAt [1, 0] (bodyOf Tryz.f97))) (lst 91 t19) G20) fun e21 T22 G23 =>
  ifE e21 .normal (
  some (.tuple #[], G23)) (ifE e21 (.goto 0) (
  none) (ifE e21 .ret (
  some (.tuple #[], G23)) (none)))) (ifE e18 .ret (
  some (.tuple #[], G20)) (none)))
theorem m97 {e : Ex} {E : Ev} (h : ExLe Q e E) (v0 v1 : Value) (G : GS) : Ref (s97 true e v0 v1 G) (s97 false (Ex.of E) v0 v1 G) := by
  unfold s97
  exact Ref.go
set_option maxHeartbeats 8000000 in
theorem f97 {orc : FuncId → Bool} {e : Ex} (h : ExLe Q e (E orc)) (v0 v1 : Value) (G : GS) : Ref (s97 true e v0 v1 G) ((E orc).cl 97 [v0, v1] G) :=
  fun r hr => cl_sxE_some Q orc (vs := [v0, v1]) G Tryz.func97 (by kernel_rfl) (by kernel_rfl) (by kernel_rfl) (by kernel_rfl) (by kernel_rfl) (by kernel_rfl) (m97 h v0 v1 G r hr)
/-- coxswain/claim.seek[coxswain/claim.taking] -/
noncomputable def s98 (q : Bool) (e : Ex) (v0 : Value) (G : GS) : Option (Value × GS) :=
  bS (bx q v0 G) fun x0 G1 =>
  bS (al Q q 169 z169 G1) fun x2 G3 =>
  bP (lda Q q 31 13 x0 G3) fun x4 =>
  bS (e.ev.cl 103 [x4, (.int .i64 (-1)), (.int .i64 0)] G3) fun x5 G6 =>
  bP (bn Q q .lss 3 (.tmp 4) (.const (.int .i64 0)) x5 (.int .i64 0)) fun x7 =>
  ifV x7 (
  bP (bd Q q 169 z169 [(8, 24, 1), (2, 17, 1), (9, 25, 1)] [(.bool true), (.int .i64 99), (.int .i64 2)]) fun x8 =>
  bP (st Q q 169 26 x2 x8 G6) fun G9 =>
  bP (lda Q q 169 26 x2 G9) fun x10 =>
  some (x10, G9)) (
  bP (lda Q q 31 13 x0 G6) fun x11 =>
  bP (bd Q q 169 z169 [(0, 0, 13), (8, 24, 1), (2, 17, 1)] [x11, (.bool true), (.int .i64 1)]) fun x12 =>
  bP (st Q q 169 26 x2 x12 G6) fun G13 =>
  bP (lda Q q 169 26 x2 G13) fun x14 =>
  some (x14, G13))
theorem m98 {e : Ex} {E : Ev} (h : ExLe Q e E) (v0 : Value) (G : GS) : Ref (s98 true e v0 G) (s98 false (Ex.of E) v0 G) := by
  unfold s98
  exact Ref.go
theorem f98 {orc : FuncId → Bool} {e : Ex} (h : ExLe Q e (E orc)) (v0 : Value) (G : GS) : Ref (s98 true e v0 G) ((E orc).cl 98 [v0] G) :=
  fun r hr => cl_sxE_some Q orc (vs := [v0]) G Tryz.func98 (by kernel_rfl) (by kernel_rfl) (by kernel_rfl) (by kernel_rfl) (by kernel_rfl) (by kernel_rfl) (m98 h v0 G r hr)
/-- (*coxswain/claim.seeker[coxswain/claim.taking]).item -/
noncomputable def s99 (q : Bool) (e : Ex) (v0 : Value) (G : GS) : Option (Value × GS) :=
  bS (al Q q 38 z38 G) fun x0 G1 =>
  bP (pNil v0) fun x2 =>
  bP (fa Q q 169 8 24 x2) fun x3 =>
  bP (ld Q q 4 x3 G1) fun x4 =>
  bP (un Q q .not x4) fun x5 =>
  ifV x5 (
  bP (bd Q q 38 z38 [] []) fun x6 =>
  bP (st Q q 38 2 x0 x6 G1) fun G7 =>
  bP (lda Q q 38 2 x0 G7) fun x8 =>
  some (.tuple #[x8, (.int .i64 1)], G7)) (
  bP (pNil v0) fun x9 =>
  bP (fa Q q 169 2 17 x9) fun x10 =>
  bP (ld Q q 3 x10 G1) fun x11 =>
  bP (bn Q q .neq 3 (.tmp 15) (.const (.int .i64 99)) x11 (.int .i64 99)) fun x12 =>
  ifV x12 (
  bP (bd Q q 38 z38 [] []) fun x13 =>
  bP (st Q q 38 2 x0 x13 G1) fun G14 =>
  bP (lda Q q 38 2 x0 G14) fun x15 =>
  some (.tuple #[x15, (.int .i64 14)], G14)) (
  bP (pNil v0) fun x16 =>
  bP (fa Q q 169 9 25 x16) fun x17 =>
  bP (ld Q q 39 x17 G1) fun x18 =>
  bP (bn Q q .neq 39 (.tmp 22) (.const (.int .i64 0)) x18 (.int .i64 0)) fun x19 =>
  ifV x19 (
  bP (bd Q q 38 z38 [] []) fun x20 =>
  bP (pNil v0) fun x21 =>
  bP (fa Q q 169 9 25 x21) fun x22 =>
  bP (ld Q q 39 x22 (G1.room 7)) fun x23 =>
  bP (st Q q 38 2 x0 x20 (G1.room 7)) fun G24 =>
  chk ((sameO (ld Q q 39 x22 G24) x23 && true)) <|
  bP (lda Q q 38 2 x0 G24) fun x25 =>
  some (.tuple #[x25, x23], G24)) (
  bP (pNil v0) fun x26 =>
  bP (fa Q q 169 6 21 x26) fun x27 =>
  bP (lda Q q 38 2 x27 G1) fun x28 =>
  bP (st Q q 38 2 x0 x28 G1) fun G29 =>
  bP (lda Q q 38 2 x0 G29) fun x30 =>
  some (.tuple #[x30, (.int .i64 0)], G29))))
theorem m99 {e : Ex} {E : Ev} (h : ExLe Q e E) (v0 : Value) (G : GS) : Ref (s99 true e v0 G) (s99 false (Ex.of E) v0 G) := by
  unfold s99
  exact Ref.go
theorem f99 {orc : FuncId → Bool} {e : Ex} (h : ExLe Q e (E orc)) (v0 : Value) (G : GS) : Ref (s99 true e v0 G) ((E orc).cl 99 [v0] G) :=
  fun r hr => cl_sxE_some Q orc (vs := [v0]) G Tryz.func99 (by kernel_rfl) (by kernel_rfl) (by kernel_rfl) (by kernel_rfl) (by kernel_rfl) (by kernel_rfl) (m99 h v0 G r hr)
/-- (*coxswain/ready.work).unpin$1 -/
noncomputable def s100 (q : Bool) (e : Ex) (v0 : Value) (G : GS) : Option (Value × GS) :=
  bP (ld Q q 99 v0 (G.room 12)) fun x0 =>
  bP (pNil x0) fun x1 =>
  bP (fa Q q 79 0 0 x1) fun x2 =>
  bP (fa Q q 31 3 3 x2) fun x3 =>
  bP (fa Q q 29 1 6 x3) fun x4 =>
  bP (lda Q q 27 3 x4 (G.room 12)) fun x5 =>
  bP (ld Q q 99 v0 (G.room 12)) fun x6 =>
  bP (pNil x6) fun x7 =>
  bP (fa Q q 79 1 13 x7) fun x8 =>
  bP (ld Q q 3 x8 (G.room 12)) fun x9 =>
  bS (e.ev.cl 101 [x5, x9] (G.room 12)) fun x11 G10 =>
  some (x11, G10)
theorem m100 {e : Ex} {E : Ev} (h : ExLe Q e E) (v0 : Value) (G : GS) : Ref (s100 true e v0 G) (s100 false (Ex.of E) v0 G) := by
  unfold s100
  exact Ref.go
theorem f100 {orc : FuncId → Bool} {e : Ex} (h : ExLe Q e (E orc)) (v0 : Value) (G : GS) : Ref (s100 true e v0 G) ((E orc).cl 100 [v0] G) :=
  fun r hr => cl_sxE_some Q orc (vs := [v0]) G Tryz.func100 (by kernel_rfl) (by kernel_rfl) (by kernel_rfl) (by kernel_rfl) (by kernel_rfl) (by kernel_rfl) (m100 h v0 G r hr)
/-- coxswain/epoch.NewUnpin -/
noncomputable def s101 (q : Bool) (e : Ex) (v0 v1 : Value) (G : GS) : Option (Value × GS) :=
  bS (bx q v0 G) fun x0 G1 =>
  bP (bd Q q 230 z230 [(2, 4, 1)] [(.bool true)]) fun x2 =>
  bP (fa Q q 27 1 1 x0) fun x3 =>
  bP (ld Q q 3 x3 G1) fun x4 =>
  bP (bn Q q .add 3 (.tmp 8) (.tmp 9) x4 v1) fun x5 =>
  bP (bd Q q 247 z247 [(0, 0, 6), (1, 6, 1)] [x2, x5]) fun x6 =>
  bS (bx q x6 G1) fun x7 G8 =>
  bP (lda Q q 27 3 x0 G8) fun x9 =>
  bS (e.ev.cl 138 [x9, v1] G8) fun x10 G11 =>
  ifV x10 (
  bP (pNil x7) fun x12 =>
  bP (fa Q q 247 0 0 x12) fun x13 =>
  bS (e.ev.cl 139 [x13, (.int .i64 3)] G11) fun x14 G15 =>
  some (x7, G15)) (
  bP (pNil x7) fun x16 =>
  bP (fa Q q 247 0 0 x16) fun x17 =>
  bP (fa Q q 230 0 0 x17) fun x18 =>
  bP (iaa Q q 228 3 1 x18 (.int .i64 0)) fun x19 =>
  bP (st Q q 203 1 x19 (.func (.func 151) #[x7] #[]) G11) fun G20 =>
  some (x7, G20))
theorem m101 {e : Ex} {E : Ev} (h : ExLe Q e E) (v0 v1 : Value) (G : GS) : Ref (s101 true e v0 v1 G) (s101 false (Ex.of E) v0 v1 G) := by
  unfold s101
  exact Ref.go
theorem f101 {orc : FuncId → Bool} {e : Ex} (h : ExLe Q e (E orc)) (v0 v1 : Value) (G : GS) : Ref (s101 true e v0 v1 G) ((E orc).cl 101 [v0, v1] G) :=
  fun r hr => cl_sxE_some Q orc (vs := [v0, v1]) G Tryz.func101 (by kernel_rfl) (by kernel_rfl) (by kernel_rfl) (by kernel_rfl) (by kernel_rfl) (by kernel_rfl) (m101 h v0 v1 G r hr)
/-- (*coxswain/ready.Look).Step -/
noncomputable def s102 (q : Bool) (e : Ex) (v0 v1 : Value) (G : GS) : Option (Value × GS) :=
  bP (ep Q q false 135 (.tmp 5) (.const (.pointer none)) v0 (.pointer none)) fun x0 =>
  bS (gd x0 false (some (v0, G)) G) fun x1 G2 =>
  bS (gd x0 false (bP (pNil x1) fun y => some (y, G2)) G2) fun x3 G4 =>
  bS (gd x0 false (bP (fa Q q 210 0 0 x3) fun y => some (y, G4)) G4) fun x5 G6 =>
  bS (gd x0 false (some (v1, G6)) G6) fun x7 G8 =>
  bS (gd x0 false (bS (e.ev.cl 65 [x5, x7] G8) fun y G => some (y, G)) G8) fun x9 G10 =>
  bP (pickV x0 (.bool true) x9) fun x11 =>
  some (x11, G10)
theorem m102 {e : Ex} {E : Ev} (h : ExLe Q e E) (v0 v1 : Value) (G : GS) : Ref (s102 true e v0 v1 G) (s102 false (Ex.of E) v0 v1 G) := by
  unfold s102
  exact Ref.go
theorem f102 {orc : FuncId → Bool} {e : Ex} (h : ExLe Q e (E orc)) (v0 v1 : Value) (G : GS) : Ref (s102 true e v0 v1 G) ((E orc).cl 102 [v0, v1] G) :=
  fun r hr => cl_sxE_some Q orc (vs := [v0, v1]) G Tryz.func102 (by kernel_rfl) (by kernel_rfl) (by kernel_rfl) (by kernel_rfl) (by kernel_rfl) (by kernel_rfl) (m102 h v0 v1 G r hr)
/-- coxswain/tower.Next -/
noncomputable def s103 (q : Bool) (e : Ex) (v0 v1 v2 : Value) (G : GS) : Option (Value × GS) :=
  bS (bx q v0 G) fun x0 G1 =>
  bP (bn Q q .lss 3 (.tmp 7) (.const (.int .i64 0)) v2 (.int .i64 0)) fun x2 =>
  bS (gd x2 false (some (v2, G1)) G1) fun x3 G4 =>
  bS (gd x2 false (bP (bn Q q .geq 3 (.tmp 10) (.const (.int .i64 4)) x3 (.int .i64 4)) fun y => some (y, G4)) G4) fun x5 G6 =>
  bP (pickV x2 (.bool true) x5) fun x7 =>
  ifV x7 (
  some ((.int .i64 (-1)), G6)) (
  bP (lda Q q 31 13 x0 G6) fun x8 =>
  bP (bn Q q .add 3 (.const (.int .i64 4)) (.tmp 15) (.int .i64 4) v2) fun x9 =>
  bS (e.ev.cl 90 [x8, v1, x9] G6) fun x10 G11 =>
  some (x10, G11))
theorem m103 {e : Ex} {E : Ev} (h : ExLe Q e E) (v0 v1 v2 : Value) (G : GS) : Ref (s103 true e v0 v1 v2 G) (s103 false (Ex.of E) v0 v1 v2 G) := by
  unfold s103
  exact Ref.go
theorem f103 {orc : FuncId → Bool} {e : Ex} (h : ExLe Q e (E orc)) (v0 v1 v2 : Value) (G : GS) : Ref (s103 true e v0 v1 v2 G) ((E orc).cl 103 [v0, v1, v2] G) :=
  fun r hr => cl_sxE_some Q orc (vs := [v0, v1, v2]) G Tryz.func103 (by kernel_rfl) (by kernel_rfl) (by kernel_rfl) (by kernel_rfl) (by kernel_rfl) (by kernel_rfl) (m103 h v0 v1 v2 G r hr)
noncomputable def b104_0 (q : Bool) (e : Ex) (lp : Env → GS → Option (Exit × Env × GS)) (τ : Env) (G : GS) : Option (Exit × Env × GS) :=
  bV q (τ 3) fun a3_ =>
  bV q (τ 29) fun a29_ =>
  bV q (τ 30) fun a30_ =>
  bV q (τ 31) fun a31_ =>
  bP (bn Q q .lss 3 (.tmp 31) (.tmp 30) a31_ a30_) fun x0 =>
  ifV x0 (
  bP (ias Q q 248 1 a29_ a31_) fun x1 =>
  bP (ld Q q 188 x1 G) fun x2 =>
  bP (ias Q q 67 1 a3_ a31_) fun x3 =>
  bP (st Q q 36 1 x3 x2 G) fun G4 =>
  bP (bn Q q .add 3 (.tmp 31) (.const (.int .i64 1)) a31_ (.int .i64 1)) fun x5 =>
  lp (tu τ [(3, a3_), (29, a29_), (30, a30_), (31, x5), (4, a31_), (5, x2), (32, x0), (33, a31_), (34, x1), (35, x2), (36, a3_), (37, a31_), (38, x2), (39, x3), (40, x5)]) G4) (
  some ((.exit 0), clq q 42 (tu τ [(3, a3_), (29, a29_), (30, a30_), (31, a31_), (32, x0)]), G))
theorem mb104_0 {e : Ex} {E : Ev} (h : ExLe Q e E) {lp lp' : Env → GS → Option (Exit × Env × GS)} (hlp : LpLe lp lp') (τ : Env) (G : GS) : Ref (b104_0 true e lp τ G) (b104_0 false (Ex.of E) lp' τ G) := by
  unfold b104_0
  exact Ref.go
theorem l104_0 {orc : FuncId → Bool} {e : Ex} (h : ExLe Q e (E orc)) (lp : Env → GS → Option (Exit × Env × GS)) (hlp : ∀ τ G, Ref (lp τ G) (mapE ((E orc).lp (subAt [1, 1, 1, 0, 1, 0, 0] (bodyOf Tryz.f104)) (lst 42 τ) G))) (T : List Value) (G : GS) (hT : T.length = 42) : Ref (b104_0 true e lp (nth undef T) G) (mapE ((E orc).lp (subAt [1, 1, 1, 0, 1, 0, 0] (bodyOf Tryz.f104)) T G)) :=
  fun r hr => lp_sxM Q orc G hT (by kernel_rfl) (mb104_0 h ⟨hlp⟩ _ _ r hr)
/-- (*coxswain/cells.Mem).Words -/
noncomputable def s104 (q : Bool) (e : Ex) (v0 : Value) (G : GS) : Option (Value × GS) :=
  bP (ep Q q false 33 (.tmp 6) (.const (.pointer none)) v0 (.pointer none)) fun x0 =>
  bS (gd x0 false (some (v0, G)) G) fun x1 G2 =>
  bS (gd x0 false (bP (pNil x1) fun y => some (y, G2)) G2) fun x3 G4 =>
  bS (gd x0 false (bP (fa Q q 144 0 0 x3) fun y => some (y, G4)) G4) fun x5 G6 =>
  bS (gd x0 false (bP (ld Q q 142 x5 G6) fun y => some (y, G6)) G6) fun x7 G8 =>
  bS (gd x0 false (bP (ep Q q false 142 (.tmp 12) (.const (.pointer none)) x7 (.pointer none)) fun y => some (y, G8)) G8) fun x9 G10 =>
  bP (pickV x0 (.bool true) x9) fun x11 =>
  ifV x11 (
  some ((.slice none 0 0), G10)) (
  bP (pNil v0) fun x12 =>
  bP (fa Q q 144 1 1 x12) fun x13 =>
  bP (ld Q q 3 x13 G10) fun x14 =>
  bS (mk Q q 67 1 8 z36 x14 x14 G10) fun x15 G16 =>
  bP (pNil v0) fun x17 =>
  bP (fa Q q 144 0 0 x17) fun x18 =>
  bP (ld Q q 142 x18 (G16.room 12)) fun x19 =>
  bP (pNil x19) fun x20 =>
  bP (pNil v0) fun x21 =>
  bP (fa Q q 144 1 1 x21) fun x22 =>
  bP (ld Q q 3 x22 (G16.room 12)) fun x23 =>
  bP (sla Q q 190 4096 1 x20 none (some x23) none (G16.room 12)) fun x24 =>
  bP (ln Q q 248 x24) fun x25 =>
  bL q e 104 0 (subAt [1, 1, 1, 0, 1, 0, 0] (bodyOf Tryz.f104)) 42 (tu (nth undef [v0]) [(2, (.slice none 0 0)), (3, x15), (6, v0), (7, x0), (8, x0), (9, x1), (10, x3), (11, x5), (12, x7), (13, x9), (14, x11), (15, v0), (16, x12), (17, x13), (18, x14), (19, x15), (20, v0), (21, x17), (22, x18), (23, x19), (24, x20), (25, v0), (26, x21), (27, x22), (28, x23), (29, x24), (30, x25), (31, (.int .i64 0))]) (G16.room 12) fun e26 t27 G28 =>
  bV q (t27 3) fun t27x3_ =>
  ifE e26 (.exit 0) (
  some (t27x3_, G28)) (none))
theorem m104 {e : Ex} {E : Ev} (h : ExLe Q e E) (v0 : Value) (G : GS) : Ref (s104 true e v0 G) (s104 false (Ex.of E) v0 G) := by
  unfold s104
  exact Ref.go
theorem f104 {orc : FuncId → Bool} {e : Ex} (h : ExLe Q e (E orc)) (v0 : Value) (G : GS) : Ref (s104 true e v0 G) ((E orc).cl 104 [v0] G) :=
  fun r hr => cl_sxE_some Q orc (vs := [v0]) G Tryz.func104 (by kernel_rfl) (by kernel_rfl) (by kernel_rfl) (by kernel_rfl) (by kernel_rfl) (by kernel_rfl) (m104 h v0 G r hr)
/-- (coxswain/tower.memory).level -/
noncomputable def s105 (q : Bool) (e : Ex) (v0 v1 v2 : Value) (G : GS) : Option (Value × GS) :=
  bS (bx q v0 G) fun x0 G1 =>
  bS (bx q v1 G1) fun x2 G3 =>
  bS (bx q v2 G3) fun x4 G5 =>
  some ((.func (.func 152) #[] #[x2, x0, x4]), G5)
theorem m105 {e : Ex} {E : Ev} (h : ExLe Q e E) (v0 v1 v2 : Value) (G : GS) : Ref (s105 true e v0 v1 v2 G) (s105 false (Ex.of E) v0 v1 v2 G) := by
  unfold s105
  exact Ref.go
theorem f105 {orc : FuncId → Bool} {e : Ex} (h : ExLe Q e (E orc)) (v0 v1 v2 : Value) (G : GS) : Ref (s105 true e v0 v1 v2 G) ((E orc).cl 105 [v0, v1, v2] G) :=
  fun r hr => cl_sxE_some Q orc (vs := [v0, v1, v2]) G Tryz.func105 (by kernel_rfl) (by kernel_rfl) (by kernel_rfl) (by kernel_rfl) (by kernel_rfl) (by kernel_rfl) (m105 h v0 v1 v2 G r hr)
/-- coxswain/ready.NewTidy -/
noncomputable def s106 (q : Bool) (e : Ex) (v0 v1 : Value) (G : GS) : Option (Value × GS) :=
  bS (bx q v0 G) fun x0 G1 =>
  bP (lda Q q 31 13 x0 G1) fun x2 =>
  bS (e.ev.cl 44 [x2, v1] G1) fun x3 G4 =>
  bP (bd Q q 252 z252 [(0, 0, 19)] [x3]) fun x5 =>
  bS (bx q x5 G4) fun x6 G7 =>
  bS (al Q q 186 z186 G7) fun x8 G9 =>
  bP (st Q q 186 1 x8 x6 G9) fun G10 =>
  bP (ld Q q 186 x8 G10) fun x11 =>
  bP (pNil x11) fun x12 =>
  bP (fa Q q 252 0 0 x12) fun x13 =>
  bP (fa Q q 79 6 18 x13) fun x14 =>
  bP (ld Q q 39 x14 G10) fun x15 =>
  bP (bn Q q .eql 39 (.tmp 15) (.const (.int .i64 0)) x15 (.int .i64 0)) fun x16 =>
  ifV x16 (
  bP (ld Q q 186 x8 (G10.room 19)) fun x17 =>
  bP (ld Q q 186 x8 (G10.room 19)) fun x18 =>
  bP (pNil x18) fun x19 =>
  bP (fa Q q 252 0 0 x19) fun x20 =>
  bS (e.ev.cl 45 [x20] (G10.room 19)) fun x22 G21 =>
  chk ((sameO (ld Q q 186 x8 G21) x17 && true)) <|
  bP (ld Q q 186 x8 G21) fun x23 =>
  chk ((sameO (ld Q q 186 x8 (G10.room 19)) x23 && true)) <|
  bP (pNil x23) fun x24 =>
  bP (fa Q q 252 0 0 x24) fun x25 =>
  bS (e.ev.cl 150 [x25, (.func (.func 155) #[] #[x8])] G21) fun x27 G26 =>
  chk ((sameO (ld Q q 186 x8 G26) x17 && true)) <|
  bP (ld Q q 186 x8 G26) fun x28 =>
  chk ((sameO (ld Q q 186 x8 G21) x28 && (sameO (ld Q q 186 x8 (G10.room 19)) x28 && true))) <|
  bP (pNil x28) fun x29 =>
  bP (fa Q q 252 0 0 x29) fun x30 =>
  bS (e.ev.cl 52 [x30] G26) fun x32 G31 =>
  chk ((sameO (ld Q q 186 x8 G31) x17 && true)) <|
  bS (bs Q q 77 3 (rep z84 3) 1 [(0, 0, 1), (1, 1, 1), (2, 2, 1)] [x22, x27, x32] (G31.at' (G10.nx + 14))) fun x33 G34 =>
  bP (pNil x17) fun x35 =>
  bP (fa Q q 252 0 0 x35) fun x36 =>
  bP (fa Q q 79 4 16 x36) fun x37 =>
  bP (st Q q 77 1 x37 x33 (G34.back G31)) fun G38 =>
  bP (ld Q q 186 x8 G38) fun x39 =>
  some (x39, G38)) (
  bP (ld Q q 186 x8 G10) fun x40 =>
  some (x40, G10))
theorem m106 {e : Ex} {E : Ev} (h : ExLe Q e E) (v0 v1 : Value) (G : GS) : Ref (s106 true e v0 v1 G) (s106 false (Ex.of E) v0 v1 G) := by
  unfold s106
  exact Ref.go
theorem f106 {orc : FuncId → Bool} {e : Ex} (h : ExLe Q e (E orc)) (v0 v1 : Value) (G : GS) : Ref (s106 true e v0 v1 G) ((E orc).cl 106 [v0, v1] G) :=
  fun r hr => cl_sxE_some Q orc (vs := [v0, v1]) G Tryz.func106 (by kernel_rfl) (by kernel_rfl) (by kernel_rfl) (by kernel_rfl) (by kernel_rfl) (by kernel_rfl) (m106 h v0 v1 G r hr)
/-- (*coxswain/ready.Tidy).Step -/
noncomputable def s107 (q : Bool) (e : Ex) (v0 v1 : Value) (G : GS) : Option (Value × GS) :=
  bP (ep Q q false 186 (.tmp 5) (.const (.pointer none)) v0 (.pointer none)) fun x0 =>
  bS (gd x0 false (some (v0, G)) G) fun x1 G2 =>
  bS (gd x0 false (bP (pNil x1) fun y => some (y, G2)) G2) fun x3 G4 =>
  bS (gd x0 false (bP (fa Q q 252 0 0 x3) fun y => some (y, G4)) G4) fun x5 G6 =>
  bS (gd x0 false (some (v1, G6)) G6) fun x7 G8 =>
  bS (gd x0 false (bS (e.ev.cl 65 [x5, x7] G8) fun y G => some (y, G)) G8) fun x9 G10 =>
  bP (pickV x0 (.bool true) x9) fun x11 =>
  some (x11, G10)
theorem m107 {e : Ex} {E : Ev} (h : ExLe Q e E) (v0 v1 : Value) (G : GS) : Ref (s107 true e v0 v1 G) (s107 false (Ex.of E) v0 v1 G) := by
  unfold s107
  exact Ref.go
theorem f107 {orc : FuncId → Bool} {e : Ex} (h : ExLe Q e (E orc)) (v0 v1 : Value) (G : GS) : Ref (s107 true e v0 v1 G) ((E orc).cl 107 [v0, v1] G) :=
  fun r hr => cl_sxE_some Q orc (vs := [v0, v1]) G Tryz.func107 (by kernel_rfl) (by kernel_rfl) (by kernel_rfl) (by kernel_rfl) (by kernel_rfl) (by kernel_rfl) (m107 h v0 v1 G r hr)
/-- (*coxswain/ready.Tidy).Many -/
noncomputable def s108 (q : Bool) (e : Ex) (v0 : Value) (G : GS) : Option (Value × GS) :=
  bP (ep Q q false 186 (.tmp 5) (.const (.pointer none)) v0 (.pointer none)) fun x0 =>
  ifV x0 (
  some (.tuple #[(.int .i64 0), (.int .i64 1)], G)) (
  bP (pNil v0) fun x1 =>
  bP (fa Q q 252 0 0 x1) fun x2 =>
  bS (e.ev.cl 55 [x2] G) fun x3 G4 =>
  bP (bn Q q .neq 39 (.tmp 11) (.const (.int .i64 0)) x3 (.int .i64 0)) fun x5 =>
  ifV x5 (
  some (.tuple #[(.int .i64 0), x3], G4)) (
  bP (pNil v0) fun x6 =>
  bP (fa Q q 252 1 19 x6) fun x7 =>
  bP (ld Q q 3 x7 (G4.room 10)) fun x8 =>
  bP (pNil v0) fun x9 =>
  bP (fa Q q 252 2 20 x9) fun x10 =>
  bP (ld Q q 39 x10 (G4.room 10)) fun x11 =>
  some (.tuple #[x8, x11], (G4.room 10))))
theorem m108 {e : Ex} {E : Ev} (h : ExLe Q e E) (v0 : Value) (G : GS) : Ref (s108 true e v0 G) (s108 false (Ex.of E) v0 G) := by
  unfold s108
  exact Ref.go
theorem f108 {orc : FuncId → Bool} {e : Ex} (h : ExLe Q e (E orc)) (v0 : Value) (G : GS) : Ref (s108 true e v0 G) ((E orc).cl 108 [v0] G) :=
  fun r hr => cl_sxE_some Q orc (vs := [v0]) G Tryz.func108 (by kernel_rfl) (by kernel_rfl) (by kernel_rfl) (by kernel_rfl) (by kernel_rfl) (by kernel_rfl) (m108 h v0 G r hr)
/-- coxswain/tower.sound -/
noncomputable def s109 (q : Bool) (e : Ex) (v0 : Value) (G : GS) : Option (Value × GS) :=
  bS (bx q v0 G) fun x0 G1 =>
  bP (fa Q q 31 3 3 x0) fun x2 =>
  bP (fa Q q 29 0 0 x2) fun x3 =>
  bP (fa Q q 25 0 0 x3) fun x4 =>
  bP (fa Q q 23 2 2 x4) fun x5 =>
  bP (ld Q q 3 x5 G1) fun x6 =>
  bP (fa Q q 31 2 2 x0) fun x7 =>
  bP (ld Q q 3 x7 G1) fun x8 =>
  bP (bn Q q .geq 3 (.tmp 10) (.const (.int .i64 1)) x8 (.int .i64 1)) fun x9 =>
  bS (gd x9 true (bP (fa Q q 31 2 2 x0) fun y => some (y, G1)) G1) fun x10 G11 =>
  bS (gd x9 true (bP (ld Q q 3 x10 G11) fun y => some (y, G11)) G11) fun x12 G13 =>
  bS (gd x9 true (bP (bn Q q .leq 3 (.tmp 14) (.const (.int .i64 4)) x12 (.int .i64 4)) fun y => some (y, G13)) G13) fun x14 G15 =>
  bP (pickV x9 x14 (.bool false)) fun x16 =>
  bS (gd x16 true (some (x6, G15)) G15) fun x17 G18 =>
  bS (gd x16 true (bP (bn Q q .geq 3 (.tmp 18) (.const (.int .i64 1)) x17 (.int .i64 1)) fun y => some (y, G18)) G18) fun x19 G20 =>
  bP (pickV x16 x19 (.bool false)) fun x21 =>
  bS (gd x21 true (some (x6, G20)) G20) fun x22 G23 =>
  bS (gd x21 true (bP (bn Q q .leq 3 (.tmp 22) (.const (.int .i64 128)) x22 (.int .i64 128)) fun y => some (y, G23)) G23) fun x24 G25 =>
  bP (pickV x21 x24 (.bool false)) fun x26 =>
  bS (gd x26 true (bP (fa Q q 31 0 0 x0) fun y => some (y, G25)) G25) fun x27 G28 =>
  bS (gd x26 true (bP (ld Q q 3 x27 G28) fun y => some (y, G28)) G28) fun x29 G30 =>
  bS (gd x26 true (bP (bn Q q .geq 3 (.tmp 27) (.const (.int .i64 0)) x29 (.int .i64 0)) fun y => some (y, G30)) G30) fun x31 G32 =>
  bP (pickV x26 x31 (.bool false)) fun x33 =>
  bS (gd x33 true (bP (fa Q q 31 0 0 x0) fun y => some (y, G32)) G32) fun x34 G35 =>
  bS (gd x33 true (bP (ld Q q 3 x34 G35) fun y => some (y, G35)) G35) fun x36 G37 =>
  bS (gd x33 true (bP (bn Q q .lss 3 (.tmp 32) (.const (.int .i64 4096)) x36 (.int .i64 4096)) fun y => some (y, G37)) G37) fun x38 G39 =>
  bP (pickV x33 x38 (.bool false)) fun x40 =>
  bS (gd x40 true (bP (fa Q q 31 1 1 x0) fun y => some (y, G39)) G39) fun x41 G42 =>
  bS (gd x40 true (bP (ld Q q 3 x41 G42) fun y => some (y, G42)) G42) fun x43 G44 =>
  bS (gd x40 true (bP (bn Q q .geq 3 (.tmp 37) (.const (.int .i64 0)) x43 (.int .i64 0)) fun y => some (y, G44)) G44) fun x45 G46 =>
  bP (pickV x40 x45 (.bool false)) fun x47 =>
  bS (gd x47 true (bP (fa Q q 31 1 1 x0) fun y => some (y, G46)) G46) fun x48 G49 =>
  bS (gd x47 true (bP (ld Q q 3 x48 G49) fun y => some (y, G49)) G49) fun x50 G51 =>
  bS (gd x47 true (bP (bn Q q .lss 3 (.tmp 42) (.const (.int .i64 4096)) x50 (.int .i64 4096)) fun y => some (y, G51)) G51) fun x52 G53 =>
  bP (pickV x47 x52 (.bool false)) fun x54 =>
  some (x54, G53)
theorem m109 {e : Ex} {E : Ev} (h : ExLe Q e E) (v0 : Value) (G : GS) : Ref (s109 true e v0 G) (s109 false (Ex.of E) v0 G) := by
  unfold s109
  exact Ref.go
theorem f109 {orc : FuncId → Bool} {e : Ex} (h : ExLe Q e (E orc)) (v0 : Value) (G : GS) : Ref (s109 true e v0 G) ((E orc).cl 109 [v0] G) :=
  fun r hr => cl_sxE_some Q orc (vs := [v0]) G Tryz.func109 (by kernel_rfl) (by kernel_rfl) (by kernel_rfl) (by kernel_rfl) (by kernel_rfl) (by kernel_rfl) (m109 h v0 G r hr)
noncomputable def b110_0 (q : Bool) (e : Ex) (lp : Env → GS → Option (Exit × Env × GS)) (τ : Env) (G : GS) : Option (Exit × Env × GS) :=
  bV q (τ 1) fun a1_ =>
  bV q (τ 2) fun a2_ =>
  bV q (τ 13) fun a13_ =>
  bP (bn Q q .lss 3 (.tmp 13) (.const (.int .i64 3)) a13_ (.int .i64 3)) fun x0 =>
  ifV x0 (
  bP (lda Q q 29 10 a2_ G) fun x1 =>
  bS (e.ev.cl 159 [a13_, x1] G) fun x2 G3 =>
  bP (fd Q q 23 0 0 x2) fun x4 =>
  bS (e.ev.cl 26 [a1_, x4, (.int .u64 0)] G3) fun x5 G6 =>
  bP (bn Q q .add 3 (.tmp 13) (.const (.int .i64 1)) a13_ (.int .i64 1)) fun x7 =>
  lp (tu τ [(1, a1_), (2, a2_), (13, x7), (4, a13_), (14, x0), (15, a13_), (16, a1_), (17, a13_), (18, x1), (19, x2), (20, x4), (21, x5), (22, x7)]) G6) (
  some ((.exit 0), clq q 23 (tu τ [(1, a1_), (2, a2_), (13, a13_), (14, x0)]), G))
theorem mb110_0 {e : Ex} {E : Ev} (h : ExLe Q e E) {lp lp' : Env → GS → Option (Exit × Env × GS)} (hlp : LpLe lp lp') (τ : Env) (G : GS) : Ref (b110_0 true e lp τ G) (b110_0 false (Ex.of E) lp' τ G) := by
  unfold b110_0
  exact Ref.go
theorem l110_0 {orc : FuncId → Bool} {e : Ex} (h : ExLe Q e (E orc)) (lp : Env → GS → Option (Exit × Env × GS)) (hlp : ∀ τ G, Ref (lp τ G) (mapE ((E orc).lp (subAt [1, 1, 1, 1, 0, 0] (bodyOf Tryz.f110)) (lst 23 τ) G))) (T : List Value) (G : GS) (hT : T.length = 23) : Ref (b110_0 true e lp (nth undef T) G) (mapE ((E orc).lp (subAt [1, 1, 1, 1, 0, 0] (bodyOf Tryz.f110)) T G)) :=
  fun r hr => lp_sxM Q orc G hT (by kernel_rfl) (mb110_0 h ⟨hlp⟩ _ _ r hr)
/-- coxswain/limbo.Fill -/
noncomputable def s110 (q : Bool) (e : Ex) (v0 v1 : Value) (G : GS) : Option (Value × GS) :=
  bS (bx q v0 G) fun x0 G1 =>
  bP (fa Q q 29 0 0 x0) fun x2 =>
  bP (lda Q q 25 6 x2 G1) fun x3 =>
  bS (e.ev.cl 157 [x3, v1] G1) fun x4 G5 =>
  bP (fa Q q 29 1 6 x0) fun x6 =>
  bP (lda Q q 27 3 x6 G5) fun x7 =>
  bS (e.ev.cl 158 [x7, v1] G5) fun x8 G9 =>
  bL q e 110 0 (subAt [1, 1, 1, 1, 0, 0] (bodyOf Tryz.f110)) 23 (tu (nth undef [v0, v1]) [(2, x0), (5, x2), (6, x3), (7, v1), (8, x4), (9, x6), (10, x7), (11, v1), (12, x8), (13, (.int .i64 0))]) G9 fun e10 t11 G12 =>
  ifE e10 (.exit 0) (
  some (.tuple #[], G12)) (none)
theorem m110 {e : Ex} {E : Ev} (h : ExLe Q e E) (v0 v1 : Value) (G : GS) : Ref (s110 true e v0 v1 G) (s110 false (Ex.of E) v0 v1 G) := by
  unfold s110
  exact Ref.go
theorem f110 {orc : FuncId → Bool} {e : Ex} (h : ExLe Q e (E orc)) (v0 v1 : Value) (G : GS) : Ref (s110 true e v0 v1 G) ((E orc).cl 110 [v0, v1] G) :=
  fun r hr => cl_sxE_some Q orc (vs := [v0, v1]) G Tryz.func110 (by kernel_rfl) (by kernel_rfl) (by kernel_rfl) (by kernel_rfl) (by kernel_rfl) (by kernel_rfl) (m110 h v0 v1 G r hr)
/-- (*coxswain/cells.place).is -/
noncomputable def s121 (q : Bool) (e : Ex) (v0 : Value) (G : GS) : Option (Value × GS) :=
  bP (ep Q q true 120 (.tmp 3) (.const (.pointer none)) v0 (.pointer none)) fun x0 =>
  some (x0, G)
theorem m121 {e : Ex} {E : Ev} (h : ExLe Q e E) (v0 : Value) (G : GS) : Ref (s121 true e v0 G) (s121 false (Ex.of E) v0 G) := by
  unfold s121
  exact Ref.go
theorem f121 {orc : FuncId → Bool} {e : Ex} (h : ExLe Q e (E orc)) (v0 : Value) (G : GS) : Ref (s121 true e v0 G) ((E orc).cl 121 [v0] G) :=
  fun r hr => cl_sxE_some Q orc (vs := [v0]) G Tryz.func121 (by kernel_rfl) (by kernel_rfl) (by kernel_rfl) (by kernel_rfl) (by kernel_rfl) (by kernel_rfl) (m121 h v0 G r hr)
/-- (*coxswain/run.Balance).looks -/
noncomputable def s122 (q : Bool) (e : Ex) (v0 v1 : Value) (G : GS) : Option (Value × GS) :=
  bP (pNil v0) fun x0 =>
  bP (fa Q q 138 2 5 x0) fun x1 =>
  bP (ld Q q 135 x1 G) fun x2 =>
  bS (e.ev.cl 102 [x2, v1] G) fun x3 G4 =>
  bP (pNil v0) fun x5 =>
  bP (fa Q q 138 2 5 x5) fun x6 =>
  bP (ld Q q 135 x6 G4) fun x7 =>
  bS (e.ev.cl 168 [x7] G4) fun x8 G9 =>
  bP (pNil v0) fun x10 =>
  bP (fa Q q 138 7 10 x10) fun x11 =>
  bP (st Q q 36 1 x11 x8 G9) fun G12 =>
  bP (un Q q .not x3) fun x13 =>
  ifV x13 (
  some (.tuple #[], G12)) (
  bP (pNil v0) fun x14 =>
  bP (fa Q q 138 2 5 x14) fun x15 =>
  bP (ld Q q 135 x15 G12) fun x16 =>
  bS (e.ev.cl 86 [x16] G12) fun x17 G18 =>
  bP (pExtract x17 0) fun x19 =>
  bP (pExtract x17 1) fun x20 =>
  bS (al Q q 38 z38 G18) fun x21 G22 =>
  bP (st Q q 38 2 x21 x19 G22) fun G23 =>
  bP (fa Q q 38 0 0 x21) fun x24 =>
  bP (ld Q q 36 x24 (G23.room 10)) fun x25 =>
  bP (pNil v0) fun x26 =>
  bP (fa Q q 138 2 5 x26) fun x27 =>
  bP (st Q q 135 1 x27 (.pointer none) (G23.room 10)) fun G28 =>
  chk ((sameO (ld Q q 36 x24 G28) x25 && true)) <|
  bP (pNil v0) fun x29 =>
  bP (fa Q q 138 3 6 x29) fun x30 =>
  bP (st Q q 36 1 x30 x25 G28) fun G31 =>
  bP (bn Q q .eql 39 (.tmp 39) (.const (.int .i64 0)) x20 (.int .i64 0)) fun x32 =>
  ifV x32 (
  some (.tuple #[], G31)) (
  bP (bn Q q .eql 39 (.tmp 39) (.const (.int .i64 15)) x20 (.int .i64 15)) fun x33 =>
  ifV x33 (
  bS (e.ev.cl 87 [v0, (.int .i64 0)] G31) fun x34 G35 =>
  some (.tuple #[], G35)) (
  bS (e.ev.cl 87 [v0, x20] G31) fun x36 G37 =>
  some (.tuple #[], G37))))
theorem m122 {e : Ex} {E : Ev} (h : ExLe Q e E) (v0 v1 : Value) (G : GS) : Ref (s122 true e v0 v1 G) (s122 false (Ex.of E) v0 v1 G) := by
  unfold s122
  exact Ref.go
theorem f122 {orc : FuncId → Bool} {e : Ex} (h : ExLe Q e (E orc)) (v0 v1 : Value) (G : GS) : Ref (s122 true e v0 v1 G) ((E orc).cl 122 [v0, v1] G) :=
  fun r hr => cl_sxE_some Q orc (vs := [v0, v1]) G Tryz.func122 (by kernel_rfl) (by kernel_rfl) (by kernel_rfl) (by kernel_rfl) (by kernel_rfl) (by kernel_rfl) (m122 h v0 v1 G r hr)
/-- (*coxswain/run.walk).next -/
noncomputable def s123 (q : Bool) (e : Ex) (v0 : Value) (G : GS) : Option (Value × GS) :=
  bP (pNil v0) fun x0 =>
  bP (fa Q q 134 1 1 x0) fun x1 =>
  bP (ld Q q 3 x1 G) fun x2 =>
  bP (bn Q q .eql 3 (.tmp 7) (.const (.int .i64 0)) x2 (.int .i64 0)) fun x3 =>
  ifV x3 (
  some (.tuple #[(.int .i64 0), (.bool false)], G)) (
  bP (pNil v0) fun x4 =>
  bP (fa Q q 134 0 0 x4) fun x5 =>
  bP (ld Q q 3 x5 G) fun x6 =>
  bP (bn Q q .add 3 (.tmp 12) (.const (.int .i64 1)) x6 (.int .i64 1)) fun x7 =>
  bP (pNil v0) fun x8 =>
  bP (fa Q q 134 0 0 x8) fun x9 =>
  bP (st Q q 3 1 x9 x7 G) fun G10 =>
  bP (pNil v0) fun x11 =>
  bP (fa Q q 134 1 1 x11) fun x12 =>
  bP (ld Q q 3 x12 G10) fun x13 =>
  bP (bn Q q .sub 3 (.tmp 19) (.const (.int .i64 1)) x13 (.int .i64 1)) fun x14 =>
  bP (pNil v0) fun x15 =>
  bP (fa Q q 134 1 1 x15) fun x16 =>
  bP (st Q q 3 1 x16 x14 G10) fun G17 =>
  bP (pNil v0) fun x18 =>
  bP (fa Q q 134 0 0 x18) fun x19 =>
  bP (ld Q q 3 x19 G17) fun x20 =>
  bP (bn Q q .sub 3 (.tmp 26) (.const (.int .i64 1)) x20 (.int .i64 1)) fun x21 =>
  some (.tuple #[x21, (.bool true)], G17))
theorem m123 {e : Ex} {E : Ev} (h : ExLe Q e E) (v0 : Value) (G : GS) : Ref (s123 true e v0 G) (s123 false (Ex.of E) v0 G) := by
  unfold s123
  exact Ref.go
theorem f123 {orc : FuncId → Bool} {e : Ex} (h : ExLe Q e (E orc)) (v0 : Value) (G : GS) : Ref (s123 true e v0 G) ((E orc).cl 123 [v0] G) :=
  fun r hr => cl_sxE_some Q orc (vs := [v0]) G Tryz.func123 (by kernel_rfl) (by kernel_rfl) (by kernel_rfl) (by kernel_rfl) (by kernel_rfl) (by kernel_rfl) (m123 h v0 G r hr)
/-- (*coxswain/cells.Mem).Load -/
noncomputable def s124 (q : Bool) (e : Ex) (v0 v1 : Value) (G : GS) : Option (Value × GS) :=
  bS (e.ev.cl 73 [v0, v1] G) fun x0 G1 =>
  bP (bd Q q 123 z123 [(0, 0, 1)] [x0]) fun x2 =>
  bS (al Q q 123 z123 G1) fun x3 G4 =>
  bP (st Q q 123 3 x3 x2 G4) fun G5 =>
  bP (fa Q q 123 0 0 x3) fun x6 =>
  bP (ld Q q 120 x6 G5) fun x7 =>
  bP (lda Q q 123 3 x3 G5) fun x8 =>
  bS (e.ev.cl 74 [v0, (.int .i64 1), v1, x7, (.func (.func 169) #[x8] #[])] G5) fun x9 G10 =>
  bP (fd Q q 117 3 3 x9) fun x11 =>
  some (x11, G10)
theorem m124 {e : Ex} {E : Ev} (h : ExLe Q e E) (v0 v1 : Value) (G : GS) : Ref (s124 true e v0 v1 G) (s124 false (Ex.of E) v0 v1 G) := by
  unfold s124
  exact Ref.go
theorem f124 {orc : FuncId → Bool} {e : Ex} (h : ExLe Q e (E orc)) (v0 v1 : Value) (G : GS) : Ref (s124 true e v0 v1 G) ((E orc).cl 124 [v0, v1] G) :=
  fun r hr => cl_sxE_some Q orc (vs := [v0, v1]) G Tryz.func124 (by kernel_rfl) (by kernel_rfl) (by kernel_rfl) (by kernel_rfl) (by kernel_rfl) (by kernel_rfl) (m124 h v0 v1 G r hr)
/-- cmp.isNaN[uint64] -/
noncomputable def s126 (q : Bool) (e : Ex) (v0 : Value) (G : GS) : Option (Value × GS) :=
  bP (bn Q q .neq 36 (.tmp 3) (.tmp 4) v0 v0) fun x0 =>
  some (x0, G)
theorem m126 {e : Ex} {E : Ev} (h : ExLe Q e E) (v0 : Value) (G : GS) : Ref (s126 true e v0 G) (s126 false (Ex.of E) v0 G) := by
  unfold s126
  exact Ref.go
theorem f126 {orc : FuncId → Bool} {e : Ex} (h : ExLe Q e (E orc)) (v0 : Value) (G : GS) : Ref (s126 true e v0 G) ((E orc).cl 126 [v0] G) :=
  fun r hr => cl_sxE_some Q orc (vs := [v0]) G Tryz.func126 (by kernel_rfl) (by kernel_rfl) (by kernel_rfl) (by kernel_rfl) (by kernel_rfl) (by kernel_rfl) (m126 h v0 G r hr)
/-- coxswain/ready.NewLook$1 -/
noncomputable def s129 (q : Bool) (e : Ex) (v0 : Value) (G : GS) : Option (Value × GS) :=
  bP (lda Q q 31 13 v0 G) fun x0 =>
  bS (e.ev.cl 130 [x0] G) fun x1 G2 =>
  some (x1, G2)
theorem m129 {e : Ex} {E : Ev} (h : ExLe Q e E) (v0 : Value) (G : GS) : Ref (s129 true e v0 G) (s129 false (Ex.of E) v0 G) := by
  unfold s129
  exact Ref.go
theorem f129 {orc : FuncId → Bool} {e : Ex} (h : ExLe Q e (E orc)) (v0 : Value) (G : GS) : Ref (s129 true e v0 G) ((E orc).cl 129 [v0] G) :=
  fun r hr => cl_sxE_some Q orc (vs := [v0]) G Tryz.func129 (by kernel_rfl) (by kernel_rfl) (by kernel_rfl) (by kernel_rfl) (by kernel_rfl) (by kernel_rfl) (m129 h v0 G r hr)
/-- coxswain/claim.NewPeek -/
noncomputable def s130 (q : Bool) (e : Ex) (v0 : Value) (G : GS) : Option (Value × GS) :=
  bS (bx q v0 G) fun x0 G1 =>
  bP (lda Q q 31 13 x0 G1) fun x2 =>
  bS (e.ev.cl 180 [x2] G1) fun x3 G4 =>
  bP (bd Q q 284 z284 [(0, 0, 22)] [x3]) fun x5 =>
  bS (bx q x5 G4) fun x6 G7 =>
  some (x6, G7)
theorem m130 {e : Ex} {E : Ev} (h : ExLe Q e E) (v0 : Value) (G : GS) : Ref (s130 true e v0 G) (s130 false (Ex.of E) v0 G) := by
  unfold s130
  exact Ref.go
theorem f130 {orc : FuncId → Bool} {e : Ex} (h : ExLe Q e (E orc)) (v0 : Value) (G : GS) : Ref (s130 true e v0 G) ((E orc).cl 130 [v0] G) :=
  fun r hr => cl_sxE_some Q orc (vs := [v0]) G Tryz.func130 (by kernel_rfl) (by kernel_rfl) (by kernel_rfl) (by kernel_rfl) (by kernel_rfl) (by kernel_rfl) (m130 h v0 G r hr)
/-- (*coxswain/claim.Peek).By -/
noncomputable def s131 (q : Bool) (e : Ex) (v0 : Value) (G : GS) : Option (Value × GS) :=
  bP (ep Q q false 212 (.tmp 3) (.const (.pointer none)) v0 (.pointer none)) fun x0 =>
  ifV x0 (
  some ((.int .u64 0), G)) (
  bP (pNil v0) fun x1 =>
  bP (fa Q q 284 0 0 x1) fun x2 =>
  bP (fa Q q 281 7 19 x2) fun x3 =>
  bP (ld Q q 36 x3 G) fun x4 =>
  some (x4, G))
theorem m131 {e : Ex} {E : Ev} (h : ExLe Q e E) (v0 : Value) (G : GS) : Ref (s131 true e v0 G) (s131 false (Ex.of E) v0 G) := by
  unfold s131
  exact Ref.go
theorem f131 {orc : FuncId → Bool} {e : Ex} (h : ExLe Q e (E orc)) (v0 : Value) (G : GS) : Ref (s131 true e v0 G) ((E orc).cl 131 [v0] G) :=
  fun r hr => cl_sxE_some Q orc (vs := [v0]) G Tryz.func131 (by kernel_rfl) (by kernel_rfl) (by kernel_rfl) (by kernel_rfl) (by kernel_rfl) (by kernel_rfl) (m131 h v0 G r hr)
/-- coxswain/ready.NewLook$2 -/
noncomputable def s132 (q : Bool) (e : Ex) (v0 v1 : Value) (G : GS) : Option (Value × GS) :=
  bP (ld Q q 135 v1 (G.room 15)) fun x0 =>
  bP (ld Q q 135 v1 (G.room 15)) fun x1 =>
  bS (e.ev.cl 133 [v0] (G.room 15)) fun x3 G2 =>
  chk ((sameO (ld Q q 135 v1 G2) x1 && (sameO (ld Q q 135 v1 G2) x0 && true))) <|
  bP (pExtract x3 0) fun x4 =>
  bP (pExtract x3 1) fun x5 =>
  bP (pNil x0) fun x6 =>
  bP (fa Q q 210 1 19 x6) fun x7 =>
  bP (fa Q q 87 0 0 x7) fun x8 =>
  bP (st Q q 38 2 x8 x4 G2) fun G9 =>
  chk ((sameO (ld Q q 135 v1 G9) x1 && true)) <|
  bP (pNil x1) fun x10 =>
  bP (fa Q q 210 1 19 x10) fun x11 =>
  bP (fa Q q 87 1 2 x11) fun x12 =>
  bP (st Q q 39 1 x12 x5 G9) fun G13 =>
  some (.tuple #[], G13)
theorem m132 {e : Ex} {E : Ev} (h : ExLe Q e E) (v0 v1 : Value) (G : GS) : Ref (s132 true e v0 v1 G) (s132 false (Ex.of E) v0 v1 G) := by
  unfold s132
  exact Ref.go
theorem f132 {orc : FuncId → Bool} {e : Ex} (h : ExLe Q e (E orc)) (v0 v1 : Value) (G : GS) : Ref (s132 true e v0 v1 G) ((E orc).cl 132 [v0, v1] G) :=
  fun r hr => cl_sxE_some Q orc (vs := [v0, v1]) G Tryz.func132 (by kernel_rfl) (by kernel_rfl) (by kernel_rfl) (by kernel_rfl) (by kernel_rfl) (by kernel_rfl) (m132 h v0 v1 G r hr)
/-- (*coxswain/claim.Peek).Item -/
noncomputable def s133 (q : Bool) (e : Ex) (v0 : Value) (G : GS) : Option (Value × GS) :=
  bS (al Q q 38 z38 G) fun x0 G1 =>
  bP (ep Q q false 212 (.tmp 4) (.const (.pointer none)) v0 (.pointer none)) fun x2 =>
  ifV x2 (
  bP (bd Q q 38 z38 [] []) fun x3 =>
  bP (st Q q 38 2 x0 x3 G1) fun G4 =>
  bP (lda Q q 38 2 x0 G4) fun x5 =>
  some (.tuple #[x5, (.int .i64 1)], G4)) (
  bP (pNil v0) fun x6 =>
  bP (fa Q q 284 0 0 x6) fun x7 =>
  bS (e.ev.cl 181 [x7] G1) fun x8 G9 =>
  bP (pExtract x8 0) fun x10 =>
  bP (pExtract x8 1) fun x11 =>
  bP (st Q q 38 2 x0 x10 G9) fun G12 =>
  bP (lda Q q 38 2 x0 G12) fun x13 =>
  some (.tuple #[x13, x11], G12))
theorem m133 {e : Ex} {E : Ev} (h : ExLe Q e E) (v0 : Value) (G : GS) : Ref (s133 true e v0 G) (s133 false (Ex.of E) v0 G) := by
  unfold s133
  exact Ref.go
theorem f133 {orc : FuncId → Bool} {e : Ex} (h : ExLe Q e (E orc)) (v0 : Value) (G : GS) : Ref (s133 true e v0 G) ((E orc).cl 133 [v0] G) :=
  fun r hr => cl_sxE_some Q orc (vs := [v0]) G Tryz.func133 (by kernel_rfl) (by kernel_rfl) (by kernel_rfl) (by kernel_rfl) (by kernel_rfl) (by kernel_rfl) (m133 h v0 G r hr)
/-- coxswain/tower.nodes -/
noncomputable def s134 (q : Bool) (e : Ex) (v0 : Value) (G : GS) : Option (Value × GS) :=
  bS (bx q v0 G) fun x0 G1 =>
  bS (al Q q 221 z221 G1) fun x2 G3 =>
  bP (fa Q q 31 0 0 x0) fun x4 =>
  bP (ld Q q 3 x4 G3) fun x5 =>
  bP (fa Q q 31 3 3 x0) fun x6 =>
  bP (fa Q q 29 0 0 x6) fun x7 =>
  bP (fa Q q 25 0 0 x7) fun x8 =>
  bP (fa Q q 23 2 2 x8) fun x9 =>
  bP (ld Q q 3 x9 G3) fun x10 =>
  bP (fa Q q 31 2 2 x0) fun x11 =>
  bP (ld Q q 3 x11 G3) fun x12 =>
  bP (bd Q q 221 z221 [(0, 0, 1), (1, 1, 1), (2, 2, 1)] [x5, x10, x12]) fun x13 =>
  bP (st Q q 221 3 x2 x13 G3) fun G14 =>
  bP (lda Q q 221 3 x2 G14) fun x15 =>
  some (x15, G14)
theorem m134 {e : Ex} {E : Ev} (h : ExLe Q e E) (v0 : Value) (G : GS) : Ref (s134 true e v0 G) (s134 false (Ex.of E) v0 G) := by
  unfold s134
  exact Ref.go
theorem f134 {orc : FuncId → Bool} {e : Ex} (h : ExLe Q e (E orc)) (v0 : Value) (G : GS) : Ref (s134 true e v0 G) ((E orc).cl 134 [v0] G) :=
  fun r hr => cl_sxE_some Q orc (vs := [v0]) G Tryz.func134 (by kernel_rfl) (by kernel_rfl) (by kernel_rfl) (by kernel_rfl) (by kernel_rfl) (by kernel_rfl) (m134 h v0 G r hr)
/-- (coxswain/tower.rows[coxswain/tower.node]).at -/
noncomputable def s135 (q : Bool) (e : Ex) (v0 v1 v2 : Value) (G : GS) : Option (Value × GS) :=
  bS (bx q v0 G) fun x0 G1 =>
  bP (bn Q q .lss 3 (.tmp 7) (.const (.int .i64 0)) v1 (.int .i64 0)) fun x2 =>
  bS (gd x2 false (some (v1, G1)) G1) fun x3 G4 =>
  bS (gd x2 false (bP (fa Q q 221 1 1 x0) fun y => some (y, G4)) G4) fun x5 G6 =>
  bS (gd x2 false (bP (ld Q q 3 x5 G6) fun y => some (y, G6)) G6) fun x7 G8 =>
  bS (gd x2 false (bP (bn Q q .geq 3 (.tmp 10) (.tmp 12) x3 x7) fun y => some (y, G8)) G8) fun x9 G10 =>
  bP (pickV x2 (.bool true) x9) fun x11 =>
  bS (gd x11 false (some (v2, G10)) G10) fun x12 G13 =>
  bS (gd x11 false (bP (bn Q q .lss 3 (.tmp 16) (.const (.int .i64 0)) x12 (.int .i64 0)) fun y => some (y, G13)) G13) fun x14 G15 =>
  bP (pickV x11 (.bool true) x14) fun x16 =>
  bS (gd x16 false (some (v2, G15)) G15) fun x17 G18 =>
  bS (gd x16 false (bP (fa Q q 221 2 2 x0) fun y => some (y, G18)) G18) fun x19 G20 =>
  bS (gd x16 false (bP (ld Q q 219 x19 G20) fun y => some (y, G20)) G20) fun x21 G22 =>
  bS (gd x16 false (bP (ifc Q q 219 x21) fun y => some (y, G22)) G22) fun x23 G24 =>
  bS (gd x16 false (bS (cInvoke Q e.ev x23 "coxswain/tower.cells" [] G24) fun y G => some (y, G)) G24) fun x25 G26 =>
  bS (gd x16 false (bP (bn Q q .geq 3 (.tmp 20) (.tmp 24) x17 x25) fun y => some (y, G26)) G26) fun x27 G28 =>
  bP (pickV x16 (.bool true) x27) fun x29 =>
  ifV x29 (
  some ((.int .i64 (-1)), G28)) (
  bP (fa Q q 221 0 0 x0) fun x30 =>
  bP (ld Q q 3 x30 (G28.room 12)) fun x31 =>
  bP (fa Q q 221 2 2 x0) fun x32 =>
  bP (ld Q q 219 x32 (G28.room 12)) fun x33 =>
  bP (ifc Q q 219 x33) fun x34 =>
  bS (cInvoke Q e.ev x34 "coxswain/tower.cells" [] (G28.room 12)) fun x36 G35 =>
  chk ((sameO (ld Q q 3 x30 G35) x31 && true)) <|
  bP (bn Q q .mul 3 (.tmp 29) (.tmp 33) v1 x36) fun x37 =>
  bP (bn Q q .add 3 (.tmp 28) (.tmp 34) x31 x37) fun x38 =>
  bP (bn Q q .add 3 (.tmp 35) (.tmp 36) x38 v2) fun x39 =>
  some (x39, G35))
theorem m135 {e : Ex} {E : Ev} (h : ExLe Q e E) (v0 v1 v2 : Value) (G : GS) : Ref (s135 true e v0 v1 v2 G) (s135 false (Ex.of E) v0 v1 v2 G) := by
  unfold s135
  exact Ref.go
theorem f135 {orc : FuncId → Bool} {e : Ex} (h : ExLe Q e (E orc)) (v0 v1 v2 : Value) (G : GS) : Ref (s135 true e v0 v1 v2 G) ((E orc).cl 135 [v0, v1, v2] G) :=
  fun r hr => cl_sxE_some Q orc (vs := [v0, v1, v2]) G Tryz.func135 (by kernel_rfl) (by kernel_rfl) (by kernel_rfl) (by kernel_rfl) (by kernel_rfl) (by kernel_rfl) (m135 h v0 v1 v2 G r hr)
/-- coxswain/tower.heads -/
noncomputable def s136 (q : Bool) (e : Ex) (v0 : Value) (G : GS) : Option (Value × GS) :=
  bS (bx q v0 G) fun x0 G1 =>
  bS (al Q q 226 z226 G1) fun x2 G3 =>
  bP (fa Q q 31 1 1 x0) fun x4 =>
  bP (ld Q q 3 x4 G3) fun x5 =>
  bP (fa Q q 31 2 2 x0) fun x6 =>
  bP (ld Q q 3 x6 G3) fun x7 =>
  bP (bd Q q 226 z226 [(0, 0, 1), (1, 1, 1), (2, 2, 1)] [x5, (.int .i64 1), x7]) fun x8 =>
  bP (st Q q 226 3 x2 x8 G3) fun G9 =>
  bP (lda Q q 226 3 x2 G9) fun x10 =>
  some (x10, G9)
theorem m136 {e : Ex} {E : Ev} (h : ExLe Q e E) (v0 : Value) (G : GS) : Ref (s136 true e v0 G) (s136 false (Ex.of E) v0 G) := by
  unfold s136
  exact Ref.go
theorem f136 {orc : FuncId → Bool} {e : Ex} (h : ExLe Q e (E orc)) (v0 : Value) (G : GS) : Ref (s136 true e v0 G) ((E orc).cl 136 [v0] G) :=
  fun r hr => cl_sxE_some Q orc (vs := [v0]) G Tryz.func136 (by kernel_rfl) (by kernel_rfl) (by kernel_rfl) (by kernel_rfl) (by kernel_rfl) (by kernel_rfl) (m136 h v0 G r hr)
/-- (coxswain/tower.rows[coxswain/tower.head]).at -/
noncomputable def s137 (q : Bool) (e : Ex) (v0 v1 v2 : Value) (G : GS) : Option (Value × GS) :=
  bS (bx q v0 G) fun x0 G1 =>
  bP (bn Q q .lss 3 (.tmp 7) (.const (.int .i64 0)) v1 (.int .i64 0)) fun x2 =>
  bS (gd x2 false (some (v1, G1)) G1) fun x3 G4 =>
  bS (gd x2 false (bP (fa Q q 226 1 1 x0) fun y => some (y, G4)) G4) fun x5 G6 =>
  bS (gd x2 false (bP (ld Q q 3 x5 G6) fun y => some (y, G6)) G6) fun x7 G8 =>
  bS (gd x2 false (bP (bn Q q .geq 3 (.tmp 10) (.tmp 12) x3 x7) fun y => some (y, G8)) G8) fun x9 G10 =>
  bP (pickV x2 (.bool true) x9) fun x11 =>
  bS (gd x11 false (some (v2, G10)) G10) fun x12 G13 =>
  bS (gd x11 false (bP (bn Q q .lss 3 (.tmp 16) (.const (.int .i64 0)) x12 (.int .i64 0)) fun y => some (y, G13)) G13) fun x14 G15 =>
  bP (pickV x11 (.bool true) x14) fun x16 =>
  bS (gd x16 false (some (v2, G15)) G15) fun x17 G18 =>
  bS (gd x16 false (bP (fa Q q 226 2 2 x0) fun y => some (y, G18)) G18) fun x19 G20 =>
  bS (gd x16 false (bP (ld Q q 224 x19 G20) fun y => some (y, G20)) G20) fun x21 G22 =>
  bS (gd x16 false (bP (ifc Q q 224 x21) fun y => some (y, G22)) G22) fun x23 G24 =>
  bS (gd x16 false (bS (cInvoke Q e.ev x23 "coxswain/tower.cells" [] G24) fun y G => some (y, G)) G24) fun x25 G26 =>
  bS (gd x16 false (bP (bn Q q .geq 3 (.tmp 20) (.tmp 24) x17 x25) fun y => some (y, G26)) G26) fun x27 G28 =>
  bP (pickV x16 (.bool true) x27) fun x29 =>
  ifV x29 (
  some ((.int .i64 (-1)), G28)) (
  bP (fa Q q 226 0 0 x0) fun x30 =>
  bP (ld Q q 3 x30 (G28.room 12)) fun x31 =>
  bP (fa Q q 226 2 2 x0) fun x32 =>
  bP (ld Q q 224 x32 (G28.room 12)) fun x33 =>
  bP (ifc Q q 224 x33) fun x34 =>
  bS (cInvoke Q e.ev x34 "coxswain/tower.cells" [] (G28.room 12)) fun x36 G35 =>
  chk ((sameO (ld Q q 3 x30 G35) x31 && true)) <|
  bP (bn Q q .mul 3 (.tmp 29) (.tmp 33) v1 x36) fun x37 =>
  bP (bn Q q .add 3 (.tmp 28) (.tmp 34) x31 x37) fun x38 =>
  bP (bn Q q .add 3 (.tmp 35) (.tmp 36) x38 v2) fun x39 =>
  some (x39, G35))
theorem m137 {e : Ex} {E : Ev} (h : ExLe Q e E) (v0 v1 v2 : Value) (G : GS) : Ref (s137 true e v0 v1 v2 G) (s137 false (Ex.of E) v0 v1 v2 G) := by
  unfold s137
  exact Ref.go
theorem f137 {orc : FuncId → Bool} {e : Ex} (h : ExLe Q e (E orc)) (v0 v1 v2 : Value) (G : GS) : Ref (s137 true e v0 v1 v2 G) ((E orc).cl 137 [v0, v1, v2] G) :=
  fun r hr => cl_sxE_some Q orc (vs := [v0, v1, v2]) G Tryz.func137 (by kernel_rfl) (by kernel_rfl) (by kernel_rfl) (by kernel_rfl) (by kernel_rfl) (by kernel_rfl) (m137 h v0 v1 v2 G r hr)
/-- coxswain/epoch.none -/
noncomputable def s138 (q : Bool) (e : Ex) (v0 v1 : Value) (G : GS) : Option (Value × GS) :=
  bS (bx q v0 G) fun x0 G1 =>
  bP (bn Q q .lss 3 (.tmp 5) (.const (.int .i64 0)) v1 (.int .i64 0)) fun x2 =>
  bS (gd x2 false (some (v1, G1)) G1) fun x3 G4 =>
  bS (gd x2 false (bP (fa Q q 27 2 2 x0) fun y => some (y, G4)) G4) fun x5 G6 =>
  bS (gd x2 false (bP (ld Q q 3 x5 G6) fun y => some (y, G6)) G6) fun x7 G8 =>
  bS (gd x2 false (bP (bn Q q .geq 3 (.tmp 8) (.tmp 10) x3 x7) fun y => some (y, G8)) G8) fun x9 G10 =>
  bP (pickV x2 (.bool true) x9) fun x11 =>
  some (x11, G10)
theorem m138 {e : Ex} {E : Ev} (h : ExLe Q e E) (v0 v1 : Value) (G : GS) : Ref (s138 true e v0 v1 G) (s138 false (Ex.of E) v0 v1 G) := by
  unfold s138
  exact Ref.go
theorem f138 {orc : FuncId → Bool} {e : Ex} (h : ExLe Q e (E orc)) (v0 v1 : Value) (G : GS) : Ref (s138 true e v0 v1 G) ((E orc).cl 138 [v0, v1] G) :=
  fun r hr => cl_sxE_some Q orc (vs := [v0, v1]) G Tryz.func138 (by kernel_rfl) (by kernel_rfl) (by kernel_rfl) (by kernel_rfl) (by kernel_rfl) (by kernel_rfl) (m138 h v0 v1 G r hr)
/-- (*coxswain/epoch.lines).ends -/
noncomputable def s139 (q : Bool) (e : Ex) (v0 v1 : Value) (G : GS) : Option (Value × GS) :=
  bP (pNil v0) fun x0 =>
  bP (fa Q q 230 1 3 x0) fun x1 =>
  bP (st Q q 3 1 x1 (.int .i64 (-1)) G) fun G2 =>
  bP (pNil v0) fun x3 =>
  bP (fa Q q 230 3 5 x3) fun x4 =>
  bP (st Q q 39 1 x4 v1 G2) fun G5 =>
  some (.tuple #[], G5)
theorem m139 {e : Ex} {E : Ev} (h : ExLe Q e E) (v0 v1 : Value) (G : GS) : Ref (s139 true e v0 v1 G) (s139 false (Ex.of E) v0 v1 G) := by
  unfold s139
  exact Ref.go
theorem f139 {orc : FuncId → Bool} {e : Ex} (h : ExLe Q e (E orc)) (v0 v1 : Value) (G : GS) : Ref (s139 true e v0 v1 G) ((E orc).cl 139 [v0, v1] G) :=
  fun r hr => cl_sxE_some Q orc (vs := [v0, v1]) G Tryz.func139 (by kernel_rfl) (by kernel_rfl) (by kernel_rfl) (by kernel_rfl) (by kernel_rfl) (by kernel_rfl) (m139 h v0 v1 G r hr)
/-- (*coxswain/epoch.Pin).load -/
noncomputable def s140 (q : Bool) (e : Ex) (v0 v1 : Value) (G : GS) : Option (Value × GS) :=
  bP (pNil v0) fun x0 =>
  bP (fa Q q 234 1 6 x0) fun x1 =>
  bP (fa Q q 27 0 0 x1) fun x2 =>
  bP (ld Q q 3 x2 G) fun x3 =>
  bS (e.ev.cl 124 [v1, x3] G) fun x4 G5 =>
  bP (cv Q q 36 232 .u64 .u32 x4) fun x6 =>
  bP (pNil v0) fun x7 =>
  bP (fa Q q 234 3 10 x7) fun x8 =>
  bP (st Q q 232 1 x8 x6 G5) fun G9 =>
  bP (pNil v0) fun x10 =>
  bP (fa Q q 234 0 0 x10) fun x11 =>
  bP (fa Q q 230 1 3 x11) fun x12 =>
  bP (st Q q 3 1 x12 (.int .i64 1) G9) fun G13 =>
  some (.tuple #[], G13)
theorem m140 {e : Ex} {E : Ev} (h : ExLe Q e E) (v0 v1 : Value) (G : GS) : Ref (s140 true e v0 v1 G) (s140 false (Ex.of E) v0 v1 G) := by
  unfold s140
  exact Ref.go
theorem f140 {orc : FuncId → Bool} {e : Ex} (h : ExLe Q e (E orc)) (v0 v1 : Value) (G : GS) : Ref (s140 true e v0 v1 G) ((E orc).cl 140 [v0, v1] G) :=
  fun r hr => cl_sxE_some Q orc (vs := [v0, v1]) G Tryz.func140 (by kernel_rfl) (by kernel_rfl) (by kernel_rfl) (by kernel_rfl) (by kernel_rfl) (by kernel_rfl) (m140 h v0 v1 G r hr)
/-- (*coxswain/epoch.Pin).store -/
noncomputable def s141 (q : Bool) (e : Ex) (v0 v1 : Value) (G : GS) : Option (Value × GS) :=
  bP (pNil v0) fun x0 =>
  bP (fa Q q 234 2 9 x0) fun x1 =>
  bP (ld Q q 3 x1 (G.room 12)) fun x2 =>
  bP (pNil v0) fun x3 =>
  bP (fa Q q 234 3 10 x3) fun x4 =>
  bP (ld Q q 232 x4 (G.room 12)) fun x5 =>
  bP (cv Q q 232 36 .u32 .u64 x5) fun x6 =>
  bP (bn Q q .add 36 (.tmp 13) (.const (.int .u64 1)) x6 (.int .u64 1)) fun x7 =>
  bS (e.ev.cl 26 [v1, x2, x7] (G.room 12)) fun x9 G8 =>
  bP (pNil v0) fun x10 =>
  bP (fa Q q 234 0 0 x10) fun x11 =>
  bP (fa Q q 230 1 3 x11) fun x12 =>
  bP (st Q q 3 1 x12 (.int .i64 2) G8) fun G13 =>
  some (.tuple #[], G13)
theorem m141 {e : Ex} {E : Ev} (h : ExLe Q e E) (v0 v1 : Value) (G : GS) : Ref (s141 true e v0 v1 G) (s141 false (Ex.of E) v0 v1 G) := by
  unfold s141
  exact Ref.go
theorem f141 {orc : FuncId → Bool} {e : Ex} (h : ExLe Q e (E orc)) (v0 v1 : Value) (G : GS) : Ref (s141 true e v0 v1 G) ((E orc).cl 141 [v0, v1] G) :=
  fun r hr => cl_sxE_some Q orc (vs := [v0, v1]) G Tryz.func141 (by kernel_rfl) (by kernel_rfl) (by kernel_rfl) (by kernel_rfl) (by kernel_rfl) (by kernel_rfl) (m141 h v0 v1 G r hr)
/-- (*coxswain/epoch.Pin).again -/
noncomputable def s142 (q : Bool) (e : Ex) (v0 v1 : Value) (G : GS) : Option (Value × GS) :=
  bP (pNil v0) fun x0 =>
  bP (fa Q q 234 1 6 x0) fun x1 =>
  bP (fa Q q 27 0 0 x1) fun x2 =>
  bP (ld Q q 3 x2 G) fun x3 =>
  bS (e.ev.cl 124 [v1, x3] G) fun x4 G5 =>
  bP (cv Q q 36 232 .u64 .u32 x4) fun x6 =>
  bP (pNil v0) fun x7 =>
  bP (fa Q q 234 3 10 x7) fun x8 =>
  bP (ld Q q 232 x8 G5) fun x9 =>
  bP (bn Q q .eql 232 (.tmp 13) (.tmp 17) x6 x9) fun x10 =>
  ifV x10 (
  bP (pNil v0) fun x11 =>
  bP (fa Q q 234 0 0 x11) fun x12 =>
  bS (e.ev.cl 139 [x12, (.int .i64 0)] G5) fun x13 G14 =>
  some (.tuple #[], G14)) (
  bP (pNil v0) fun x15 =>
  bP (fa Q q 234 3 10 x15) fun x16 =>
  bP (st Q q 232 1 x16 x6 G5) fun G17 =>
  bP (pNil v0) fun x18 =>
  bP (fa Q q 234 0 0 x18) fun x19 =>
  bP (fa Q q 230 1 3 x19) fun x20 =>
  bP (st Q q 3 1 x20 (.int .i64 1) G17) fun G21 =>
  some (.tuple #[], G21))
theorem m142 {e : Ex} {E : Ev} (h : ExLe Q e E) (v0 v1 : Value) (G : GS) : Ref (s142 true e v0 v1 G) (s142 false (Ex.of E) v0 v1 G) := by
  unfold s142
  exact Ref.go
theorem f142 {orc : FuncId → Bool} {e : Ex} (h : ExLe Q e (E orc)) (v0 v1 : Value) (G : GS) : Ref (s142 true e v0 v1 G) ((E orc).cl 142 [v0, v1] G) :=
  fun r hr => cl_sxE_some Q orc (vs := [v0, v1]) G Tryz.func142 (by kernel_rfl) (by kernel_rfl) (by kernel_rfl) (by kernel_rfl) (by kernel_rfl) (by kernel_rfl) (m142 h v0 v1 G r hr)
/-- (*coxswain/epoch.lines).told -/
noncomputable def s143 (q : Bool) (e : Ex) (v0 : Value) (G : GS) : Option (Value × GS) :=
  bP (pNil v0) fun x0 =>
  bP (fa Q q 230 2 4 x0) fun x1 =>
  bP (ld Q q 4 x1 G) fun x2 =>
  bP (un Q q .not x2) fun x3 =>
  ifV x3 (
  some ((.int .i64 1), G)) (
  bP (pNil v0) fun x4 =>
  bP (fa Q q 230 1 3 x4) fun x5 =>
  bP (ld Q q 3 x5 G) fun x6 =>
  bP (bn Q q .neq 3 (.tmp 13) (.const (.int .i64 (-1))) x6 (.int .i64 (-1))) fun x7 =>
  ifV x7 (
  some ((.int .i64 14), G)) (
  bP (pNil v0) fun x8 =>
  bP (fa Q q 230 3 5 x8) fun x9 =>
  bP (ld Q q 39 x9 G) fun x10 =>
  some (x10, G)))
theorem m143 {e : Ex} {E : Ev} (h : ExLe Q e E) (v0 : Value) (G : GS) : Ref (s143 true e v0 G) (s143 false (Ex.of E) v0 G) := by
  unfold s143
  exact Ref.go
theorem f143 {orc : FuncId → Bool} {e : Ex} (h : ExLe Q e (E orc)) (v0 : Value) (G : GS) : Ref (s143 true e v0 G) ((E orc).cl 143 [v0] G) :=
  fun r hr => cl_sxE_some Q orc (vs := [v0]) G Tryz.func143 (by kernel_rfl) (by kernel_rfl) (by kernel_rfl) (by kernel_rfl) (by kernel_rfl) (by kernel_rfl) (m143 h v0 G r hr)
/-- coxswain/stack.NewPop -/
noncomputable def s144 (q : Bool) (e : Ex) (v0 : Value) (G : GS) : Option (Value × GS) :=
  bS (bx q v0 G) fun x0 G1 =>
  bP (lda Q q 23 3 x0 G1) fun x2 =>
  bP (bd Q q 287 z287 [(0, 0, 3), (4, 6, 1)] [x2, (.bool true)]) fun x3 =>
  bP (bd Q q 290 z290 [(0, 0, 9), (1, 9, 1)] [x3, (.func (.func 182) #[] #[])]) fun x4 =>
  bS (bx q x4 G1) fun x5 G6 =>
  some (x5, G6)
theorem m144 {e : Ex} {E : Ev} (h : ExLe Q e E) (v0 : Value) (G : GS) : Ref (s144 true e v0 G) (s144 false (Ex.of E) v0 G) := by
  unfold s144
  exact Ref.go
theorem f144 {orc : FuncId → Bool} {e : Ex} (h : ExLe Q e (E orc)) (v0 : Value) (G : GS) : Ref (s144 true e v0 G) ((E orc).cl 144 [v0] G) :=
  fun r hr => cl_sxE_some Q orc (vs := [v0]) G Tryz.func144 (by kernel_rfl) (by kernel_rfl) (by kernel_rfl) (by kernel_rfl) (by kernel_rfl) (by kernel_rfl) (m144 h v0 G r hr)
/-- (*coxswain/arena.Alloc).pop -/
noncomputable def s145 (q : Bool) (e : Ex) (v0 v1 : Value) (G : GS) : Option (Value × GS) :=
  bP (pNil v0) fun x0 =>
  bP (fa Q q 240 0 0 x0) fun x1 =>
  bP (ld Q q 236 x1 G) fun x2 =>
  bS (e.ev.cl 183 [x2, v1] G) fun x3 G4 =>
  bP (un Q q .not x3) fun x5 =>
  ifV x5 (
  some (.tuple #[], G4)) (
  bP (pNil v0) fun x6 =>
  bP (fa Q q 240 0 0 x6) fun x7 =>
  bP (ld Q q 236 x7 G4) fun x8 =>
  bS (e.ev.cl 184 [x8] G4) fun x9 G10 =>
  bP (pExtract x9 0) fun x11 =>
  bP (pExtract x9 1) fun x12 =>
  bP (pNil v0) fun x13 =>
  bP (fa Q q 240 4 9 x13) fun x14 =>
  bP (st Q q 3 1 x14 x11 G10) fun G15 =>
  bP (pNil v0) fun x16 =>
  bP (fa Q q 240 3 8 x16) fun x17 =>
  bP (st Q q 238 1 x17 (.func (.func 185) #[] #[]) G15) fun G18 =>
  bP (bn Q q .neq 39 (.tmp 28) (.const (.int .i64 0)) x12 (.int .i64 0)) fun x19 =>
  ifV x19 (
  bP (pNil v0) fun x20 =>
  bP (fa Q q 240 3 8 x20) fun x21 =>
  bP (st Q q 238 1 x21 (.func (.func 186) #[] #[]) G18) fun G22 =>
  some (.tuple #[], G22)) (
  some (.tuple #[], G18)))
theorem m145 {e : Ex} {E : Ev} (h : ExLe Q e E) (v0 v1 : Value) (G : GS) : Ref (s145 true e v0 v1 G) (s145 false (Ex.of E) v0 v1 G) := by
  unfold s145
  exact Ref.go
theorem f145 {orc : FuncId → Bool} {e : Ex} (h : ExLe Q e (E orc)) (v0 v1 : Value) (G : GS) : Ref (s145 true e v0 v1 G) ((E orc).cl 145 [v0, v1] G) :=
  fun r hr => cl_sxE_some Q orc (vs := [v0, v1]) G Tryz.func145 (by kernel_rfl) (by kernel_rfl) (by kernel_rfl) (by kernel_rfl) (by kernel_rfl) (by kernel_rfl) (m145 h v0 v1 G r hr)
/-- (*coxswain/arena.Alloc).Ref -/
noncomputable def s146 (q : Bool) (e : Ex) (v0 : Value) (G : GS) : Option (Value × GS) :=
  bP (ep Q q false 156 (.tmp 5) (.const (.pointer none)) v0 (.pointer none)) fun x0 =>
  bS (gd x0 false (some (v0, G)) G) fun x1 G2 =>
  bS (gd x0 false (bP (pNil x1) fun y => some (y, G2)) G2) fun x3 G4 =>
  bS (gd x0 false (bP (fa Q q 240 2 7 x3) fun y => some (y, G4)) G4) fun x5 G6 =>
  bS (gd x0 false (bP (ld Q q 4 x5 G6) fun y => some (y, G6)) G6) fun x7 G8 =>
  bS (gd x0 false (bP (un Q q .not x7) fun y => some (y, G8)) G8) fun x9 G10 =>
  bP (pickV x0 (.bool true) x9) fun x11 =>
  ifV x11 (
  some (.tuple #[(.int .u64 0), (.int .i64 1)], G10)) (
  bP (pNil v0) fun x12 =>
  bP (fa Q q 240 3 8 x12) fun x13 =>
  bP (ld Q q 238 x13 G10) fun x14 =>
  bP (ef Q q true 238 (.tmp 18) (.const .nilFunc) x14 .nilFunc) fun x15 =>
  ifV x15 (
  some (.tuple #[(.int .u64 0), (.int .i64 14)], G10)) (
  bP (pNil v0) fun x16 =>
  bP (fa Q q 240 5 10 x16) fun x17 =>
  bP (ld Q q 36 x17 (G10.room 10)) fun x18 =>
  bP (pNil v0) fun x19 =>
  bP (fa Q q 240 6 11 x19) fun x20 =>
  bP (ld Q q 39 x20 (G10.room 10)) fun x21 =>
  some (.tuple #[x18, x21], (G10.room 10))))
theorem m146 {e : Ex} {E : Ev} (h : ExLe Q e E) (v0 : Value) (G : GS) : Ref (s146 true e v0 G) (s146 false (Ex.of E) v0 G) := by
  unfold s146
  exact Ref.go
theorem f146 {orc : FuncId → Bool} {e : Ex} (h : ExLe Q e (E orc)) (v0 : Value) (G : GS) : Ref (s146 true e v0 G) ((E orc).cl 146 [v0] G) :=
  fun r hr => cl_sxE_some Q orc (vs := [v0]) G Tryz.func146 (by kernel_rfl) (by kernel_rfl) (by kernel_rfl) (by kernel_rfl) (by kernel_rfl) (by kernel_rfl) (m146 h v0 G r hr)
/-- (*coxswain/ready.Put).lay -/
noncomputable def s147 (q : Bool) (e : Ex) (v0 : Value) (G : GS) : Option (Value × GS) :=
  bS (bx q v0 G) fun x0 G1 =>
  bP (bd Q q 298 z298 [(0, 0, 1), (1, 1, 1)] [(.func (.func 187) #[] #[x0]), (.func (.func 189) #[] #[])]) fun x2 =>
  bS (bx q x2 G1) fun x3 G4 =>
  bP (ifc Q q 291 x3) fun x5 =>
  some (x5, G4)
theorem m147 {e : Ex} {E : Ev} (h : ExLe Q e E) (v0 : Value) (G : GS) : Ref (s147 true e v0 G) (s147 false (Ex.of E) v0 G) := by
  unfold s147
  exact Ref.go
theorem f147 {orc : FuncId → Bool} {e : Ex} (h : ExLe Q e (E orc)) (v0 : Value) (G : GS) : Ref (s147 true e v0 G) ((E orc).cl 147 [v0] G) :=
  fun r hr => cl_sxE_some Q orc (vs := [v0]) G Tryz.func147 (by kernel_rfl) (by kernel_rfl) (by kernel_rfl) (by kernel_rfl) (by kernel_rfl) (by kernel_rfl) (m147 h v0 G r hr)
/-- (*coxswain/ready.Put).link -/
noncomputable def s148 (q : Bool) (e : Ex) (v0 : Value) (G : GS) : Option (Value × GS) :=
  bS (bx q v0 G) fun x0 G1 =>
  bP (bd Q q 306 z306 [(0, 0, 1), (1, 1, 1)] [(.func (.func 190) #[] #[x0]), (.func (.func 192) #[] #[])]) fun x2 =>
  bS (bx q x2 G1) fun x3 G4 =>
  bP (ifc Q q 299 x3) fun x5 =>
  some (x5, G4)
theorem m148 {e : Ex} {E : Ev} (h : ExLe Q e E) (v0 : Value) (G : GS) : Ref (s148 true e v0 G) (s148 false (Ex.of E) v0 G) := by
  unfold s148
  exact Ref.go
theorem f148 {orc : FuncId → Bool} {e : Ex} (h : ExLe Q e (E orc)) (v0 : Value) (G : GS) : Ref (s148 true e v0 G) ((E orc).cl 148 [v0] G) :=
  fun r hr => cl_sxE_some Q orc (vs := [v0]) G Tryz.func148 (by kernel_rfl) (by kernel_rfl) (by kernel_rfl) (by kernel_rfl) (by kernel_rfl) (by kernel_rfl) (m148 h v0 G r hr)
/-- (*coxswain/ready.Put).given$1 -/
noncomputable def s149 (q : Bool) (e : Ex) (v0 : Value) (G : GS) : Option (Value × GS) :=
  bP (ld Q q 42 v0 G) fun x0 =>
  bP (pNil x0) fun x1 =>
  bP (fa Q q 82 0 0 x1) fun x2 =>
  bS (e.ev.cl 150 [x2, .nilFunc] G) fun x3 G4 =>
  some (x3, G4)
theorem m149 {e : Ex} {E : Ev} (h : ExLe Q e E) (v0 : Value) (G : GS) : Ref (s149 true e v0 G) (s149 false (Ex.of E) v0 G) := by
  unfold s149
  exact Ref.go
theorem f149 {orc : FuncId → Bool} {e : Ex} (h : ExLe Q e (E orc)) (v0 : Value) (G : GS) : Ref (s149 true e v0 G) ((E orc).cl 149 [v0] G) :=
  fun r hr => cl_sxE_some Q orc (vs := [v0]) G Tryz.func149 (by kernel_rfl) (by kernel_rfl) (by kernel_rfl) (by kernel_rfl) (by kernel_rfl) (by kernel_rfl) (m149 h v0 G r hr)
/-- (*coxswain/ready.work).collect -/
noncomputable def s150 (q : Bool) (e : Ex) (v0 v1 : Value) (G : GS) : Option (Value × GS) :=
  bS (bx q v0 G) fun x0 G1 =>
  bP (bd Q q 312 z312 [(0, 0, 1), (2, 2, 1)] [(.func (.func 193) #[] #[x0]), v1]) fun x2 =>
  bS (bx q x2 G1) fun x3 G4 =>
  bP (ifc Q q 307 x3) fun x5 =>
  some (x5, G4)
theorem m150 {e : Ex} {E : Ev} (h : ExLe Q e E) (v0 v1 : Value) (G : GS) : Ref (s150 true e v0 v1 G) (s150 false (Ex.of E) v0 v1 G) := by
  unfold s150
  exact Ref.go
theorem f150 {orc : FuncId → Bool} {e : Ex} (h : ExLe Q e (E orc)) (v0 v1 : Value) (G : GS) : Ref (s150 true e v0 v1 G) ((E orc).cl 150 [v0, v1] G) :=
  fun r hr => cl_sxE_some Q orc (vs := [v0, v1]) G Tryz.func150 (by kernel_rfl) (by kernel_rfl) (by kernel_rfl) (by kernel_rfl) (by kernel_rfl) (by kernel_rfl) (m150 h v0 v1 G r hr)
/-- (*coxswain/epoch.Unpin).clear -/
noncomputable def s151 (q : Bool) (e : Ex) (v0 v1 : Value) (G : GS) : Option (Value × GS) :=
  bP (pNil v0) fun x0 =>
  bP (fa Q q 247 1 6 x0) fun x1 =>
  bP (ld Q q 3 x1 G) fun x2 =>
  bS (e.ev.cl 26 [v1, x2, (.int .u64 0)] G) fun x3 G4 =>
  bP (pNil v0) fun x5 =>
  bP (fa Q q 247 0 0 x5) fun x6 =>
  bS (e.ev.cl 139 [x6, (.int .i64 0)] G4) fun x7 G8 =>
  some (.tuple #[], G8)
theorem m151 {e : Ex} {E : Ev} (h : ExLe Q e E) (v0 v1 : Value) (G : GS) : Ref (s151 true e v0 v1 G) (s151 false (Ex.of E) v0 v1 G) := by
  unfold s151
  exact Ref.go
theorem f151 {orc : FuncId → Bool} {e : Ex} (h : ExLe Q e (E orc)) (v0 v1 : Value) (G : GS) : Ref (s151 true e v0 v1 G) ((E orc).cl 151 [v0, v1] G) :=
  fun r hr => cl_sxE_some Q orc (vs := [v0, v1]) G Tryz.func151 (by kernel_rfl) (by kernel_rfl) (by kernel_rfl) (by kernel_rfl) (by kernel_rfl) (by kernel_rfl) (m151 h v0 v1 G r hr)
noncomputable def b152_0 (q : Bool) (e : Ex) (lp : Env → GS → Option (Exit × Env × GS)) (τ : Env) (G : GS) : Option (Exit × Env × GS) :=
  bV q (τ 0) fun a0_ =>
  bV q (τ 1) fun a1_ =>
  bV q (τ 2) fun a2_ =>
  bV q (τ 3) fun a3_ =>
  bV q (τ 5) fun a5_ =>
  bV q (τ 6) fun a6_ =>
  bP (bn Q q .geq 3 (.tmp 14) (.const (.int .i64 0)) a5_ (.int .i64 0)) fun x0 =>
  bS (gd x0 true (some (a6_, G)) G) fun x1 G2 =>
  bS (gd x0 true (bP (fa Q q 31 3 3 a1_) fun y => some (y, G2)) G2) fun x3 G4 =>
  bS (gd x0 true (bP (fa Q q 29 0 0 x3) fun y => some (y, G4)) G4) fun x5 G6 =>
  bS (gd x0 true (bP (fa Q q 25 0 0 x5) fun y => some (y, G6)) G6) fun x7 G8 =>
  bS (gd x0 true (bP (fa Q q 23 2 2 x7) fun y => some (y, G8)) G8) fun x9 G10 =>
  bS (gd x0 true (bP (ld Q q 3 x9 G10) fun y => some (y, G10)) G10) fun x11 G12 =>
  bS (gd x0 true (bP (bn Q q .lss 3 (.tmp 17) (.tmp 22) x1 x11) fun y => some (y, G12)) G12) fun x13 G14 =>
  bP (pickV x0 x13 (.bool false)) fun x15 =>
  bS (gd x15 true (some (a0_, G14)) G14) fun x16 G17 =>
  bS (gd x15 true (some (a5_, G17)) G17) fun x18 G19 =>
  bS (gd x15 true (bS (cValue e.ev x16 [x18] G19) fun y G => some (y, G)) G19) fun x20 G21 =>
  bP (pickV x15 x20 (.bool false)) fun x22 =>
  ifV x22 (
  bP (lda Q q 31 13 a1_ (G21.room 9)) fun x23 =>
  bP (ld Q q 183 a2_ (G21.room 9)) fun x24 =>
  bP (lda Q q 31 13 a1_ (G21.room 9)) fun x25 =>
  bP (ld Q q 3 a3_ (G21.room 9)) fun x26 =>
  bS (e.ev.cl 103 [x25, a5_, x26] (G21.room 9)) fun x28 G27 =>
  chk ((sameO (ld Q q 183 a2_ G27) x24 && (sameO (lda Q q 31 13 a1_ G27) x23 && true))) <|
  bS (e.ev.cl 154 [x24, x28] G27) fun x30 G29 =>
  chk ((sameO (lda Q q 31 13 a1_ G29) x23 && true)) <|
  bS (e.ev.cl 153 [x23, x30] G29) fun x32 G31 =>
  bP (bn Q q .add 3 (.tmp 30) (.const (.int .i64 1)) a6_ (.int .i64 1)) fun x33 =>
  lp (tu τ [(0, a0_), (1, a1_), (2, a2_), (3, a3_), (5, x32), (6, x33), (14, a5_), (15, x0), (16, x0), (17, x1), (18, x3), (19, x5), (20, x7), (21, x9), (22, x11), (23, x13), (24, x15), (25, x15), (26, x16), (27, x18), (28, x20), (29, x22), (30, a6_), (31, x33), (32, x23), (33, x24), (34, x25), (35, a5_), (36, x26), (37, x28), (38, x30), (39, x32)]) G31) (
  some ((.exit 0), clq q 40 (tu τ [(0, a0_), (1, a1_), (2, a2_), (3, a3_), (5, a5_), (6, a6_), (14, a5_), (15, x0), (16, x0), (17, x1), (18, x3), (19, x5), (20, x7), (21, x9), (22, x11), (23, x13), (24, x15), (25, x15), (26, x16), (27, x18), (28, x20), (29, x22)]), G21))
theorem mb152_0 {e : Ex} {E : Ev} (h : ExLe Q e E) {lp lp' : Env → GS → Option (Exit × Env × GS)} (hlp : LpLe lp lp') (τ : Env) (G : GS) : Ref (b152_0 true e lp τ G) (b152_0 false (Ex.of E) lp' τ G) := by
  unfold b152_0
  exact Ref.go
theorem l152_0 {orc : FuncId → Bool} {e : Ex} (h : ExLe Q e (E orc)) (lp : Env → GS → Option (Exit × Env × GS)) (hlp : ∀ τ G, Ref (lp τ G) (mapE ((E orc).lp (subAt [1, 1, 0, 0] (bodyOf Tryz.f152)) (lst 40 τ) G))) (T : List Value) (G : GS) (hT : T.length = 40) : Ref (b152_0 true e lp (nth undef T) G) (mapE ((E orc).lp (subAt [1, 1, 0, 0] (bodyOf Tryz.f152)) T G)) :=
  fun r hr => lp_sxM Q orc G hT (by kernel_rfl) (mb152_0 h ⟨hlp⟩ _ _ r hr)
/-- (coxswain/tower.memory).level$1 -/
noncomputable def s152 (q : Bool) (e : Ex) (v0 v1 v2 v3 : Value) (G : GS) : Option (Value × GS) :=
  bP (lda Q q 31 13 v1 (G.room 8)) fun x0 =>
  bP (ld Q q 183 v2 (G.room 8)) fun x1 =>
  bP (lda Q q 31 13 v1 (G.room 8)) fun x2 =>
  bP (ld Q q 3 v3 (G.room 8)) fun x3 =>
  bS (e.ev.cl 103 [x2, (.int .i64 (-1)), x3] (G.room 8)) fun x5 G4 =>
  chk ((sameO (ld Q q 183 v2 G4) x1 && (sameO (lda Q q 31 13 v1 G4) x0 && true))) <|
  bS (e.ev.cl 154 [x1, x5] G4) fun x7 G6 =>
  chk ((sameO (lda Q q 31 13 v1 G6) x0 && true)) <|
  bS (e.ev.cl 153 [x0, x7] G6) fun x9 G8 =>
  bL q e 152 0 (subAt [1, 1, 0, 0] (bodyOf Tryz.f152)) 40 (tu (nth undef [v0, v1, v2, v3]) [(5, x9), (6, (.int .i64 0)), (7, x0), (8, x1), (9, x2), (10, x3), (11, x5), (12, x7), (13, x9)]) G8 fun e10 t11 G12 =>
  ifE e10 (.exit 0) (
  some (.tuple #[], G12)) (none)
theorem m152 {e : Ex} {E : Ev} (h : ExLe Q e E) (v0 v1 v2 v3 : Value) (G : GS) : Ref (s152 true e v0 v1 v2 v3 G) (s152 false (Ex.of E) v0 v1 v2 v3 G) := by
  unfold s152
  exact Ref.go
theorem f152 {orc : FuncId → Bool} {e : Ex} (h : ExLe Q e (E orc)) (v0 v1 v2 v3 : Value) (G : GS) : Ref (s152 true e v0 v1 v2 v3 G) ((E orc).cl 152 [v0, v1, v2, v3] G) :=
  fun r hr => cl_sxE_some Q orc (vs := [v0, v1, v2, v3]) G Tryz.func152 (by kernel_rfl) (by kernel_rfl) (by kernel_rfl) (by kernel_rfl) (by kernel_rfl) (by kernel_rfl) (m152 h v0 v1 v2 v3 G r hr)
/-- coxswain/tower.index -/
noncomputable def s153 (q : Bool) (e : Ex) (v0 v1 : Value) (G : GS) : Option (Value × GS) :=
  bS (bx q v0 G) fun x0 G1 =>
  bS (e.ev.cl 195 [v1] G1) fun x2 G3 =>
  bP (pExtract x2 0) fun x4 =>
  bP (pExtract x2 1) fun x5 =>
  bS (al Q q 314 z314 G3) fun x6 G7 =>
  bP (st Q q 314 2 x6 x4 G7) fun G8 =>
  bP (fa Q q 314 0 0 x6) fun x9 =>
  bP (ld Q q 3 x9 G8) fun x10 =>
  bP (fa Q q 31 3 3 x0) fun x11 =>
  bP (fa Q q 29 0 0 x11) fun x12 =>
  bP (fa Q q 25 0 0 x12) fun x13 =>
  bP (fa Q q 23 2 2 x13) fun x14 =>
  bP (ld Q q 3 x14 G8) fun x15 =>
  bP (bn Q q .geq 3 (.tmp 13) (.tmp 18) x10 x15) fun x16 =>
  ifV x16 (
  some ((.int .i64 (-1)), G8)) (
  bP (fa Q q 314 0 0 x6) fun x17 =>
  bP (ld Q q 3 x17 G8) fun x18 =>
  some (x18, G8))
theorem m153 {e : Ex} {E : Ev} (h : ExLe Q e E) (v0 v1 : Value) (G : GS) : Ref (s153 true e v0 v1 G) (s153 false (Ex.of E) v0 v1 G) := by
  unfold s153
  exact Ref.go
theorem f153 {orc : FuncId → Bool} {e : Ex} (h : ExLe Q e (E orc)) (v0 v1 : Value) (G : GS) : Ref (s153 true e v0 v1 G) ((E orc).cl 153 [v0, v1] G) :=
  fun r hr => cl_sxE_some Q orc (vs := [v0, v1]) G Tryz.func153 (by kernel_rfl) (by kernel_rfl) (by kernel_rfl) (by kernel_rfl) (by kernel_rfl) (by kernel_rfl) (m153 h v0 v1 G r hr)
/-- (coxswain/tower.memory).at -/
noncomputable def s154 (q : Bool) (e : Ex) (v0 v1 : Value) (G : GS) : Option (Value × GS) :=
  bP (bn Q q .lss 3 (.tmp 5) (.const (.int .i64 0)) v1 (.int .i64 0)) fun x0 =>
  bS (gd x0 false (some (v1, G)) G) fun x1 G2 =>
  bS (gd x0 false (some (v0, G2)) G2) fun x3 G4 =>
  bS (gd x0 false (bP (ln Q q 183 x3) fun y => some (y, G4)) G4) fun x5 G6 =>
  bS (gd x0 false (bP (bn Q q .geq 3 (.tmp 8) (.tmp 10) x1 x5) fun y => some (y, G6)) G6) fun x7 G8 =>
  bP (pickV x0 (.bool true) x7) fun x9 =>
  ifV x9 (
  some ((.int .u64 0), G8)) (
  bP (ias Q q 183 1 v0 v1) fun x10 =>
  bP (ld Q q 36 x10 G8) fun x11 =>
  some (x11, G8))
theorem m154 {e : Ex} {E : Ev} (h : ExLe Q e E) (v0 v1 : Value) (G : GS) : Ref (s154 true e v0 v1 G) (s154 false (Ex.of E) v0 v1 G) := by
  unfold s154
  exact Ref.go
theorem f154 {orc : FuncId → Bool} {e : Ex} (h : ExLe Q e (E orc)) (v0 v1 : Value) (G : GS) : Ref (s154 true e v0 v1 G) ((E orc).cl 154 [v0, v1] G) :=
  fun r hr => cl_sxE_some Q orc (vs := [v0, v1]) G Tryz.func154 (by kernel_rfl) (by kernel_rfl) (by kernel_rfl) (by kernel_rfl) (by kernel_rfl) (by kernel_rfl) (m154 h v0 v1 G r hr)
/-- coxswain/ready.NewTidy$1 -/
noncomputable def s155 (q : Bool) (e : Ex) (v0 v1 : Value) (G : GS) : Option (Value × GS) :=
  bP (ld Q q 186 v1 (G.room 13)) fun x0 =>
  bP (ld Q q 186 v1 (G.room 13)) fun x1 =>
  bS (e.ev.cl 156 [v0] (G.room 13)) fun x3 G2 =>
  chk ((sameO (ld Q q 186 v1 G2) x1 && (sameO (ld Q q 186 v1 G2) x0 && true))) <|
  bP (pExtract x3 0) fun x4 =>
  bP (pExtract x3 1) fun x5 =>
  bP (pNil x0) fun x6 =>
  bP (fa Q q 252 1 19 x6) fun x7 =>
  bP (st Q q 3 1 x7 x4 G2) fun G8 =>
  chk ((sameO (ld Q q 186 v1 G8) x1 && true)) <|
  bP (pNil x1) fun x9 =>
  bP (fa Q q 252 2 20 x9) fun x10 =>
  bP (st Q q 39 1 x10 x5 G8) fun G11 =>
  some (.tuple #[], G11)
theorem m155 {e : Ex} {E : Ev} (h : ExLe Q e E) (v0 v1 : Value) (G : GS) : Ref (s155 true e v0 v1 G) (s155 false (Ex.of E) v0 v1 G) := by
  unfold s155
  exact Ref.go
theorem f155 {orc : FuncId → Bool} {e : Ex} (h : ExLe Q e (E orc)) (v0 v1 : Value) (G : GS) : Ref (s155 true e v0 v1 G) ((E orc).cl 155 [v0, v1] G) :=
  fun r hr => cl_sxE_some Q orc (vs := [v0, v1]) G Tryz.func155 (by kernel_rfl) (by kernel_rfl) (by kernel_rfl) (by kernel_rfl) (by kernel_rfl) (by kernel_rfl) (m155 h v0 v1 G r hr)
/-- (*coxswain/limbo.Collect).Many -/
noncomputable def s156 (q : Bool) (e : Ex) (v0 : Value) (G : GS) : Option (Value × GS) :=
  bP (ep Q q false 253 (.tmp 5) (.const (.pointer none)) v0 (.pointer none)) fun x0 =>
  ifV x0 (
  some (.tuple #[(.int .i64 0), (.int .i64 1)], G)) (
  bP (pNil v0) fun x1 =>
  bP (fa Q q 327 0 0 x1) fun x2 =>
  bS (e.ev.cl 196 [x2] G) fun x3 G4 =>
  bP (bn Q q .neq 39 (.tmp 11) (.const (.int .i64 0)) x3 (.int .i64 0)) fun x5 =>
  ifV x5 (
  some (.tuple #[(.int .i64 0), x3], G4)) (
  bP (pNil v0) fun x6 =>
  bP (fa Q q 327 6 18 x6) fun x7 =>
  bP (ld Q q 3 x7 G4) fun x8 =>
  some (.tuple #[x8, (.int .i64 0)], G4)))
theorem m156 {e : Ex} {E : Ev} (h : ExLe Q e E) (v0 : Value) (G : GS) : Ref (s156 true e v0 G) (s156 false (Ex.of E) v0 G) := by
  unfold s156
  exact Ref.go
theorem f156 {orc : FuncId → Bool} {e : Ex} (h : ExLe Q e (E orc)) (v0 : Value) (G : GS) : Ref (s156 true e v0 G) ((E orc).cl 156 [v0] G) :=
  fun r hr => cl_sxE_some Q orc (vs := [v0]) G Tryz.func156 (by kernel_rfl) (by kernel_rfl) (by kernel_rfl) (by kernel_rfl) (by kernel_rfl) (by kernel_rfl) (m156 h v0 G r hr)
noncomputable def b157_0 (q : Bool) (e : Ex) (lp : Env → GS → Option (Exit × Env × GS)) (τ : Env) (G : GS) : Option (Exit × Env × GS) :=
  bV q (τ 1) fun a1_ =>
  bV q (τ 2) fun a2_ =>
  bV q (τ 18) fun a18_ =>
  bV q (τ 19) fun a19_ =>
  bP (bn Q q .lss 3 (.tmp 19) (.tmp 18) a19_ a18_) fun x0 =>
  ifV x0 (
  bP (fa Q q 25 1 3 a2_) fun x1 =>
  bP (ld Q q 3 x1 G) fun x2 =>
  bP (bn Q q .add 3 (.tmp 24) (.tmp 25) x2 a19_) fun x3 =>
  bS (e.ev.cl 26 [a1_, x3, (.int .u64 1)] G) fun x4 G5 =>
  bP (bn Q q .add 3 (.tmp 19) (.const (.int .i64 1)) a19_ (.int .i64 1)) fun x6 =>
  lp (tu τ [(1, a1_), (2, a2_), (18, a18_), (19, x6), (4, a19_), (20, x0), (21, a19_), (22, a1_), (23, x1), (24, x2), (25, a19_), (26, x3), (27, x4), (28, x6)]) G5) (
  some ((.exit 0), clq q 29 (tu τ [(1, a1_), (2, a2_), (18, a18_), (19, a19_), (20, x0)]), G))
theorem mb157_0 {e : Ex} {E : Ev} (h : ExLe Q e E) {lp lp' : Env → GS → Option (Exit × Env × GS)} (hlp : LpLe lp lp') (τ : Env) (G : GS) : Ref (b157_0 true e lp τ G) (b157_0 false (Ex.of E) lp' τ G) := by
  unfold b157_0
  exact Ref.go
theorem l157_0 {orc : FuncId → Bool} {e : Ex} (h : ExLe Q e (E orc)) (lp : Env → GS → Option (Exit × Env × GS)) (hlp : ∀ τ G, Ref (lp τ G) (mapE ((E orc).lp (subAt [1, 1, 1, 1, 1, 0, 0] (bodyOf Tryz.f157)) (lst 29 τ) G))) (T : List Value) (G : GS) (hT : T.length = 29) : Ref (b157_0 true e lp (nth undef T) G) (mapE ((E orc).lp (subAt [1, 1, 1, 1, 1, 0, 0] (bodyOf Tryz.f157)) T G)) :=
  fun r hr => lp_sxM Q orc G hT (by kernel_rfl) (mb157_0 h ⟨hlp⟩ _ _ r hr)
/-- coxswain/arena.Fill -/
noncomputable def s157 (q : Bool) (e : Ex) (v0 v1 : Value) (G : GS) : Option (Value × GS) :=
  bS (bx q v0 G) fun x0 G1 =>
  bP (lda Q q 25 6 x0 G1) fun x2 =>
  bS (e.ev.cl 197 [x2] G1) fun x3 G4 =>
  bP (un Q q .not x3) fun x5 =>
  ifV x5 (
  some (.tuple #[], G4)) (
  bP (fa Q q 25 0 0 x0) fun x6 =>
  bP (lda Q q 23 3 x6 G4) fun x7 =>
  bS (e.ev.cl 198 [x7, v1] G4) fun x8 G9 =>
  bP (fa Q q 25 2 4 x0) fun x10 =>
  bP (ld Q q 3 x10 G9) fun x11 =>
  bS (e.ev.cl 26 [v1, x11, (.int .u64 0)] G9) fun x12 G13 =>
  bP (fa Q q 25 0 0 x0) fun x14 =>
  bP (fa Q q 23 2 2 x14) fun x15 =>
  bP (ld Q q 3 x15 G13) fun x16 =>
  bL q e 157 0 (subAt [1, 1, 1, 1, 1, 0, 0] (bodyOf Tryz.f157)) 29 (tu (nth undef [v0, v1]) [(2, x0), (5, x2), (6, x3), (7, x5), (8, x6), (9, x7), (10, v1), (11, x8), (12, v1), (13, x10), (14, x11), (15, x12), (16, x14), (17, x15), (18, x16), (19, (.int .i64 0))]) G13 fun e17 t18 G19 =>
  ifE e17 (.exit 0) (
  some (.tuple #[], G19)) (none))
theorem m157 {e : Ex} {E : Ev} (h : ExLe Q e E) (v0 v1 : Value) (G : GS) : Ref (s157 true e v0 v1 G) (s157 false (Ex.of E) v0 v1 G) := by
  unfold s157
  exact Ref.go
theorem f157 {orc : FuncId → Bool} {e : Ex} (h : ExLe Q e (E orc)) (v0 v1 : Value) (G : GS) : Ref (s157 true e v0 v1 G) ((E orc).cl 157 [v0, v1] G) :=
  fun r hr => cl_sxE_some Q orc (vs := [v0, v1]) G Tryz.func157 (by kernel_rfl) (by kernel_rfl) (by kernel_rfl) (by kernel_rfl) (by kernel_rfl) (by kernel_rfl) (m157 h v0 v1 G r hr)
/-- coxswain/epoch.Fill -/
noncomputable def s158 (q : Bool) (e : Ex) (v0 v1 : Value) (G : GS) : Option (Value × GS) :=
  bS (bx q v0 G) fun x0 G1 =>
  bS (bx q v1 G1) fun x2 G3 =>
  bP (lda Q q 27 3 x0 G3) fun x4 =>
  bS (e.ev.cl 165 [x4] G3) fun x5 G6 =>
  bP (un Q q .not x5) fun x7 =>
  ifV x7 (
  some (.tuple #[], G6)) (
  bP (ld Q q 33 x2 G6) fun x8 =>
  bP (fa Q q 27 0 0 x0) fun x9 =>
  bP (ld Q q 3 x9 G6) fun x10 =>
  bS (e.ev.cl 26 [x8, x10, (.int .u64 0)] G6) fun x11 G12 =>
  bP (lda Q q 27 3 x0 G12) fun x13 =>
  bS (e.ev.cl 166 [x13] G12) fun x14 G15 =>
  bX (xRange e.ev x14 #[15, 16] (subAt [1, 1, 1, 1, 0, 0] (bodyOf Tryz.f158)) (subAt [1, 1, 1, 1, 0, 1] (bodyOf Tryz.f158)) (lst 20 (tu (nth undef [v0, v1]) [(2, x0), (3, x2), (6, x4), (7, x5), (8, x7), (9, x8), (10, x9), (11, x10), (12, x11), (13, x13), (14, x14)])) G15) fun e16 T17 G18 =>
  ifE e16 .normal (
  some (.tuple #[], G18)) (none))
theorem m158 {e : Ex} {E : Ev} (h : ExLe Q e E) (v0 v1 : Value) (G : GS) : Ref (s158 true e v0 v1 G) (s158 false (Ex.of E) v0 v1 G) := by
  unfold s158
  exact Ref.go
theorem f158 {orc : FuncId → Bool} {e : Ex} (h : ExLe Q e (E orc)) (v0 v1 : Value) (G : GS) : Ref (s158 true e v0 v1 G) ((E orc).cl 158 [v0, v1] G) :=
  fun r hr => cl_sxE_some Q orc (vs := [v0, v1]) G Tryz.func158 (by kernel_rfl) (by kernel_rfl) (by kernel_rfl) (by kernel_rfl) (by kernel_rfl) (by kernel_rfl) (m158 h v0 v1 G r hr)
/-- (coxswain/limbo.turn).stack -/
noncomputable def s159 (q : Bool) (e : Ex) (v0 v1 : Value) (G : GS) : Option (Value × GS) :=
  bS (bx q v1 G) fun x0 G1 =>
  bS (al Q q 23 z23 G1) fun x2 G3 =>
  bP (fa Q q 29 2 9 x0) fun x4 =>
  bP (ld Q q 3 x4 G3) fun x5 =>
  bP (bn Q q .add 3 (.tmp 6) (.tmp 7) x5 v0) fun x6 =>
  bP (fa Q q 29 0 0 x0) fun x7 =>
  bP (fa Q q 25 0 0 x7) fun x8 =>
  bP (fa Q q 23 1 1 x8) fun x9 =>
  bP (ld Q q 3 x9 G3) fun x10 =>
  bP (fa Q q 29 0 0 x0) fun x11 =>
  bP (fa Q q 25 0 0 x11) fun x12 =>
  bP (fa Q q 23 2 2 x12) fun x13 =>
  bP (ld Q q 3 x13 G3) fun x14 =>
  bP (bd Q q 23 z23 [(0, 0, 1), (1, 1, 1), (2, 2, 1)] [x6, x10, x14]) fun x15 =>
  bP (st Q q 23 3 x2 x15 G3) fun G16 =>
  bP (lda Q q 23 3 x2 G16) fun x17 =>
  some (x17, G16)
theorem m159 {e : Ex} {E : Ev} (h : ExLe Q e E) (v0 v1 : Value) (G : GS) : Ref (s159 true e v0 v1 G) (s159 false (Ex.of E) v0 v1 G) := by
  unfold s159
  exact Ref.go
theorem f159 {orc : FuncId → Bool} {e : Ex} (h : ExLe Q e (E orc)) (v0 v1 : Value) (G : GS) : Ref (s159 true e v0 v1 G) ((E orc).cl 159 [v0, v1] G) :=
  fun r hr => cl_sxE_some Q orc (vs := [v0, v1]) G Tryz.func159 (by kernel_rfl) (by kernel_rfl) (by kernel_rfl) (by kernel_rfl) (by kernel_rfl) (by kernel_rfl) (m159 h v0 v1 G r hr)
/-- coxswain/word.GetRef -/
noncomputable def s163 (q : Bool) (e : Ex) (v0 : Value) (G : GS) : Option (Value × GS) :=
  bS (al Q q 262 z262 G) fun x0 G1 =>
  bS (e.ev.cl 202 [] G1) fun x2 G3 =>
  bS (al Q q 333 z333 G3) fun x4 G5 =>
  bP (st Q q 333 4 x4 x2 G5) fun G6 =>
  bP (iaa Q q 333 2 2 x4 (.int .i64 0)) fun x7 =>
  bP (lda Q q 332 2 x7 (G6.room 14)) fun x8 =>
  bS (e.ev.cl 203 [v0, x8] (G6.room 14)) fun x10 G9 =>
  bP (bn Q q .sub 3 (.tmp 12) (.const (.int .i64 1)) x10 (.int .i64 1)) fun x11 =>
  bP (iaa Q q 333 2 2 x4 (.int .i64 1)) fun x12 =>
  bP (lda Q q 332 2 x12 G9) fun x13 =>
  chk ((sameO (lda Q q 332 2 x12 (G6.room 14)) x13 && true)) <|
  bS (e.ev.cl 203 [v0, x13] G9) fun x15 G14 =>
  bS (e.ev.cl 204 [v0] G14) fun x17 G16 =>
  bP (bd Q q 262 z262 [(0, 0, 1), (1, 1, 1), (2, 2, 1)] [x11, x15, x17]) fun x18 =>
  bS (al Q q 262 z262 (G16.at' (G6.nx + 12))) fun x19 G20 =>
  bP (st Q q 262 3 x19 x18 (G20.back G16)) fun G21 =>
  bP (lda Q q 262 3 x19 G21) fun x22 =>
  bS (e.ev.cl 205 [x22] G21) fun x23 G24 =>
  bP (pExtract x23 0) fun x25 =>
  bP (pExtract x23 1) fun x26 =>
  bP (bn Q q .neq 39 (.tmp 26) (.const (.int .i64 0)) x26 (.int .i64 0)) fun x27 =>
  bS (gd x27 false (some (x25, G24)) G24) fun x28 G29 =>
  bS (gd x27 false (some (v0, G29)) G29) fun x30 G31 =>
  bS (gd x27 false (bP (bn Q q .neq 36 (.tmp 29) (.tmp 30) x28 x30) fun y => some (y, G31)) G31) fun x32 G33 =>
  bP (pickV x27 (.bool true) x32) fun x34 =>
  ifV x34 (
  bP (bd Q q 262 z262 [] []) fun x35 =>
  bP (st Q q 262 3 x0 x35 G33) fun G36 =>
  bP (lda Q q 262 3 x0 G36) fun x37 =>
  some (.tuple #[x37, (.int .i64 5)], G36)) (
  bP (lda Q q 262 3 x19 G33) fun x38 =>
  bP (st Q q 262 3 x0 x38 G33) fun G39 =>
  bP (lda Q q 262 3 x0 G39) fun x40 =>
  some (.tuple #[x40, (.int .i64 0)], G39))
theorem m163 {e : Ex} {E : Ev} (h : ExLe Q e E) (v0 : Value) (G : GS) : Ref (s163 true e v0 G) (s163 false (Ex.of E) v0 G) := by
  unfold s163
  exact Ref.go
theorem f163 {orc : FuncId → Bool} {e : Ex} (h : ExLe Q e (E orc)) (v0 : Value) (G : GS) : Ref (s163 true e v0 G) ((E orc).cl 163 [v0] G) :=
  fun r hr => cl_sxE_some Q orc (vs := [v0]) G Tryz.func163 (by kernel_rfl) (by kernel_rfl) (by kernel_rfl) (by kernel_rfl) (by kernel_rfl) (by kernel_rfl) (m163 h v0 G r hr)
/-- coxswain/epoch.sized -/
noncomputable def s165 (q : Bool) (e : Ex) (v0 : Value) (G : GS) : Option (Value × GS) :=
  bS (bx q v0 G) fun x0 G1 =>
  bP (fa Q q 27 2 2 x0) fun x2 =>
  bP (ld Q q 3 x2 G1) fun x3 =>
  bP (bn Q q .geq 3 (.tmp 4) (.const (.int .i64 1)) x3 (.int .i64 1)) fun x4 =>
  bS (gd x4 true (bP (fa Q q 27 2 2 x0) fun y => some (y, G1)) G1) fun x5 G6 =>
  bS (gd x4 true (bP (ld Q q 3 x5 G6) fun y => some (y, G6)) G6) fun x7 G8 =>
  bS (gd x4 true (bP (bn Q q .leq 3 (.tmp 8) (.const (.int .i64 64)) x7 (.int .i64 64)) fun y => some (y, G8)) G8) fun x9 G10 =>
  bP (pickV x4 x9 (.bool false)) fun x11 =>
  some (x11, G10)
theorem m165 {e : Ex} {E : Ev} (h : ExLe Q e E) (v0 : Value) (G : GS) : Ref (s165 true e v0 G) (s165 false (Ex.of E) v0 G) := by
  unfold s165
  exact Ref.go
theorem f165 {orc : FuncId → Bool} {e : Ex} (h : ExLe Q e (E orc)) (v0 : Value) (G : GS) : Ref (s165 true e v0 G) ((E orc).cl 165 [v0] G) :=
  fun r hr => cl_sxE_some Q orc (vs := [v0]) G Tryz.func165 (by kernel_rfl) (by kernel_rfl) (by kernel_rfl) (by kernel_rfl) (by kernel_rfl) (by kernel_rfl) (m165 h v0 G r hr)
/-- coxswain/epoch.pins -/
noncomputable def s166 (q : Bool) (e : Ex) (v0 : Value) (G : GS) : Option (Value × GS) :=
  bS (bx q v0 G) fun x0 G1 =>
  some ((.func (.func 206) #[] #[x0]), G1)
theorem m166 {e : Ex} {E : Ev} (h : ExLe Q e E) (v0 : Value) (G : GS) : Ref (s166 true e v0 G) (s166 false (Ex.of E) v0 G) := by
  unfold s166
  exact Ref.go
theorem f166 {orc : FuncId → Bool} {e : Ex} (h : ExLe Q e (E orc)) (v0 : Value) (G : GS) : Ref (s166 true e v0 G) ((E orc).cl 166 [v0] G) :=
  fun r hr => cl_sxE_some Q orc (vs := [v0]) G Tryz.func166 (by kernel_rfl) (by kernel_rfl) (by kernel_rfl) (by kernel_rfl) (by kernel_rfl) (by kernel_rfl) (m166 h v0 G r hr)
/-- (*coxswain/ready.Look).By -/
noncomputable def s168 (q : Bool) (e : Ex) (v0 : Value) (G : GS) : Option (Value × GS) :=
  bP (ep Q q false 135 (.tmp 3) (.const (.pointer none)) v0 (.pointer none)) fun x0 =>
  ifV x0 (
  some ((.int .u64 0), G)) (
  bP (pNil v0) fun x1 =>
  bP (fa Q q 210 0 0 x1) fun x2 =>
  bP (fa Q q 79 5 17 x2) fun x3 =>
  bP (ld Q q 36 x3 G) fun x4 =>
  some (x4, G))
theorem m168 {e : Ex} {E : Ev} (h : ExLe Q e E) (v0 : Value) (G : GS) : Ref (s168 true e v0 G) (s168 false (Ex.of E) v0 G) := by
  unfold s168
  exact Ref.go
theorem f168 {orc : FuncId → Bool} {e : Ex} (h : ExLe Q e (E orc)) (v0 : Value) (G : GS) : Ref (s168 true e v0 G) ((E orc).cl 168 [v0] G) :=
  fun r hr => cl_sxE_some Q orc (vs := [v0]) G Tryz.func168 (by kernel_rfl) (by kernel_rfl) (by kernel_rfl) (by kernel_rfl) (by kernel_rfl) (by kernel_rfl) (m168 h v0 G r hr)
/-- (coxswain/cells.deed).load -/
noncomputable def s169 (q : Bool) (e : Ex) (v0 : Value) (G : GS) : Option (Value × GS) :=
  bS (bx q v0 G) fun x0 G1 =>
  bP (fa Q q 123 0 0 x0) fun x2 =>
  bP (ld Q q 120 x2 G1) fun x3 =>
  bP (pNil x3) fun x4 =>
  bP (ld Q q 188 x4 G1) fun x5 =>
  some (.tuple #[x5, (.bool false)], G1)
theorem m169 {e : Ex} {E : Ev} (h : ExLe Q e E) (v0 : Value) (G : GS) : Ref (s169 true e v0 G) (s169 false (Ex.of E) v0 G) := by
  unfold s169
  exact Ref.go
theorem f169 {orc : FuncId → Bool} {e : Ex} (h : ExLe Q e (E orc)) (v0 : Value) (G : GS) : Ref (s169 true e v0 G) ((E orc).cl 169 [v0] G) :=
  fun r hr => cl_sxE_some Q orc (vs := [v0]) G Tryz.func169 (by kernel_rfl) (by kernel_rfl) (by kernel_rfl) (by kernel_rfl) (by kernel_rfl) (by kernel_rfl) (m169 h v0 G r hr)
/-- coxswain/claim.seek[struct{}] -/
noncomputable def s180 (q : Bool) (e : Ex) (v0 : Value) (G : GS) : Option (Value × GS) :=
  bS (bx q v0 G) fun x0 G1 =>
  bS (al Q q 281 z281 G1) fun x2 G3 =>
  bP (lda Q q 31 13 x0 G3) fun x4 =>
  bS (e.ev.cl 103 [x4, (.int .i64 (-1)), (.int .i64 0)] G3) fun x5 G6 =>
  bP (bn Q q .lss 3 (.tmp 4) (.const (.int .i64 0)) x5 (.int .i64 0)) fun x7 =>
  ifV x7 (
  bP (bd Q q 281 z281 [(8, 20, 1), (2, 13, 1), (9, 21, 1)] [(.bool true), (.int .i64 99), (.int .i64 2)]) fun x8 =>
  bP (st Q q 281 22 x2 x8 G6) fun G9 =>
  bP (lda Q q 281 22 x2 G9) fun x10 =>
  some (x10, G9)) (
  bP (lda Q q 31 13 x0 G6) fun x11 =>
  bP (bd Q q 281 z281 [(0, 0, 13), (8, 20, 1), (2, 13, 1)] [x11, (.bool true), (.int .i64 1)]) fun x12 =>
  bP (st Q q 281 22 x2 x12 G6) fun G13 =>
  bP (lda Q q 281 22 x2 G13) fun x14 =>
  some (x14, G13))
theorem m180 {e : Ex} {E : Ev} (h : ExLe Q e E) (v0 : Value) (G : GS) : Ref (s180 true e v0 G) (s180 false (Ex.of E) v0 G) := by
  unfold s180
  exact Ref.go
theorem f180 {orc : FuncId → Bool} {e : Ex} (h : ExLe Q e (E orc)) (v0 : Value) (G : GS) : Ref (s180 true e v0 G) ((E orc).cl 180 [v0] G) :=
  fun r hr => cl_sxE_some Q orc (vs := [v0]) G Tryz.func180 (by kernel_rfl) (by kernel_rfl) (by kernel_rfl) (by kernel_rfl) (by kernel_rfl) (by kernel_rfl) (m180 h v0 G r hr)
/-- (*coxswain/claim.seeker[struct{}]).item -/
noncomputable def s181 (q : Bool) (e : Ex) (v0 : Value) (G : GS) : Option (Value × GS) :=
  bS (al Q q 38 z38 G) fun x0 G1 =>
  bP (pNil v0) fun x2 =>
  bP (fa Q q 281 8 20 x2) fun x3 =>
  bP (ld Q q 4 x3 G1) fun x4 =>
  bP (un Q q .not x4) fun x5 =>
  ifV x5 (
  bP (bd Q q 38 z38 [] []) fun x6 =>
  bP (st Q q 38 2 x0 x6 G1) fun G7 =>
  bP (lda Q q 38 2 x0 G7) fun x8 =>
  some (.tuple #[x8, (.int .i64 1)], G7)) (
  bP (pNil v0) fun x9 =>
  bP (fa Q q 281 2 13 x9) fun x10 =>
  bP (ld Q q 3 x10 G1) fun x11 =>
  bP (bn Q q .neq 3 (.tmp 15) (.const (.int .i64 99)) x11 (.int .i64 99)) fun x12 =>
  ifV x12 (
  bP (bd Q q 38 z38 [] []) fun x13 =>
  bP (st Q q 38 2 x0 x13 G1) fun G14 =>
  bP (lda Q q 38 2 x0 G14) fun x15 =>
  some (.tuple #[x15, (.int .i64 14)], G14)) (
  bP (pNil v0) fun x16 =>
  bP (fa Q q 281 9 21 x16) fun x17 =>
  bP (ld Q q 39 x17 G1) fun x18 =>
  bP (bn Q q .neq 39 (.tmp 22) (.const (.int .i64 0)) x18 (.int .i64 0)) fun x19 =>
  ifV x19 (
  bP (bd Q q 38 z38 [] []) fun x20 =>
  bP (pNil v0) fun x21 =>
  bP (fa Q q 281 9 21 x21) fun x22 =>
  bP (ld Q q 39 x22 (G1.room 7)) fun x23 =>
  bP (st Q q 38 2 x0 x20 (G1.room 7)) fun G24 =>
  chk ((sameO (ld Q q 39 x22 G24) x23 && true)) <|
  bP (lda Q q 38 2 x0 G24) fun x25 =>
  some (.tuple #[x25, x23], G24)) (
  bP (pNil v0) fun x26 =>
  bP (fa Q q 281 6 17 x26) fun x27 =>
  bP (lda Q q 38 2 x27 G1) fun x28 =>
  bP (st Q q 38 2 x0 x28 G1) fun G29 =>
  bP (lda Q q 38 2 x0 G29) fun x30 =>
  some (.tuple #[x30, (.int .i64 0)], G29))))
theorem m181 {e : Ex} {E : Ev} (h : ExLe Q e E) (v0 : Value) (G : GS) : Ref (s181 true e v0 G) (s181 false (Ex.of E) v0 G) := by
  unfold s181
  exact Ref.go
theorem f181 {orc : FuncId → Bool} {e : Ex} (h : ExLe Q e (E orc)) (v0 : Value) (G : GS) : Ref (s181 true e v0 G) ((E orc).cl 181 [v0] G) :=
  fun r hr => cl_sxE_some Q orc (vs := [v0]) G Tryz.func181 (by kernel_rfl) (by kernel_rfl) (by kernel_rfl) (by kernel_rfl) (by kernel_rfl) (by kernel_rfl) (m181 h v0 G r hr)
/-- (*coxswain/stack.Pop).first -/
noncomputable def s182 (q : Bool) (e : Ex) (v0 v1 : Value) (G : GS) : Option (Value × GS) :=
  bP (pNil v0) fun x0 =>
  bP (fa Q q 290 1 9 x0) fun x1 =>
  bP (st Q q 288 1 x1 (.func (.func 212) #[] #[]) G) fun G2 =>
  bP (pNil v0) fun x3 =>
  bP (fa Q q 290 0 0 x3) fun x4 =>
  bS (e.ev.cl 213 [x4, v1] G2) fun x5 G6 =>
  bP (pNil v0) fun x7 =>
  bP (fa Q q 290 0 0 x7) fun x8 =>
  bP (fa Q q 287 2 4 x8) fun x9 =>
  bP (st Q q 3 1 x9 x5 G6) fun G10 =>
  bP (pNil v0) fun x11 =>
  bP (fa Q q 290 0 0 x11) fun x12 =>
  bP (fa Q q 287 2 4 x12) fun x13 =>
  bP (ld Q q 3 x13 G10) fun x14 =>
  bP (bn Q q .lss 3 (.tmp 20) (.const (.int .i64 0)) x14 (.int .i64 0)) fun x15 =>
  ifV x15 (
  bP (pNil v0) fun x16 =>
  bP (fa Q q 290 0 0 x16) fun x17 =>
  bS (e.ev.cl 214 [x17, (.int .i64 15)] G10) fun x18 G19 =>
  some (.tuple #[], G19)) (
  some (.tuple #[], G10))
theorem m182 {e : Ex} {E : Ev} (h : ExLe Q e E) (v0 v1 : Value) (G : GS) : Ref (s182 true e v0 v1 G) (s182 false (Ex.of E) v0 v1 G) := by
  unfold s182
  exact Ref.go
theorem f182 {orc : FuncId → Bool} {e : Ex} (h : ExLe Q e (E orc)) (v0 v1 : Value) (G : GS) : Ref (s182 true e v0 v1 G) ((E orc).cl 182 [v0, v1] G) :=
  fun r hr => cl_sxE_some Q orc (vs := [v0, v1]) G Tryz.func182 (by kernel_rfl) (by kernel_rfl) (by kernel_rfl) (by kernel_rfl) (by kernel_rfl) (by kernel_rfl) (m182 h v0 v1 G r hr)
/-- (*coxswain/stack.Pop).Step -/
noncomputable def s183 (q : Bool) (e : Ex) (v0 v1 : Value) (G : GS) : Option (Value × GS) :=
  bP (ep Q q false 236 (.tmp 5) (.const (.pointer none)) v0 (.pointer none)) fun x0 =>
  bS (gd x0 false (some (v0, G)) G) fun x1 G2 =>
  bS (gd x0 false (bP (pNil x1) fun y => some (y, G2)) G2) fun x3 G4 =>
  bS (gd x0 false (bP (fa Q q 290 0 0 x3) fun y => some (y, G4)) G4) fun x5 G6 =>
  bS (gd x0 false (bS (e.ev.cl 215 [x5] G6) fun y G => some (y, G)) G6) fun x7 G8 =>
  bP (pickV x0 (.bool true) x7) fun x9 =>
  ifV x9 (
  some ((.bool true), G8)) (
  bP (pNil v0) fun x10 =>
  bP (fa Q q 290 1 9 x10) fun x11 =>
  bP (ld Q q 288 x11 G8) fun x12 =>
  bS (cValue e.ev x12 [v0, v1] G8) fun x13 G14 =>
  bP (pNil v0) fun x15 =>
  bP (fa Q q 290 0 0 x15) fun x16 =>
  bP (fa Q q 287 5 7 x16) fun x17 =>
  bP (ld Q q 4 x17 G14) fun x18 =>
  some (x18, G14))
theorem m183 {e : Ex} {E : Ev} (h : ExLe Q e E) (v0 v1 : Value) (G : GS) : Ref (s183 true e v0 v1 G) (s183 false (Ex.of E) v0 v1 G) := by
  unfold s183
  exact Ref.go
theorem f183 {orc : FuncId → Bool} {e : Ex} (h : ExLe Q e (E orc)) (v0 v1 : Value) (G : GS) : Ref (s183 true e v0 v1 G) ((E orc).cl 183 [v0, v1] G) :=
  fun r hr => cl_sxE_some Q orc (vs := [v0, v1]) G Tryz.func183 (by kernel_rfl) (by kernel_rfl) (by kernel_rfl) (by kernel_rfl) (by kernel_rfl) (by kernel_rfl) (m183 h v0 v1 G r hr)
/-- (*coxswain/stack.Pop).Index -/
noncomputable def s184 (q : Bool) (e : Ex) (v0 : Value) (G : GS) : Option (Value × GS) :=
  bP (ep Q q false 236 (.tmp 4) (.const (.pointer none)) v0 (.pointer none)) fun x0 =>
  ifV x0 (
  some (.tuple #[(.int .i64 0), (.int .i64 1)], G)) (
  bP (pNil v0) fun x1 =>
  bP (fa Q q 290 0 0 x1) fun x2 =>
  bS (e.ev.cl 216 [x2] G) fun x3 G4 =>
  bP (pExtract x3 0) fun x5 =>
  bP (pExtract x3 1) fun x6 =>
  some (.tuple #[x5, x6], G4))
theorem m184 {e : Ex} {E : Ev} (h : ExLe Q e E) (v0 : Value) (G : GS) : Ref (s184 true e v0 G) (s184 false (Ex.of E) v0 G) := by
  unfold s184
  exact Ref.go
theorem f184 {orc : FuncId → Bool} {e : Ex} (h : ExLe Q e (E orc)) (v0 : Value) (G : GS) : Ref (s184 true e v0 G) ((E orc).cl 184 [v0] G) :=
  fun r hr => cl_sxE_some Q orc (vs := [v0]) G Tryz.func184 (by kernel_rfl) (by kernel_rfl) (by kernel_rfl) (by kernel_rfl) (by kernel_rfl) (by kernel_rfl) (m184 h v0 G r hr)
/-- (*coxswain/arena.Alloc).gives -/
noncomputable def s185 (q : Bool) (e : Ex) (v0 v1 : Value) (G : GS) : Option (Value × GS) :=
  bP (pNil v0) fun x0 =>
  bP (fa Q q 240 4 9 x0) fun x1 =>
  bP (ld Q q 3 x1 (G.room 26)) fun x2 =>
  bP (pNil v0) fun x3 =>
  bP (fa Q q 240 1 1 x3) fun x4 =>
  bP (fa Q q 25 1 3 x4) fun x5 =>
  bP (ld Q q 3 x5 (G.room 26)) fun x6 =>
  bP (pNil v0) fun x7 =>
  bP (fa Q q 240 4 9 x7) fun x8 =>
  bP (ld Q q 3 x8 (G.room 26)) fun x9 =>
  bP (bn Q q .add 3 (.tmp 15) (.tmp 19) x6 x9) fun x10 =>
  bS (e.ev.cl 124 [v1, x10] (G.room 26)) fun x12 G11 =>
  chk ((sameO (ld Q q 3 x1 G11) x2 && true)) <|
  bS (e.ev.cl 217 [x12] G11) fun x14 G13 =>
  chk ((sameO (ld Q q 3 x1 G13) x2 && true)) <|
  bP (bd Q q 262 z262 [(0, 0, 1), (1, 1, 1)] [x2, x14]) fun x15 =>
  bS (e.ev.cl 205 [x15] G13) fun x17 G16 =>
  bP (pExtract x17 0) fun x18 =>
  bP (pExtract x17 1) fun x19 =>
  bP (pNil v0) fun x20 =>
  bP (fa Q q 240 5 10 x20) fun x21 =>
  bP (st Q q 36 1 x21 x18 G16) fun G22 =>
  bP (pNil v0) fun x23 =>
  bP (fa Q q 240 3 8 x23) fun x24 =>
  bP (st Q q 238 1 x24 .nilFunc G22) fun G25 =>
  some (.tuple #[], G25)
theorem m185 {e : Ex} {E : Ev} (h : ExLe Q e E) (v0 v1 : Value) (G : GS) : Ref (s185 true e v0 v1 G) (s185 false (Ex.of E) v0 v1 G) := by
  unfold s185
  exact Ref.go
theorem f185 {orc : FuncId → Bool} {e : Ex} (h : ExLe Q e (E orc)) (v0 v1 : Value) (G : GS) : Ref (s185 true e v0 v1 G) ((E orc).cl 185 [v0, v1] G) :=
  fun r hr => cl_sxE_some Q orc (vs := [v0, v1]) G Tryz.func185 (by kernel_rfl) (by kernel_rfl) (by kernel_rfl) (by kernel_rfl) (by kernel_rfl) (by kernel_rfl) (m185 h v0 v1 G r hr)
/-- (*coxswain/arena.Alloc).lacks -/
noncomputable def s186 (q : Bool) (e : Ex) (v0 v1 : Value) (G : GS) : Option (Value × GS) :=
  bP (pNil v0) fun x0 =>
  bP (fa Q q 240 6 11 x0) fun x1 =>
  bP (st Q q 39 1 x1 (.int .i64 7) G) fun G2 =>
  bP (pNil v0) fun x3 =>
  bP (fa Q q 240 1 1 x3) fun x4 =>
  bP (fa Q q 25 2 4 x4) fun x5 =>
  bP (ld Q q 3 x5 (G2.room 15)) fun x6 =>
  bS (e.ev.cl 124 [v1, x6] (G2.room 15)) fun x8 G7 =>
  bP (pNil v0) fun x9 =>
  bP (fa Q q 240 1 1 x9) fun x10 =>
  bP (fa Q q 25 0 0 x10) fun x11 =>
  bP (fa Q q 23 2 2 x11) fun x12 =>
  bP (ld Q q 3 x12 G7) fun x13 =>
  chk ((sameO (ld Q q 3 x12 (G2.room 15)) x13 && true)) <|
  bP (cv Q q 3 36 .i64 .u64 x13) fun x14 =>
  bP (bn Q q .geq 36 (.tmp 13) (.tmp 20) x8 x14) fun x15 =>
  ifV x15 (
  bP (pNil v0) fun x16 =>
  bP (fa Q q 240 6 11 x16) fun x17 =>
  bP (st Q q 39 1 x17 (.int .i64 12) G7) fun G18 =>
  bP (pNil v0) fun x19 =>
  bP (fa Q q 240 3 8 x19) fun x20 =>
  bP (st Q q 238 1 x20 .nilFunc G18) fun G21 =>
  some (.tuple #[], G21)) (
  bP (pNil v0) fun x22 =>
  bP (fa Q q 240 3 8 x22) fun x23 =>
  bP (st Q q 238 1 x23 .nilFunc G7) fun G24 =>
  some (.tuple #[], G24))
theorem m186 {e : Ex} {E : Ev} (h : ExLe Q e E) (v0 v1 : Value) (G : GS) : Ref (s186 true e v0 v1 G) (s186 false (Ex.of E) v0 v1 G) := by
  unfold s186
  exact Ref.go
theorem f186 {orc : FuncId → Bool} {e : Ex} (h : ExLe Q e (E orc)) (v0 v1 : Value) (G : GS) : Ref (s186 true e v0 v1 G) ((E orc).cl 186 [v0, v1] G) :=
  fun r hr => cl_sxE_some Q orc (vs := [v0, v1]) G Tryz.func186 (by kernel_rfl) (by kernel_rfl) (by kernel_rfl) (by kernel_rfl) (by kernel_rfl) (by kernel_rfl) (m186 h v0 v1 G r hr)
/-- (*coxswain/ready.Put).lay$1 -/
noncomputable def s187 (q : Bool) (e : Ex) (v0 : Value) (G : GS) : Option (Value × GS) :=
  bP (ld Q q 42 v0 (G.room 23)) fun x0 =>
  bP (pNil x0) fun x1 =>
  bP (fa Q q 82 0 0 x1) fun x2 =>
  bP (fa Q q 79 0 0 x2) fun x3 =>
  bP (lda Q q 31 13 x3 (G.room 23)) fun x4 =>
  bP (ld Q q 42 v0 (G.room 23)) fun x5 =>
  bP (pNil x5) fun x6 =>
  bP (fa Q q 82 5 23 x6) fun x7 =>
  bP (ld Q q 36 x7 (G.room 23)) fun x8 =>
  bP (ld Q q 42 v0 (G.room 23)) fun x9 =>
  bP (pNil x9) fun x10 =>
  bP (fa Q q 82 1 19 x10) fun x11 =>
  bP (ld Q q 36 x11 (G.room 23)) fun x12 =>
  bP (ld Q q 42 v0 (G.room 23)) fun x13 =>
  bP (pNil x13) fun x14 =>
  bP (fa Q q 82 2 20 x14) fun x15 =>
  bP (ld Q q 3 x15 (G.room 23)) fun x16 =>
  bP (ld Q q 42 v0 (G.room 23)) fun x17 =>
  bP (pNil x17) fun x18 =>
  bP (fa Q q 82 3 21 x18) fun x19 =>
  bP (ld Q q 3 x19 (G.room 23)) fun x20 =>
  bS (e.ev.cl 188 [x4, x8, x12, x16, x20] (G.room 23)) fun x22 G21 =>
  some (x22, G21)
theorem m187 {e : Ex} {E : Ev} (h : ExLe Q e E) (v0 : Value) (G : GS) : Ref (s187 true e v0 G) (s187 false (Ex.of E) v0 G) := by
  unfold s187
  exact Ref.go
theorem f187 {orc : FuncId → Bool} {e : Ex} (h : ExLe Q e (E orc)) (v0 : Value) (G : GS) : Ref (s187 true e v0 G) ((E orc).cl 187 [v0] G) :=
  fun r hr => cl_sxE_some Q orc (vs := [v0]) G Tryz.func187 (by kernel_rfl) (by kernel_rfl) (by kernel_rfl) (by kernel_rfl) (by kernel_rfl) (by kernel_rfl) (m187 h v0 G r hr)
/-- coxswain/tower.NewLay -/
noncomputable def s188 (q : Bool) (e : Ex) (v0 v1 v2 v3 v4 : Value) (G : GS) : Option (Value × GS) :=
  bS (bx q v0 G) fun x0 G1 =>
  bP (lda Q q 31 13 x0 G1) fun x2 =>
  bS (e.ev.cl 218 [x2, v1, v3, v4] G1) fun x3 G4 =>
  bP (bd Q q 348 z348 [(0, 0, 1), (1, 1, 1), (4, 7, 1)] [(.bool true), v1, x3]) fun x5 =>
  bS (bx q x5 G4) fun x6 G7 =>
  bP (pNil x6) fun x8 =>
  bP (fa Q q 348 4 7 x8) fun x9 =>
  bP (ld Q q 39 x9 G7) fun x10 =>
  bP (bn Q q .neq 39 (.tmp 25) (.const (.int .i64 0)) x10 (.int .i64 0)) fun x11 =>
  ifV x11 (
  bP (pNil x6) fun x12 =>
  bP (fa Q q 348 3 6 x12) fun x13 =>
  bP (st Q q 3 1 x13 (.int .i64 4) G7) fun G14 =>
  some (x6, G14)) (
  bP (lda Q q 31 13 x0 G7) fun x15 =>
  bS (e.ev.cl 153 [x15, v1] G7) fun x16 G17 =>
  bS (al Q q 3 z3 G17) fun x18 G19 =>
  bP (st Q q 3 1 x18 x16 G19) fun G20 =>
  bS (cValue e.ev (.func (.func 219) #[] #[x0, x18]) [(.int .i64 0), v2] G20) fun x21 G22 =>
  bP (cv Q q 3 36 .i64 .u64 v3) fun x23 =>
  bS (cValue e.ev (.func (.func 219) #[] #[x0, x18]) [(.int .i64 1), x23] G22) fun x24 G25 =>
  bP (cv Q q 3 36 .i64 .u64 v4) fun x26 =>
  bS (cValue e.ev (.func (.func 219) #[] #[x0, x18]) [(.int .i64 2), x26] G25) fun x27 G28 =>
  bS (cValue e.ev (.func (.func 219) #[] #[x0, x18]) [(.int .i64 3), (.int .u64 2)] G28) fun x29 G30 =>
  bP (bd Q q 346 z346 [(0, 0, 1), (1, 1, 1), (2, 2, 1), (3, 3, 1)] [x21, x24, x27, x29]) fun x31 =>
  bP (pNil x6) fun x32 =>
  bP (fa Q q 348 2 2 x32) fun x33 =>
  bP (st Q q 346 4 x33 x31 G30) fun G34 =>
  some (x6, G34))
theorem m188 {e : Ex} {E : Ev} (h : ExLe Q e E) (v0 v1 v2 v3 v4 : Value) (G : GS) : Ref (s188 true e v0 v1 v2 v3 v4 G) (s188 false (Ex.of E) v0 v1 v2 v3 v4 G) := by
  unfold s188
  exact Ref.go
theorem f188 {orc : FuncId → Bool} {e : Ex} (h : ExLe Q e (E orc)) (v0 v1 v2 v3 v4 : Value) (G : GS) : Ref (s188 true e v0 v1 v2 v3 v4 G) ((E orc).cl 188 [v0, v1, v2, v3, v4] G) :=
  fun r hr => cl_sxE_some Q orc (vs := [v0, v1, v2, v3, v4]) G Tryz.func188 (by kernel_rfl) (by kernel_rfl) (by kernel_rfl) (by kernel_rfl) (by kernel_rfl) (by kernel_rfl) (m188 h v0 v1 v2 v3 v4 G r hr)
/-- (*coxswain/tower.Lay).By -/
noncomputable def s189 (q : Bool) (e : Ex) (v0 : Value) (G : GS) : Option (Value × GS) :=
  bP (ep Q q false 292 (.tmp 3) (.const (.pointer none)) v0 (.pointer none)) fun x0 =>
  bS (gd x0 false (some (v0, G)) G) fun x1 G2 =>
  bS (gd x0 false (bP (pNil x1) fun y => some (y, G2)) G2) fun x3 G4 =>
  bS (gd x0 false (bP (fa Q q 348 4 7 x3) fun y => some (y, G4)) G4) fun x5 G6 =>
  bS (gd x0 false (bP (ld Q q 39 x5 G6) fun y => some (y, G6)) G6) fun x7 G8 =>
  bS (gd x0 false (bP (bn Q q .neq 39 (.tmp 9) (.const (.int .i64 0)) x7 (.int .i64 0)) fun y => some (y, G8)) G8) fun x9 G10 =>
  bP (pickV x0 (.bool true) x9) fun x11 =>
  bS (gd x11 false (some (v0, G10)) G10) fun x12 G13 =>
  bS (gd x11 false (bP (pNil x12) fun y => some (y, G13)) G13) fun x14 G15 =>
  bS (gd x11 false (bP (fa Q q 348 3 6 x14) fun y => some (y, G15)) G15) fun x16 G17 =>
  bS (gd x11 false (bP (ld Q q 3 x16 G17) fun y => some (y, G17)) G17) fun x18 G19 =>
  bS (gd x11 false (bP (bn Q q .eql 3 (.tmp 16) (.const (.int .i64 0)) x18 (.int .i64 0)) fun y => some (y, G19)) G19) fun x20 G21 =>
  bP (pickV x11 (.bool true) x20) fun x22 =>
  ifV x22 (
  some ((.int .u64 0), G21)) (
  bP (pNil v0) fun x23 =>
  bP (fa Q q 348 1 1 x23) fun x24 =>
  bP (ld Q q 36 x24 G21) fun x25 =>
  some (x25, G21))
theorem m189 {e : Ex} {E : Ev} (h : ExLe Q e E) (v0 : Value) (G : GS) : Ref (s189 true e v0 G) (s189 false (Ex.of E) v0 G) := by
  unfold s189
  exact Ref.go
theorem f189 {orc : FuncId → Bool} {e : Ex} (h : ExLe Q e (E orc)) (v0 : Value) (G : GS) : Ref (s189 true e v0 G) ((E orc).cl 189 [v0] G) :=
  fun r hr => cl_sxE_some Q orc (vs := [v0]) G Tryz.func189 (by kernel_rfl) (by kernel_rfl) (by kernel_rfl) (by kernel_rfl) (by kernel_rfl) (by kernel_rfl) (m189 h v0 G r hr)
/-- (*coxswain/ready.Put).link$1 -/
noncomputable def s190 (q : Bool) (e : Ex) (v0 : Value) (G : GS) : Option (Value × GS) :=
  bP (ld Q q 42 v0 (G.room 19)) fun x0 =>
  bP (pNil x0) fun x1 =>
  bP (fa Q q 82 0 0 x1) fun x2 =>
  bP (fa Q q 79 0 0 x2) fun x3 =>
  bP (lda Q q 31 13 x3 (G.room 19)) fun x4 =>
  bP (ld Q q 42 v0 (G.room 19)) fun x5 =>
  bP (pNil x5) fun x6 =>
  bP (fa Q q 82 5 23 x6) fun x7 =>
  bP (ld Q q 36 x7 (G.room 19)) fun x8 =>
  bP (ld Q q 42 v0 (G.room 19)) fun x9 =>
  bP (pNil x9) fun x10 =>
  bP (fa Q q 82 1 19 x10) fun x11 =>
  bP (ld Q q 36 x11 (G.room 19)) fun x12 =>
  bP (ld Q q 42 v0 (G.room 19)) fun x13 =>
  bP (pNil x13) fun x14 =>
  bP (fa Q q 82 3 21 x14) fun x15 =>
  bP (ld Q q 3 x15 (G.room 19)) fun x16 =>
  bS (e.ev.cl 191 [x4, x8, x12, x16] (G.room 19)) fun x18 G17 =>
  some (x18, G17)
theorem m190 {e : Ex} {E : Ev} (h : ExLe Q e E) (v0 : Value) (G : GS) : Ref (s190 true e v0 G) (s190 false (Ex.of E) v0 G) := by
  unfold s190
  exact Ref.go
theorem f190 {orc : FuncId → Bool} {e : Ex} (h : ExLe Q e (E orc)) (v0 : Value) (G : GS) : Ref (s190 true e v0 G) ((E orc).cl 190 [v0] G) :=
  fun r hr => cl_sxE_some Q orc (vs := [v0]) G Tryz.func190 (by kernel_rfl) (by kernel_rfl) (by kernel_rfl) (by kernel_rfl) (by kernel_rfl) (by kernel_rfl) (m190 h v0 G r hr)
/-- coxswain/insert.NewInsert -/
noncomputable def s191 (q : Bool) (e : Ex) (v0 v1 v2 v3 : Value) (G : GS) : Option (Value × GS) :=
  bS (bx q v0 G) fun x0 G1 =>
  bP (lda Q q 31 13 x0 (G1.room 11)) fun x2 =>
  bP (lda Q q 31 13 x0 (G1.room 11)) fun x3 =>
  bS (e.ev.cl 221 [x3, v1, v3] (G1.room 11)) fun x5 G4 =>
  chk ((sameO (lda Q q 31 13 x0 G4) x2 && true)) <|
  bP (bd Q q 353 z353 [(0, 0, 13), (1, 13, 1), (3, 15, 1), (4, 16, 1), (6, 18, 1), (13, 25, 1)] [x2, (.bool true), v1, v2, v3, x5]) fun x6 =>
  bS (bx q x6 (G4.at' (G1.nx + 9))) fun x7 G8 =>
  bP (pNil x7) fun x9 =>
  bP (fa Q q 353 13 25 x9) fun x10 =>
  bP (ld Q q 39 x10 (G8.back G4)) fun x11 =>
  bP (bn Q q .eql 39 (.tmp 25) (.const (.int .i64 0)) x11 (.int .i64 0)) fun x12 =>
  ifV x12 (
  bS (e.ev.cl 163 [v1] (G8.back G4)) fun x13 G14 =>
  bP (pExtract x13 0) fun x15 =>
  bP (pExtract x13 1) fun x16 =>
  bS (al Q q 262 z262 G14) fun x17 G18 =>
  bP (st Q q 262 3 x17 x15 G18) fun G19 =>
  bP (fa Q q 262 0 0 x17) fun x20 =>
  bP (ld Q q 3 x20 G19) fun x21 =>
  bP (pNil x7) fun x22 =>
  bP (fa Q q 353 5 17 x22) fun x23 =>
  bP (st Q q 3 1 x23 x21 G19) fun G24 =>
  bS (e.ev.cl 222 [x7, (.int .i64 1)] G24) fun x25 G26 =>
  bP (pNil x7) fun x27 =>
  bP (fa Q q 353 7 19 x27) fun x28 =>
  bP (st Q q 351 1 x28 x25 G26) fun G29 =>
  some (x7, G29)) (
  some (x7, (G8.back G4)))
theorem m191 {e : Ex} {E : Ev} (h : ExLe Q e E) (v0 v1 v2 v3 : Value) (G : GS) : Ref (s191 true e v0 v1 v2 v3 G) (s191 false (Ex.of E) v0 v1 v2 v3 G) := by
  unfold s191
  exact Ref.go
theorem f191 {orc : FuncId → Bool} {e : Ex} (h : ExLe Q e (E orc)) (v0 v1 v2 v3 : Value) (G : GS) : Ref (s191 true e v0 v1 v2 v3 G) ((E orc).cl 191 [v0, v1, v2, v3] G) :=
  fun r hr => cl_sxE_some Q orc (vs := [v0, v1, v2, v3]) G Tryz.func191 (by kernel_rfl) (by kernel_rfl) (by kernel_rfl) (by kernel_rfl) (by kernel_rfl) (by kernel_rfl) (m191 h v0 v1 v2 v3 G r hr)
/-- (*coxswain/insert.Insert).By -/
noncomputable def s192 (q : Bool) (e : Ex) (v0 : Value) (G : GS) : Option (Value × GS) :=
  bP (ep Q q false 300 (.tmp 3) (.const (.pointer none)) v0 (.pointer none)) fun x0 =>
  ifV x0 (
  some ((.int .u64 0), G)) (
  bP (pNil v0) fun x1 =>
  bP (fa Q q 353 12 24 x1) fun x2 =>
  bP (ld Q q 36 x2 G) fun x3 =>
  some (x3, G))
theorem m192 {e : Ex} {E : Ev} (h : ExLe Q e E) (v0 : Value) (G : GS) : Ref (s192 true e v0 G) (s192 false (Ex.of E) v0 G) := by
  unfold s192
  exact Ref.go
theorem f192 {orc : FuncId → Bool} {e : Ex} (h : ExLe Q e (E orc)) (v0 : Value) (G : GS) : Ref (s192 true e v0 G) ((E orc).cl 192 [v0] G) :=
  fun r hr => cl_sxE_some Q orc (vs := [v0]) G Tryz.func192 (by kernel_rfl) (by kernel_rfl) (by kernel_rfl) (by kernel_rfl) (by kernel_rfl) (by kernel_rfl) (m192 h v0 G r hr)
/-- (*coxswain/ready.work).collect$1 -/
noncomputable def s193 (q : Bool) (e : Ex) (v0 : Value) (G : GS) : Option (Value × GS) :=
  bP (ld Q q 99 v0 (G.room 15)) fun x0 =>
  bP (pNil x0) fun x1 =>
  bP (fa Q q 79 0 0 x1) fun x2 =>
  bP (fa Q q 31 3 3 x2) fun x3 =>
  bP (lda Q q 29 10 x3 (G.room 15)) fun x4 =>
  bP (ld Q q 99 v0 (G.room 15)) fun x5 =>
  bP (pNil x5) fun x6 =>
  bP (fa Q q 79 1 13 x6) fun x7 =>
  bP (ld Q q 3 x7 (G.room 15)) fun x8 =>
  bP (ld Q q 99 v0 (G.room 15)) fun x9 =>
  bP (pNil x9) fun x10 =>
  bP (fa Q q 79 3 15 x10) fun x11 =>
  bP (ld Q q 3 x11 (G.room 15)) fun x12 =>
  bS (e.ev.cl 194 [x4, x8, x12] (G.room 15)) fun x14 G13 =>
  some (x14, G13)
theorem m193 {e : Ex} {E : Ev} (h : ExLe Q e E) (v0 : Value) (G : GS) : Ref (s193 true e v0 G) (s193 false (Ex.of E) v0 G) := by
  unfold s193
  exact Ref.go
theorem f193 {orc : FuncId → Bool} {e : Ex} (h : ExLe Q e (E orc)) (v0 : Value) (G : GS) : Ref (s193 true e v0 G) ((E orc).cl 193 [v0] G) :=
  fun r hr => cl_sxE_some Q orc (vs := [v0]) G Tryz.func193 (by kernel_rfl) (by kernel_rfl) (by kernel_rfl) (by kernel_rfl) (by kernel_rfl) (by kernel_rfl) (m193 h v0 G r hr)
/-- coxswain/limbo.NewCollect -/
noncomputable def s194 (q : Bool) (e : Ex) (v0 v1 v2 : Value) (G : GS) : Option (Value × GS) :=
  bS (bx q v0 G) fun x0 G1 =>
  bP (bd Q q 320 z320 [(1, 1, 1)] [(.bool true)]) fun x2 =>
  bP (lda Q q 29 10 x0 G1) fun x3 =>
  bP (bd Q q 327 z327 [(0, 0, 3), (1, 3, 10)] [x2, x3]) fun x4 =>
  bS (bx q x4 G1) fun x5 G6 =>
  bP (bn Q q .lss 3 (.tmp 12) (.const (.int .i64 0)) v1 (.int .i64 0)) fun x7 =>
  bS (gd x7 false (some (v1, G6)) G6) fun x8 G9 =>
  bS (gd x7 false (bP (fa Q q 29 1 6 x0) fun y => some (y, G9)) G9) fun x10 G11 =>
  bS (gd x7 false (bP (fa Q q 27 2 2 x10) fun y => some (y, G11)) G11) fun x12 G13 =>
  bS (gd x7 false (bP (ld Q q 3 x12 G13) fun y => some (y, G13)) G13) fun x14 G15 =>
  bS (gd x7 false (bP (bn Q q .geq 3 (.tmp 15) (.tmp 18) x8 x14) fun y => some (y, G15)) G15) fun x16 G17 =>
  bP (pickV x7 (.bool true) x16) fun x18 =>
  bS (gd x18 false (some (v2, G17)) G17) fun x19 G20 =>
  bS (gd x18 false (bP (bn Q q .lss 3 (.tmp 22) (.const (.int .i64 0)) x19 (.int .i64 0)) fun y => some (y, G20)) G20) fun x21 G22 =>
  bP (pickV x18 (.bool true) x21) fun x23 =>
  ifV x23 (
  bP (pNil x5) fun x24 =>
  bP (fa Q q 327 0 0 x24) fun x25 =>
  bP (fa Q q 320 2 2 x25) fun x26 =>
  bP (st Q q 39 1 x26 (.int .i64 3) G22) fun G27 =>
  some (x5, G27)) (
  bP (fa Q q 29 1 6 x0) fun x28 =>
  bP (lda Q q 27 3 x28 (G22.room 20)) fun x29 =>
  bS (e.ev.cl 223 [x29, v1, v2] (G22.room 20)) fun x31 G30 =>
  bP (bn Q q .rem 3 (.tmp 37) (.const (.int .i64 3)) v2 (.int .i64 3)) fun x32 =>
  bP (bn Q q .add 3 (.tmp 38) (.const (.int .i64 2)) x32 (.int .i64 2)) fun x33 =>
  bP (bn Q q .rem 3 (.tmp 39) (.const (.int .i64 3)) x33 (.int .i64 3)) fun x34 =>
  bP (lda Q q 29 10 x0 G30) fun x35 =>
  chk ((sameO (lda Q q 29 10 x0 (G22.room 20)) x35 && true)) <|
  bS (e.ev.cl 159 [x34, x35] G30) fun x37 G36 =>
  bS (e.ev.cl 224 [x37] G36) fun x39 G38 =>
  bP (pNil x5) fun x40 =>
  bP (fa Q q 327 2 13 x40) fun x41 =>
  bP (st Q q 321 1 x41 x31 G38) fun G42 =>
  bP (pNil x5) fun x43 =>
  bP (fa Q q 327 3 14 x43) fun x44 =>
  bP (st Q q 322 1 x44 x39 G42) fun G45 =>
  bP (pNil x5) fun x46 =>
  bP (fa Q q 327 0 0 x46) fun x47 =>
  bP (fa Q q 320 0 0 x47) fun x48 =>
  bP (st Q q 318 1 x48 (.func (.func 225) #[x5] #[]) G45) fun G49 =>
  some (x5, G49))
theorem m194 {e : Ex} {E : Ev} (h : ExLe Q e E) (v0 v1 v2 : Value) (G : GS) : Ref (s194 true e v0 v1 v2 G) (s194 false (Ex.of E) v0 v1 v2 G) := by
  unfold s194
  exact Ref.go
theorem f194 {orc : FuncId → Bool} {e : Ex} (h : ExLe Q e (E orc)) (v0 v1 v2 : Value) (G : GS) : Ref (s194 true e v0 v1 v2 G) ((E orc).cl 194 [v0, v1, v2] G) :=
  fun r hr => cl_sxE_some Q orc (vs := [v0, v1, v2]) G Tryz.func194 (by kernel_rfl) (by kernel_rfl) (by kernel_rfl) (by kernel_rfl) (by kernel_rfl) (by kernel_rfl) (m194 h v0 v1 v2 G r hr)
end Go.Proofs.YtfakjapkhjfmiaaGreat.Lift
